/- The rules, with what comes behind as instance-implicit arguments: there "simp" does not go. -/
import Derived.Test.YteoedeeljnboeaaNwRules
set_option linter.all false
set_option linter.unusedVariables false
set_option linter.unusedSimpArgs false
set_option linter.unusedSectionVars false
namespace Go.Nw
class Kp where p : Prop
class K1 (α : Type) where k : α → Prop
class K2 where k : AV → Heap → Prop
class Kr where k : Nat → List (List AV) → List AV → Prop
class Ko where k : Nat → List (List AV) → Prop
class Kh where k : Heap → Prop
def ibr (x : Bool) [p : Kp] [q : Kp] : Prop := br x p.p q.p
def d7f (x : AV) [p : Kp] [q : Kp] : Prop := c4u x p.p q.p
def b20 (x : AV) (b : Bool) [p : Kp] [q : Kp] [q0 : Kp] : Prop := b3j x b p.p q.p q0.p
def iop (O : Orac) (op : XOp) (t : Slots) (h : Heap) [k : K2] : Prop := op1 O op t h k.k
def d0l (agg : Bool) (n : Nat) (x : AV) (h : Heap) [k : K1 AV] : Prop := d1h agg n x h k.k
def d8f (n : Nat) (a x : AV) (h : Heap) [k : Kh] : Prop := d2n n a x h k.k
def c24 (agg : Bool) (n : Nat) (cs : List AV) (off : Nat) [k : K1 AV] : Prop := b5v agg n cs off k.k
def c26 (cs : List AV) (i : Nat) [k : K1 AV] : Prop := b5l cs i k.k
def c6a (o : Option Ob) (i : Nat) [k : Kr] : Prop := b8e o i k.k
def iob (o : Option Ob) [k : Ko] : Prop := obK o k.k
def c50 {α : Type} (l : List α) (i : Int) [k : K1 α] : Prop := b7d l i k.k
def d0n (c : AV) [p : Kp] [q : Kp] : Prop := c3p c p.p q.p
def b7z (x : AV) [k : K1 (List AV)] : Prop := b4g x k.k
def c56 (x : AV) (h : Heap) [k : K1 AV] : Prop := d1t x h k.k
def d0j (n : Nat) (x : AV) (h : Heap) [k : K1 AV] : Prop := c8x n x h k.k
def iix (n : Nat) (x i : AV) (h : Heap) [k : K1 AV] : Prop := d0o n x i h k.k
def b3d (op : BinOp) (e : EqK) (x y : AV) [k : K1 AV] : Prop := b2q op e x y k.k
def iun (op : UnOp) (x : AV) [k : K1 AV] : Prop := unK op x k.k
def c0u (x : AV) [k : K1 Int] : Prop := b60 x k.k
def d7j (x : AV) (i : Nat) [k : K1 AV] : Prop := c8q x i k.k
def b5e (v : AV) [k : K1 AV] : Prop := k.k v
def b45 (a : Prop) [p : Kp] : Prop := a ∧ p.p
def c21 (O : Orac) (f : String) (as : List AV) (h : Heap) [k : K2] : Prop := b7a O f as h k.k
def d7b (O : Orac) (f : String) (as : List AV) (h : Heap) [k : K2] : Prop := b7b O f as h k.k
def d7a (O : Orac) (f : AV) (as : List AV) (h : Heap) [k : K2] : Prop := ∃ n a b, callee f = some (n, a, b) ∧ b7a O n (a ++ as ++ b) h k.k
section
variable {O : Orac} {d : Option Nat} {g : Nat} {b0 : Bool} {r : List XO} {K : Slots → Heap → Prop} {t : Slots} {h : Heap} {k : AV → Heap → Prop}
theorem g8s {x} : b0f O (⟨d, none, .mv x⟩ :: r) K t h = @iop O (.mv x) t h ⟨fun v h' => b0f O r K (b0t t d v) h'⟩ := g36
theorem g9m {x} : b0f O (⟨d, some (g, b0), .mv x⟩ :: r) K t h = @b20 (t g) b0 ⟨@iop O (.mv x) (upd t g (B b0)) h ⟨fun v h' => b0f O r K (b0t (upd t g (B b0)) d v) h'⟩⟩ ⟨b0f O r K (b0t (upd t g (B (!b0))) d U) h⟩ ⟨b0f O r K (b0t t d U) h⟩ := g6k
theorem g8u {c a b} : b0f O (⟨d, none, .pick c a b⟩ :: r) K t h = @iop O (.pick c a b) t h ⟨fun v h' => b0f O r K (b0t t d v) h'⟩ := g38
theorem g9o {c a b} : b0f O (⟨d, some (g, b0), .pick c a b⟩ :: r) K t h = @b20 (t g) b0 ⟨@iop O (.pick c a b) (upd t g (B b0)) h ⟨fun v h' => b0f O r K (b0t (upd t g (B b0)) d v) h'⟩⟩ ⟨b0f O r K (b0t (upd t g (B (!b0))) d U) h⟩ ⟨b0f O r K (b0t t d U) h⟩ := g6m
theorem g8a {x} : b0f O (⟨d, none, .boxF x⟩ :: r) K t h = @iop O (.boxF x) t h ⟨fun v h' => b0f O r K (b0t t d v) h'⟩ := g3d
theorem g86 {x} : b0f O (⟨d, some (g, b0), .boxF x⟩ :: r) K t h = @b20 (t g) b0 ⟨@iop O (.boxF x) (upd t g (B b0)) h ⟨fun v h' => b0f O r K (b0t (upd t g (B b0)) d v) h'⟩⟩ ⟨b0f O r K (b0t (upd t g (B (!b0))) d U) h⟩ ⟨b0f O r K (b0t t d U) h⟩ := g6b
theorem g79 {x} : b0f O (⟨d, none, .box x⟩ :: r) K t h = @iop O (.box x) t h ⟨fun v h' => b0f O r K (b0t t d v) h'⟩ := g3c
theorem g85 {x} : b0f O (⟨d, some (g, b0), .box x⟩ :: r) K t h = @b20 (t g) b0 ⟨@iop O (.box x) (upd t g (B b0)) h ⟨fun v h' => b0f O r K (b0t (upd t g (B b0)) d v) h'⟩⟩ ⟨b0f O r K (b0t (upd t g (B (!b0))) d U) h⟩ ⟨b0f O r K (b0t t d U) h⟩ := g6a
theorem g76 {zs} : b0f O (⟨d, none, .alloc zs⟩ :: r) K t h = @iop O (.alloc zs) t h ⟨fun v h' => b0f O r K (b0t t d v) h'⟩ := g3a
theorem g82 {zs} : b0f O (⟨d, some (g, b0), .alloc zs⟩ :: r) K t h = @b20 (t g) b0 ⟨@iop O (.alloc zs) (upd t g (B b0)) h ⟨fun v h' => b0f O r K (b0t (upd t g (B b0)) d v) h'⟩⟩ ⟨b0f O r K (b0t (upd t g (B (!b0))) d U) h⟩ ⟨b0f O r K (b0t t d U) h⟩ := g58
theorem g8n {agg n a} : b0f O (⟨d, none, .load agg n a⟩ :: r) K t h = @iop O (.load agg n a) t h ⟨fun v h' => b0f O r K (b0t t d v) h'⟩ := g34
theorem g9h {agg n a} : b0f O (⟨d, some (g, b0), .load agg n a⟩ :: r) K t h = @b20 (t g) b0 ⟨@iop O (.load agg n a) (upd t g (B b0)) h ⟨fun v h' => b0f O r K (b0t (upd t g (B b0)) d v) h'⟩⟩ ⟨b0f O r K (b0t (upd t g (B (!b0))) d U) h⟩ ⟨b0f O r K (b0t t d U) h⟩ := g6i
theorem g8w {n a x} : b0f O (⟨d, none, .store n a x⟩ :: r) K t h = @iop O (.store n a x) t h ⟨fun v h' => b0f O r K (b0t t d v) h'⟩ := g4h
theorem g9q {n a x} : b0f O (⟨d, some (g, b0), .store n a x⟩ :: r) K t h = @b20 (t g) b0 ⟨@iop O (.store n a x) (upd t g (B b0)) h ⟨fun v h' => b0f O r K (b0t (upd t g (B b0)) d v) h'⟩⟩ ⟨b0f O r K (b0t (upd t g (B (!b0))) d U) h⟩ ⟨b0f O r K (b0t t d U) h⟩ := g6n
theorem g8t {x} : b0f O (⟨d, none, .nilck x⟩ :: r) K t h = @iop O (.nilck x) t h ⟨fun v h' => b0f O r K (b0t t d v) h'⟩ := g37
theorem g9n {x} : b0f O (⟨d, some (g, b0), .nilck x⟩ :: r) K t h = @b20 (t g) b0 ⟨@iop O (.nilck x) (upd t g (B b0)) h ⟨fun v h' => b0f O r K (b0t (upd t g (B b0)) d v) h'⟩⟩ ⟨b0f O r K (b0t (upd t g (B (!b0))) d U) h⟩ ⟨b0f O r K (b0t t d U) h⟩ := g6l
theorem g8j {o x} : b0f O (⟨d, none, .fldA o x⟩ :: r) K t h = @iop O (.fldA o x) t h ⟨fun v h' => b0f O r K (b0t t d v) h'⟩ := g3h
theorem g9e {o x} : b0f O (⟨d, some (g, b0), .fldA o x⟩ :: r) K t h = @b20 (t g) b0 ⟨@iop O (.fldA o x) (upd t g (B b0)) h ⟨fun v h' => b0f O r K (b0t (upd t g (B b0)) d v) h'⟩⟩ ⟨b0f O r K (b0t (upd t g (B (!b0))) d U) h⟩ ⟨b0f O r K (b0t t d U) h⟩ := g6f
theorem g8k {n x i} : b0f O (⟨d, none, .ixA n x i⟩ :: r) K t h = @iop O (.ixA n x i) t h ⟨fun v h' => b0f O r K (b0t t d v) h'⟩ := g3x
theorem g9f {n x i} : b0f O (⟨d, some (g, b0), .ixA n x i⟩ :: r) K t h = @b20 (t g) b0 ⟨@iop O (.ixA n x i) (upd t g (B b0)) h ⟨fun v h' => b0f O r K (b0t (upd t g (B b0)) d v) h'⟩⟩ ⟨b0f O r K (b0t (upd t g (B (!b0))) d U) h⟩ ⟨b0f O r K (b0t t d U) h⟩ := g6g
theorem g78 {op e x y} : b0f O (⟨d, none, .bin op e x y⟩ :: r) K t h = @iop O (.bin op e x y) t h ⟨fun v h' => b0f O r K (b0t t d v) h'⟩ := g3b
theorem g84 {op e x y} : b0f O (⟨d, some (g, b0), .bin op e x y⟩ :: r) K t h = @b20 (t g) b0 ⟨@iop O (.bin op e x y) (upd t g (B b0)) h ⟨fun v h' => b0f O r K (b0t (upd t g (B b0)) d v) h'⟩⟩ ⟨b0f O r K (b0t (upd t g (B (!b0))) d U) h⟩ ⟨b0f O r K (b0t t d U) h⟩ := g59
theorem g8x {op x} : b0f O (⟨d, none, .un op x⟩ :: r) K t h = @iop O (.un op x) t h ⟨fun v h' => b0f O r K (b0t t d v) h'⟩ := g4i
theorem g9r {op x} : b0f O (⟨d, some (g, b0), .un op x⟩ :: r) K t h = @b20 (t g) b0 ⟨@iop O (.un op x) (upd t g (B b0)) h ⟨fun v h' => b0f O r K (b0t (upd t g (B b0)) d v) h'⟩⟩ ⟨b0f O r K (b0t (upd t g (B (!b0))) d U) h⟩ ⟨b0f O r K (b0t t d U) h⟩ := g6o
theorem g8m {x} : b0f O (⟨d, none, .len false x⟩ :: r) K t h = @iop O (.len false x) t h ⟨fun v h' => b0f O r K (b0t t d v) h'⟩ := g33
theorem g9g {x} : b0f O (⟨d, some (g, b0), .len false x⟩ :: r) K t h = @b20 (t g) b0 ⟨@iop O (.len false x) (upd t g (B b0)) h ⟨fun v h' => b0f O r K (b0t (upd t g (B b0)) d v) h'⟩⟩ ⟨b0f O r K (b0t (upd t g (B (!b0))) d U) h⟩ ⟨b0f O r K (b0t t d U) h⟩ := g6h
theorem g8h {x i} : b0f O (⟨d, none, .ext x i⟩ :: r) K t h = @iop O (.ext x i) t h ⟨fun v h' => b0f O r K (b0t t d v) h'⟩ := g3g
theorem g9c {x i} : b0f O (⟨d, some (g, b0), .ext x i⟩ :: r) K t h = @b20 (t g) b0 ⟨@iop O (.ext x i) (upd t g (B b0)) h ⟨fun v h' => b0f O r K (b0t (upd t g (B b0)) d v) h'⟩⟩ ⟨b0f O r K (b0t (upd t g (B (!b0))) d U) h⟩ ⟨b0f O r K (b0t t d U) h⟩ := g6e
theorem g8q {f a b} : b0f O (⟨d, none, .mkfn f a b⟩ :: r) K t h = @iop O (.mkfn f a b) t h ⟨fun v h' => b0f O r K (b0t t d v) h'⟩ := g35
theorem g9k {f a b} : b0f O (⟨d, some (g, b0), .mkfn f a b⟩ :: r) K t h = @b20 (t g) b0 ⟨@iop O (.mkfn f a b) (upd t g (B b0)) h ⟨fun v h' => b0f O r K (b0t (upd t g (B b0)) d v) h'⟩⟩ ⟨b0f O r K (b0t (upd t g (B (!b0))) d U) h⟩ ⟨b0f O r K (b0t t d U) h⟩ := g6j
theorem g8d {f l} : b0f O (⟨d, none, .call f l⟩ :: r) K t h = @iop O (.call f l) t h ⟨fun v h' => b0f O r K (b0t t d v) h'⟩ := g3e
theorem g89 {f l} : b0f O (⟨d, some (g, b0), .call f l⟩ :: r) K t h = @b20 (t g) b0 ⟨@iop O (.call f l) (upd t g (B b0)) h ⟨fun v h' => b0f O r K (b0t (upd t g (B b0)) d v) h'⟩⟩ ⟨b0f O r K (b0t (upd t g (B (!b0))) d U) h⟩ ⟨b0f O r K (b0t t d U) h⟩ := g6c
theorem g8f {f l} : b0f O (⟨d, none, .callw f l⟩ :: r) K t h = @iop O (.callw f l) t h ⟨fun v h' => b0f O r K (b0t t d v) h'⟩ := g43
theorem g8e {f l} : b0f O (⟨d, none, .callv f l⟩ :: r) K t h = @iop O (.callv f l) t h ⟨fun v h' => b0f O r K (b0t t d v) h'⟩ := g3f
theorem g9a {f l} : b0f O (⟨d, some (g, b0), .callv f l⟩ :: r) K t h = @b20 (t g) b0 ⟨@iop O (.callv f l) (upd t g (B b0)) h ⟨fun v h' => b0f O r K (b0t (upd t g (B b0)) d v) h'⟩⟩ ⟨b0f O r K (b0t (upd t g (B (!b0))) d U) h⟩ ⟨b0f O r K (b0t t d U) h⟩ := g6d
theorem j0f {x} : @iop O (.mv x) t h ⟨k⟩ = @b5e (evT t x) ⟨fun v => k v h⟩ := j5l
theorem j0h {c a b} : @iop O (.pick c a b) t h ⟨k⟩ = @d0n (evT t c) ⟨@b5e (evT t a) ⟨fun v => k v h⟩⟩ ⟨@b5e (evT t b) ⟨fun v => k v h⟩⟩ := j5n
theorem g9x {x} : @iop O (.boxF x) t h ⟨k⟩ = @b7z (evT t x) ⟨fun cs => k (.fp cs 0) h⟩ := j5c
theorem g9w {x} : @iop O (.box x) t h ⟨k⟩ = @b7z (evT t x) ⟨fun cs => k (.rp h.nx 0 0) (h.new (cs.length, [cs]))⟩ := j5b
theorem g9t {zs} : @iop O (.alloc zs) t h ⟨k⟩ = k (.rp h.nx 0 0) (h.new (zs.length, [zs.map .v])) := j49
theorem j0a {agg n a} : @iop O (.load agg n a) t h ⟨k⟩ = @d0l agg n (evT t a) h ⟨fun v => k v h⟩ := j5j
theorem j0j {n a x} : @iop O (.store n a x) t h ⟨k⟩ = @d8f n (evT t a) (evT t x) h ⟨fun h' => k .dead h'⟩ := j5o
theorem j0g {x} : @iop O (.nilck x) t h ⟨k⟩ = @c56 (evT t x) h ⟨fun v => k v h⟩ := j5m
theorem g96 {o x} : @iop O (.fldA o x) t h ⟨k⟩ = @d0j o (evT t x) h ⟨fun v => k v h⟩ := j5g
theorem g97 {n x i} : @iop O (.ixA n x i) t h ⟨k⟩ = @iix n (evT t x) (evT t i) h ⟨fun v => k v h⟩ := j5h
theorem g9v {op e x y} : @iop O (.bin op e x y) t h ⟨k⟩ = @b3d op e (evT t x) (evT t y) ⟨fun v => k v h⟩ := j5a
theorem j0k {op x} : @iop O (.un op x) t h ⟨k⟩ = @iun op (evT t x) ⟨fun v => k v h⟩ := j5p
theorem g99 {x} : @iop O (.len false x) t h ⟨k⟩ = @c0u (evT t x) ⟨fun n => k (I n) h⟩ := j5i
theorem g94 {x i} : @iop O (.ext x i) t h ⟨k⟩ = @d7j (evT t x) i ⟨fun v => k v h⟩ := j5f
theorem j0d {f a b} : @iop O (.mkfn f a b) t h ⟨k⟩ = k (.fn f (a.map (evT t)) (b.map (evT t))) h := j5k
theorem g90 {f l} : @iop O (.call f l) t h ⟨k⟩ = @c21 O f (l.map (evT t)) h ⟨k⟩ := j5d
theorem g92 {f l} : @iop O (.callw f l) t h ⟨k⟩ = @d7b O f (l.map (evT t)) h ⟨k⟩ := rfl
theorem g91 {f l} : @iop O (.callv f l) t h ⟨k⟩ = @d7a O (evT t f) (l.map (evT t)) h ⟨k⟩ := j5e
theorem j0w {c a b} {Q : XExit → Slots → Heap → Prop} : cw O (.cond c a b) Q t h = @d7f (evT t c) ⟨cw O a Q t h⟩ ⟨cw O b Q t h⟩ := g47
end
section
variable {k : AV → Prop} {h : Heap} {p q q0 : Prop}
theorem j0v {x} : @b5e (.v x) ⟨k⟩ = k (.v x) := rfl
theorem j0n {x} : @b5e (.agg x) ⟨k⟩ = k (.agg x) := rfl
theorem j0u {x} : @b5e (.tup x) ⟨k⟩ = k (.tup x) := rfl
theorem j0r {a b} : @b5e (.fs a b) ⟨k⟩ = k (.fs a b) := rfl
theorem j0q {a b} : @b5e (.fp a b) ⟨k⟩ = k (.fp a b) := rfl
theorem j0p {a b c} : @b5e (.fn a b c) ⟨k⟩ = k (.fn a b c) := rfl
theorem j0t {a b c} : @b5e (.rs a b c) ⟨k⟩ = k (.rs a b c) := rfl
theorem j0s {a b c} : @b5e (.rp a b c) ⟨k⟩ = k (.rp a b c) := rfl
theorem j0o : @b5e .dead ⟨k⟩ = k .dead := rfl
theorem b0a (v : AV) : @b5e v ⟨k⟩ = k v := rfl
theorem d68  : @ibr true ⟨p⟩ ⟨q⟩ = p := g24
theorem d67  : @ibr false ⟨p⟩ ⟨q⟩ = q := g23
theorem d7g {b} : @d7f (.v (.bool b)) ⟨p⟩ ⟨q⟩ = @ibr b ⟨p⟩ ⟨q⟩ := g42
theorem d7r {y} : @b20 (.v (.bool y)) true ⟨p⟩ ⟨q⟩ ⟨q0⟩ = @ibr y ⟨p⟩ ⟨q⟩ := g6v
theorem d7q {y} : @b20 (.v (.bool y)) false ⟨p⟩ ⟨q⟩ ⟨q0⟩ = @ibr y ⟨q⟩ ⟨p⟩ := g6u
theorem d7s {b} : @b20 U b ⟨p⟩ ⟨q⟩ ⟨q0⟩ = q0 := rfl
theorem d7x {agg n cs off} : @d0l agg n (.fp cs off) h ⟨k⟩ = @c24 agg n cs off ⟨k⟩ := rfl
theorem d7y {agg n id i off} : @d0l agg n (.rp id i off) h ⟨k⟩ = @c6a (h.ob id) i ⟨fun _ _ cs => @c24 agg n cs off ⟨k⟩⟩ := rfl
theorem d8g {n id i off x} {k : Heap → Prop} : @d8f n (.rp id i off) x h ⟨k⟩ = @c6a (h.ob id) i ⟨fun sz es cs => b2r x = true ∧ (cellsOf x).length = n ∧ off + n ≤ cs.length ∧ k (h.upd id (some (sz, es.set i (cs.take off ++ cellsOf x ++ cs.drop (off + n)))))⟩ := rfl
theorem d7d {n cs off} : @c24 false n cs off ⟨k⟩ = @c26 cs off ⟨k⟩ := g4m
theorem d7e {n cs off} : @c24 true n cs off ⟨k⟩ = @b45 (off + n ≤ cs.length) ⟨k (.agg ((cs.drop off).take n))⟩ := g4n
theorem d7o {c cs} : @c26 (c :: cs) 0 ⟨k⟩ = k c := g6r
theorem d7p {c cs n} : @c26 (c :: cs) (n + 1) ⟨k⟩ = @c26 cs n ⟨k⟩ := g6s
theorem d8a {sz cs} {k : Nat → List (List AV) → List AV → Prop} : @c6a (some (sz, [cs])) 0 ⟨k⟩ = k sz [cs] cs := j67
theorem d76 {sz es} {k : Nat → List (List AV) → Prop} : @iob (some (sz, es)) ⟨k⟩ = k sz es := j4x
theorem d7i {α β : Type} {f : α → β} {l : List α} {i : Int} {k : β → Prop} : @c50 β (l.map f) i ⟨k⟩ = @c50 α l i ⟨fun a => k (f a)⟩ := g5p
theorem d79  : @d0n (.v (.bool true)) ⟨p⟩ ⟨q⟩ = p := rfl
theorem d78  : @d0n (.v (.bool false)) ⟨p⟩ ⟨q⟩ = q := rfl
theorem d61 {cs} {k : List AV → Prop} : @b7z (.agg cs) ⟨k⟩ = k cs := g2x
theorem d64 {kd n} {k : List AV → Prop} : @b7z (.v (.int kd n)) ⟨k⟩ = k [.v (.int kd n)] := g20
theorem d62 {b} {k : List AV → Prop} : @b7z (.v (.bool b)) ⟨k⟩ = k [.v (.bool b)] := g2y
theorem d66 {a b c} {k : List AV → Prop} : @b7z (.v (.slice a b c)) ⟨k⟩ = k [.v (.slice a b c)] := g22
theorem d63 {sz es} {k : List AV → Prop} : @b7z (.fs sz es) ⟨k⟩ = k [.fs sz es] := g2z
theorem d65 {a b c} {k : List AV → Prop} : @b7z (.rs a b c) ⟨k⟩ = k [.rs a b c] := g21
theorem d74 {cs off} : @c56 (.fp cs off) h ⟨k⟩ = k (.fp cs off) := rfl
theorem d73 {f a b} : @c56 (.fn f a b) h ⟨k⟩ = k (.fn f a b) := rfl
theorem d75 {id i off} : @c56 (.rp id i off) h ⟨k⟩ = @b45 ((h.ob id).isSome = true) ⟨k (.rp id i off)⟩ := rfl
theorem d7m {n cs off} : @d0j n (.fp cs off) h ⟨k⟩ = k (.fp cs (off + n)) := rfl
theorem d7n {n id i off} : @d0j n (.rp id i off) h ⟨k⟩ = @b45 ((h.ob id).isSome = true) ⟨k (.rp id i (off + n))⟩ := rfl
theorem d7u {n sz es kd j} : @iix n (.fs sz es) (.v (.int kd j)) h ⟨k⟩ = @b45 (sz = n) ⟨@c50 (List AV) es j ⟨fun cs => k (.fp cs 0)⟩⟩ := rfl
theorem d7v {n id lo len kd j} : @iix n (.rs id lo len) (.v (.int kd j)) h ⟨k⟩ = @iob (h.ob id) ⟨fun sz _ => @b45 (sz = n) ⟨@b45 (0 ≤ j) ⟨@b45 (j < (len : Int)) ⟨k (.rp id (lo + j.toNat) 0)⟩⟩⟩⟩ := rfl
theorem d7w {sz es} {k : Int → Prop} : @c0u (.fs sz es) ⟨k⟩ = k es.length := j02
theorem c52 {id lo len} {k : Int → Prop} : @c0u (.rs id lo len) ⟨k⟩ = k len := j04
theorem c51 {k : Int → Prop} : @c0u (.v (.slice none 0 0)) ⟨k⟩ = k 0 := j03
theorem d7k {vs i} : @d7j (.tup vs) i ⟨k⟩ = @c26 vs i ⟨k⟩ := rfl
theorem d8i {b : Bool} : @iun .not (B b) ⟨k⟩ = k (B (!b)) := j8f
theorem d8h {kd a} : @iun .neg (.v (.int kd a)) ⟨k⟩ = k (.v (.int kd (kd.wrap (0 - a)))) := j8e
theorem d6b {a : Prop} (ha : a) : @b45 a ⟨p⟩ = p := by simp [b45, ha]
theorem d6e {e kd a b} : @b3d .add e (.v (.int kd a)) (.v (.int kd b)) ⟨k⟩ = k (.v (.int kd (kd.wrap (a + b)))) := g2k
theorem d6z {e kd a b} : @b3d .sub e (.v (.int kd a)) (.v (.int kd b)) ⟨k⟩ = k (.v (.int kd (kd.wrap (a - b)))) := g2u
theorem d6q {e kd a b} : @b3d .mul e (.v (.int kd a)) (.v (.int kd b)) ⟨k⟩ = k (.v (.int kd (kd.wrap (a * b)))) := g2s
theorem d6j {e kd} {a b : Int} : @b3d .eql e (.v (.int kd a)) (.v (.int kd b)) ⟨k⟩ = k (B (decide (a = b))) := g2n
theorem d6r {e kd} {a b : Int} : @b3d .neq e (.v (.int kd a)) (.v (.int kd b)) ⟨k⟩ = k (B (decide (¬ a = b))) := g2t
theorem d6p {e kd} {a b : Int} : @b3d .lss e (.v (.int kd a)) (.v (.int kd b)) ⟨k⟩ = k (B (decide (a < b))) := g2r
theorem d6o {e kd} {a b : Int} : @b3d .leq e (.v (.int kd a)) (.v (.int kd b)) ⟨k⟩ = k (B (decide (a ≤ b))) := g2q
theorem d6n {e kd} {a b : Int} : @b3d .gtr e (.v (.int kd a)) (.v (.int kd b)) ⟨k⟩ = k (B (decide (b < a))) := g2p
theorem d6m {e kd} {a b : Int} : @b3d .geq e (.v (.int kd a)) (.v (.int kd b)) ⟨k⟩ = k (B (decide (b ≤ a))) := g2o
theorem d6g {a b : Bool} : @b3d .eql .bool (B a) (B b) ⟨k⟩ = k (B (b90 a b)) := g2l
theorem d6h {a b : Bool} : @b3d .neq .bool (B a) (B b) ⟨k⟩ = k (B (!(b90 a b))) := g2m
theorem b0r {x : Bool} {p q : Prop} (h1 : x = true → p) (h2 : x = false → q) : @ibr x ⟨p⟩ ⟨q⟩ := ⟨h1, h2⟩
end
def c59 {α : Type} (o : Option α) [k : K1 α] : Prop := ∃ x, o = some x ∧ k.k x
theorem d77 {α : Type} {x : α} {k : α → Prop} : @c59 α (some x) ⟨k⟩ = k x := by simp [c59]
section
variable {O : Orac} {d : Option Nat} {g : Nat} {b0 : Bool} {r : List XO} {K : Slots → Heap → Prop} {t : Slots} {h : Heap} {k : AV → Heap → Prop}
theorem g8c {zs ps} : b0f O (⟨d, none, .build zs ps⟩ :: r) K t h = @iop O (.build zs ps) t h ⟨fun v h' => b0f O r K (b0t t d v) h'⟩ := b28 rfl
theorem g88 {zs ps} : b0f O (⟨d, some (g, b0), .build zs ps⟩ :: r) K t h = @b20 (t g) b0 ⟨@iop O (.build zs ps) (upd t g (B b0)) h ⟨fun v h' => b0f O r K (b0t (upd t g (B b0)) d v) h'⟩⟩ ⟨b0f O r K (b0t (upd t g (B (!b0))) d U) h⟩ ⟨b0f O r K (b0t t d U) h⟩ := b29 rfl
theorem g9z {zs ps} : @iop O (.build zs ps) t h ⟨k⟩ = @c59 _ (b72 (ps.map fun p => (p.1, p.2.1, evT t p.2.2))) ⟨fun qs => @b45 ((qs.all fun p => decide (p.1 + p.2.length ≤ zs.length)) = true) ⟨k (.agg (place (zs.map .v) qs)) h⟩⟩ := by
  simp only [iop, op1, eff, c59, b45]
  apply propext; constructor
  · rintro ⟨r, h', he, hk⟩
    simp only [Option.bind_eq_some_iff] at he
    obtain ⟨qs, h1, he⟩ := he
    split at he
    · rename_i hc; cases he; exact ⟨qs, h1, hc, hk⟩
    · cases he
  · rintro ⟨qs, h1, h2, h3⟩
    exact ⟨_, _, by simp only [h1, Option.bind_some]; rw [if_pos h2], h3⟩
end
theorem j6c : b72 [] = some [] := rfl
theorem j6b {a n : Nat} {x : AV} {l} : b72 ((a, n, x) :: l) = if b2r x ∧ (cellsOf x).length = n then (b72 l).map ((a, cellsOf x) :: ·) else none := by
  unfold b72
  rw [List.mapM_cons]
  simp only []
  split
  · rename_i hc
    simp only [Option.bind_eq_bind, Option.bind_some, Option.pure_def]
    generalize (List.mapM (m := Option) _ l) = o
    cases o <;> rfl
  · rfl
theorem j44 {kd n} : b2r (.v (.int kd n)) = true := rfl
theorem j4z {b} : b2r (.v (.bool b)) = true := rfl
theorem j47 {a b c} : b2r (.v (.slice a b c)) = true := rfl
theorem j4y {cs} : b2r (.agg cs) = true := rfl
theorem j43 {a b} : b2r (.fs a b) = true := rfl
theorem j46 {a b c} : b2r (.rs a b c) = true := rfl
theorem g4u {x} : cellsOf (.v x) = [.v x] := rfl
theorem g4o {cs} : cellsOf (.agg cs) = cs := rfl
theorem g4r {a b} : cellsOf (.fs a b) = [.fs a b] := rfl
theorem g4t {a b c} : cellsOf (.rs a b c) = [.rs a b c] := rfl
theorem j6j {cs} : place cs [] = cs := rfl
theorem j6i {cs off ds r} : place cs ((off, ds) :: r) = place (cs.take off ++ ds ++ cs.drop (off + ds.length)) r := rfl
attribute [go_sem] j0v j0n j0u j0r j0q j0p j0t j0s j0o
attribute [go_sem ↓] d77 g8c g88 g9z g45 g8s g9m g8u g9o g8a g86 g79 g85 g76 g82 g8n g9h g8w g9q g8t g9n g8j g9e g8k g9f g78 g84 g8x g9r g8m g9g g8h g9c g8q g9k g8d g89 g8e g9a j0f j0h g9x g9w g9t j0a j0j j0g g96 g97 g9v j0k g99 g94 j0d g90 g91 g8f g92 j0w d68 d67 d7g d7r d7q d7s d7x d7y d8g d7d d7e d7o d7p d8a d76 d7i d79 d78 d61 d64 d62 d66 d63 d65 d74 d73 d75 d7m d7n d7u d7v d7w c52 c51 d7k d8i d8h d6b d6e d6z d6q d6j d6r d6p d6o d6n d6m d6g d6h
attribute [go_sem] d77 j6c j6b j44 j4z j47 j4y j43 j46 g4u g4o g4r g4t j6j j6i List.map_cons List.map_nil List.take_zero List.take_succ_cons List.drop_zero List.drop_succ_cons List.nil_append List.cons_append List.length_cons List.length_nil List.all_cons List.all_nil Option.map_some Nat.reduceLeDiff Option.isSome_some decide_true Bool.and_true true_and and_true if_true if_false List.set_cons_zero List.take_nil List.drop_nil List.append_nil d68 d67 d7g d7r d7q d7s d7x d7y d8g d7d d7e d7o d7p d8a d76 d7i d79 d78 d61 d64 d62 d66 d63 d65 d74 d73 d75 d7m d7n d7u d7v d7w c52 c51 d7k d8i d8h d6b d6e d6z d6q d6j d6r d6p d6o d6n d6m d6g d6h Bool.not_true Bool.not_false Nat.reduceAdd Nat.reduceEqDiff not_false_eq_true
end Go.Nw
