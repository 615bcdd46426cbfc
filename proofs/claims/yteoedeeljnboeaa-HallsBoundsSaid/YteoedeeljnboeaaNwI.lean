/- The rules, with what comes behind as instance-implicit arguments: there "simp" does not go. -/
import Derived.Test.YteoedeeljnboeaaNwRules
set_option linter.all false
set_option linter.unusedVariables false
set_option linter.unusedSimpArgs false
set_option linter.unusedSectionVars false
namespace Go.Nw
class Kp where p : Prop
class K1 (α : Type) where k : α → Prop
class K2 where k : AV → Heap → Prop
class Kr where k : Nat → List (List AV) → List AV → Prop
class Ko where k : Nat → List (List AV) → Prop
class Kh where k : Heap → Prop
def ibr (x : Bool) [p : Kp] [q : Kp] : Prop := br x p.p q.p
def d6o (x : AV) [p : Kp] [q : Kp] : Prop := c45 x p.p q.p
def b23 (x : AV) (b : Bool) [p : Kp] [q : Kp] [q0 : Kp] : Prop := b3h x b p.p q.p q0.p
def iop (O : Orac) (op : XOp) (t : Slots) (h : Heap) [k : K2] : Prop := op1 O op t h k.k
def d0g (agg : Bool) (n : Nat) (x : AV) (h : Heap) [k : K1 AV] : Prop := d1c agg n x h k.k
def d7p (n : Nat) (a x : AV) (h : Heap) [k : Kh] : Prop := d2h n a x h k.k
def c3f (agg : Bool) (n : Nat) (cs : List AV) (off : Nat) [k : K1 AV] : Prop := b5x agg n cs off k.k
def c3g (cs : List AV) (i : Nat) [k : K1 AV] : Prop := b5o cs i k.k
def c55 (o : Option Ob) (i : Nat) [k : Kr] : Prop := b75 o i k.k
def iob (o : Option Ob) [k : Ko] : Prop := obK o k.k
def c5y {α : Type} (l : List α) (i : Int) [k : K1 α] : Prop := b7d l i k.k
def d0i (c : AV) [p : Kp] [q : Kp] : Prop := c3v c p.p q.p
def b7v (x : AV) [k : K1 (List AV)] : Prop := b4f x k.k
def c53 (x : AV) (h : Heap) [k : K1 AV] : Prop := d1l x h k.k
def d0e (n : Nat) (x : AV) (h : Heap) [k : K1 AV] : Prop := c8y n x h k.k
def iix (n : Nat) (x i : AV) (h : Heap) [k : K1 AV] : Prop := d0j n x i h k.k
def b3e (op : BinOp) (e : EqK) (x y : AV) [k : K1 AV] : Prop := b2u op e x y k.k
def iun (op : UnOp) (x : AV) [k : K1 AV] : Prop := unK op x k.k
def c03 (x : AV) [k : K1 Int] : Prop := b65 x k.k
def d6t (x : AV) (i : Nat) [k : K1 AV] : Prop := c8t x i k.k
def b5i (v : AV) [k : K1 AV] : Prop := k.k v
def b44 (a : Prop) [p : Kp] : Prop := a ∧ p.p
def c3e (O : Orac) (f : String) (as : List AV) (h : Heap) [k : K2] : Prop := b7b O f as h k.k
def d6l (O : Orac) (f : String) (as : List AV) (h : Heap) [k : K2] : Prop := b7c O f as h k.k
def d6j (O : Orac) (f : AV) (as : List AV) (h : Heap) [k : K2] : Prop := ∃ n a b, callee f = some (n, a, b) ∧ b7b O n (a ++ as ++ b) h k.k
section
variable {O : Orac} {d : Option Nat} {g : Nat} {b0 : Bool} {r : List XO} {K : Slots → Heap → Prop} {t : Slots} {h : Heap} {k : AV → Heap → Prop}
theorem g8p {x} : b0g O (⟨d, none, .mv x⟩ :: r) K t h = @iop O (.mv x) t h ⟨fun v h' => b0g O r K (b0p t d v) h'⟩ := g3u
theorem g9j {x} : b0g O (⟨d, some (g, b0), .mv x⟩ :: r) K t h = @b23 (t g) b0 ⟨@iop O (.mv x) (upd t g (B b0)) h ⟨fun v h' => b0g O r K (b0p (upd t g (B b0)) d v) h'⟩⟩ ⟨b0g O r K (b0p (upd t g (B (!b0))) d U) h⟩ ⟨b0g O r K (b0p t d U) h⟩ := g6f
theorem g8r {c a b} : b0g O (⟨d, none, .pick c a b⟩ :: r) K t h = @iop O (.pick c a b) t h ⟨fun v h' => b0g O r K (b0p t d v) h'⟩ := g3w
theorem g9l {c a b} : b0g O (⟨d, some (g, b0), .pick c a b⟩ :: r) K t h = @b23 (t g) b0 ⟨@iop O (.pick c a b) (upd t g (B b0)) h ⟨fun v h' => b0g O r K (b0p (upd t g (B b0)) d v) h'⟩⟩ ⟨b0g O r K (b0p (upd t g (B (!b0))) d U) h⟩ ⟨b0g O r K (b0p t d U) h⟩ := g6h
theorem g77 {x} : b0g O (⟨d, none, .boxF x⟩ :: r) K t h = @iop O (.boxF x) t h ⟨fun v h' => b0g O r K (b0p t d v) h'⟩ := g26
theorem g83 {x} : b0g O (⟨d, some (g, b0), .boxF x⟩ :: r) K t h = @b23 (t g) b0 ⟨@iop O (.boxF x) (upd t g (B b0)) h ⟨fun v h' => b0g O r K (b0p (upd t g (B b0)) d v) h'⟩⟩ ⟨b0g O r K (b0p (upd t g (B (!b0))) d U) h⟩ ⟨b0g O r K (b0p t d U) h⟩ := g56
theorem g76 {x} : b0g O (⟨d, none, .box x⟩ :: r) K t h = @iop O (.box x) t h ⟨fun v h' => b0g O r K (b0p t d v) h'⟩ := g25
theorem g82 {x} : b0g O (⟨d, some (g, b0), .box x⟩ :: r) K t h = @b23 (t g) b0 ⟨@iop O (.box x) (upd t g (B b0)) h ⟨fun v h' => b0g O r K (b0p (upd t g (B b0)) d v) h'⟩⟩ ⟨b0g O r K (b0p (upd t g (B (!b0))) d U) h⟩ ⟨b0g O r K (b0p t d U) h⟩ := g55
theorem g73 {zs} : b0g O (⟨d, none, .alloc zs⟩ :: r) K t h = @iop O (.alloc zs) t h ⟨fun v h' => b0g O r K (b0p t d v) h'⟩ := g23
theorem g8z {zs} : b0g O (⟨d, some (g, b0), .alloc zs⟩ :: r) K t h = @b23 (t g) b0 ⟨@iop O (.alloc zs) (upd t g (B b0)) h ⟨fun v h' => b0g O r K (b0p (upd t g (B b0)) d v) h'⟩⟩ ⟨b0g O r K (b0p (upd t g (B (!b0))) d U) h⟩ ⟨b0g O r K (b0p t d U) h⟩ := g53
theorem g8k {agg n a} : b0g O (⟨d, none, .load agg n a⟩ :: r) K t h = @iop O (.load agg n a) t h ⟨fun v h' => b0g O r K (b0p t d v) h'⟩ := g3s
theorem g9e {agg n a} : b0g O (⟨d, some (g, b0), .load agg n a⟩ :: r) K t h = @b23 (t g) b0 ⟨@iop O (.load agg n a) (upd t g (B b0)) h ⟨fun v h' => b0g O r K (b0p (upd t g (B b0)) d v) h'⟩⟩ ⟨b0g O r K (b0p (upd t g (B (!b0))) d U) h⟩ ⟨b0g O r K (b0p t d U) h⟩ := g6d
theorem g8t {n a x} : b0g O (⟨d, none, .store n a x⟩ :: r) K t h = @iop O (.store n a x) t h ⟨fun v h' => b0g O r K (b0p t d v) h'⟩ := g38
theorem g9n {n a x} : b0g O (⟨d, some (g, b0), .store n a x⟩ :: r) K t h = @b23 (t g) b0 ⟨@iop O (.store n a x) (upd t g (B b0)) h ⟨fun v h' => b0g O r K (b0p (upd t g (B b0)) d v) h'⟩⟩ ⟨b0g O r K (b0p (upd t g (B (!b0))) d U) h⟩ ⟨b0g O r K (b0p t d U) h⟩ := g6i
theorem g8q {x} : b0g O (⟨d, none, .nilck x⟩ :: r) K t h = @iop O (.nilck x) t h ⟨fun v h' => b0g O r K (b0p t d v) h'⟩ := g3v
theorem g9k {x} : b0g O (⟨d, some (g, b0), .nilck x⟩ :: r) K t h = @b23 (t g) b0 ⟨@iop O (.nilck x) (upd t g (B b0)) h ⟨fun v h' => b0g O r K (b0p (upd t g (B b0)) d v) h'⟩⟩ ⟨b0g O r K (b0p (upd t g (B (!b0))) d U) h⟩ ⟨b0g O r K (b0p t d U) h⟩ := g6g
theorem g8g {o x} : b0g O (⟨d, none, .fldA o x⟩ :: r) K t h = @iop O (.fldA o x) t h ⟨fun v h' => b0g O r K (b0p t d v) h'⟩ := g3a
theorem g9b {o x} : b0g O (⟨d, some (g, b0), .fldA o x⟩ :: r) K t h = @b23 (t g) b0 ⟨@iop O (.fldA o x) (upd t g (B b0)) h ⟨fun v h' => b0g O r K (b0p (upd t g (B b0)) d v) h'⟩⟩ ⟨b0g O r K (b0p (upd t g (B (!b0))) d U) h⟩ ⟨b0g O r K (b0p t d U) h⟩ := g6a
theorem g8h {n x i} : b0g O (⟨d, none, .ixA n x i⟩ :: r) K t h = @iop O (.ixA n x i) t h ⟨fun v h' => b0g O r K (b0p t d v) h'⟩ := g3m
theorem g9c {n x i} : b0g O (⟨d, some (g, b0), .ixA n x i⟩ :: r) K t h = @b23 (t g) b0 ⟨@iop O (.ixA n x i) (upd t g (B b0)) h ⟨fun v h' => b0g O r K (b0p (upd t g (B b0)) d v) h'⟩⟩ ⟨b0g O r K (b0p (upd t g (B (!b0))) d U) h⟩ ⟨b0g O r K (b0p t d U) h⟩ := g6b
theorem g75 {op e x y} : b0g O (⟨d, none, .bin op e x y⟩ :: r) K t h = @iop O (.bin op e x y) t h ⟨fun v h' => b0g O r K (b0p t d v) h'⟩ := g24
theorem g81 {op e x y} : b0g O (⟨d, some (g, b0), .bin op e x y⟩ :: r) K t h = @b23 (t g) b0 ⟨@iop O (.bin op e x y) (upd t g (B b0)) h ⟨fun v h' => b0g O r K (b0p (upd t g (B b0)) d v) h'⟩⟩ ⟨b0g O r K (b0p (upd t g (B (!b0))) d U) h⟩ ⟨b0g O r K (b0p t d U) h⟩ := g54
theorem g8u {op x} : b0g O (⟨d, none, .un op x⟩ :: r) K t h = @iop O (.un op x) t h ⟨fun v h' => b0g O r K (b0p t d v) h'⟩ := g39
theorem g9o {op x} : b0g O (⟨d, some (g, b0), .un op x⟩ :: r) K t h = @b23 (t g) b0 ⟨@iop O (.un op x) (upd t g (B b0)) h ⟨fun v h' => b0g O r K (b0p (upd t g (B b0)) d v) h'⟩⟩ ⟨b0g O r K (b0p (upd t g (B (!b0))) d U) h⟩ ⟨b0g O r K (b0p t d U) h⟩ := g6j
theorem g8j {x} : b0g O (⟨d, none, .len false x⟩ :: r) K t h = @iop O (.len false x) t h ⟨fun v h' => b0g O r K (b0p t d v) h'⟩ := g3r
theorem g9d {x} : b0g O (⟨d, some (g, b0), .len false x⟩ :: r) K t h = @b23 (t g) b0 ⟨@iop O (.len false x) (upd t g (B b0)) h ⟨fun v h' => b0g O r K (b0p (upd t g (B b0)) d v) h'⟩⟩ ⟨b0g O r K (b0p (upd t g (B (!b0))) d U) h⟩ ⟨b0g O r K (b0p t d U) h⟩ := g6c
theorem g8e {x i} : b0g O (⟨d, none, .ext x i⟩ :: r) K t h = @iop O (.ext x i) t h ⟨fun v h' => b0g O r K (b0p t d v) h'⟩ := g29
theorem g89 {x i} : b0g O (⟨d, some (g, b0), .ext x i⟩ :: r) K t h = @b23 (t g) b0 ⟨@iop O (.ext x i) (upd t g (B b0)) h ⟨fun v h' => b0g O r K (b0p (upd t g (B b0)) d v) h'⟩⟩ ⟨b0g O r K (b0p (upd t g (B (!b0))) d U) h⟩ ⟨b0g O r K (b0p t d U) h⟩ := g59
theorem g8n {f a b} : b0g O (⟨d, none, .mkfn f a b⟩ :: r) K t h = @iop O (.mkfn f a b) t h ⟨fun v h' => b0g O r K (b0p t d v) h'⟩ := g3t
theorem g9h {f a b} : b0g O (⟨d, some (g, b0), .mkfn f a b⟩ :: r) K t h = @b23 (t g) b0 ⟨@iop O (.mkfn f a b) (upd t g (B b0)) h ⟨fun v h' => b0g O r K (b0p (upd t g (B b0)) d v) h'⟩⟩ ⟨b0g O r K (b0p (upd t g (B (!b0))) d U) h⟩ ⟨b0g O r K (b0p t d U) h⟩ := g6e
theorem g8a {f l} : b0g O (⟨d, none, .call f l⟩ :: r) K t h = @iop O (.call f l) t h ⟨fun v h' => b0g O r K (b0p t d v) h'⟩ := g27
theorem g86 {f l} : b0g O (⟨d, some (g, b0), .call f l⟩ :: r) K t h = @b23 (t g) b0 ⟨@iop O (.call f l) (upd t g (B b0)) h ⟨fun v h' => b0g O r K (b0p (upd t g (B b0)) d v) h'⟩⟩ ⟨b0g O r K (b0p (upd t g (B (!b0))) d U) h⟩ ⟨b0g O r K (b0p t d U) h⟩ := g57
theorem g8c {f l} : b0g O (⟨d, none, .callw f l⟩ :: r) K t h = @iop O (.callw f l) t h ⟨fun v h' => b0g O r K (b0p t d v) h'⟩ := g4v
theorem g8b {f l} : b0g O (⟨d, none, .callv f l⟩ :: r) K t h = @iop O (.callv f l) t h ⟨fun v h' => b0g O r K (b0p t d v) h'⟩ := g28
theorem g87 {f l} : b0g O (⟨d, some (g, b0), .callv f l⟩ :: r) K t h = @b23 (t g) b0 ⟨@iop O (.callv f l) (upd t g (B b0)) h ⟨fun v h' => b0g O r K (b0p (upd t g (B b0)) d v) h'⟩⟩ ⟨b0g O r K (b0p (upd t g (B (!b0))) d U) h⟩ ⟨b0g O r K (b0p t d U) h⟩ := g58
theorem j0b {x} : @iop O (.mv x) t h ⟨k⟩ = @b5i (evT t x) ⟨fun v => k v h⟩ := j5e
theorem j0d {c a b} : @iop O (.pick c a b) t h ⟨k⟩ = @d0i (evT t c) ⟨@b5i (evT t a) ⟨fun v => k v h⟩⟩ ⟨@b5i (evT t b) ⟨fun v => k v h⟩⟩ := j5g
theorem g9t {x} : @iop O (.boxF x) t h ⟨k⟩ = @b7v (evT t x) ⟨fun cs => k (.fp cs 0) h⟩ := j45
theorem g9s {x} : @iop O (.box x) t h ⟨k⟩ = @b7v (evT t x) ⟨fun cs => k (.rp h.nx 0 0) (h.new (cs.length, [cs]))⟩ := j44
theorem g9p {zs} : @iop O (.alloc zs) t h ⟨k⟩ = k (.rp h.nx 0 0) (h.new (zs.length, [zs.map .v])) := j42
theorem g96 {agg n a} : @iop O (.load agg n a) t h ⟨k⟩ = @d0g agg n (evT t a) h ⟨fun v => k v h⟩ := j5c
theorem j0f {n a x} : @iop O (.store n a x) t h ⟨k⟩ = @d7p n (evT t a) (evT t x) h ⟨fun h' => k .dead h'⟩ := j5h
theorem j0c {x} : @iop O (.nilck x) t h ⟨k⟩ = @c53 (evT t x) h ⟨fun v => k v h⟩ := j5f
theorem g92 {o x} : @iop O (.fldA o x) t h ⟨k⟩ = @d0e o (evT t x) h ⟨fun v => k v h⟩ := j49
theorem g93 {n x i} : @iop O (.ixA n x i) t h ⟨k⟩ = @iix n (evT t x) (evT t i) h ⟨fun v => k v h⟩ := j5a
theorem g9r {op e x y} : @iop O (.bin op e x y) t h ⟨k⟩ = @b3e op e (evT t x) (evT t y) ⟨fun v => k v h⟩ := j43
theorem j0g {op x} : @iop O (.un op x) t h ⟨k⟩ = @iun op (evT t x) ⟨fun v => k v h⟩ := j5i
theorem g95 {x} : @iop O (.len false x) t h ⟨k⟩ = @c03 (evT t x) ⟨fun n => k (I n) h⟩ := j5b
theorem g90 {x i} : @iop O (.ext x i) t h ⟨k⟩ = @d6t (evT t x) i ⟨fun v => k v h⟩ := j48
theorem g99 {f a b} : @iop O (.mkfn f a b) t h ⟨k⟩ = k (.fn f (a.map (evT t)) (b.map (evT t))) h := j5d
theorem g9w {f l} : @iop O (.call f l) t h ⟨k⟩ = @c3e O f (l.map (evT t)) h ⟨k⟩ := j46
theorem g9y {f l} : @iop O (.callw f l) t h ⟨k⟩ = @d6l O f (l.map (evT t)) h ⟨k⟩ := rfl
theorem g9x {f l} : @iop O (.callv f l) t h ⟨k⟩ = @d6j O (evT t f) (l.map (evT t)) h ⟨k⟩ := j47
theorem j0s {c a b} {Q : XExit → Slots → Heap → Prop} : cw O (.cond c a b) Q t h = @d6o (evT t c) ⟨cw O a Q t h⟩ ⟨cw O b Q t h⟩ := g41
end
section
variable {k : AV → Prop} {h : Heap} {p q q0 : Prop}
theorem j0r {x} : @b5i (.v x) ⟨k⟩ = k (.v x) := rfl
theorem j0j {x} : @b5i (.agg x) ⟨k⟩ = k (.agg x) := rfl
theorem j0q {x} : @b5i (.tup x) ⟨k⟩ = k (.tup x) := rfl
theorem j0n {a b} : @b5i (.fs a b) ⟨k⟩ = k (.fs a b) := rfl
theorem j0m {a b} : @b5i (.fp a b) ⟨k⟩ = k (.fp a b) := rfl
theorem j0l {a b c} : @b5i (.fn a b c) ⟨k⟩ = k (.fn a b c) := rfl
theorem j0p {a b c} : @b5i (.rs a b c) ⟨k⟩ = k (.rs a b c) := rfl
theorem j0o {a b c} : @b5i (.rp a b c) ⟨k⟩ = k (.rp a b c) := rfl
theorem j0k : @b5i .dead ⟨k⟩ = k .dead := rfl
theorem b0b (v : AV) : @b5i v ⟨k⟩ = k v := rfl
theorem d6h  : @ibr true ⟨p⟩ ⟨q⟩ = p := g2v
theorem d6g  : @ibr false ⟨p⟩ ⟨q⟩ = q := g2u
theorem d6p {b} : @d6o (.v (.bool b)) ⟨p⟩ ⟨q⟩ = @ibr b ⟨p⟩ ⟨q⟩ := g4u
theorem d61 {y} : @b23 (.v (.bool y)) true ⟨p⟩ ⟨q⟩ ⟨q0⟩ = @ibr y ⟨p⟩ ⟨q⟩ := g6s
theorem d60 {y} : @b23 (.v (.bool y)) false ⟨p⟩ ⟨q⟩ ⟨q0⟩ = @ibr y ⟨q⟩ ⟨p⟩ := g6r
theorem d62 {b} : @b23 U b ⟨p⟩ ⟨q⟩ ⟨q0⟩ = q0 := rfl
theorem d67 {agg n cs off} : @d0g agg n (.fp cs off) h ⟨k⟩ = @c3f agg n cs off ⟨k⟩ := rfl
theorem d68 {agg n id i off} : @d0g agg n (.rp id i off) h ⟨k⟩ = @c55 (h.ob id) i ⟨fun _ _ cs => @c3f agg n cs off ⟨k⟩⟩ := rfl
theorem d7q {n id i off x} {k : Heap → Prop} : @d7p n (.rp id i off) x h ⟨k⟩ = @c55 (h.ob id) i ⟨fun sz es cs => b2w x = true ∧ (cellsOf x).length = n ∧ off + n ≤ cs.length ∧ k (h.upd id (some (sz, es.set i (cs.take off ++ cellsOf x ++ cs.drop (off + n)))))⟩ := rfl
theorem d6m {n cs off} : @c3f false n cs off ⟨k⟩ = @c3g cs off ⟨k⟩ := g4d
theorem d6n {n cs off} : @c3f true n cs off ⟨k⟩ = @b44 (off + n ≤ cs.length) ⟨k (.agg ((cs.drop off).take n))⟩ := g4e
theorem d6y {c cs} : @c3g (c :: cs) 0 ⟨k⟩ = k c := g6m
theorem d6z {c cs n} : @c3g (c :: cs) (n + 1) ⟨k⟩ = @c3g cs n ⟨k⟩ := g6n
theorem d7l {sz cs} {k : Nat → List (List AV) → List AV → Prop} : @c55 (some (sz, [cs])) 0 ⟨k⟩ = k sz [cs] cs := j65
theorem d7h {sz es} {k : Nat → List (List AV) → Prop} : @iob (some (sz, es)) ⟨k⟩ = k sz es := j4r
theorem d6s {α β : Type} {f : α → β} {l : List α} {i : Int} {k : β → Prop} : @c5y β (l.map f) i ⟨k⟩ = @c5y α l i ⟨fun a => k (f a)⟩ := g5j
theorem d7k  : @d0i (.v (.bool true)) ⟨p⟩ ⟨q⟩ = p := rfl
theorem d7j  : @d0i (.v (.bool false)) ⟨p⟩ ⟨q⟩ = q := rfl
theorem d6a {cs} {k : List AV → Prop} : @b7v (.agg cs) ⟨k⟩ = k cs := g2o
theorem d6d {kd n} {k : List AV → Prop} : @b7v (.v (.int kd n)) ⟨k⟩ = k [.v (.int kd n)] := g2r
theorem d6b {b} {k : List AV → Prop} : @b7v (.v (.bool b)) ⟨k⟩ = k [.v (.bool b)] := g2p
theorem d6f {a b c} {k : List AV → Prop} : @b7v (.v (.slice a b c)) ⟨k⟩ = k [.v (.slice a b c)] := g2t
theorem d6c {sz es} {k : List AV → Prop} : @b7v (.fs sz es) ⟨k⟩ = k [.fs sz es] := g2q
theorem d6e {a b c} {k : List AV → Prop} : @b7v (.rs a b c) ⟨k⟩ = k [.rs a b c] := g2s
theorem d7f {cs off} : @c53 (.fp cs off) h ⟨k⟩ = k (.fp cs off) := rfl
theorem d7e {f a b} : @c53 (.fn f a b) h ⟨k⟩ = k (.fn f a b) := rfl
theorem d7g {id i off} : @c53 (.rp id i off) h ⟨k⟩ = @b44 ((h.ob id).isSome = true) ⟨k (.rp id i off)⟩ := rfl
theorem d6w {n cs off} : @d0e n (.fp cs off) h ⟨k⟩ = k (.fp cs (off + n)) := rfl
theorem d6x {n id i off} : @d0e n (.rp id i off) h ⟨k⟩ = @b44 ((h.ob id).isSome = true) ⟨k (.rp id i (off + n))⟩ := rfl
theorem d64 {n sz es kd j} : @iix n (.fs sz es) (.v (.int kd j)) h ⟨k⟩ = @b44 (sz = n) ⟨@c5y (List AV) es j ⟨fun cs => k (.fp cs 0)⟩⟩ := rfl
theorem d65 {n id lo len kd j} : @iix n (.rs id lo len) (.v (.int kd j)) h ⟨k⟩ = @iob (h.ob id) ⟨fun sz _ => @b44 (sz = n) ⟨@b44 (0 ≤ j) ⟨@b44 (j < (len : Int)) ⟨k (.rp id (lo + j.toNat) 0)⟩⟩⟩⟩ := rfl
theorem d66 {sz es} {k : Int → Prop} : @c03 (.fs sz es) ⟨k⟩ = k es.length := j0y
theorem c50 {id lo len} {k : Int → Prop} : @c03 (.rs id lo len) ⟨k⟩ = k len := j00
theorem c5z {k : Int → Prop} : @c03 (.v (.slice none 0 0)) ⟨k⟩ = k 0 := j0z
theorem d6u {vs i} : @d6t (.tup vs) i ⟨k⟩ = @c3g vs i ⟨k⟩ := rfl
theorem d7s {b : Bool} : @iun .not (B b) ⟨k⟩ = k (B (!b)) := j8i
theorem d7r {kd a} : @iun .neg (.v (.int kd a)) ⟨k⟩ = k (.v (.int kd (kd.wrap (0 - a)))) := j8h
theorem d5l {a : Prop} (ha : a) : @b44 a ⟨p⟩ = p := by simp [b44, ha]
theorem d5n {e kd a b} : @b3e .add e (.v (.int kd a)) (.v (.int kd b)) ⟨k⟩ = k (.v (.int kd (kd.wrap (a + b)))) := g19
theorem d58 {e kd a b} : @b3e .sub e (.v (.int kd a)) (.v (.int kd b)) ⟨k⟩ = k (.v (.int kd (kd.wrap (a - b)))) := g2j
theorem d5z {e kd a b} : @b3e .mul e (.v (.int kd a)) (.v (.int kd b)) ⟨k⟩ = k (.v (.int kd (kd.wrap (a * b)))) := g2h
theorem d5s {e kd} {a b : Int} : @b3e .eql e (.v (.int kd a)) (.v (.int kd b)) ⟨k⟩ = k (B (decide (a = b))) := g2c
theorem d50 {e kd} {a b : Int} : @b3e .neq e (.v (.int kd a)) (.v (.int kd b)) ⟨k⟩ = k (B (decide (¬ a = b))) := g2i
theorem d5y {e kd} {a b : Int} : @b3e .lss e (.v (.int kd a)) (.v (.int kd b)) ⟨k⟩ = k (B (decide (a < b))) := g2g
theorem d5x {e kd} {a b : Int} : @b3e .leq e (.v (.int kd a)) (.v (.int kd b)) ⟨k⟩ = k (B (decide (a ≤ b))) := g2f
theorem d5w {e kd} {a b : Int} : @b3e .gtr e (.v (.int kd a)) (.v (.int kd b)) ⟨k⟩ = k (B (decide (b < a))) := g2e
theorem d5v {e kd} {a b : Int} : @b3e .geq e (.v (.int kd a)) (.v (.int kd b)) ⟨k⟩ = k (B (decide (b ≤ a))) := g2d
theorem d5p {a b : Bool} : @b3e .eql .bool (B a) (B b) ⟨k⟩ = k (B (c0a a b)) := g2a
theorem d5q {a b : Bool} : @b3e .neq .bool (B a) (B b) ⟨k⟩ = k (B (!(c0a a b))) := g2b
theorem b0w {x : Bool} {p q : Prop} (h1 : x = true → p) (h2 : x = false → q) : @ibr x ⟨p⟩ ⟨q⟩ := ⟨h1, h2⟩
end
def c54 {α : Type} (o : Option α) [k : K1 α] : Prop := ∃ x, o = some x ∧ k.k x
theorem d7i {α : Type} {x : α} {k : α → Prop} : @c54 α (some x) ⟨k⟩ = k x := by simp [c54]
section
variable {O : Orac} {d : Option Nat} {g : Nat} {b0 : Bool} {r : List XO} {K : Slots → Heap → Prop} {t : Slots} {h : Heap} {k : AV → Heap → Prop}
theorem g79 {zs ps} : b0g O (⟨d, none, .build zs ps⟩ :: r) K t h = @iop O (.build zs ps) t h ⟨fun v h' => b0g O r K (b0p t d v) h'⟩ := b27 rfl
theorem g85 {zs ps} : b0g O (⟨d, some (g, b0), .build zs ps⟩ :: r) K t h = @b23 (t g) b0 ⟨@iop O (.build zs ps) (upd t g (B b0)) h ⟨fun v h' => b0g O r K (b0p (upd t g (B b0)) d v) h'⟩⟩ ⟨b0g O r K (b0p (upd t g (B (!b0))) d U) h⟩ ⟨b0g O r K (b0p t d U) h⟩ := b29 rfl
theorem g9v {zs ps} : @iop O (.build zs ps) t h ⟨k⟩ = @c54 _ (b7z (ps.map fun p => (p.1, p.2.1, evT t p.2.2))) ⟨fun qs => @b44 ((qs.all fun p => decide (p.1 + p.2.length ≤ zs.length)) = true) ⟨k (.agg (place (zs.map .v) qs)) h⟩⟩ := by
  simp only [iop, op1, eff, c54, b44]
  apply propext; constructor
  · rintro ⟨r, h', he, hk⟩
    simp only [Option.bind_eq_some_iff] at he
    obtain ⟨qs, h1, he⟩ := he
    split at he
    · rename_i hc; cases he; exact ⟨qs, h1, hc, hk⟩
    · cases he
  · rintro ⟨qs, h1, h2, h3⟩
    exact ⟨_, _, by simp only [h1, Option.bind_some]; rw [if_pos h2], h3⟩
end
theorem j57 : b7z [] = some [] := rfl
theorem j56 {a n : Nat} {x : AV} {l} : b7z ((a, n, x) :: l) = if b2w x ∧ (cellsOf x).length = n then (b7z l).map ((a, cellsOf x) :: ·) else none := by
  unfold b7z
  rw [List.mapM_cons]
  simp only []
  split
  · rename_i hc
    simp only [Option.bind_eq_bind, Option.bind_some, Option.pure_def]
    generalize (List.mapM (m := Option) _ l) = o
    cases o <;> rfl
  · rfl
theorem j4x {kd n} : b2w (.v (.int kd n)) = true := rfl
theorem j4t {b} : b2w (.v (.bool b)) = true := rfl
theorem j40 {a b c} : b2w (.v (.slice a b c)) = true := rfl
theorem j4s {cs} : b2w (.agg cs) = true := rfl
theorem j4w {a b} : b2w (.fs a b) = true := rfl
theorem j4z {a b c} : b2w (.rs a b c) = true := rfl
theorem g4l {x} : cellsOf (.v x) = [.v x] := rfl
theorem g4f {cs} : cellsOf (.agg cs) = cs := rfl
theorem g4i {a b} : cellsOf (.fs a b) = [.fs a b] := rfl
theorem g4k {a b c} : cellsOf (.rs a b c) = [.rs a b c] := rfl
theorem j6g {cs} : place cs [] = cs := rfl
theorem j6f {cs off ds r} : place cs ((off, ds) :: r) = place (cs.take off ++ ds ++ cs.drop (off + ds.length)) r := rfl
attribute [go_sem] j0r j0j j0q j0n j0m j0l j0p j0o j0k
attribute [go_sem ↓] d7i g79 g85 g9v g4x g8p g9j g8r g9l g77 g83 g76 g82 g73 g8z g8k g9e g8t g9n g8q g9k g8g g9b g8h g9c g75 g81 g8u g9o g8j g9d g8e g89 g8n g9h g8a g86 g8b g87 j0b j0d g9t g9s g9p g96 j0f j0c g92 g93 g9r j0g g95 g90 g99 g9w g9x g8c g9y j0s d6h d6g d6p d61 d60 d62 d67 d68 d7q d6m d6n d6y d6z d7l d7h d6s d7k d7j d6a d6d d6b d6f d6c d6e d7f d7e d7g d6w d6x d64 d65 d66 c50 c5z d6u d7s d7r d5l d5n d58 d5z d5s d50 d5y d5x d5w d5v d5p d5q
attribute [go_sem] d7i j57 j56 j4x j4t j40 j4s j4w j4z g4l g4f g4i g4k j6g j6f List.map_cons List.map_nil List.take_zero List.take_succ_cons List.drop_zero List.drop_succ_cons List.nil_append List.cons_append List.length_cons List.length_nil List.all_cons List.all_nil Option.map_some Nat.reduceLeDiff Option.isSome_some decide_true Bool.and_true true_and and_true if_true if_false List.set_cons_zero List.take_nil List.drop_nil List.append_nil d6h d6g d6p d61 d60 d62 d67 d68 d7q d6m d6n d6y d6z d7l d7h d6s d7k d7j d6a d6d d6b d6f d6c d6e d7f d7e d7g d6w d6x d64 d65 d66 c50 c5z d6u d7s d7r d5l d5n d58 d5z d5s d50 d5y d5x d5w d5v d5p d5q Bool.not_true Bool.not_false Nat.reduceAdd Nat.reduceEqDiff not_false_eq_true
end Go.Nw
