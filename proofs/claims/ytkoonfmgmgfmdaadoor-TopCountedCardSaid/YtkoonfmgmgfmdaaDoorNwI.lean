/- The rules, with what comes behind as instance-implicit arguments: there "simp" does not go. -/
import Derived.Test.YtkoonfmgmgfmdaaDoorNwRules
set_option linter.all false
set_option linter.unusedVariables false
set_option linter.unusedSimpArgs false
set_option linter.unusedSectionVars false
namespace Go.Nw
class Kp where p : Prop
class K1 (α : Type) where k : α → Prop
class K2 where k : AV → Heap → Prop
class Kr where k : Nat → List (List AV) → List AV → Prop
class Ko where k : Nat → List (List AV) → Prop
class Kh where k : Heap → Prop
def ibr (x : Bool) [p : Kp] [q : Kp] : Prop := br x p.p q.p
def d55 (x : AV) [p : Kp] [q : Kp] : Prop := c4n x p.p q.p
def b2t (x : AV) (b : Bool) [p : Kp] [q : Kp] [q0 : Kp] : Prop := b3c x b p.p q.p q0.p
def iop (O : Orac) (op : XOp) (t : Slots) (h : Heap) [k : K2] : Prop := op1 O op t h k.k
def c9z (agg : Bool) (n : Nat) (x : AV) (h : Heap) [k : K1 AV] : Prop := d0y agg n x h k.k
def d63 (n : Nat) (a x : AV) (h : Heap) [k : Kh] : Prop := d19 n a x h k.k
def c2q (agg : Bool) (n : Nat) (cs : List AV) (off : Nat) [k : K1 AV] : Prop := b5s agg n cs off k.k
def c0d (cs : List AV) (i : Nat) [k : K1 AV] : Prop := b4p cs i k.k
def c53 (o : Option Ob) (i : Nat) [k : Kr] : Prop := b7r o i k.k
def iob (o : Option Ob) [k : Ko] : Prop := obK o k.k
def c5t {α : Type} (l : List α) (i : Int) [k : K1 α] : Prop := b61 l i k.k
def c91 (c : AV) [p : Kp] [q : Kp] : Prop := c3e c p.p q.p
def b7f (x : AV) [k : K1 (List AV)] : Prop := b34 x k.k
def c50 (x : AV) (h : Heap) [k : K1 AV] : Prop := d1e x h k.k
def c9x (n : Nat) (x : AV) (h : Heap) [k : K1 AV] : Prop := c9g n x h k.k
def iix (n : Nat) (x i : AV) (h : Heap) [k : K1 AV] : Prop := c93 n x i h k.k
def b2z (op : BinOp) (e : EqK) (x y : AV) [k : K1 AV] : Prop := b2c op e x y k.k
def iun (op : UnOp) (x : AV) [k : K1 AV] : Prop := unK op x k.k
def c0e (x : AV) [k : K1 Int] : Prop := b6n x k.k
def d58 (x : AV) (i : Nat) [k : K1 AV] : Prop := c84 x i k.k
def b44 (v : AV) [k : K1 AV] : Prop := k.k v
def b4r (a : Prop) [p : Kp] : Prop := a ∧ p.p
def c2p (O : Orac) (f : String) (as : List AV) (h : Heap) [k : K2] : Prop := b6z O f as h k.k
def d51 (O : Orac) (f : String) (as : List AV) (h : Heap) [k : K2] : Prop := b60 O f as h k.k
def d5z (O : Orac) (f : AV) (as : List AV) (h : Heap) [k : K2] : Prop := ∃ n a b, callee f = some (n, a, b) ∧ b6z O n (a ++ as ++ b) h k.k
section
variable {O : Orac} {d : Option Nat} {g : Nat} {b0 : Bool} {r : List XO} {K : Slots → Heap → Prop} {t : Slots} {h : Heap} {k : AV → Heap → Prop}
theorem g9g {x} : b0d O (⟨d, none, .mv x⟩ :: r) K t h = @iop O (.mv x) t h ⟨fun v h' => b0d O r K (b0l t d v) h'⟩ := g3l
theorem j0a {x} : b0d O (⟨d, some (g, b0), .mv x⟩ :: r) K t h = @b2t (t g) b0 ⟨@iop O (.mv x) (upd t g (B b0)) h ⟨fun v h' => b0d O r K (b0l (upd t g (B b0)) d v) h'⟩⟩ ⟨b0d O r K (b0l (upd t g (B (!b0))) d U) h⟩ ⟨b0d O r K (b0l t d U) h⟩ := g61
theorem g9i {c a b} : b0d O (⟨d, none, .pick c a b⟩ :: r) K t h = @iop O (.pick c a b) t h ⟨fun v h' => b0d O r K (b0l t d v) h'⟩ := g3q
theorem j0c {c a b} : b0d O (⟨d, some (g, b0), .pick c a b⟩ :: r) K t h = @b2t (t g) b0 ⟨@iop O (.pick c a b) (upd t g (B b0)) h ⟨fun v h' => b0d O r K (b0l (upd t g (B b0)) d v) h'⟩⟩ ⟨b0d O r K (b0l (upd t g (B (!b0))) d U) h⟩ ⟨b0d O r K (b0l t d U) h⟩ := g63
theorem g8y {x} : b0d O (⟨d, none, .boxF x⟩ :: r) K t h = @iop O (.boxF x) t h ⟨fun v h' => b0d O r K (b0l t d v) h'⟩ := g2p
theorem g9u {x} : b0d O (⟨d, some (g, b0), .boxF x⟩ :: r) K t h = @b2t (t g) b0 ⟨@iop O (.boxF x) (upd t g (B b0)) h ⟨fun v h' => b0d O r K (b0l (upd t g (B b0)) d v) h'⟩⟩ ⟨b0d O r K (b0l (upd t g (B (!b0))) d U) h⟩ ⟨b0d O r K (b0l t d U) h⟩ := g6s
theorem g8x {x} : b0d O (⟨d, none, .box x⟩ :: r) K t h = @iop O (.box x) t h ⟨fun v h' => b0d O r K (b0l t d v) h'⟩ := g2o
theorem g9t {x} : b0d O (⟨d, some (g, b0), .box x⟩ :: r) K t h = @b2t (t g) b0 ⟨@iop O (.box x) (upd t g (B b0)) h ⟨fun v h' => b0d O r K (b0l (upd t g (B b0)) d v) h'⟩⟩ ⟨b0d O r K (b0l (upd t g (B (!b0))) d U) h⟩ ⟨b0d O r K (b0l t d U) h⟩ := g6r
theorem g8u {zs} : b0d O (⟨d, none, .alloc zs⟩ :: r) K t h = @iop O (.alloc zs) t h ⟨fun v h' => b0d O r K (b0l t d v) h'⟩ := g2m
theorem g9q {zs} : b0d O (⟨d, some (g, b0), .alloc zs⟩ :: r) K t h = @b2t (t g) b0 ⟨@iop O (.alloc zs) (upd t g (B b0)) h ⟨fun v h' => b0d O r K (b0l (upd t g (B b0)) d v) h'⟩⟩ ⟨b0d O r K (b0l (upd t g (B (!b0))) d U) h⟩ ⟨b0d O r K (b0l t d U) h⟩ := g6p
theorem g9b {agg n a} : b0d O (⟨d, none, .load agg n a⟩ :: r) K t h = @iop O (.load agg n a) t h ⟨fun v h' => b0d O r K (b0l t d v) h'⟩ := g3f
theorem g95 {agg n a} : b0d O (⟨d, some (g, b0), .load agg n a⟩ :: r) K t h = @b2t (t g) b0 ⟨@iop O (.load agg n a) (upd t g (B b0)) h ⟨fun v h' => b0d O r K (b0l (upd t g (B b0)) d v) h'⟩⟩ ⟨b0d O r K (b0l (upd t g (B (!b0))) d U) h⟩ ⟨b0d O r K (b0l t d U) h⟩ := g6z
theorem g9k {n a x} : b0d O (⟨d, none, .store n a x⟩ :: r) K t h = @iop O (.store n a x) t h ⟨fun v h' => b0d O r K (b0l t d v) h'⟩ := g30
theorem j0e {n a x} : b0d O (⟨d, some (g, b0), .store n a x⟩ :: r) K t h = @b2t (t g) b0 ⟨@iop O (.store n a x) (upd t g (B b0)) h ⟨fun v h' => b0d O r K (b0l (upd t g (B b0)) d v) h'⟩⟩ ⟨b0d O r K (b0l (upd t g (B (!b0))) d U) h⟩ ⟨b0d O r K (b0l t d U) h⟩ := g64
theorem g9h {x} : b0d O (⟨d, none, .nilck x⟩ :: r) K t h = @iop O (.nilck x) t h ⟨fun v h' => b0d O r K (b0l t d v) h'⟩ := g3p
theorem j0b {x} : b0d O (⟨d, some (g, b0), .nilck x⟩ :: r) K t h = @b2t (t g) b0 ⟨@iop O (.nilck x) (upd t g (B b0)) h ⟨fun v h' => b0d O r K (b0l (upd t g (B b0)) d v) h'⟩⟩ ⟨b0d O r K (b0l (upd t g (B (!b0))) d U) h⟩ ⟨b0d O r K (b0l t d U) h⟩ := g62
theorem g87 {o x} : b0d O (⟨d, none, .fldA o x⟩ :: r) K t h = @iop O (.fldA o x) t h ⟨fun v h' => b0d O r K (b0l t d v) h'⟩ := g2z
theorem g92 {o x} : b0d O (⟨d, some (g, b0), .fldA o x⟩ :: r) K t h = @b2t (t g) b0 ⟨@iop O (.fldA o x) (upd t g (B b0)) h ⟨fun v h' => b0d O r K (b0l (upd t g (B b0)) d v) h'⟩⟩ ⟨b0d O r K (b0l (upd t g (B (!b0))) d U) h⟩ ⟨b0d O r K (b0l t d U) h⟩ := g6w
theorem g88 {n x i} : b0d O (⟨d, none, .ixA n x i⟩ :: r) K t h = @iop O (.ixA n x i) t h ⟨fun v h' => b0d O r K (b0l t d v) h'⟩ := g3c
theorem g93 {n x i} : b0d O (⟨d, some (g, b0), .ixA n x i⟩ :: r) K t h = @b2t (t g) b0 ⟨@iop O (.ixA n x i) (upd t g (B b0)) h ⟨fun v h' => b0d O r K (b0l (upd t g (B b0)) d v) h'⟩⟩ ⟨b0d O r K (b0l (upd t g (B (!b0))) d U) h⟩ ⟨b0d O r K (b0l t d U) h⟩ := g6x
theorem g8w {op e x y} : b0d O (⟨d, none, .bin op e x y⟩ :: r) K t h = @iop O (.bin op e x y) t h ⟨fun v h' => b0d O r K (b0l t d v) h'⟩ := g2n
theorem g9s {op e x y} : b0d O (⟨d, some (g, b0), .bin op e x y⟩ :: r) K t h = @b2t (t g) b0 ⟨@iop O (.bin op e x y) (upd t g (B b0)) h ⟨fun v h' => b0d O r K (b0l (upd t g (B b0)) d v) h'⟩⟩ ⟨b0d O r K (b0l (upd t g (B (!b0))) d U) h⟩ ⟨b0d O r K (b0l t d U) h⟩ := g6q
theorem g9l {op x} : b0d O (⟨d, none, .un op x⟩ :: r) K t h = @iop O (.un op x) t h ⟨fun v h' => b0d O r K (b0l t d v) h'⟩ := g31
theorem j0f {op x} : b0d O (⟨d, some (g, b0), .un op x⟩ :: r) K t h = @b2t (t g) b0 ⟨@iop O (.un op x) (upd t g (B b0)) h ⟨fun v h' => b0d O r K (b0l (upd t g (B b0)) d v) h'⟩⟩ ⟨b0d O r K (b0l (upd t g (B (!b0))) d U) h⟩ ⟨b0d O r K (b0l t d U) h⟩ := g65
theorem g9a {x} : b0d O (⟨d, none, .len false x⟩ :: r) K t h = @iop O (.len false x) t h ⟨fun v h' => b0d O r K (b0l t d v) h'⟩ := g3e
theorem g94 {x} : b0d O (⟨d, some (g, b0), .len false x⟩ :: r) K t h = @b2t (t g) b0 ⟨@iop O (.len false x) (upd t g (B b0)) h ⟨fun v h' => b0d O r K (b0l (upd t g (B b0)) d v) h'⟩⟩ ⟨b0d O r K (b0l (upd t g (B (!b0))) d U) h⟩ ⟨b0d O r K (b0l t d U) h⟩ := g6y
theorem g85 {x i} : b0d O (⟨d, none, .ext x i⟩ :: r) K t h = @iop O (.ext x i) t h ⟨fun v h' => b0d O r K (b0l t d v) h'⟩ := g2u
theorem g90 {x i} : b0d O (⟨d, some (g, b0), .ext x i⟩ :: r) K t h = @b2t (t g) b0 ⟨@iop O (.ext x i) (upd t g (B b0)) h ⟨fun v h' => b0d O r K (b0l (upd t g (B b0)) d v) h'⟩⟩ ⟨b0d O r K (b0l (upd t g (B (!b0))) d U) h⟩ ⟨b0d O r K (b0l t d U) h⟩ := g6v
theorem g9e {f a b} : b0d O (⟨d, none, .mkfn f a b⟩ :: r) K t h = @iop O (.mkfn f a b) t h ⟨fun v h' => b0d O r K (b0l t d v) h'⟩ := g3k
theorem g98 {f a b} : b0d O (⟨d, some (g, b0), .mkfn f a b⟩ :: r) K t h = @b2t (t g) b0 ⟨@iop O (.mkfn f a b) (upd t g (B b0)) h ⟨fun v h' => b0d O r K (b0l (upd t g (B b0)) d v) h'⟩⟩ ⟨b0d O r K (b0l (upd t g (B (!b0))) d U) h⟩ ⟨b0d O r K (b0l t d U) h⟩ := g60
theorem g81 {f l} : b0d O (⟨d, none, .call f l⟩ :: r) K t h = @iop O (.call f l) t h ⟨fun v h' => b0d O r K (b0l t d v) h'⟩ := g2q
theorem g9x {f l} : b0d O (⟨d, some (g, b0), .call f l⟩ :: r) K t h = @b2t (t g) b0 ⟨@iop O (.call f l) (upd t g (B b0)) h ⟨fun v h' => b0d O r K (b0l (upd t g (B b0)) d v) h'⟩⟩ ⟨b0d O r K (b0l (upd t g (B (!b0))) d U) h⟩ ⟨b0d O r K (b0l t d U) h⟩ := g6t
theorem g83 {f l} : b0d O (⟨d, none, .callw f l⟩ :: r) K t h = @iop O (.callw f l) t h ⟨fun v h' => b0d O r K (b0l t d v) h'⟩ := g4o
theorem g82 {f l} : b0d O (⟨d, none, .callv f l⟩ :: r) K t h = @iop O (.callv f l) t h ⟨fun v h' => b0d O r K (b0l t d v) h'⟩ := g2r
theorem g9y {f l} : b0d O (⟨d, some (g, b0), .callv f l⟩ :: r) K t h = @b2t (t g) b0 ⟨@iop O (.callv f l) (upd t g (B b0)) h ⟨fun v h' => b0d O r K (b0l (upd t g (B b0)) d v) h'⟩⟩ ⟨b0d O r K (b0l (upd t g (B (!b0))) d U) h⟩ ⟨b0d O r K (b0l t d U) h⟩ := g6u
theorem j05 {x} : @iop O (.mv x) t h ⟨k⟩ = @b44 (evT t x) ⟨fun v => k v h⟩ := j6k
theorem j07 {c a b} : @iop O (.pick c a b) t h ⟨k⟩ = @c91 (evT t c) ⟨@b44 (evT t a) ⟨fun v => k v h⟩⟩ ⟨@b44 (evT t b) ⟨fun v => k v h⟩⟩ := j6m
theorem j0n {x} : @iop O (.boxF x) t h ⟨k⟩ = @b7f (evT t x) ⟨fun cs => k (.fp cs 0) h⟩ := j6b
theorem j0m {x} : @iop O (.box x) t h ⟨k⟩ = @b7f (evT t x) ⟨fun cs => k (.rp h.nx 0 0) (h.new (cs.length, [cs]))⟩ := j6a
theorem j0j {zs} : @iop O (.alloc zs) t h ⟨k⟩ = k (.rp h.nx 0 0) (h.new (zs.length, [zs.map .v])) := j58
theorem j00 {agg n a} : @iop O (.load agg n a) t h ⟨k⟩ = @c9z agg n (evT t a) h ⟨fun v => k v h⟩ := j6i
theorem j09 {n a x} : @iop O (.store n a x) t h ⟨k⟩ = @d63 n (evT t a) (evT t x) h ⟨fun h' => k .dead h'⟩ := j6n
theorem j06 {x} : @iop O (.nilck x) t h ⟨k⟩ = @c50 (evT t x) h ⟨fun v => k v h⟩ := j6l
theorem j0w {o x} : @iop O (.fldA o x) t h ⟨k⟩ = @c9x o (evT t x) h ⟨fun v => k v h⟩ := j6f
theorem j0x {n x i} : @iop O (.ixA n x i) t h ⟨k⟩ = @iix n (evT t x) (evT t i) h ⟨fun v => k v h⟩ := j6g
theorem j0l {op e x y} : @iop O (.bin op e x y) t h ⟨k⟩ = @b2z op e (evT t x) (evT t y) ⟨fun v => k v h⟩ := j59
theorem j1a {op x} : @iop O (.un op x) t h ⟨k⟩ = @iun op (evT t x) ⟨fun v => k v h⟩ := j6o
theorem j0z {x} : @iop O (.len false x) t h ⟨k⟩ = @c0e (evT t x) ⟨fun n => k (I n) h⟩ := j6h
theorem j0u {x i} : @iop O (.ext x i) t h ⟨k⟩ = @d58 (evT t x) i ⟨fun v => k v h⟩ := j6e
theorem j03 {f a b} : @iop O (.mkfn f a b) t h ⟨k⟩ = k (.fn f (a.map (evT t)) (b.map (evT t))) h := j6j
theorem j0q {f l} : @iop O (.call f l) t h ⟨k⟩ = @c2p O f (l.map (evT t)) h ⟨k⟩ := j6c
theorem j0s {f l} : @iop O (.callw f l) t h ⟨k⟩ = @d51 O f (l.map (evT t)) h ⟨k⟩ := rfl
theorem j0r {f l} : @iop O (.callv f l) t h ⟨k⟩ = @d5z O (evT t f) (l.map (evT t)) h ⟨k⟩ := j6d
theorem c92 {c a b} {Q : XExit → Slots → Heap → Prop} : cw O (.cond c a b) Q t h = @d55 (evT t c) ⟨cw O a Q t h⟩ ⟨cw O b Q t h⟩ := g4t
end
section
variable {k : AV → Prop} {h : Heap} {p q q0 : Prop}
theorem j1m {x} : @b44 (.v x) ⟨k⟩ = k (.v x) := rfl
theorem j1e {x} : @b44 (.agg x) ⟨k⟩ = k (.agg x) := rfl
theorem j1l {x} : @b44 (.tup x) ⟨k⟩ = k (.tup x) := rfl
theorem j1i {a b} : @b44 (.fs a b) ⟨k⟩ = k (.fs a b) := rfl
theorem j1h {a b} : @b44 (.fp a b) ⟨k⟩ = k (.fp a b) := rfl
theorem j1g {a b c} : @b44 (.fn a b c) ⟨k⟩ = k (.fn a b c) := rfl
theorem j1k {a b c} : @b44 (.rs a b c) ⟨k⟩ = k (.rs a b c) := rfl
theorem j1j {a b c} : @b44 (.rp a b c) ⟨k⟩ = k (.rp a b c) := rfl
theorem j1f : @b44 .dead ⟨k⟩ = k .dead := rfl
theorem b0a (v : AV) : @b44 v ⟨k⟩ = k v := rfl
theorem c5r  : @ibr true ⟨p⟩ ⟨q⟩ = p := g2g
theorem c5q  : @ibr false ⟨p⟩ ⟨q⟩ = q := g2f
theorem c5s {b} : @d55 (.v (.bool b)) ⟨p⟩ ⟨q⟩ = @ibr b ⟨p⟩ ⟨q⟩ := g4n
theorem d6g {y} : @b2t (.v (.bool y)) true ⟨p⟩ ⟨q⟩ ⟨q0⟩ = @ibr y ⟨p⟩ ⟨q⟩ := g7f
theorem d6f {y} : @b2t (.v (.bool y)) false ⟨p⟩ ⟨q⟩ ⟨q0⟩ = @ibr y ⟨q⟩ ⟨p⟩ := g7e
theorem d6h {b} : @b2t U b ⟨p⟩ ⟨q⟩ ⟨q0⟩ = q0 := rfl
theorem d6l {agg n cs off} : @c9z agg n (.fp cs off) h ⟨k⟩ = @c2q agg n cs off ⟨k⟩ := rfl
theorem d6m {agg n id i off} : @c9z agg n (.rp id i off) h ⟨k⟩ = @c53 (h.ob id) i ⟨fun _ _ cs => @c2q agg n cs off ⟨k⟩⟩ := rfl
theorem d64 {n id i off x} {k : Heap → Prop} : @d63 n (.rp id i off) x h ⟨k⟩ = @c53 (h.ob id) i ⟨fun sz es cs => b2d x = true ∧ (cellsOf x).length = n ∧ off + n ≤ cs.length ∧ k (h.upd id (some (sz, es.set i (cs.take off ++ cellsOf x ++ cs.drop (off + n)))))⟩ := rfl
theorem d53 {n cs off} : @c2q false n cs off ⟨k⟩ = @c0d cs off ⟨k⟩ := g35
theorem d54 {n cs off} : @c2q true n cs off ⟨k⟩ = @b4r (off + n ≤ cs.length) ⟨k (.agg ((cs.drop off).take n))⟩ := g36
theorem d6d {c cs} : @c0d (c :: cs) 0 ⟨k⟩ = k c := g68
theorem d6e {c cs n} : @c0d (c :: cs) (n + 1) ⟨k⟩ = @c0d cs n ⟨k⟩ := g69
theorem d6z {sz cs} {k : Nat → List (List AV) → List AV → Prop} : @c53 (some (sz, [cs])) 0 ⟨k⟩ = k sz [cs] cs := j8c
theorem d6v {sz es} {k : Nat → List (List AV) → Prop} : @iob (some (sz, es)) ⟨k⟩ = k sz es := j5w
theorem d57 {α β : Type} {f : α → β} {l : List α} {i : Int} {k : β → Prop} : @c5t β (l.map f) i ⟨k⟩ = @c5t α l i ⟨fun a => k (f a)⟩ := g50
theorem d6y  : @c91 (.v (.bool true)) ⟨p⟩ ⟨q⟩ = p := rfl
theorem d6x  : @c91 (.v (.bool false)) ⟨p⟩ ⟨q⟩ = q := rfl
theorem d5q {cs} {k : List AV → Prop} : @b7f (.agg cs) ⟨k⟩ = k cs := g19
theorem d5t {kd n} {k : List AV → Prop} : @b7f (.v (.int kd n)) ⟨k⟩ = k [.v (.int kd n)] := g2c
theorem d5r {b} {k : List AV → Prop} : @b7f (.v (.bool b)) ⟨k⟩ = k [.v (.bool b)] := g2a
theorem d5v {a b c} {k : List AV → Prop} : @b7f (.v (.slice a b c)) ⟨k⟩ = k [.v (.slice a b c)] := g2e
theorem d5s {sz es} {k : List AV → Prop} : @b7f (.fs sz es) ⟨k⟩ = k [.fs sz es] := g2b
theorem d5u {a b c} {k : List AV → Prop} : @b7f (.rs a b c) ⟨k⟩ = k [.rs a b c] := g2d
theorem d6s {cs off} : @c50 (.fp cs off) h ⟨k⟩ = k (.fp cs off) := rfl
theorem d6r {f a b} : @c50 (.fn f a b) h ⟨k⟩ = k (.fn f a b) := rfl
theorem d6t {id i off} : @c50 (.rp id i off) h ⟨k⟩ = @b4r ((h.ob id).isSome = true) ⟨k (.rp id i off)⟩ := rfl
theorem d6b {n cs off} : @c9x n (.fp cs off) h ⟨k⟩ = k (.fp cs (off + n)) := rfl
theorem d6c {n id i off} : @c9x n (.rp id i off) h ⟨k⟩ = @b4r ((h.ob id).isSome = true) ⟨k (.rp id i (off + n))⟩ := rfl
theorem d6i {n sz es kd j} : @iix n (.fs sz es) (.v (.int kd j)) h ⟨k⟩ = @b4r (sz = n) ⟨@c5t (List AV) es j ⟨fun cs => k (.fp cs 0)⟩⟩ := rfl
theorem d6j {n id lo len kd j} : @iix n (.rs id lo len) (.v (.int kd j)) h ⟨k⟩ = @iob (h.ob id) ⟨fun sz _ => @b4r (sz = n) ⟨@b4r (0 ≤ j) ⟨@b4r (j < (len : Int)) ⟨k (.rp id (lo + j.toNat) 0)⟩⟩⟩⟩ := rfl
theorem d6k {sz es} {k : Int → Prop} : @c0e (.fs sz es) ⟨k⟩ = k es.length := j1t
theorem c5w {id lo len} {k : Int → Prop} : @c0e (.rs id lo len) ⟨k⟩ = k len := j1v
theorem c5v {k : Int → Prop} : @c0e (.v (.slice none 0 0)) ⟨k⟩ = k 0 := j1u
theorem d59 {vs i} : @d58 (.tup vs) i ⟨k⟩ = @c0d vs i ⟨k⟩ := rfl
theorem d66 {b : Bool} : @iun .not (B b) ⟨k⟩ = k (B (!b)) := j92
theorem d65 {kd a} : @iun .neg (.v (.int kd a)) ⟨k⟩ = k (.v (.int kd (kd.wrap (0 - a)))) := j91
theorem d40 {a : Prop} (ha : a) : @b4r a ⟨p⟩ = p := by simp [b4r, ha]
theorem d43 {e kd a b} : @b2z .add e (.v (.int kd a)) (.v (.int kd b)) ⟨k⟩ = k (.v (.int kd (kd.wrap (a + b)))) := g1t
theorem d5o {e kd a b} : @b2z .sub e (.v (.int kd a)) (.v (.int kd b)) ⟨k⟩ = k (.v (.int kd (kd.wrap (a - b)))) := g13
theorem d5f {e kd a b} : @b2z .mul e (.v (.int kd a)) (.v (.int kd b)) ⟨k⟩ = k (.v (.int kd (kd.wrap (a * b)))) := g11
theorem d48 {e kd} {a b : Int} : @b2z .eql e (.v (.int kd a)) (.v (.int kd b)) ⟨k⟩ = k (B (decide (a = b))) := g1w
theorem d5g {e kd} {a b : Int} : @b2z .neq e (.v (.int kd a)) (.v (.int kd b)) ⟨k⟩ = k (B (decide (¬ a = b))) := g12
theorem d5e {e kd} {a b : Int} : @b2z .lss e (.v (.int kd a)) (.v (.int kd b)) ⟨k⟩ = k (B (decide (a < b))) := g10
theorem d5d {e kd} {a b : Int} : @b2z .leq e (.v (.int kd a)) (.v (.int kd b)) ⟨k⟩ = k (B (decide (a ≤ b))) := g1z
theorem d5c {e kd} {a b : Int} : @b2z .gtr e (.v (.int kd a)) (.v (.int kd b)) ⟨k⟩ = k (B (decide (b < a))) := g1y
theorem d5b {e kd} {a b : Int} : @b2z .geq e (.v (.int kd a)) (.v (.int kd b)) ⟨k⟩ = k (B (decide (b ≤ a))) := g1x
theorem d45 {a b : Bool} : @b2z .eql .bool (B a) (B b) ⟨k⟩ = k (B (b9b a b)) := g1u
theorem d46 {a b : Bool} : @b2z .neq .bool (B a) (B b) ⟨k⟩ = k (B (!(b9b a b))) := g1v
theorem b0k {x : Bool} {p q : Prop} (h1 : x = true → p) (h2 : x = false → q) : @ibr x ⟨p⟩ ⟨q⟩ := ⟨h1, h2⟩
end
def c52 {α : Type} (o : Option α) [k : K1 α] : Prop := ∃ x, o = some x ∧ k.k x
theorem d6w {α : Type} {x : α} {k : α → Prop} : @c52 α (some x) ⟨k⟩ = k x := by simp [c52]
section
variable {O : Orac} {d : Option Nat} {g : Nat} {b0 : Bool} {r : List XO} {K : Slots → Heap → Prop} {t : Slots} {h : Heap} {k : AV → Heap → Prop}
theorem g80 {zs ps} : b0d O (⟨d, none, .build zs ps⟩ :: r) K t h = @iop O (.build zs ps) t h ⟨fun v h' => b0d O r K (b0l t d v) h'⟩ := b2y rfl
theorem g9w {zs ps} : b0d O (⟨d, some (g, b0), .build zs ps⟩ :: r) K t h = @b2t (t g) b0 ⟨@iop O (.build zs ps) (upd t g (B b0)) h ⟨fun v h' => b0d O r K (b0l (upd t g (B b0)) d v) h'⟩⟩ ⟨b0d O r K (b0l (upd t g (B (!b0))) d U) h⟩ ⟨b0d O r K (b0l t d U) h⟩ := b20 rfl
theorem j0p {zs ps} : @iop O (.build zs ps) t h ⟨k⟩ = @c52 _ (b6s (ps.map fun p => (p.1, p.2.1, evT t p.2.2))) ⟨fun qs => @b4r ((qs.all fun p => decide (p.1 + p.2.length ≤ zs.length)) = true) ⟨k (.agg (place (zs.map .v) qs)) h⟩⟩ := by
  simp only [iop, op1, eff, c52, b4r]
  apply propext; constructor
  · rintro ⟨r, h', he, hk⟩
    simp only [Option.bind_eq_some_iff] at he
    obtain ⟨qs, h1, he⟩ := he
    split at he
    · rename_i hc; cases he; exact ⟨qs, h1, hc, hk⟩
    · cases he
  · rintro ⟨qs, h1, h2, h3⟩
    exact ⟨_, _, by simp only [h1, Option.bind_some]; rw [if_pos h2], h3⟩
end
theorem j7d : b6s [] = some [] := rfl
theorem j7c {a n : Nat} {x : AV} {l} : b6s ((a, n, x) :: l) = if b2d x ∧ (cellsOf x).length = n then (b6s l).map ((a, cellsOf x) :: ·) else none := by
  unfold b6s
  rw [List.mapM_cons]
  simp only []
  split
  · rename_i hc
    simp only [Option.bind_eq_bind, Option.bind_some, Option.pure_def]
    generalize (List.mapM (m := Option) _ l) = o
    cases o <;> rfl
  · rfl
theorem j53 {kd n} : b2d (.v (.int kd n)) = true := rfl
theorem j5z {b} : b2d (.v (.bool b)) = true := rfl
theorem j56 {a b c} : b2d (.v (.slice a b c)) = true := rfl
theorem j5y {cs} : b2d (.agg cs) = true := rfl
theorem j52 {a b} : b2d (.fs a b) = true := rfl
theorem j55 {a b c} : b2d (.rs a b c) = true := rfl
theorem g4d {x} : cellsOf (.v x) = [.v x] := rfl
theorem g37 {cs} : cellsOf (.agg cs) = cs := rfl
theorem g4a {a b} : cellsOf (.fs a b) = [.fs a b] := rfl
theorem g4c {a b c} : cellsOf (.rs a b c) = [.rs a b c] := rfl
theorem j7k {cs} : place cs [] = cs := rfl
theorem j7j {cs off ds r} : place cs ((off, ds) :: r) = place (cs.take off ++ ds ++ cs.drop (off + ds.length)) r := rfl
attribute [go_sem] j1m j1e j1l j1i j1h j1g j1k j1j j1f
attribute [go_sem ↓] d6w g80 g9w j0p g4q g9g j0a g9i j0c g8y g9u g8x g9t g8u g9q g9b g95 g9k j0e g9h j0b g87 g92 g88 g93 g8w g9s g9l j0f g9a g94 g85 g90 g9e g98 g81 g9x g82 g9y j05 j07 j0n j0m j0j j00 j09 j06 j0w j0x j0l j1a j0z j0u j03 j0q j0r g83 j0s c92 c5r c5q c5s d6g d6f d6h d6l d6m d64 d53 d54 d6d d6e d6z d6v d57 d6y d6x d5q d5t d5r d5v d5s d5u d6s d6r d6t d6b d6c d6i d6j d6k c5w c5v d59 d66 d65 d40 d43 d5o d5f d48 d5g d5e d5d d5c d5b d45 d46
attribute [go_sem] d6w j7d j7c j53 j5z j56 j5y j52 j55 g4d g37 g4a g4c j7k j7j List.map_cons List.map_nil List.take_zero List.take_succ_cons List.drop_zero List.drop_succ_cons List.nil_append List.cons_append List.length_cons List.length_nil List.all_cons List.all_nil Option.map_some Nat.reduceLeDiff Option.isSome_some decide_true Bool.and_true true_and and_true if_true if_false List.set_cons_zero List.take_nil List.drop_nil List.append_nil c5r c5q c5s d6g d6f d6h d6l d6m d64 d53 d54 d6d d6e d6z d6v d57 d6y d6x d5q d5t d5r d5v d5s d5u d6s d6r d6t d6b d6c d6i d6j d6k c5w c5v d59 d66 d65 d40 d43 d5o d5f d48 d5g d5e d5d d5c d5b d45 d46 Bool.not_true Bool.not_false Nat.reduceAdd Nat.reduceEqDiff not_false_eq_true
end Go.Nw
