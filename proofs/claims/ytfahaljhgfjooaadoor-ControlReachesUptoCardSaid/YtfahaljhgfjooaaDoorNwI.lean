/- The rules, with what comes behind as instance-implicit arguments: there "simp" does not go. -/
import Derived.Test.YtfahaljhgfjooaaDoorNwRules
set_option linter.all false
namespace Go.Nw
class Kp where p : Prop
class K1 (α : Type) where k : α -> Prop
class K2 where k : AV -> Heap -> Prop
class Kr where k : Nat -> List (List AV) -> List AV -> Prop
class Ko where k : Nat -> List (List AV) -> Prop
class Kh where k : Heap -> Prop
def ibr (x : Bool) [p : Kp] [q : Kp] : Prop := br x p.p q.p
def d50 (x : AV) [p : Kp] [q : Kp] : Prop := c33 x p.p q.p
def b2c (x : AV) (b : Bool) [p : Kp] [q : Kp] [q0 : Kp] : Prop := b2w x b p.p q.p q0.p
def iop (O : Orac) (op : XOp) (t : Slots) (h : Heap) [k : K2] : Prop := op1 O op t h k.k
def c9k (agg : Bool) (n : Nat) (x : AV) (h : Heap) [k : K1 AV] : Prop := d03 agg n x h k.k
def d65 (n : Nat) (a x : AV) (h : Heap) [k : Kh] : Prop := d2e n a x h k.k
def c06 (agg : Bool) (n : Nat) (cs : List AV) (off : Nat) [k : K1 AV] : Prop := b44 agg n cs off k.k
def b81 (cs : List AV) (i : Nat) [k : K1 AV] : Prop := b4e cs i k.k
def c4y (o : Option Ob) (i : Nat) [k : Kr] : Prop := b63 o i k.k
def iob (o : Option Ob) [k : Ko] : Prop := obK o k.k
def c4p {α : Type} (l : List α) (i : Int) [k : K1 α] : Prop := b6i l i k.k
def c9o (c : AV) [p : Kp] [q : Kp] : Prop := c1p c p.p q.p
def b6n (x : AV) [k : K1 (List AV)] : Prop := b3s x k.k
def c4v (x : AV) (h : Heap) [k : K1 AV] : Prop := d1g x h k.k
def c9h (n : Nat) (x : AV) (h : Heap) [k : K1 AV] : Prop := c87 n x h k.k
def iix (n : Nat) (x i : AV) (h : Heap) [k : K1 AV] : Prop := c9r n x i h k.k
def b2b (op : BinOp) (e : EqK) (x y : AV) [k : K1 AV] : Prop := b1l op e x y k.k
def iun (op : UnOp) (x : AV) [k : K1 AV] : Prop := unK op x k.k
def b84 (x : AV) [k : K1 Int] : Prop := b5w x k.k
def d54 (x : AV) (i : Nat) [k : K1 AV] : Prop := c8z x i k.k
def b4f (v : AV) [k : K1 AV] : Prop := k.k v
def b35 (a : Prop) [p : Kp] : Prop := a /\ p.p
def c05 (O : Orac) (f : String) (as : List AV) (h : Heap) [k : K2] : Prop := b6e O f as h k.k
def b5k (O : Orac) (f : String) (as : List AV) (h : Heap) [k : K2] : Prop := b6f O f as h k.k
def d5x (O : Orac) (f : AV) (as : List AV) (h : Heap) [k : K2] : Prop := ∃ n a b, callee f = some (n, a, b) /\ b6e O n (a ++ as ++ b) h k.k
section
variable {O : Orac} {d : Option Nat} {g : Nat} {b0 : Bool} {r : List XO} {K : Slots -> Heap -> Prop} {t : Slots} {h : Heap} {k : AV -> Heap -> Prop}
theorem g9z {x} : b0c O (⟨d, none, .mv x⟩ :: r) K t h = @iop O (.mv x) t h ⟨fun v h' => b0c O r K (b0h t d v) h'⟩ := g3k
theorem j02 {x} : b0c O (⟨d, some (g, b0), .mv x⟩ :: r) K t h = @b2c (t g) b0 ⟨@iop O (.mv x) (upd t g (B b0)) h ⟨fun v h' => b0c O r K (b0h (upd t g (B b0)) d v) h'⟩⟩ ⟨b0c O r K (b0h (upd t g (B (!b0))) d U) h⟩ ⟨b0c O r K (b0h t d U) h⟩ := g7e
theorem g91 {c a b} : b0c O (⟨d, none, .pick c a b⟩ :: r) K t h = @iop O (.pick c a b) t h ⟨fun v h' => b0c O r K (b0h t d v) h'⟩ := g3m
theorem j04 {c a b} : b0c O (⟨d, some (g, b0), .pick c a b⟩ :: r) K t h = @b2c (t g) b0 ⟨@iop O (.pick c a b) (upd t g (B b0)) h ⟨fun v h' => b0c O r K (b0h (upd t g (B b0)) d v) h'⟩⟩ ⟨b0c O r K (b0h (upd t g (B (!b0))) d U) h⟩ ⟨b0c O r K (b0h t d U) h⟩ := g7g
theorem g9f {x} : b0c O (⟨d, none, .boxF x⟩ :: r) K t h = @iop O (.boxF x) t h ⟨fun v h' => b0c O r K (b0h t d v) h'⟩ := g22
theorem j0i {x} : b0c O (⟨d, some (g, b0), .boxF x⟩ :: r) K t h = @b2c (t g) b0 ⟨@iop O (.boxF x) (upd t g (B b0)) h ⟨fun v h' => b0c O r K (b0h (upd t g (B b0)) d v) h'⟩⟩ ⟨b0c O r K (b0h (upd t g (B (!b0))) d U) h⟩ ⟨b0c O r K (b0h t d U) h⟩ := g65
theorem g9e {x} : b0c O (⟨d, none, .box x⟩ :: r) K t h = @iop O (.box x) t h ⟨fun v h' => b0c O r K (b0h t d v) h'⟩ := g21
theorem j0h {x} : b0c O (⟨d, some (g, b0), .box x⟩ :: r) K t h = @b2c (t g) b0 ⟨@iop O (.box x) (upd t g (B b0)) h ⟨fun v h' => b0c O r K (b0h (upd t g (B b0)) d v) h'⟩⟩ ⟨b0c O r K (b0h (upd t g (B (!b0))) d U) h⟩ ⟨b0c O r K (b0h t d U) h⟩ := g64
theorem g9b {zs} : b0c O (⟨d, none, .alloc zs⟩ :: r) K t h = @iop O (.alloc zs) t h ⟨fun v h' => b0c O r K (b0h t d v) h'⟩ := g2z
theorem j0e {zs} : b0c O (⟨d, some (g, b0), .alloc zs⟩ :: r) K t h = @b2c (t g) b0 ⟨@iop O (.alloc zs) (upd t g (B b0)) h ⟨fun v h' => b0c O r K (b0h (upd t g (B b0)) d v) h'⟩⟩ ⟨b0c O r K (b0h (upd t g (B (!b0))) d U) h⟩ ⟨b0c O r K (b0h t d U) h⟩ := g62
theorem g9u {agg n a} : b0c O (⟨d, none, .load agg n a⟩ :: r) K t h = @iop O (.load agg n a) t h ⟨fun v h' => b0c O r K (b0h t d v) h'⟩ := g3i
theorem j0x {agg n a} : b0c O (⟨d, some (g, b0), .load agg n a⟩ :: r) K t h = @b2c (t g) b0 ⟨@iop O (.load agg n a) (upd t g (B b0)) h ⟨fun v h' => b0c O r K (b0h (upd t g (B b0)) d v) h'⟩⟩ ⟨b0c O r K (b0h (upd t g (B (!b0))) d U) h⟩ ⟨b0c O r K (b0h t d U) h⟩ := g7c
theorem g94 {n a x} : b0c O (⟨d, none, .store n a x⟩ :: r) K t h = @iop O (.store n a x) t h ⟨fun v h' => b0c O r K (b0h t d v) h'⟩ := g4e
theorem j07 {n a x} : b0c O (⟨d, some (g, b0), .store n a x⟩ :: r) K t h = @b2c (t g) b0 ⟨@iop O (.store n a x) (upd t g (B b0)) h ⟨fun v h' => b0c O r K (b0h (upd t g (B b0)) d v) h'⟩⟩ ⟨b0c O r K (b0h (upd t g (B (!b0))) d U) h⟩ ⟨b0c O r K (b0h t d U) h⟩ := g7h
theorem g90 {x} : b0c O (⟨d, none, .nilck x⟩ :: r) K t h = @iop O (.nilck x) t h ⟨fun v h' => b0c O r K (b0h t d v) h'⟩ := g3l
theorem j03 {x} : b0c O (⟨d, some (g, b0), .nilck x⟩ :: r) K t h = @b2c (t g) b0 ⟨@iop O (.nilck x) (upd t g (B b0)) h ⟨fun v h' => b0c O r K (b0h (upd t g (B b0)) d v) h'⟩⟩ ⟨b0c O r K (b0h (upd t g (B (!b0))) d U) h⟩ ⟨b0c O r K (b0h t d U) h⟩ := g7f
theorem g9o {o x} : b0c O (⟨d, none, .fldA o x⟩ :: r) K t h = @iop O (.fldA o x) t h ⟨fun v h' => b0c O r K (b0h t d v) h'⟩ := g3b
theorem j0r {o x} : b0c O (⟨d, some (g, b0), .fldA o x⟩ :: r) K t h = @b2c (t g) b0 ⟨@iop O (.fldA o x) (upd t g (B b0)) h ⟨fun v h' => b0c O r K (b0h (upd t g (B b0)) d v) h'⟩⟩ ⟨b0c O r K (b0h (upd t g (B (!b0))) d U) h⟩ ⟨b0c O r K (b0h t d U) h⟩ := g69
theorem g9p {n x i} : b0c O (⟨d, none, .ixA n x i⟩ :: r) K t h = @iop O (.ixA n x i) t h ⟨fun v h' => b0c O r K (b0h t d v) h'⟩ := g3c
theorem j0s {n x i} : b0c O (⟨d, some (g, b0), .ixA n x i⟩ :: r) K t h = @b2c (t g) b0 ⟨@iop O (.ixA n x i) (upd t g (B b0)) h ⟨fun v h' => b0c O r K (b0h (upd t g (B b0)) d v) h'⟩⟩ ⟨b0c O r K (b0h (upd t g (B (!b0))) d U) h⟩ ⟨b0c O r K (b0h t d U) h⟩ := g7a
theorem g9d {op e x y} : b0c O (⟨d, none, .bin op e x y⟩ :: r) K t h = @iop O (.bin op e x y) t h ⟨fun v h' => b0c O r K (b0h t d v) h'⟩ := g20
theorem j0g {op e x y} : b0c O (⟨d, some (g, b0), .bin op e x y⟩ :: r) K t h = @b2c (t g) b0 ⟨@iop O (.bin op e x y) (upd t g (B b0)) h ⟨fun v h' => b0c O r K (b0h (upd t g (B b0)) d v) h'⟩⟩ ⟨b0c O r K (b0h (upd t g (B (!b0))) d U) h⟩ ⟨b0c O r K (b0h t d U) h⟩ := g63
theorem g95 {op x} : b0c O (⟨d, none, .un op x⟩ :: r) K t h = @iop O (.un op x) t h ⟨fun v h' => b0c O r K (b0h t d v) h'⟩ := g4f
theorem j08 {op x} : b0c O (⟨d, some (g, b0), .un op x⟩ :: r) K t h = @b2c (t g) b0 ⟨@iop O (.un op x) (upd t g (B b0)) h ⟨fun v h' => b0c O r K (b0h (upd t g (B b0)) d v) h'⟩⟩ ⟨b0c O r K (b0h (upd t g (B (!b0))) d U) h⟩ ⟨b0c O r K (b0h t d U) h⟩ := g7i
theorem g9t {x} : b0c O (⟨d, none, .len false x⟩ :: r) K t h = @iop O (.len false x) t h ⟨fun v h' => b0c O r K (b0h t d v) h'⟩ := g3h
theorem j0w {x} : b0c O (⟨d, some (g, b0), .len false x⟩ :: r) K t h = @b2c (t g) b0 ⟨@iop O (.len false x) (upd t g (B b0)) h ⟨fun v h' => b0c O r K (b0h (upd t g (B b0)) d v) h'⟩⟩ ⟨b0c O r K (b0h (upd t g (B (!b0))) d U) h⟩ ⟨b0c O r K (b0h t d U) h⟩ := g7b
theorem g9m {x i} : b0c O (⟨d, none, .ext x i⟩ :: r) K t h = @iop O (.ext x i) t h ⟨fun v h' => b0c O r K (b0h t d v) h'⟩ := g3a
theorem j0p {x i} : b0c O (⟨d, some (g, b0), .ext x i⟩ :: r) K t h = @b2c (t g) b0 ⟨@iop O (.ext x i) (upd t g (B b0)) h ⟨fun v h' => b0c O r K (b0h (upd t g (B b0)) d v) h'⟩⟩ ⟨b0c O r K (b0h (upd t g (B (!b0))) d U) h⟩ ⟨b0c O r K (b0h t d U) h⟩ := g68
theorem g9x {f a b} : b0c O (⟨d, none, .mkfn f a b⟩ :: r) K t h = @iop O (.mkfn f a b) t h ⟨fun v h' => b0c O r K (b0h t d v) h'⟩ := g3j
theorem j00 {f a b} : b0c O (⟨d, some (g, b0), .mkfn f a b⟩ :: r) K t h = @b2c (t g) b0 ⟨@iop O (.mkfn f a b) (upd t g (B b0)) h ⟨fun v h' => b0c O r K (b0h (upd t g (B b0)) d v) h'⟩⟩ ⟨b0c O r K (b0h (upd t g (B (!b0))) d U) h⟩ ⟨b0c O r K (b0h t d U) h⟩ := g7d
theorem g9i {f l} : b0c O (⟨d, none, .call f l⟩ :: r) K t h = @iop O (.call f l) t h ⟨fun v h' => b0c O r K (b0h t d v) h'⟩ := g23
theorem j0l {f l} : b0c O (⟨d, some (g, b0), .call f l⟩ :: r) K t h = @b2c (t g) b0 ⟨@iop O (.call f l) (upd t g (B b0)) h ⟨fun v h' => b0c O r K (b0h (upd t g (B b0)) d v) h'⟩⟩ ⟨b0c O r K (b0h (upd t g (B (!b0))) d U) h⟩ ⟨b0c O r K (b0h t d U) h⟩ := g66
theorem g9k {f l} : b0c O (⟨d, none, .callw f l⟩ :: r) K t h = @iop O (.callw f l) t h ⟨fun v h' => b0c O r K (b0h t d v) h'⟩ := g41
theorem g9j {f l} : b0c O (⟨d, none, .callv f l⟩ :: r) K t h = @iop O (.callv f l) t h ⟨fun v h' => b0c O r K (b0h t d v) h'⟩ := g24
theorem j0m {f l} : b0c O (⟨d, some (g, b0), .callv f l⟩ :: r) K t h = @b2c (t g) b0 ⟨@iop O (.callv f l) (upd t g (B b0)) h ⟨fun v h' => b0c O r K (b0h (upd t g (B b0)) d v) h'⟩⟩ ⟨b0c O r K (b0h (upd t g (B (!b0))) d U) h⟩ ⟨b0c O r K (b0h t d U) h⟩ := g67
theorem j13 {x} : @iop O (.mv x) t h ⟨k⟩ = @b4f (evT t x) ⟨fun v => k v h⟩ := j72
theorem j15 {c a b} : @iop O (.pick c a b) t h ⟨k⟩ = @c9o (evT t c) ⟨@b4f (evT t a) ⟨fun v => k v h⟩⟩ ⟨@b4f (evT t b) ⟨fun v => k v h⟩⟩ := j74
theorem j1j {x} : @iop O (.boxF x) t h ⟨k⟩ = @b6n (evT t x) ⟨fun cs => k (.fp cs 0) h⟩ := j7t
theorem j1i {x} : @iop O (.box x) t h ⟨k⟩ = @b6n (evT t x) ⟨fun cs => @b35 (cs.isEmpty = false) ⟨k (.rp h.nx 0 0) (h.new (cs.length, [cs]))⟩⟩ := j7s
theorem j34 {a : AV} {l : List AV} : ((a :: l).isEmpty = false) = True := by simp
theorem j1f {zs} : @iop O (.alloc zs) t h ⟨k⟩ = k (.rp h.nx 0 0) (h.new (zs.length, [zs.map .v])) := j7q
theorem j1y {agg n a} : @iop O (.load agg n a) t h ⟨k⟩ = @c9k agg n (evT t a) h ⟨fun v => k v h⟩ := j70
theorem j18 {n a x} : @iop O (.store n a x) t h ⟨k⟩ = @d65 n (evT t a) (evT t x) h ⟨fun h' => k .dead h'⟩ := j75
theorem j14 {x} : @iop O (.nilck x) t h ⟨k⟩ = @c4v (evT t x) h ⟨fun v => k v h⟩ := j73
theorem j1s {o x} : @iop O (.fldA o x) t h ⟨k⟩ = @c9h o (evT t x) h ⟨fun v => k v h⟩ := j7x
theorem j1t {n x i} : @iop O (.ixA n x i) t h ⟨k⟩ = @iix n (evT t x) (evT t i) h ⟨fun v => k v h⟩ := j7y
theorem j1h {op e x y} : @iop O (.bin op e x y) t h ⟨k⟩ = @b2b op e (evT t x) (evT t y) ⟨fun v => k v h⟩ := j7r
theorem j19 {op x} : @iop O (.un op x) t h ⟨k⟩ = @iun op (evT t x) ⟨fun v => k v h⟩ := j76
theorem j1x {x} : @iop O (.len false x) t h ⟨k⟩ = @b84 (evT t x) ⟨fun n => k (I n) h⟩ := j7z
theorem j1q {x i} : @iop O (.ext x i) t h ⟨k⟩ = @d54 (evT t x) i ⟨fun v => k v h⟩ := j7w
theorem j11 {f a b} : @iop O (.mkfn f a b) t h ⟨k⟩ = k (.fn f (a.map (evT t)) (b.map (evT t))) h := j71
theorem j1m {f l} : @iop O (.call f l) t h ⟨k⟩ = @c05 O f (l.map (evT t)) h ⟨k⟩ := j7u
theorem j1o {f l} : @iop O (.callw f l) t h ⟨k⟩ = @b5k O f (l.map (evT t)) h ⟨k⟩ := rfl
theorem j1n {f l} : @iop O (.callv f l) t h ⟨k⟩ = @d5x O (evT t f) (l.map (evT t)) h ⟨k⟩ := j7v
theorem j2n {c a b} {Q : XExit -> Slots -> Heap -> Prop} : cw O (.cond c a b) Q t h = @d50 (evT t c) ⟨cw O a Q t h⟩ ⟨cw O b Q t h⟩ := g44
end
section
variable {k : AV -> Prop} {h : Heap} {p q q0 : Prop}
theorem j2m {x} : @b4f (.v x) ⟨k⟩ = k (.v x) := rfl
theorem j2d {x} : @b4f (.agg x) ⟨k⟩ = k (.agg x) := rfl
theorem j2l {x} : @b4f (.tup x) ⟨k⟩ = k (.tup x) := rfl
theorem j2h {a b} : @b4f (.fs a b) ⟨k⟩ = k (.fs a b) := rfl
theorem j2g {a b} : @b4f (.fp a b) ⟨k⟩ = k (.fp a b) := rfl
theorem j2f {a b c} : @b4f (.fn a b c) ⟨k⟩ = k (.fn a b c) := rfl
theorem j2k {a b c} : @b4f (.rs a b c) ⟨k⟩ = k (.rs a b c) := rfl
theorem j2j {a b c} : @b4f (.rp a b c) ⟨k⟩ = k (.rp a b c) := rfl
theorem j2e : @b4f .dead ⟨k⟩ = k .dead := rfl
theorem c09 (v : AV) : @b4f v ⟨k⟩ = k v := rfl
theorem d5v  : @ibr true ⟨p⟩ ⟨q⟩ = p := g2h
theorem d5u  : @ibr false ⟨p⟩ ⟨q⟩ = q := g2g
theorem d51 {b} : @d50 (.v (.bool b)) ⟨p⟩ ⟨q⟩ = @ibr b ⟨p⟩ ⟨q⟩ := g4y
theorem d6c {y} : @b2c (.v (.bool y)) true ⟨p⟩ ⟨q⟩ ⟨q0⟩ = @ibr y ⟨p⟩ ⟨q⟩ := g7r
theorem d6b {y} : @b2c (.v (.bool y)) false ⟨p⟩ ⟨q⟩ ⟨q0⟩ = @ibr y ⟨q⟩ ⟨p⟩ := g7q
theorem d6d {b} : @b2c U b ⟨p⟩ ⟨q⟩ ⟨q0⟩ = q0 := rfl
theorem d6k {agg n cs off} : @c9k agg n (.fp cs off) h ⟨k⟩ = @c06 agg n cs off ⟨k⟩ := rfl
theorem d6l {agg n id i off} : @c9k agg n (.rp id i off) h ⟨k⟩ = @c4y (h.ob id) i ⟨fun _ _ cs => @c06 agg n cs off ⟨k⟩⟩ := rfl
theorem d66 {n id i off x} {k : Heap -> Prop} : @d65 n (.rp id i off) x h ⟨k⟩ = @c4y (h.ob id) i ⟨fun sz es cs => b13 x = true /\ (cellsOf x).length = n /\ off + n <= cs.length /\ k (h.upd id (some (sz, es.set i (cs.take off ++ cellsOf x ++ cs.drop (off + n)))))⟩ := rfl
theorem d5y {n cs off} : @c06 false n cs off ⟨k⟩ = @b81 cs off ⟨k⟩ := g4k
theorem d5z {n cs off} : @c06 true n cs off ⟨k⟩ = @b35 (off + n <= cs.length) ⟨k (.agg ((cs.drop off).take n))⟩ := g4l
theorem d59 {c cs} : @b81 (c :: cs) 0 ⟨k⟩ = k c := g7j
theorem d6a {c cs n} : @b81 (c :: cs) (n + 1) ⟨k⟩ = @b81 cs n ⟨k⟩ := g7k
theorem d61 {sz cs} {k : Nat -> List (List AV) -> List AV -> Prop} : @c4y (some (sz, [cs])) 0 ⟨k⟩ = k sz [cs] cs := j9l
theorem d6x {sz es} {k : Nat -> List (List AV) -> Prop} : @iob (some (sz, es)) ⟨k⟩ = k sz es := j7e
theorem d53 {α β : Type} {f : α -> β} {l : List α} {i : Int} {k : β -> Prop} : @c4p β (l.map f) i ⟨k⟩ = @c4p α l i ⟨fun a => k (f a)⟩ := g58
theorem d60  : @c9o (.v (.bool true)) ⟨p⟩ ⟨q⟩ = p := rfl
theorem d6z  : @c9o (.v (.bool false)) ⟨p⟩ ⟨q⟩ = q := rfl
theorem d5o {cs} {k : List AV -> Prop} : @b6n (.agg cs) ⟨k⟩ = k cs := g2a
theorem d5r {kd n} {k : List AV -> Prop} : @b6n (.v (.int kd n)) ⟨k⟩ = k [.v (.int kd n)] := g2d
theorem d5p {b} {k : List AV -> Prop} : @b6n (.v (.bool b)) ⟨k⟩ = k [.v (.bool b)] := g2b
theorem d5t {a b c} {k : List AV -> Prop} : @b6n (.v (.slice a b c)) ⟨k⟩ = k [.v (.slice a b c)] := g2f
theorem d5q {sz es} {k : List AV -> Prop} : @b6n (.fs sz es) ⟨k⟩ = k [.fs sz es] := g2c
theorem d5s {a b c} {k : List AV -> Prop} : @b6n (.rs a b c) ⟨k⟩ = k [.rs a b c] := g2e
theorem d6u {cs off} : @c4v (.fp cs off) h ⟨k⟩ = k (.fp cs off) := rfl
theorem d6t {f a b} : @c4v (.fn f a b) h ⟨k⟩ = k (.fn f a b) := rfl
theorem d6v {id i off} : @c4v (.rp id i off) h ⟨k⟩ = @b35 ((h.ob id).isSome = true) ⟨k (.rp id i off)⟩ := rfl
theorem d57 {n cs off} : @c9h n (.fp cs off) h ⟨k⟩ = k (.fp cs (off + n)) := rfl
theorem d58 {n id i off} : @c9h n (.rp id i off) h ⟨k⟩ = @b35 ((h.ob id).isSome = true) ⟨k (.rp id i (off + n))⟩ := rfl
theorem d6h {n sz es kd j} : @iix n (.fs sz es) (.v (.int kd j)) h ⟨k⟩ = @b35 (sz = n) ⟨@c4p (List AV) es j ⟨fun cs => k (.fp cs 0)⟩⟩ := rfl
theorem d6i {n id lo len kd j} : @iix n (.rs id lo len) (.v (.int kd j)) h ⟨k⟩ = @iob (h.ob id) ⟨fun sz _ => @b35 (sz = n) ⟨@b35 (0 <= j) ⟨@b35 (j < (len : Int)) ⟨k (.rp id (lo + j.toNat) 0)⟩⟩⟩⟩ := rfl
theorem d6j {sz es} {k : Int -> Prop} : @b84 (.fs sz es) ⟨k⟩ = k es.length := j2w
theorem c4s {id lo len} {k : Int -> Prop} : @b84 (.rs id lo len) ⟨k⟩ = k len := j2y
theorem c4r {k : Int -> Prop} : @b84 (.v (.slice none 0 0)) ⟨k⟩ = k 0 := j2x
theorem d55 {vs i} : @d54 (.tup vs) i ⟨k⟩ = @b81 vs i ⟨k⟩ := rfl
theorem d68 {b : Bool} : @iun .not (B b) ⟨k⟩ = k (B (!b)) := l06
theorem d67 {kd a} : @iun .neg (.v (.int kd a)) ⟨k⟩ = k (.v (.int kd (kd.wrap (0 - a)))) := l05
theorem d4u {a : Prop} (ha : a) : @b35 a ⟨p⟩ = p := by simp [b35, ha]
theorem d4x {e kd a b} : @b2b .add e (.v (.int kd a)) (.v (.int kd b)) ⟨k⟩ = k (.v (.int kd (kd.wrap (a + b)))) := g1y
theorem d5m {e kd a b} : @b2b .sub e (.v (.int kd a)) (.v (.int kd b)) ⟨k⟩ = k (.v (.int kd (kd.wrap (a - b)))) := g18
theorem d5a {e kd a b} : @b2b .mul e (.v (.int kd a)) (.v (.int kd b)) ⟨k⟩ = k (.v (.int kd (kd.wrap (a * b)))) := g16
theorem d42 {e kd} {a b : Int} : @b2b .eql e (.v (.int kd a)) (.v (.int kd b)) ⟨k⟩ = k (B (decide (a = b))) := g11
theorem d5b {e kd} {a b : Int} : @b2b .neq e (.v (.int kd a)) (.v (.int kd b)) ⟨k⟩ = k (B (decide (¬ a = b))) := g17
theorem d49 {e kd} {a b : Int} : @b2b .lss e (.v (.int kd a)) (.v (.int kd b)) ⟨k⟩ = k (B (decide (a < b))) := g15
theorem d48 {e kd} {a b : Int} : @b2b .leq e (.v (.int kd a)) (.v (.int kd b)) ⟨k⟩ = k (B (decide (a <= b))) := g14
theorem d47 {e kd} {a b : Int} : @b2b .gtr e (.v (.int kd a)) (.v (.int kd b)) ⟨k⟩ = k (B (decide (b < a))) := g13
theorem d46 {e kd} {a b : Int} : @b2b .geq e (.v (.int kd a)) (.v (.int kd b)) ⟨k⟩ = k (B (decide (b <= a))) := g12
theorem d4z {a b : Bool} : @b2b .eql .bool (B a) (B b) ⟨k⟩ = k (B (b6d a b)) := g1z
theorem d40 {a b : Bool} : @b2b .neq .bool (B a) (B b) ⟨k⟩ = k (B (!(b6d a b))) := g10
theorem b0j {x : Bool} {p q : Prop} (h1 : x = true -> p) (h2 : x = false -> q) : @ibr x ⟨p⟩ ⟨q⟩ := ⟨h1, h2⟩
end
def c4x {α : Type} (o : Option α) [k : K1 α] : Prop := ∃ x, o = some x /\ k.k x
theorem d6y {α : Type} {x : α} {k : α -> Prop} : @c4x α (some x) ⟨k⟩ = k x := by simp [c4x]
section
variable {O : Orac} {d : Option Nat} {g : Nat} {b0 : Bool} {r : List XO} {K : Slots -> Heap -> Prop} {t : Slots} {h : Heap} {k : AV -> Heap -> Prop}
theorem g9h {zs ps} : b0c O (⟨d, none, .build zs ps⟩ :: r) K t h = @iop O (.build zs ps) t h ⟨fun v h' => b0c O r K (b0h t d v) h'⟩ := b2i rfl
theorem j0k {zs ps} : b0c O (⟨d, some (g, b0), .build zs ps⟩ :: r) K t h = @b2c (t g) b0 ⟨@iop O (.build zs ps) (upd t g (B b0)) h ⟨fun v h' => b0c O r K (b0h (upd t g (B b0)) d v) h'⟩⟩ ⟨b0c O r K (b0h (upd t g (B (!b0))) d U) h⟩ ⟨b0c O r K (b0h t d U) h⟩ := b2g rfl
theorem j1l {zs ps} : @iop O (.build zs ps) t h ⟨k⟩ = @c4x _ (b52 (ps.map fun p => (p.1, p.2.1, evT t p.2.2))) ⟨fun qs => @b35 ((qs.all fun p => decide (p.1 + p.2.length <= zs.length)) = true) ⟨k (.agg (place (zs.map .v) qs)) h⟩⟩ := by
 simp only [iop, op1, eff, c4x, b35]
 apply propext; constructor
 ·rintro ⟨r, h', he, hk⟩
  simp only [Option.bind_eq_some_iff] at he
  obtain ⟨qs, h1, he⟩ := he
  split at he
  ·rename_i hc; cases he; exact ⟨qs, h1, hc, hk⟩
  ·cases he
 ·rintro ⟨qs, h1, h2, h3⟩
  exact ⟨_, _, by simp only [h1, Option.bind_some]; rw [if_pos h2], h3⟩
end
theorem j8t : b52 [] = some [] := rfl
theorem j8s {a n : Nat} {x : AV} {l} : b52 ((a, n, x) :: l) = if b13 x /\ (cellsOf x).length = n then (b52 l).map ((a, cellsOf x) :: ·) else none := by
 unfold b52
 rw [List.mapM_cons]
 simp only []
 split
 ·rename_i hc
  simp only [Option.bind_eq_bind, Option.bind_some, Option.pure_def]
  generalize (List.mapM (m := Option) _ l) = o
  cases o <;> rfl
 ·rfl
theorem j7l {kd n} : b13 (.v (.int kd n)) = true := rfl
theorem j7h {b} : b13 (.v (.bool b)) = true := rfl
theorem j7o {a b c} : b13 (.v (.slice a b c)) = true := rfl
theorem j7g {cs} : b13 (.agg cs) = true := rfl
theorem j7k {a b} : b13 (.fs a b) = true := rfl
theorem j7n {a b c} : b13 (.rs a b c) = true := rfl
theorem g4s {x} : cellsOf (.v x) = [.v x] := rfl
theorem g4m {cs} : cellsOf (.agg cs) = cs := rfl
theorem g4p {a b} : cellsOf (.fs a b) = [.fs a b] := rfl
theorem g4r {a b c} : cellsOf (.rs a b c) = [.rs a b c] := rfl
theorem j8x {cs} : place cs [] = cs := rfl
theorem j8w {cs off ds r} : place cs ((off, ds) :: r) = place (cs.take off ++ ds ++ cs.drop (off + ds.length)) r := rfl
attribute [go_sem] j2m j2d j2l j2h j2g j2f j2k j2j j2e
attribute [go_sem ↓] d6y g9h j0k j1l g43 g9z j02 g91 j04 g9f j0i g9e j0h g9b j0e g9u j0x g94 j07 g90 j03 g9o j0r g9p j0s g9d j0g g95 j08 g9t j0w g9m j0p g9x j00 g9i j0l g9j j0m j13 j15 j1j j1i j1f j1y j18 j14 j1s j1t j1h j19 j1x j1q j11 j1m j1n g9k j1o j2n d5v d5u d51 d6c d6b d6d d6k d6l d66 d5y d5z d59 d6a d61 d6x d53 d60 d6z d5o d5r d5p d5t d5q d5s d6u d6t d6v d57 d58 d6h d6i d6j c4s c4r d55 d68 d67 d4u d4x d5m d5a d42 d5b d49 d48 d47 d46 d4z d40
attribute [go_sem] j34 d6y j8t j8s j7l j7h j7o j7g j7k j7n g4s g4m g4p g4r j8x j8w List.map_cons List.map_nil List.take_zero List.take_succ_cons List.drop_zero List.drop_succ_cons List.nil_append List.cons_append List.length_cons List.length_nil List.all_cons List.all_nil Option.map_some Nat.reduceLeDiff Option.isSome_some decide_true Bool.and_true true_and and_true if_true if_false List.set_cons_zero List.take_nil List.drop_nil List.append_nil d5v d5u d51 d6c d6b d6d d6k d6l d66 d5y d5z d59 d6a d61 d6x d53 d60 d6z d5o d5r d5p d5t d5q d5s d6u d6t d6v d57 d58 d6h d6i d6j c4s c4r d55 d68 d67 d4u d4x d5m d5a d42 d5b d49 d48 d47 d46 d4z d40 Bool.not_true Bool.not_false Nat.reduceAdd Nat.reduceEqDiff not_false_eq_true
end Go.Nw
