/- The rules, with what comes behind as instance-implicit arguments: there "simp" does not go. -/
import Derived.Test.YtfahaljhgfjooaaDoorNwRules
set_option linter.all false
namespace Go.Nw
class Kp where p : Prop
class K1 (α : Type) where k : α -> Prop
class K2 where k : AV -> Heap -> Prop
class Kr where k : Nat -> List (List AV) -> List AV -> Prop
class Ko where k : Nat -> List (List AV) -> Prop
class Kh where k : Heap -> Prop
def ibr (x : Bool) [p : Kp] [q : Kp] : Prop := br x p.p q.p
def d4l (x : AV) [p : Kp] [q : Kp] : Prop := c3f x p.p q.p
def b1x (x : AV) (b : Bool) [p : Kp] [q : Kp] [q0 : Kp] : Prop := b2r x b p.p q.p q0.p
def iop (O : Orac) (op : XOp) (t : Slots) (h : Heap) [k : K2] : Prop := op1 O op t h k.k
def c8h (agg : Bool) (n : Nat) (x : AV) (h : Heap) [k : K1 AV] : Prop := c9p agg n x h k.k
def d5s (n : Nat) (a x : AV) (h : Heap) [k : Kh] : Prop := d01 n a x h k.k
def c0k (agg : Bool) (n : Nat) (cs : List AV) (off : Nat) [k : K1 AV] : Prop := b4w agg n cs off k.k
def b8w (cs : List AV) (i : Nat) [k : K1 AV] : Prop := b39 cs i k.k
def c38 (o : Option Ob) (i : Nat) [k : Kr] : Prop := b6w o i k.k
def iob (o : Option Ob) [k : Ko] : Prop := obK o k.k
def c30 {α : Type} (l : List α) (i : Int) [k : K1 α] : Prop := b56 l i k.k
def c8k (c : AV) [p : Kp] [q : Kp] : Prop := c02 c p.p q.p
def b6e (x : AV) [k : K1 (List AV)] : Prop := b3r x k.k
def c36 (x : AV) (h : Heap) [k : K1 AV] : Prop := c93 x h k.k
def c8d (n : Nat) (x : AV) (h : Heap) [k : K1 AV] : Prop := c74 n x h k.k
def iix (n : Nat) (x i : AV) (h : Heap) [k : K1 AV] : Prop := c8n n x i h k.k
def b1w (op : BinOp) (e : EqK) (x y : AV) [k : K1 AV] : Prop := b1j op e x y k.k
def iun (op : UnOp) (x : AV) [k : K1 AV] : Prop := unK op x k.k
def c34 (x : AV) [k : K1 Int] : Prop := b5l x k.k
def d4p (x : AV) (i : Nat) [k : K1 AV] : Prop := c7w x i k.k
def b4a (v : AV) [k : K1 AV] : Prop := k.k v
def b31 (a : Prop) [p : Kp] : Prop := a /\ p.p
def c0j (O : Orac) (f : String) (as : List AV) (h : Heap) [k : K2] : Prop := b5z O f as h k.k
def b5i (O : Orac) (f : String) (as : List AV) (h : Heap) [k : K2] : Prop := b50 O f as h k.k
def d4h (O : Orac) (f : AV) (as : List AV) (h : Heap) [k : K2] : Prop := ∃ n a b, callee f = some (n, a, b) /\ b5z O n (a ++ as ++ b) h k.k
section
variable {O : Orac} {d : Option Nat} {g : Nat} {b0 : Bool} {r : List XO} {K : Slots -> Heap -> Prop} {t : Slots} {h : Heap} {k : AV -> Heap -> Prop}
theorem g7s {x} : b0c O (⟨d, none, .mv x⟩ :: r) K t h = @iop O (.mv x) t h ⟨fun v h' => b0c O r K (b0g t d v) h'⟩ := g1s
theorem g8u {x} : b0c O (⟨d, some (g, b0), .mv x⟩ :: r) K t h = @b1x (t g) b0 ⟨@iop O (.mv x) (upd t g (B b0)) h ⟨fun v h' => b0c O r K (b0g (upd t g (B b0)) d v) h'⟩⟩ ⟨b0c O r K (b0g (upd t g (B (!b0))) d U) h⟩ ⟨b0c O r K (b0g t d U) h⟩ := g5c
theorem g7u {c a b} : b0c O (⟨d, none, .pick c a b⟩ :: r) K t h = @iop O (.pick c a b) t h ⟨fun v h' => b0c O r K (b0g t d v) h'⟩ := g1u
theorem g8w {c a b} : b0c O (⟨d, some (g, b0), .pick c a b⟩ :: r) K t h = @b1x (t g) b0 ⟨@iop O (.pick c a b) (upd t g (B b0)) h ⟨fun v h' => b0c O r K (b0g (upd t g (B b0)) d v) h'⟩⟩ ⟨b0c O r K (b0g (upd t g (B (!b0))) d U) h⟩ ⟨b0c O r K (b0g t d U) h⟩ := g5e
theorem g68 {x} : b0c O (⟨d, none, .boxF x⟩ :: r) K t h = @iop O (.boxF x) t h ⟨fun v h' => b0c O r K (b0g t d v) h'⟩ := g1e
theorem g8a {x} : b0c O (⟨d, some (g, b0), .boxF x⟩ :: r) K t h = @b1x (t g) b0 ⟨@iop O (.boxF x) (upd t g (B b0)) h ⟨fun v h' => b0c O r K (b0g (upd t g (B b0)) d v) h'⟩⟩ ⟨b0c O r K (b0g (upd t g (B (!b0))) d U) h⟩ ⟨b0c O r K (b0g t d U) h⟩ := g43
theorem g67 {x} : b0c O (⟨d, none, .box x⟩ :: r) K t h = @iop O (.box x) t h ⟨fun v h' => b0c O r K (b0g t d v) h'⟩ := g1d
theorem g79 {x} : b0c O (⟨d, some (g, b0), .box x⟩ :: r) K t h = @b1x (t g) b0 ⟨@iop O (.box x) (upd t g (B b0)) h ⟨fun v h' => b0c O r K (b0g (upd t g (B b0)) d v) h'⟩⟩ ⟨b0c O r K (b0g (upd t g (B (!b0))) d U) h⟩ ⟨b0c O r K (b0g t d U) h⟩ := g42
theorem g64 {zs} : b0c O (⟨d, none, .alloc zs⟩ :: r) K t h = @iop O (.alloc zs) t h ⟨fun v h' => b0c O r K (b0g t d v) h'⟩ := g1b
theorem g76 {zs} : b0c O (⟨d, some (g, b0), .alloc zs⟩ :: r) K t h = @b1x (t g) b0 ⟨@iop O (.alloc zs) (upd t g (B b0)) h ⟨fun v h' => b0c O r K (b0g (upd t g (B b0)) d v) h'⟩⟩ ⟨b0c O r K (b0g (upd t g (B (!b0))) d U) h⟩ ⟨b0c O r K (b0g t d U) h⟩ := g40
theorem g7n {agg n a} : b0c O (⟨d, none, .load agg n a⟩ :: r) K t h = @iop O (.load agg n a) t h ⟨fun v h' => b0c O r K (b0g t d v) h'⟩ := g1q
theorem g8p {agg n a} : b0c O (⟨d, some (g, b0), .load agg n a⟩ :: r) K t h = @b1x (t g) b0 ⟨@iop O (.load agg n a) (upd t g (B b0)) h ⟨fun v h' => b0c O r K (b0g (upd t g (B b0)) d v) h'⟩⟩ ⟨b0c O r K (b0g (upd t g (B (!b0))) d U) h⟩ ⟨b0c O r K (b0g t d U) h⟩ := g5a
theorem g7x {n a x} : b0c O (⟨d, none, .store n a x⟩ :: r) K t h = @iop O (.store n a x) t h ⟨fun v h' => b0c O r K (b0g t d v) h'⟩ := g2l
theorem g8z {n a x} : b0c O (⟨d, some (g, b0), .store n a x⟩ :: r) K t h = @b1x (t g) b0 ⟨@iop O (.store n a x) (upd t g (B b0)) h ⟨fun v h' => b0c O r K (b0g (upd t g (B b0)) d v) h'⟩⟩ ⟨b0c O r K (b0g (upd t g (B (!b0))) d U) h⟩ ⟨b0c O r K (b0g t d U) h⟩ := g5f
theorem g7t {x} : b0c O (⟨d, none, .nilck x⟩ :: r) K t h = @iop O (.nilck x) t h ⟨fun v h' => b0c O r K (b0g t d v) h'⟩ := g1t
theorem g8v {x} : b0c O (⟨d, some (g, b0), .nilck x⟩ :: r) K t h = @b1x (t g) b0 ⟨@iop O (.nilck x) (upd t g (B b0)) h ⟨fun v h' => b0c O r K (b0g (upd t g (B b0)) d v) h'⟩⟩ ⟨b0c O r K (b0g (upd t g (B (!b0))) d U) h⟩ ⟨b0c O r K (b0g t d U) h⟩ := g5d
theorem g7h {o x} : b0c O (⟨d, none, .fldA o x⟩ :: r) K t h = @iop O (.fldA o x) t h ⟨fun v h' => b0c O r K (b0g t d v) h'⟩ := g1k
theorem g8j {o x} : b0c O (⟨d, some (g, b0), .fldA o x⟩ :: r) K t h = @b1x (t g) b0 ⟨@iop O (.fldA o x) (upd t g (B b0)) h ⟨fun v h' => b0c O r K (b0g (upd t g (B b0)) d v) h'⟩⟩ ⟨b0c O r K (b0g (upd t g (B (!b0))) d U) h⟩ ⟨b0c O r K (b0g t d U) h⟩ := g47
theorem g7i {n x i} : b0c O (⟨d, none, .ixA n x i⟩ :: r) K t h = @iop O (.ixA n x i) t h ⟨fun v h' => b0c O r K (b0g t d v) h'⟩ := g1l
theorem g8k {n x i} : b0c O (⟨d, some (g, b0), .ixA n x i⟩ :: r) K t h = @b1x (t g) b0 ⟨@iop O (.ixA n x i) (upd t g (B b0)) h ⟨fun v h' => b0c O r K (b0g (upd t g (B b0)) d v) h'⟩⟩ ⟨b0c O r K (b0g (upd t g (B (!b0))) d U) h⟩ ⟨b0c O r K (b0g t d U) h⟩ := g48
theorem g66 {op e x y} : b0c O (⟨d, none, .bin op e x y⟩ :: r) K t h = @iop O (.bin op e x y) t h ⟨fun v h' => b0c O r K (b0g t d v) h'⟩ := g1c
theorem g78 {op e x y} : b0c O (⟨d, some (g, b0), .bin op e x y⟩ :: r) K t h = @b1x (t g) b0 ⟨@iop O (.bin op e x y) (upd t g (B b0)) h ⟨fun v h' => b0c O r K (b0g (upd t g (B b0)) d v) h'⟩⟩ ⟨b0c O r K (b0g (upd t g (B (!b0))) d U) h⟩ ⟨b0c O r K (b0g t d U) h⟩ := g41
theorem g7y {op x} : b0c O (⟨d, none, .un op x⟩ :: r) K t h = @iop O (.un op x) t h ⟨fun v h' => b0c O r K (b0g t d v) h'⟩ := g2m
theorem g80 {op x} : b0c O (⟨d, some (g, b0), .un op x⟩ :: r) K t h = @b1x (t g) b0 ⟨@iop O (.un op x) (upd t g (B b0)) h ⟨fun v h' => b0c O r K (b0g (upd t g (B b0)) d v) h'⟩⟩ ⟨b0c O r K (b0g (upd t g (B (!b0))) d U) h⟩ ⟨b0c O r K (b0g t d U) h⟩ := g5g
theorem g7m {x} : b0c O (⟨d, none, .len false x⟩ :: r) K t h = @iop O (.len false x) t h ⟨fun v h' => b0c O r K (b0g t d v) h'⟩ := g1p
theorem g8o {x} : b0c O (⟨d, some (g, b0), .len false x⟩ :: r) K t h = @b1x (t g) b0 ⟨@iop O (.len false x) (upd t g (B b0)) h ⟨fun v h' => b0c O r K (b0g (upd t g (B b0)) d v) h'⟩⟩ ⟨b0c O r K (b0g (upd t g (B (!b0))) d U) h⟩ ⟨b0c O r K (b0g t d U) h⟩ := g49
theorem g7f {x i} : b0c O (⟨d, none, .ext x i⟩ :: r) K t h = @iop O (.ext x i) t h ⟨fun v h' => b0c O r K (b0g t d v) h'⟩ := g1j
theorem g8h {x i} : b0c O (⟨d, some (g, b0), .ext x i⟩ :: r) K t h = @b1x (t g) b0 ⟨@iop O (.ext x i) (upd t g (B b0)) h ⟨fun v h' => b0c O r K (b0g (upd t g (B b0)) d v) h'⟩⟩ ⟨b0c O r K (b0g (upd t g (B (!b0))) d U) h⟩ ⟨b0c O r K (b0g t d U) h⟩ := g46
theorem g7q {f a b} : b0c O (⟨d, none, .mkfn f a b⟩ :: r) K t h = @iop O (.mkfn f a b) t h ⟨fun v h' => b0c O r K (b0g t d v) h'⟩ := g1r
theorem g8s {f a b} : b0c O (⟨d, some (g, b0), .mkfn f a b⟩ :: r) K t h = @b1x (t g) b0 ⟨@iop O (.mkfn f a b) (upd t g (B b0)) h ⟨fun v h' => b0c O r K (b0g (upd t g (B b0)) d v) h'⟩⟩ ⟨b0c O r K (b0g (upd t g (B (!b0))) d U) h⟩ ⟨b0c O r K (b0g t d U) h⟩ := g5b
theorem g7b {f l} : b0c O (⟨d, none, .call f l⟩ :: r) K t h = @iop O (.call f l) t h ⟨fun v h' => b0c O r K (b0g t d v) h'⟩ := g1f
theorem g8d {f l} : b0c O (⟨d, some (g, b0), .call f l⟩ :: r) K t h = @b1x (t g) b0 ⟨@iop O (.call f l) (upd t g (B b0)) h ⟨fun v h' => b0c O r K (b0g (upd t g (B b0)) d v) h'⟩⟩ ⟨b0c O r K (b0g (upd t g (B (!b0))) d U) h⟩ ⟨b0c O r K (b0g t d U) h⟩ := g44
theorem g7d {f l} : b0c O (⟨d, none, .callw f l⟩ :: r) K t h = @iop O (.callw f l) t h ⟨fun v h' => b0c O r K (b0g t d v) h'⟩ := g26
theorem g7c {f l} : b0c O (⟨d, none, .callv f l⟩ :: r) K t h = @iop O (.callv f l) t h ⟨fun v h' => b0c O r K (b0g t d v) h'⟩ := g1g
theorem g8e {f l} : b0c O (⟨d, some (g, b0), .callv f l⟩ :: r) K t h = @b1x (t g) b0 ⟨@iop O (.callv f l) (upd t g (B b0)) h ⟨fun v h' => b0c O r K (b0g (upd t g (B b0)) d v) h'⟩⟩ ⟨b0c O r K (b0g (upd t g (B (!b0))) d U) h⟩ ⟨b0c O r K (b0g t d U) h⟩ := g45
theorem g9u {x} : @iop O (.mv x) t h ⟨k⟩ = @b4a (evT t x) ⟨fun v => k v h⟩ := j5r
theorem g9w {c a b} : @iop O (.pick c a b) t h ⟨k⟩ = @c8k (evT t c) ⟨@b4a (evT t a) ⟨fun v => k v h⟩⟩ ⟨@b4a (evT t b) ⟨fun v => k v h⟩⟩ := j5t
theorem g9a {x} : @iop O (.boxF x) t h ⟨k⟩ = @b6e (evT t x) ⟨fun cs => k (.fp cs 0) h⟩ := j5i
theorem g89 {x} : @iop O (.box x) t h ⟨k⟩ = @b6e (evT t x) ⟨fun cs => @b31 (cs.isEmpty = false) ⟨k (.rp h.nx 0 0) (h.new (cs.length, [cs]))⟩⟩ := j5h
theorem j1v {a : AV} {l : List AV} : ((a :: l).isEmpty = false) = True := by simp
theorem g86 {zs} : @iop O (.alloc zs) t h ⟨k⟩ = k (.rp h.nx 0 0) (h.new (zs.length, [zs.map .v])) := j5f
theorem g9p {agg n a} : @iop O (.load agg n a) t h ⟨k⟩ = @c8h agg n (evT t a) h ⟨fun v => k v h⟩ := j5p
theorem g9z {n a x} : @iop O (.store n a x) t h ⟨k⟩ = @d5s n (evT t a) (evT t x) h ⟨fun h' => k .dead h'⟩ := j5u
theorem g9v {x} : @iop O (.nilck x) t h ⟨k⟩ = @c36 (evT t x) h ⟨fun v => k v h⟩ := j5s
theorem g9j {o x} : @iop O (.fldA o x) t h ⟨k⟩ = @c8d o (evT t x) h ⟨fun v => k v h⟩ := j5m
theorem g9k {n x i} : @iop O (.ixA n x i) t h ⟨k⟩ = @iix n (evT t x) (evT t i) h ⟨fun v => k v h⟩ := j5n
theorem g88 {op e x y} : @iop O (.bin op e x y) t h ⟨k⟩ = @b1w op e (evT t x) (evT t y) ⟨fun v => k v h⟩ := j5g
theorem g90 {op x} : @iop O (.un op x) t h ⟨k⟩ = @iun op (evT t x) ⟨fun v => k v h⟩ := j5v
theorem g9o {x} : @iop O (.len false x) t h ⟨k⟩ = @c34 (evT t x) ⟨fun n => k (I n) h⟩ := j5o
theorem g9h {x i} : @iop O (.ext x i) t h ⟨k⟩ = @d4p (evT t x) i ⟨fun v => k v h⟩ := j5l
theorem g9s {f a b} : @iop O (.mkfn f a b) t h ⟨k⟩ = k (.fn f (a.map (evT t)) (b.map (evT t))) h := j5q
theorem g9d {f l} : @iop O (.call f l) t h ⟨k⟩ = @c0j O f (l.map (evT t)) h ⟨k⟩ := j5j
theorem g9f {f l} : @iop O (.callw f l) t h ⟨k⟩ = @b5i O f (l.map (evT t)) h ⟨k⟩ := rfl
theorem g9e {f l} : @iop O (.callv f l) t h ⟨k⟩ = @d4h O (evT t f) (l.map (evT t)) h ⟨k⟩ := j5k
theorem j0e {c a b} {Q : XExit -> Slots -> Heap -> Prop} : cw O (.cond c a b) Q t h = @d4l (evT t c) ⟨cw O a Q t h⟩ ⟨cw O b Q t h⟩ := g29
end
section
variable {k : AV -> Prop} {h : Heap} {p q q0 : Prop}
theorem j0d {x} : @b4a (.v x) ⟨k⟩ = k (.v x) := rfl
theorem g94 {x} : @b4a (.agg x) ⟨k⟩ = k (.agg x) := rfl
theorem j0c {x} : @b4a (.tup x) ⟨k⟩ = k (.tup x) := rfl
theorem g98 {a b} : @b4a (.fs a b) ⟨k⟩ = k (.fs a b) := rfl
theorem g97 {a b} : @b4a (.fp a b) ⟨k⟩ = k (.fp a b) := rfl
theorem g96 {a b c} : @b4a (.fn a b c) ⟨k⟩ = k (.fn a b c) := rfl
theorem j0b {a b c} : @b4a (.rs a b c) ⟨k⟩ = k (.rs a b c) := rfl
theorem j0a {a b c} : @b4a (.rp a b c) ⟨k⟩ = k (.rp a b c) := rfl
theorem g95 : @b4a .dead ⟨k⟩ = k .dead := rfl
theorem b5k (v : AV) : @b4a v ⟨k⟩ = k v := rfl
theorem d4f  : @ibr true ⟨p⟩ ⟨q⟩ = p := g0w
theorem d4e  : @ibr false ⟨p⟩ ⟨q⟩ = q := g0v
theorem d4m {b} : @d4l (.v (.bool b)) ⟨p⟩ ⟨q⟩ = @ibr b ⟨p⟩ ⟨q⟩ := g24
theorem d4x {y} : @b1x (.v (.bool y)) true ⟨p⟩ ⟨q⟩ ⟨q0⟩ = @ibr y ⟨p⟩ ⟨q⟩ := g5o
theorem d4w {y} : @b1x (.v (.bool y)) false ⟨p⟩ ⟨q⟩ ⟨q0⟩ = @ibr y ⟨q⟩ ⟨p⟩ := g5n
theorem d4y {b} : @b1x U b ⟨p⟩ ⟨q⟩ ⟨q0⟩ = q0 := rfl
theorem d45 {agg n cs off} : @c8h agg n (.fp cs off) h ⟨k⟩ = @c0k agg n cs off ⟨k⟩ := rfl
theorem d46 {agg n id i off} : @c8h agg n (.rp id i off) h ⟨k⟩ = @c38 (h.ob id) i ⟨fun _ _ cs => @c0k agg n cs off ⟨k⟩⟩ := rfl
theorem d5t {n id i off x} {k : Heap -> Prop} : @d5s n (.rp id i off) x h ⟨k⟩ = @c38 (h.ob id) i ⟨fun sz es cs => b1v x = true /\ (cellsOf x).length = n /\ off + n <= cs.length /\ k (h.upd id (some (sz, es.set i (cs.take off ++ cellsOf x ++ cs.drop (off + n)))))⟩ := rfl
theorem d4j {n cs off} : @c0k false n cs off ⟨k⟩ = @b8w cs off ⟨k⟩ := g2r
theorem d4k {n cs off} : @c0k true n cs off ⟨k⟩ = @b31 (off + n <= cs.length) ⟨k (.agg ((cs.drop off).take n))⟩ := g2s
theorem d4u {c cs} : @b8w (c :: cs) 0 ⟨k⟩ = k c := g5h
theorem d4v {c cs n} : @b8w (c :: cs) (n + 1) ⟨k⟩ = @b8w cs n ⟨k⟩ := g5i
theorem d5o {sz cs} {k : Nat -> List (List AV) -> List AV -> Prop} : @c38 (some (sz, [cs])) 0 ⟨k⟩ = k sz [cs] cs := j64
theorem d5k {sz es} {k : Nat -> List (List AV) -> Prop} : @iob (some (sz, es)) ⟨k⟩ = k sz es := j43
theorem d4o {α β : Type} {f : α -> β} {l : List α} {i : Int} {k : β -> Prop} : @c30 β (l.map f) i ⟨k⟩ = @c30 α l i ⟨fun a => k (f a)⟩ := g4b
theorem d5n  : @c8k (.v (.bool true)) ⟨p⟩ ⟨q⟩ = p := rfl
theorem d5m  : @c8k (.v (.bool false)) ⟨p⟩ ⟨q⟩ = q := rfl
theorem d38 {cs} {k : List AV -> Prop} : @b6e (.agg cs) ⟨k⟩ = k cs := g0p
theorem d4b {kd n} {k : List AV -> Prop} : @b6e (.v (.int kd n)) ⟨k⟩ = k [.v (.int kd n)] := g0s
theorem d39 {b} {k : List AV -> Prop} : @b6e (.v (.bool b)) ⟨k⟩ = k [.v (.bool b)] := g0q
theorem d4d {a b c} {k : List AV -> Prop} : @b6e (.v (.slice a b c)) ⟨k⟩ = k [.v (.slice a b c)] := g0u
theorem d4a {sz es} {k : List AV -> Prop} : @b6e (.fs sz es) ⟨k⟩ = k [.fs sz es] := g0r
theorem d4c {a b c} {k : List AV -> Prop} : @b6e (.rs a b c) ⟨k⟩ = k [.rs a b c] := g0t
theorem d5f {cs off} : @c36 (.fp cs off) h ⟨k⟩ = k (.fp cs off) := rfl
theorem d5e {f a b} : @c36 (.fn f a b) h ⟨k⟩ = k (.fn f a b) := rfl
theorem d5g {id i off} : @c36 (.rp id i off) h ⟨k⟩ = @b31 ((h.ob id).isSome = true) ⟨k (.rp id i off)⟩ := rfl
theorem d4s {n cs off} : @c8d n (.fp cs off) h ⟨k⟩ = k (.fp cs (off + n)) := rfl
theorem d4t {n id i off} : @c8d n (.rp id i off) h ⟨k⟩ = @b31 ((h.ob id).isSome = true) ⟨k (.rp id i (off + n))⟩ := rfl
theorem d40 {n sz es kd j} : @iix n (.fs sz es) (.v (.int kd j)) h ⟨k⟩ = @b31 (sz = n) ⟨@c30 (List AV) es j ⟨fun cs => k (.fp cs 0)⟩⟩ := rfl
theorem d41 {n id lo len kd j} : @iix n (.rs id lo len) (.v (.int kd j)) h ⟨k⟩ = @iob (h.ob id) ⟨fun sz _ => @b31 (sz = n) ⟨@b31 (0 <= j) ⟨@b31 (j < (len : Int)) ⟨k (.rp id (lo + j.toNat) 0)⟩⟩⟩⟩ := rfl
theorem d42 {sz es} {k : Int -> Prop} : @c34 (.fs sz es) ⟨k⟩ = k es.length := j0m
theorem d44 {id lo len} {k : Int -> Prop} : @c34 (.rs id lo len) ⟨k⟩ = k len := j0o
theorem d43 {k : Int -> Prop} : @c34 (.v (.slice none 0 0)) ⟨k⟩ = k 0 := j0n
theorem d4q {vs i} : @d4p (.tup vs) i ⟨k⟩ = @b8w vs i ⟨k⟩ := rfl
theorem d5v {b : Bool} : @iun .not (B b) ⟨k⟩ = k (B (!b)) := j8p
theorem d5u {kd a} : @iun .neg (.v (.int kd a)) ⟨k⟩ = k (.v (.int kd (kd.wrap (0 - a)))) := j8o
theorem d3f {a : Prop} (ha : a) : @b31 a ⟨p⟩ = p := by simp [b31, ha]
theorem d3h {e kd a b} : @b1w .add e (.v (.int kd a)) (.v (.int kd b)) ⟨k⟩ = k (.v (.int kd (kd.wrap (a + b)))) := g0d
theorem d36 {e kd a b} : @b1w .sub e (.v (.int kd a)) (.v (.int kd b)) ⟨k⟩ = k (.v (.int kd (kd.wrap (a - b)))) := g0n
theorem d3u {e kd a b} : @b1w .mul e (.v (.int kd a)) (.v (.int kd b)) ⟨k⟩ = k (.v (.int kd (kd.wrap (a * b)))) := g0l
theorem d3m {e kd} {a b : Int} : @b1w .eql e (.v (.int kd a)) (.v (.int kd b)) ⟨k⟩ = k (B (decide (a = b))) := g0g
theorem d3v {e kd} {a b : Int} : @b1w .neq e (.v (.int kd a)) (.v (.int kd b)) ⟨k⟩ = k (B (decide (¬ a = b))) := g0m
theorem d3t {e kd} {a b : Int} : @b1w .lss e (.v (.int kd a)) (.v (.int kd b)) ⟨k⟩ = k (B (decide (a < b))) := g0k
theorem d3s {e kd} {a b : Int} : @b1w .leq e (.v (.int kd a)) (.v (.int kd b)) ⟨k⟩ = k (B (decide (a <= b))) := g0j
theorem d3r {e kd} {a b : Int} : @b1w .gtr e (.v (.int kd a)) (.v (.int kd b)) ⟨k⟩ = k (B (decide (b < a))) := g0i
theorem d3q {e kd} {a b : Int} : @b1w .geq e (.v (.int kd a)) (.v (.int kd b)) ⟨k⟩ = k (B (decide (b <= a))) := g0h
theorem d3j {a b : Bool} : @b1w .eql .bool (B a) (B b) ⟨k⟩ = k (B (b5y a b)) := g0e
theorem d3k {a b : Bool} : @b1w .neq .bool (B a) (B b) ⟨k⟩ = k (B (!(b5y a b))) := g0f
theorem b0i {x : Bool} {p q : Prop} (h1 : x = true -> p) (h2 : x = false -> q) : @ibr x ⟨p⟩ ⟨q⟩ := ⟨h1, h2⟩
end
def c37 {α : Type} (o : Option α) [k : K1 α] : Prop := ∃ x, o = some x /\ k.k x
theorem d5l {α : Type} {x : α} {k : α -> Prop} : @c37 α (some x) ⟨k⟩ = k x := by simp [c37]
section
variable {O : Orac} {d : Option Nat} {g : Nat} {b0 : Bool} {r : List XO} {K : Slots -> Heap -> Prop} {t : Slots} {h : Heap} {k : AV -> Heap -> Prop}
theorem g7a {zs ps} : b0c O (⟨d, none, .build zs ps⟩ :: r) K t h = @iop O (.build zs ps) t h ⟨fun v h' => b0c O r K (b0g t d v) h'⟩ := b2b rfl
theorem g8c {zs ps} : b0c O (⟨d, some (g, b0), .build zs ps⟩ :: r) K t h = @b1x (t g) b0 ⟨@iop O (.build zs ps) (upd t g (B b0)) h ⟨fun v h' => b0c O r K (b0g (upd t g (B b0)) d v) h'⟩⟩ ⟨b0c O r K (b0g (upd t g (B (!b0))) d U) h⟩ ⟨b0c O r K (b0g t d U) h⟩ := b15 rfl
theorem g9c {zs ps} : @iop O (.build zs ps) t h ⟨k⟩ = @c37 _ (b5q (ps.map fun p => (p.1, p.2.1, evT t p.2.2))) ⟨fun qs => @b31 ((qs.all fun p => decide (p.1 + p.2.length <= zs.length)) = true) ⟨k (.agg (place (zs.map .v) qs)) h⟩⟩ := by
 simp only [iop, op1, eff, c37, b31]
 apply propext; constructor
 ·rintro ⟨r, h', he, hk⟩
  simp only [bE9] at he
  obtain ⟨qs, h1, he⟩ := he
  split at he
  ·rename_i hc; cases he; exact ⟨qs, h1, hc, hk⟩
  ·cases he
 ·rintro ⟨qs, h1, h2, h3⟩
  exact ⟨_, _, by simp only [h1, bS9]; rw [if_pos h2], h3⟩
end
theorem j6g : b5q [] = some [] := rfl
theorem j6f {a n : Nat} {x : AV} {l} : b5q ((a, n, x) :: l) = if b1v x /\ (cellsOf x).length = n then (b5q l).map ((a, cellsOf x) :: ·) else none := by
 unfold b5q
 rw [List.mapM_cons]
 simp only []
 split
 ·rename_i hc
  simp only [Option.bind_eq_bind, bS9, Option.pure_def]
  generalize (List.mapM (m := Option) _ l) = o
  cases o <;> rfl
 ·rfl
theorem j5a {kd n} : b1v (.v (.int kd n)) = true := rfl
theorem j46 {b} : b1v (.v (.bool b)) = true := rfl
theorem j5d {a b c} : b1v (.v (.slice a b c)) = true := rfl
theorem j45 {cs} : b1v (.agg cs) = true := rfl
theorem j49 {a b} : b1v (.fs a b) = true := rfl
theorem j5c {a b c} : b1v (.rs a b c) = true := rfl
theorem g2z {x} : cellsOf (.v x) = [.v x] := rfl
theorem g2t {cs} : cellsOf (.agg cs) = cs := rfl
theorem g2w {a b} : cellsOf (.fs a b) = [.fs a b] := rfl
theorem g2y {a b c} : cellsOf (.rs a b c) = [.rs a b c] := rfl
theorem j6k {cs} : place cs [] = cs := rfl
theorem j6j {cs off ds r} : place cs ((off, ds) :: r) = place (cs.take off ++ ds ++ cs.drop (off + ds.length)) r := rfl
attribute [go_sem] j0d g94 j0c g98 g97 g96 j0b j0a g95
attribute [go_sem ↓] d5l g7a g8c g9c g28 g7s g8u g7u g8w g68 g8a g67 g79 g64 g76 g7n g8p g7x g8z g7t g8v g7h g8j g7i g8k g66 g78 g7y g80 g7m g8o g7f g8h g7q g8s g7b g8d g7c g8e g9u g9w g9a g89 g86 g9p g9z g9v g9j g9k g88 g90 g9o g9h g9s g9d g9e g7d g9f j0e d4f d4e d4m d4x d4w d4y d45 d46 d5t d4j d4k d4u d4v d5o d5k d4o d5n d5m d38 d4b d39 d4d d4a d4c d5f d5e d5g d4s d4t d40 d41 d42 d44 d43 d4q d5v d5u d3f d3h d36 d3u d3m d3v d3t d3s d3r d3q d3j d3k
attribute [go_sem] j1v d5l j6g j6f j5a j46 j5d j45 j49 j5c g2z g2t g2w g2y j6k j6j List.map_cons List.map_nil List.take_zero List.take_succ_cons List.drop_zero List.drop_succ_cons List.nil_append List.cons_append List.length_cons List.length_nil List.all_cons List.all_nil Option.map_some Nat.reduceLeDiff Option.isSome_some decide_true Bool.and_true true_and and_true if_true if_false List.set_cons_zero List.take_nil List.drop_nil List.append_nil d4f d4e d4m d4x d4w d4y d45 d46 d5t d4j d4k d4u d4v d5o d5k d4o d5n d5m d38 d4b d39 d4d d4a d4c d5f d5e d5g d4s d4t d40 d41 d42 d44 d43 d4q d5v d5u d3f d3h d36 d3u d3m d3v d3t d3s d3r d3q d3j d3k Bool.not_true Bool.not_false Nat.reduceAdd Nat.reduceEqDiff not_false_eq_true
end Go.Nw
