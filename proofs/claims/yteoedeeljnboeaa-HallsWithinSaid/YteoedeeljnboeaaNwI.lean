/- The rules, with what comes behind as instance-implicit arguments: there "simp" does not go. -/
import Derived.Test.YteoedeeljnboeaaNwRules
set_option linter.all false
set_option linter.unusedVariables false
set_option linter.unusedSimpArgs false
set_option linter.unusedSectionVars false
namespace Go.Nw

class Kp where p : Prop
class K1 (α : Type) where k : α → Prop
class K2 where k : AV → Heap → Prop
class Kr where k : Nat → List (List AV) → List AV → Prop
class Ko where k : Nat → List (List AV) → Prop
class Kh where k : Heap → Prop

def ibr (x : Bool) [p : Kp] [q : Kp] : Prop := br x p.p q.p
def icond (x : AV) [p : Kp] [q : Kp] : Prop := condK x p.p q.p
def iguard (x : AV) (b : Bool) [p : Kp] [q : Kp] [q0 : Kp] : Prop := guardU x b p.p q.p q0.p
def iop (O : Orac) (op : XOp) (t : Slots) (h : Heap) [k : K2] : Prop := op1 O op t h k.k
def iload (agg : Bool) (n : Nat) (x : AV) (h : Heap) [k : K1 AV] : Prop := loadK agg n x h k.k
def istore (n : Nat) (a x : AV) (h : Heap) [k : Kh] : Prop := storeK n a x h k.k
def icells (agg : Bool) (n : Nat) (cs : List AV) (off : Nat) [k : K1 AV] : Prop := cellsK agg n cs off k.k
def iget (cs : List AV) (i : Nat) [k : K1 AV] : Prop := getK cs i k.k
def irow (o : Option Ob) (i : Nat) [k : Kr] : Prop := rowK o i k.k
def iob (o : Option Ob) [k : Ko] : Prop := obK o k.k
def ielem {α : Type} (l : List α) (i : Int) [k : K1 α] : Prop := elemK l i k.k
def ipick (c : AV) [p : Kp] [q : Kp] : Prop := pickK c p.p q.p
def ibox (x : AV) [k : K1 (List AV)] : Prop := boxK x k.k
def inil (x : AV) (h : Heap) [k : K1 AV] : Prop := nilckK x h k.k
def ifld (n : Nat) (x : AV) (h : Heap) [k : K1 AV] : Prop := fldAK n x h k.k
def iix (n : Nat) (x i : AV) (h : Heap) [k : K1 AV] : Prop := ixAK n x i h k.k
def ibin (op : BinOp) (e : EqK) (x y : AV) [k : K1 AV] : Prop := binK op e x y k.k
def iun (op : UnOp) (x : AV) [k : K1 AV] : Prop := unK op x k.k
def ilen (x : AV) [k : K1 Int] : Prop := lenK x k.k
def iext (x : AV) (i : Nat) [k : K1 AV] : Prop := extK x i k.k
/-- A value, worked out before it is handed on. -/
def istr (v : AV) [k : K1 AV] : Prop := k.k v
/-- A condition that must hold. -/
def iand (a : Prop) [p : Kp] : Prop := a ∧ p.p
def icall (O : Orac) (f : String) (as : List AV) (h : Heap) [k : K2] : Prop := callWp O f as h k.k
def icallw (O : Orac) (f : String) (as : List AV) (h : Heap) [k : K2] : Prop := callwWp O f as h k.k
def icallv (O : Orac) (f : AV) (as : List AV) (h : Heap) [k : K2] : Prop := ∃ n a b, callee f = some (n, a, b) ∧ callWp O n (a ++ as ++ b) h k.k

section
variable {O : Orac} {d : Option Nat} {g : Nat} {b0 : Bool} {r : List XO} {K : Slots → Heap → Prop} {t : Slots} {h : Heap} {k : AV → Heap → Prop}
theorem ic_mv {x} : cops O (⟨d, none, .mv x⟩ :: r) K t h = @iop O (.mv x) t h ⟨fun v h' => cops O r K (putT t d v) h'⟩ := c_mv
theorem ig_mv {x} : cops O (⟨d, some (g, b0), .mv x⟩ :: r) K t h = @iguard (t g) b0 ⟨@iop O (.mv x) (upd t g (B b0)) h ⟨fun v h' => cops O r K (putT (upd t g (B b0)) d v) h'⟩⟩ ⟨cops O r K (putT (upd t g (B (!b0))) d U) h⟩ ⟨cops O r K (putT t d U) h⟩ := g_mv
theorem ic_pick {c a b} : cops O (⟨d, none, .pick c a b⟩ :: r) K t h = @iop O (.pick c a b) t h ⟨fun v h' => cops O r K (putT t d v) h'⟩ := c_pick
theorem ig_pick {c a b} : cops O (⟨d, some (g, b0), .pick c a b⟩ :: r) K t h = @iguard (t g) b0 ⟨@iop O (.pick c a b) (upd t g (B b0)) h ⟨fun v h' => cops O r K (putT (upd t g (B b0)) d v) h'⟩⟩ ⟨cops O r K (putT (upd t g (B (!b0))) d U) h⟩ ⟨cops O r K (putT t d U) h⟩ := g_pick
theorem ic_boxF {x} : cops O (⟨d, none, .boxF x⟩ :: r) K t h = @iop O (.boxF x) t h ⟨fun v h' => cops O r K (putT t d v) h'⟩ := c_boxF
theorem ig_boxF {x} : cops O (⟨d, some (g, b0), .boxF x⟩ :: r) K t h = @iguard (t g) b0 ⟨@iop O (.boxF x) (upd t g (B b0)) h ⟨fun v h' => cops O r K (putT (upd t g (B b0)) d v) h'⟩⟩ ⟨cops O r K (putT (upd t g (B (!b0))) d U) h⟩ ⟨cops O r K (putT t d U) h⟩ := g_boxF
theorem ic_box {x} : cops O (⟨d, none, .box x⟩ :: r) K t h = @iop O (.box x) t h ⟨fun v h' => cops O r K (putT t d v) h'⟩ := c_box
theorem ig_box {x} : cops O (⟨d, some (g, b0), .box x⟩ :: r) K t h = @iguard (t g) b0 ⟨@iop O (.box x) (upd t g (B b0)) h ⟨fun v h' => cops O r K (putT (upd t g (B b0)) d v) h'⟩⟩ ⟨cops O r K (putT (upd t g (B (!b0))) d U) h⟩ ⟨cops O r K (putT t d U) h⟩ := g_box
theorem ic_alloc {zs} : cops O (⟨d, none, .alloc zs⟩ :: r) K t h = @iop O (.alloc zs) t h ⟨fun v h' => cops O r K (putT t d v) h'⟩ := c_alloc
theorem ig_alloc {zs} : cops O (⟨d, some (g, b0), .alloc zs⟩ :: r) K t h = @iguard (t g) b0 ⟨@iop O (.alloc zs) (upd t g (B b0)) h ⟨fun v h' => cops O r K (putT (upd t g (B b0)) d v) h'⟩⟩ ⟨cops O r K (putT (upd t g (B (!b0))) d U) h⟩ ⟨cops O r K (putT t d U) h⟩ := g_alloc
theorem ic_load {agg n a} : cops O (⟨d, none, .load agg n a⟩ :: r) K t h = @iop O (.load agg n a) t h ⟨fun v h' => cops O r K (putT t d v) h'⟩ := c_load
theorem ig_load {agg n a} : cops O (⟨d, some (g, b0), .load agg n a⟩ :: r) K t h = @iguard (t g) b0 ⟨@iop O (.load agg n a) (upd t g (B b0)) h ⟨fun v h' => cops O r K (putT (upd t g (B b0)) d v) h'⟩⟩ ⟨cops O r K (putT (upd t g (B (!b0))) d U) h⟩ ⟨cops O r K (putT t d U) h⟩ := g_load
theorem ic_store {n a x} : cops O (⟨d, none, .store n a x⟩ :: r) K t h = @iop O (.store n a x) t h ⟨fun v h' => cops O r K (putT t d v) h'⟩ := c_store
theorem ig_store {n a x} : cops O (⟨d, some (g, b0), .store n a x⟩ :: r) K t h = @iguard (t g) b0 ⟨@iop O (.store n a x) (upd t g (B b0)) h ⟨fun v h' => cops O r K (putT (upd t g (B b0)) d v) h'⟩⟩ ⟨cops O r K (putT (upd t g (B (!b0))) d U) h⟩ ⟨cops O r K (putT t d U) h⟩ := g_store
theorem ic_nilck {x} : cops O (⟨d, none, .nilck x⟩ :: r) K t h = @iop O (.nilck x) t h ⟨fun v h' => cops O r K (putT t d v) h'⟩ := c_nilck
theorem ig_nilck {x} : cops O (⟨d, some (g, b0), .nilck x⟩ :: r) K t h = @iguard (t g) b0 ⟨@iop O (.nilck x) (upd t g (B b0)) h ⟨fun v h' => cops O r K (putT (upd t g (B b0)) d v) h'⟩⟩ ⟨cops O r K (putT (upd t g (B (!b0))) d U) h⟩ ⟨cops O r K (putT t d U) h⟩ := g_nilck
theorem ic_fldA {o x} : cops O (⟨d, none, .fldA o x⟩ :: r) K t h = @iop O (.fldA o x) t h ⟨fun v h' => cops O r K (putT t d v) h'⟩ := c_fldA
theorem ig_fldA {o x} : cops O (⟨d, some (g, b0), .fldA o x⟩ :: r) K t h = @iguard (t g) b0 ⟨@iop O (.fldA o x) (upd t g (B b0)) h ⟨fun v h' => cops O r K (putT (upd t g (B b0)) d v) h'⟩⟩ ⟨cops O r K (putT (upd t g (B (!b0))) d U) h⟩ ⟨cops O r K (putT t d U) h⟩ := g_fldA
theorem ic_ixA {n x i} : cops O (⟨d, none, .ixA n x i⟩ :: r) K t h = @iop O (.ixA n x i) t h ⟨fun v h' => cops O r K (putT t d v) h'⟩ := c_ixA
theorem ig_ixA {n x i} : cops O (⟨d, some (g, b0), .ixA n x i⟩ :: r) K t h = @iguard (t g) b0 ⟨@iop O (.ixA n x i) (upd t g (B b0)) h ⟨fun v h' => cops O r K (putT (upd t g (B b0)) d v) h'⟩⟩ ⟨cops O r K (putT (upd t g (B (!b0))) d U) h⟩ ⟨cops O r K (putT t d U) h⟩ := g_ixA
theorem ic_bin {op e x y} : cops O (⟨d, none, .bin op e x y⟩ :: r) K t h = @iop O (.bin op e x y) t h ⟨fun v h' => cops O r K (putT t d v) h'⟩ := c_bin
theorem ig_bin {op e x y} : cops O (⟨d, some (g, b0), .bin op e x y⟩ :: r) K t h = @iguard (t g) b0 ⟨@iop O (.bin op e x y) (upd t g (B b0)) h ⟨fun v h' => cops O r K (putT (upd t g (B b0)) d v) h'⟩⟩ ⟨cops O r K (putT (upd t g (B (!b0))) d U) h⟩ ⟨cops O r K (putT t d U) h⟩ := g_bin
theorem ic_un {op x} : cops O (⟨d, none, .un op x⟩ :: r) K t h = @iop O (.un op x) t h ⟨fun v h' => cops O r K (putT t d v) h'⟩ := c_un
theorem ig_un {op x} : cops O (⟨d, some (g, b0), .un op x⟩ :: r) K t h = @iguard (t g) b0 ⟨@iop O (.un op x) (upd t g (B b0)) h ⟨fun v h' => cops O r K (putT (upd t g (B b0)) d v) h'⟩⟩ ⟨cops O r K (putT (upd t g (B (!b0))) d U) h⟩ ⟨cops O r K (putT t d U) h⟩ := g_un
theorem ic_len {x} : cops O (⟨d, none, .len false x⟩ :: r) K t h = @iop O (.len false x) t h ⟨fun v h' => cops O r K (putT t d v) h'⟩ := c_len
theorem ig_len {x} : cops O (⟨d, some (g, b0), .len false x⟩ :: r) K t h = @iguard (t g) b0 ⟨@iop O (.len false x) (upd t g (B b0)) h ⟨fun v h' => cops O r K (putT (upd t g (B b0)) d v) h'⟩⟩ ⟨cops O r K (putT (upd t g (B (!b0))) d U) h⟩ ⟨cops O r K (putT t d U) h⟩ := g_len
theorem ic_ext {x i} : cops O (⟨d, none, .ext x i⟩ :: r) K t h = @iop O (.ext x i) t h ⟨fun v h' => cops O r K (putT t d v) h'⟩ := c_ext
theorem ig_ext {x i} : cops O (⟨d, some (g, b0), .ext x i⟩ :: r) K t h = @iguard (t g) b0 ⟨@iop O (.ext x i) (upd t g (B b0)) h ⟨fun v h' => cops O r K (putT (upd t g (B b0)) d v) h'⟩⟩ ⟨cops O r K (putT (upd t g (B (!b0))) d U) h⟩ ⟨cops O r K (putT t d U) h⟩ := g_ext
theorem ic_mkfn {f a b} : cops O (⟨d, none, .mkfn f a b⟩ :: r) K t h = @iop O (.mkfn f a b) t h ⟨fun v h' => cops O r K (putT t d v) h'⟩ := c_mkfn
theorem ig_mkfn {f a b} : cops O (⟨d, some (g, b0), .mkfn f a b⟩ :: r) K t h = @iguard (t g) b0 ⟨@iop O (.mkfn f a b) (upd t g (B b0)) h ⟨fun v h' => cops O r K (putT (upd t g (B b0)) d v) h'⟩⟩ ⟨cops O r K (putT (upd t g (B (!b0))) d U) h⟩ ⟨cops O r K (putT t d U) h⟩ := g_mkfn
theorem ic_call {f l} : cops O (⟨d, none, .call f l⟩ :: r) K t h = @iop O (.call f l) t h ⟨fun v h' => cops O r K (putT t d v) h'⟩ := c_call
theorem ig_call {f l} : cops O (⟨d, some (g, b0), .call f l⟩ :: r) K t h = @iguard (t g) b0 ⟨@iop O (.call f l) (upd t g (B b0)) h ⟨fun v h' => cops O r K (putT (upd t g (B b0)) d v) h'⟩⟩ ⟨cops O r K (putT (upd t g (B (!b0))) d U) h⟩ ⟨cops O r K (putT t d U) h⟩ := g_call
theorem ic_callw {f l} : cops O (⟨d, none, .callw f l⟩ :: r) K t h = @iop O (.callw f l) t h ⟨fun v h' => cops O r K (putT t d v) h'⟩ := cops_consW
theorem ic_callv {f l} : cops O (⟨d, none, .callv f l⟩ :: r) K t h = @iop O (.callv f l) t h ⟨fun v h' => cops O r K (putT t d v) h'⟩ := c_callv
theorem ig_callv {f l} : cops O (⟨d, some (g, b0), .callv f l⟩ :: r) K t h = @iguard (t g) b0 ⟨@iop O (.callv f l) (upd t g (B b0)) h ⟨fun v h' => cops O r K (putT (upd t g (B b0)) d v) h'⟩⟩ ⟨cops O r K (putT (upd t g (B (!b0))) d U) h⟩ ⟨cops O r K (putT t d U) h⟩ := g_callv
theorem io_mv {x} : @iop O (.mv x) t h ⟨k⟩ = @istr (evT t x) ⟨fun v => k v h⟩ := op1_mv
theorem io_pick {c a b} : @iop O (.pick c a b) t h ⟨k⟩ = @ipick (evT t c) ⟨@istr (evT t a) ⟨fun v => k v h⟩⟩ ⟨@istr (evT t b) ⟨fun v => k v h⟩⟩ := op1_pick
theorem io_boxF {x} : @iop O (.boxF x) t h ⟨k⟩ = @ibox (evT t x) ⟨fun cs => k (.fp cs 0) h⟩ := op1_boxF
theorem io_box {x} : @iop O (.box x) t h ⟨k⟩ = @ibox (evT t x) ⟨fun cs => k (.rp h.nx 0 0) (h.new (cs.length, [cs]))⟩ := op1_box
theorem io_alloc {zs} : @iop O (.alloc zs) t h ⟨k⟩ = k (.rp h.nx 0 0) (h.new (zs.length, [zs.map .v])) := op1_alloc
theorem io_load {agg n a} : @iop O (.load agg n a) t h ⟨k⟩ = @iload agg n (evT t a) h ⟨fun v => k v h⟩ := op1_load
theorem io_store {n a x} : @iop O (.store n a x) t h ⟨k⟩ = @istore n (evT t a) (evT t x) h ⟨fun h' => k .dead h'⟩ := op1_store
theorem io_nilck {x} : @iop O (.nilck x) t h ⟨k⟩ = @inil (evT t x) h ⟨fun v => k v h⟩ := op1_nilck
theorem io_fldA {o x} : @iop O (.fldA o x) t h ⟨k⟩ = @ifld o (evT t x) h ⟨fun v => k v h⟩ := op1_fldA
theorem io_ixA {n x i} : @iop O (.ixA n x i) t h ⟨k⟩ = @iix n (evT t x) (evT t i) h ⟨fun v => k v h⟩ := op1_ixA
theorem io_bin {op e x y} : @iop O (.bin op e x y) t h ⟨k⟩ = @ibin op e (evT t x) (evT t y) ⟨fun v => k v h⟩ := op1_bin
theorem io_un {op x} : @iop O (.un op x) t h ⟨k⟩ = @iun op (evT t x) ⟨fun v => k v h⟩ := op1_un
theorem io_len {x} : @iop O (.len false x) t h ⟨k⟩ = @ilen (evT t x) ⟨fun n => k (I n) h⟩ := op1_len
theorem io_ext {x i} : @iop O (.ext x i) t h ⟨k⟩ = @iext (evT t x) i ⟨fun v => k v h⟩ := op1_ext
theorem io_mkfn {f a b} : @iop O (.mkfn f a b) t h ⟨k⟩ = k (.fn f (a.map (evT t)) (b.map (evT t))) h := op1_mkfn
theorem io_call {f l} : @iop O (.call f l) t h ⟨k⟩ = @icall O f (l.map (evT t)) h ⟨k⟩ := op1_call
theorem io_callw {f l} : @iop O (.callw f l) t h ⟨k⟩ = @icallw O f (l.map (evT t)) h ⟨k⟩ := rfl
theorem io_callv {f l} : @iop O (.callv f l) t h ⟨k⟩ = @icallv O (evT t f) (l.map (evT t)) h ⟨k⟩ := op1_callv
theorem iw_cond {c a b} {Q : XExit → Slots → Heap → Prop} : cw O (.cond c a b) Q t h = @icond (evT t c) ⟨cw O a Q t h⟩ ⟨cw O b Q t h⟩ := cw_cond
end

section
variable {k : AV → Prop} {h : Heap} {p q q0 : Prop}
theorem istr_v {x} : @istr (.v x) ⟨k⟩ = k (.v x) := rfl
theorem istr_agg {x} : @istr (.agg x) ⟨k⟩ = k (.agg x) := rfl
theorem istr_tup {x} : @istr (.tup x) ⟨k⟩ = k (.tup x) := rfl
theorem istr_fs {a b} : @istr (.fs a b) ⟨k⟩ = k (.fs a b) := rfl
theorem istr_fp {a b} : @istr (.fp a b) ⟨k⟩ = k (.fp a b) := rfl
theorem istr_fn {a b c} : @istr (.fn a b c) ⟨k⟩ = k (.fn a b c) := rfl
theorem istr_rs {a b c} : @istr (.rs a b c) ⟨k⟩ = k (.rs a b c) := rfl
theorem istr_rp {a b c} : @istr (.rp a b c) ⟨k⟩ = k (.rp a b c) := rfl
theorem istr_dead : @istr .dead ⟨k⟩ = k .dead := rfl
theorem istr_of (v : AV) : @istr v ⟨k⟩ = k v := rfl
theorem ibr_true  : @ibr true ⟨p⟩ ⟨q⟩ = p := br_true
theorem ibr_false  : @ibr false ⟨p⟩ ⟨q⟩ = q := br_false
theorem icond_b {b} : @icond (.v (.bool b)) ⟨p⟩ ⟨q⟩ = @ibr b ⟨p⟩ ⟨q⟩ := condK_b
theorem iguard_t {y} : @iguard (.v (.bool y)) true ⟨p⟩ ⟨q⟩ ⟨q0⟩ = @ibr y ⟨p⟩ ⟨q⟩ := guardU_t
theorem iguard_f {y} : @iguard (.v (.bool y)) false ⟨p⟩ ⟨q⟩ ⟨q0⟩ = @ibr y ⟨q⟩ ⟨p⟩ := guardU_f
theorem iguard_u {b} : @iguard U b ⟨p⟩ ⟨q⟩ ⟨q0⟩ = q0 := rfl
theorem iload_fp {agg n cs off} : @iload agg n (.fp cs off) h ⟨k⟩ = @icells agg n cs off ⟨k⟩ := rfl
theorem iload_rp {agg n id i off} : @iload agg n (.rp id i off) h ⟨k⟩ = @irow (h.ob id) i ⟨fun _ _ cs => @icells agg n cs off ⟨k⟩⟩ := rfl
theorem istore_rp {n id i off x} {k : Heap → Prop} : @istore n (.rp id i off) x h ⟨k⟩ = @irow (h.ob id) i ⟨fun sz es cs => okCells x = true ∧ (cellsOf x).length = n ∧ off + n ≤ cs.length ∧ k (h.upd id (some (sz, es.set i (cs.take off ++ cellsOf x ++ cs.drop (off + n)))))⟩ := rfl
theorem icells_f {n cs off} : @icells false n cs off ⟨k⟩ = @iget cs off ⟨k⟩ := cellsK_f
theorem icells_t {n cs off} : @icells true n cs off ⟨k⟩ = @iand (off + n ≤ cs.length) ⟨k (.agg ((cs.drop off).take n))⟩ := cellsK_t
theorem iget_0 {c cs} : @iget (c :: cs) 0 ⟨k⟩ = k c := getK_0
theorem iget_s {c cs n} : @iget (c :: cs) (n + 1) ⟨k⟩ = @iget cs n ⟨k⟩ := getK_s
theorem irow_one {sz cs} {k : Nat → List (List AV) → List AV → Prop} : @irow (some (sz, [cs])) 0 ⟨k⟩ = k sz [cs] cs := rowK_one
theorem iob_some {sz es} {k : Nat → List (List AV) → Prop} : @iob (some (sz, es)) ⟨k⟩ = k sz es := obK_some
theorem ielem_map {α β : Type} {f : α → β} {l : List α} {i : Int} {k : β → Prop} : @ielem β (l.map f) i ⟨k⟩ = @ielem α l i ⟨fun a => k (f a)⟩ := elemK_map
theorem ipick_t  : @ipick (.v (.bool true)) ⟨p⟩ ⟨q⟩ = p := rfl
theorem ipick_f  : @ipick (.v (.bool false)) ⟨p⟩ ⟨q⟩ = q := rfl
theorem ibox_agg {cs} {k : List AV → Prop} : @ibox (.agg cs) ⟨k⟩ = k cs := boxK_agg
theorem ibox_int {kd n} {k : List AV → Prop} : @ibox (.v (.int kd n)) ⟨k⟩ = k [.v (.int kd n)] := boxK_int
theorem ibox_bool {b} {k : List AV → Prop} : @ibox (.v (.bool b)) ⟨k⟩ = k [.v (.bool b)] := boxK_bool
theorem ibox_slice {a b c} {k : List AV → Prop} : @ibox (.v (.slice a b c)) ⟨k⟩ = k [.v (.slice a b c)] := boxK_slice
theorem ibox_fs {sz es} {k : List AV → Prop} : @ibox (.fs sz es) ⟨k⟩ = k [.fs sz es] := boxK_fs
theorem ibox_rs {a b c} {k : List AV → Prop} : @ibox (.rs a b c) ⟨k⟩ = k [.rs a b c] := boxK_rs
theorem inil_fp {cs off} : @inil (.fp cs off) h ⟨k⟩ = k (.fp cs off) := rfl
theorem inil_fn {f a b} : @inil (.fn f a b) h ⟨k⟩ = k (.fn f a b) := rfl
theorem inil_rp {id i off} : @inil (.rp id i off) h ⟨k⟩ = @iand ((h.ob id).isSome = true) ⟨k (.rp id i off)⟩ := rfl
theorem ifld_fp {n cs off} : @ifld n (.fp cs off) h ⟨k⟩ = k (.fp cs (off + n)) := rfl
theorem ifld_rp {n id i off} : @ifld n (.rp id i off) h ⟨k⟩ = @iand ((h.ob id).isSome = true) ⟨k (.rp id i (off + n))⟩ := rfl
theorem iix_fs {n sz es kd j} : @iix n (.fs sz es) (.v (.int kd j)) h ⟨k⟩ = @iand (sz = n) ⟨@ielem (List AV) es j ⟨fun cs => k (.fp cs 0)⟩⟩ := rfl
theorem iix_rs {n id lo len kd j} : @iix n (.rs id lo len) (.v (.int kd j)) h ⟨k⟩ = @iob (h.ob id) ⟨fun sz _ => @iand (sz = n) ⟨@iand (0 ≤ j) ⟨@iand (j < (len : Int)) ⟨k (.rp id (lo + j.toNat) 0)⟩⟩⟩⟩ := rfl
theorem ilen_fs {sz es} {k : Int → Prop} : @ilen (.fs sz es) ⟨k⟩ = k es.length := lenK_fs
theorem ilen_rs {id lo len} {k : Int → Prop} : @ilen (.rs id lo len) ⟨k⟩ = k len := lenK_rs
theorem ilen_nil {k : Int → Prop} : @ilen (.v (.slice none 0 0)) ⟨k⟩ = k 0 := lenK_nil
theorem iext_tup {vs i} : @iext (.tup vs) i ⟨k⟩ = @iget vs i ⟨k⟩ := rfl
theorem iun_not {b : Bool} : @iun .not (B b) ⟨k⟩ = k (B (!b)) := unK_not
theorem iun_neg {kd a} : @iun .neg (.v (.int kd a)) ⟨k⟩ = k (.v (.int kd (kd.wrap (0 - a)))) := unK_neg
theorem iand_t {a : Prop} (ha : a) : @iand a ⟨p⟩ = p := by simp [iand, ha]
theorem ibin_add {e kd a b} : @ibin .add e (.v (.int kd a)) (.v (.int kd b)) ⟨k⟩ = k (.v (.int kd (kd.wrap (a + b)))) := binK_add
theorem ibin_sub {e kd a b} : @ibin .sub e (.v (.int kd a)) (.v (.int kd b)) ⟨k⟩ = k (.v (.int kd (kd.wrap (a - b)))) := binK_sub
theorem ibin_mul {e kd a b} : @ibin .mul e (.v (.int kd a)) (.v (.int kd b)) ⟨k⟩ = k (.v (.int kd (kd.wrap (a * b)))) := binK_mul
theorem ibin_eql {e kd} {a b : Int} : @ibin .eql e (.v (.int kd a)) (.v (.int kd b)) ⟨k⟩ = k (B (decide (a = b))) := binK_eql
theorem ibin_neq {e kd} {a b : Int} : @ibin .neq e (.v (.int kd a)) (.v (.int kd b)) ⟨k⟩ = k (B (decide (¬ a = b))) := binK_neq
theorem ibin_lss {e kd} {a b : Int} : @ibin .lss e (.v (.int kd a)) (.v (.int kd b)) ⟨k⟩ = k (B (decide (a < b))) := binK_lss
theorem ibin_leq {e kd} {a b : Int} : @ibin .leq e (.v (.int kd a)) (.v (.int kd b)) ⟨k⟩ = k (B (decide (a ≤ b))) := binK_leq
theorem ibin_gtr {e kd} {a b : Int} : @ibin .gtr e (.v (.int kd a)) (.v (.int kd b)) ⟨k⟩ = k (B (decide (b < a))) := binK_gtr
theorem ibin_geq {e kd} {a b : Int} : @ibin .geq e (.v (.int kd a)) (.v (.int kd b)) ⟨k⟩ = k (B (decide (b ≤ a))) := binK_geq
theorem ibin_beql {a b : Bool} : @ibin .eql .bool (B a) (B b) ⟨k⟩ = k (B (beqB a b)) := binK_beql
theorem ibin_bneq {a b : Bool} : @ibin .neq .bool (B a) (B b) ⟨k⟩ = k (B (!(beqB a b))) := binK_bneq
theorem ibr_intro {x : Bool} {p q : Prop} (h1 : x = true → p) (h2 : x = false → q) : @ibr x ⟨p⟩ ⟨q⟩ := ⟨h1, h2⟩
end

/- Structs built, and stores. -/
def iopt {α : Type} (o : Option α) [k : K1 α] : Prop := ∃ x, o = some x ∧ k.k x
theorem iopt_some {α : Type} {x : α} {k : α → Prop} : @iopt α (some x) ⟨k⟩ = k x := by simp [iopt]
section
variable {O : Orac} {d : Option Nat} {g : Nat} {b0 : Bool} {r : List XO} {K : Slots → Heap → Prop} {t : Slots} {h : Heap} {k : AV → Heap → Prop}
theorem ic_build {zs ps} : cops O (⟨d, none, .build zs ps⟩ :: r) K t h = @iop O (.build zs ps) t h ⟨fun v h' => cops O r K (putT t d v) h'⟩ := cops_cons rfl
theorem ig_build {zs ps} : cops O (⟨d, some (g, b0), .build zs ps⟩ :: r) K t h = @iguard (t g) b0 ⟨@iop O (.build zs ps) (upd t g (B b0)) h ⟨fun v h' => cops O r K (putT (upd t g (B b0)) d v) h'⟩⟩ ⟨cops O r K (putT (upd t g (B (!b0))) d U) h⟩ ⟨cops O r K (putT t d U) h⟩ := cops_guardU rfl
theorem io_build {zs ps} : @iop O (.build zs ps) t h ⟨k⟩ = @iopt _ (parts1 (ps.map fun p => (p.1, p.2.1, evT t p.2.2))) ⟨fun qs => @iand ((qs.all fun p => decide (p.1 + p.2.length ≤ zs.length)) = true) ⟨k (.agg (place (zs.map .v) qs)) h⟩⟩ := by
  simp only [iop, op1, eff, iopt, iand]
  apply propext; constructor
  · rintro ⟨r, h', he, hk⟩
    simp only [Option.bind_eq_some_iff] at he
    obtain ⟨qs, h1, he⟩ := he
    split at he
    · rename_i hc; cases he; exact ⟨qs, h1, hc, hk⟩
    · cases he
  · rintro ⟨qs, h1, h2, h3⟩
    exact ⟨_, _, by simp only [h1, Option.bind_some]; rw [if_pos h2], h3⟩
end
theorem parts1_nil : parts1 [] = some [] := rfl
theorem parts1_cons {a n : Nat} {x : AV} {l} : parts1 ((a, n, x) :: l) = if okCells x ∧ (cellsOf x).length = n then (parts1 l).map ((a, cellsOf x) :: ·) else none := by
  unfold parts1
  rw [List.mapM_cons]
  simp only []
  split
  · rename_i hc
    simp only [Option.bind_eq_bind, Option.bind_some, Option.pure_def]
    generalize (List.mapM (m := Option) _ l) = o
    cases o <;> rfl
  · rfl
theorem okCells_int {kd n} : okCells (.v (.int kd n)) = true := rfl
theorem okCells_bool {b} : okCells (.v (.bool b)) = true := rfl
theorem okCells_slice {a b c} : okCells (.v (.slice a b c)) = true := rfl
theorem okCells_agg {cs} : okCells (.agg cs) = true := rfl
theorem okCells_fs {a b} : okCells (.fs a b) = true := rfl
theorem okCells_rs {a b c} : okCells (.rs a b c) = true := rfl
theorem cellsOf_v {x} : cellsOf (.v x) = [.v x] := rfl
theorem cellsOf_agg {cs} : cellsOf (.agg cs) = cs := rfl
theorem cellsOf_fs {a b} : cellsOf (.fs a b) = [.fs a b] := rfl
theorem cellsOf_rs {a b c} : cellsOf (.rs a b c) = [.rs a b c] := rfl
theorem place_nil {cs} : place cs [] = cs := rfl
theorem place_cons {cs off ds r} : place cs ((off, ds) :: r) = place (cs.take off ++ ds ++ cs.drop (off + ds.length)) r := rfl

attribute [go_sem] istr_v istr_agg istr_tup istr_fs istr_fp istr_fn istr_rs istr_rp istr_dead
attribute [go_sem ↓] iopt_some ic_build ig_build io_build cops_nil ic_mv ig_mv ic_pick ig_pick ic_boxF ig_boxF ic_box ig_box ic_alloc ig_alloc ic_load ig_load ic_store ig_store ic_nilck ig_nilck ic_fldA ig_fldA ic_ixA ig_ixA ic_bin ig_bin ic_un ig_un ic_len ig_len ic_ext ig_ext ic_mkfn ig_mkfn ic_call ig_call ic_callv ig_callv io_mv io_pick io_boxF io_box io_alloc io_load io_store io_nilck io_fldA io_ixA io_bin io_un io_len io_ext io_mkfn io_call io_callv ic_callw io_callw iw_cond ibr_true ibr_false icond_b iguard_t iguard_f iguard_u iload_fp iload_rp istore_rp icells_f icells_t iget_0 iget_s irow_one iob_some ielem_map ipick_t ipick_f ibox_agg ibox_int ibox_bool ibox_slice ibox_fs ibox_rs inil_fp inil_fn inil_rp ifld_fp ifld_rp iix_fs iix_rs ilen_fs ilen_rs ilen_nil iext_tup iun_not iun_neg iand_t ibin_add ibin_sub ibin_mul ibin_eql ibin_neq ibin_lss ibin_leq ibin_gtr ibin_geq ibin_beql ibin_bneq
attribute [go_sem] iopt_some parts1_nil parts1_cons okCells_int okCells_bool okCells_slice okCells_agg okCells_fs okCells_rs cellsOf_v cellsOf_agg cellsOf_fs cellsOf_rs place_nil place_cons List.map_cons List.map_nil List.take_zero List.take_succ_cons List.drop_zero List.drop_succ_cons List.nil_append List.cons_append List.length_cons List.length_nil List.all_cons List.all_nil Option.map_some Nat.reduceLeDiff Option.isSome_some decide_true Bool.and_true true_and and_true if_true if_false List.set_cons_zero List.take_nil List.drop_nil List.append_nil ibr_true ibr_false icond_b iguard_t iguard_f iguard_u iload_fp iload_rp istore_rp icells_f icells_t iget_0 iget_s irow_one iob_some ielem_map ipick_t ipick_f ibox_agg ibox_int ibox_bool ibox_slice ibox_fs ibox_rs inil_fp inil_fn inil_rp ifld_fp ifld_rp iix_fs iix_rs ilen_fs ilen_rs ilen_nil iext_tup iun_not iun_neg iand_t ibin_add ibin_sub ibin_mul ibin_eql ibin_neq ibin_lss ibin_leq ibin_gtr ibin_geq ibin_beql ibin_bneq Bool.not_true Bool.not_false Nat.reduceAdd Nat.reduceEqDiff not_false_eq_true
end Go.Nw
