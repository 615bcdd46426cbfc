/- One rule for each operation. -/
import Derived.Test.YtfahaljhgfjooaaDoorNwVcg
set_option linter.all false
namespace Go.Nw
def nxs (n : Nat) : Nat := n + 1
def b6d (a b : Bool) : Bool := a == b
def b6i {α : Type} (l : List α) (i : Int) (k : α -> Prop) : Prop := ∃ a, 0 <= i /\ l[i.toNat]? = some a /\ k a
def b4e (cs : List AV) (i : Nat) (k : AV -> Prop) : Prop := ∃ v, cs[i]? = some v /\ k v
def b44 (agg : Bool) (n : Nat) (cs : List AV) (off : Nat) (k : AV -> Prop) : Prop := if agg then off + n <= cs.length /\ k (.agg ((cs.drop off).take n)) else b4e cs off k
def b63 (o : Option Ob) (i : Nat) (k : Nat -> List (List AV) -> List AV -> Prop) : Prop := ∃ sz es cs, o = some (sz, es) /\ es[i]? = some cs /\ k sz es cs
def obK (o : Option Ob) (k : Nat -> List (List AV) -> Prop) : Prop := ∃ sz es, o = some (sz, es) /\ k sz es
def d03 (agg : Bool) (n : Nat) (x : AV) (h : Heap) (k : AV -> Prop) : Prop :=
 match x with
 | .fp cs off => b44 agg n cs off k
 | .rp id i off => b63 (h.ob id) i fun _ _ cs => b44 agg n cs off k
 | _ => False
def d2e (n : Nat) (a x : AV) (h : Heap) (k : Heap -> Prop) : Prop :=
 match a with
 | .rp id i off => b63 (h.ob id) i fun sz es cs => b13 x = true /\ (cellsOf x).length = n /\ off + n <= cs.length /\ k (h.upd id (some (sz, es.set i (cs.take off ++ cellsOf x ++ cs.drop (off + n)))))
 | _ => False
def c1p (c : AV) (p q : Prop) : Prop := match c with | .v (.bool true) => p | .v (.bool false) => q | _ => False
def b3s (x : AV) (k : List AV -> Prop) : Prop := b13 x = true /\ k (cellsOf x)
def d1g (x : AV) (h : Heap) (k : AV -> Prop) : Prop :=
 match x with | .fp cs off => k (.fp cs off) | .rp id i off => (h.ob id).isSome = true /\ k (.rp id i off) | .fn f a b => k (.fn f a b) | _ => False
def c87 (off : Nat) (x : AV) (h : Heap) (k : AV -> Prop) : Prop := match x with | .fp cs o => k (.fp cs (o + off)) | .rp id i o => (h.ob id).isSome = true /\ k (.rp id i (o + off)) | _ => False
def c9r (n : Nat) (x i : AV) (h : Heap) (k : AV -> Prop) : Prop :=
 match x, i with
 | .fs sz es, .v (.int _ j) => sz = n /\ b6i es j fun cs => k (.fp cs 0)
 | .rs id lo len, .v (.int _ j) => obK (h.ob id) fun sz _ => sz = n /\ 0 <= j /\ j < len /\ k (.rp id (lo + j.toNat) 0)
 | _, _ => False
def b1l (op : BinOp) (e : EqK) (x y : AV) (k : AV -> Prop) : Prop := ∃ r, b2z op e x y = some r /\ k r
def unK (op : UnOp) (x : AV) (k : AV -> Prop) : Prop := ∃ r, b67 op x = some r /\ k r
def b5w (x : AV) (k : Int -> Prop) : Prop := ∃ n, b2o x = some n /\ k n
def c8z (x : AV) (i : Nat) (k : AV -> Prop) : Prop := match x with | .tup vs => b4e vs i k | _ => False
section
variable {O : Orac} {t : Slots} {h : Heap} {k : AV -> Heap -> Prop}
theorem ex1 {a : AV} {b : Heap} {k : AV -> Heap -> Prop} : (∃ r h', some (a, b) = some (r, h') /\ k r h') = k a b := by
 apply propext; constructor
 ·rintro ⟨r, h', e, hk⟩; cases e; exact hk
 ·exact fun hk => ⟨_, _, rfl, hk⟩
theorem ex0 {k : AV -> Heap -> Prop} : (∃ r h', (none : Option (AV × Heap)) = some (r, h') /\ k r h') = False := by simp
theorem j72 {x} : op1 O (.mv x) t h k = k (evT t x) h := by simp only [op1, eff, ex1]
theorem j74 {c a b} : op1 O (.pick c a b) t h k = c1p (evT t c) (k (evT t a) h) (k (evT t b) h) := by
 simp only [op1, eff]
 generalize evT t c = x
 cases x with
 | v y => cases y with
  | bool z => cases z <;> simp only [c1p, ex1, if_true, Bool.false_eq_true, if_false]
  | _ => simp only [c1p, ex0]
 | _ => simp only [c1p, ex0]
theorem j7t {x} : op1 O (.boxF x) t h k = b3s (evT t x) fun cs => k (.fp cs 0) h := rfl
theorem j7s {x} : op1 O (.box x) t h k = b3s (evT t x) fun cs => cs.isEmpty = false /\ k (.rp h.nx 0 0) (h.new (cs.length, [cs])) := by
 simp only [op1, eff, b3s]
 apply propext; constructor
 ·rintro ⟨r, h', he, hk⟩; split at he
  ·rename_i ho; cases he; exact ⟨ho.1, ho.2, hk⟩
  ·cases he
 ·rintro ⟨h1, h0, h2⟩; exact ⟨_, _, by rw [if_pos ⟨h1, h0⟩], h2⟩
theorem j7q {zs} : op1 O (.alloc zs) t h k = k (.rp h.nx 0 0) (h.new (zs.length, [zs.map .v])) := by simp only [op1, eff, ex1]
theorem j70 {agg n a} : op1 O (.load agg n a) t h k = d03 agg n (evT t a) h fun v => k v h := by
 simp only [op1, eff, d03]
 have cells : ∀ cs off, (∃ r h', (if agg = true then (if off + n <= cs.length then some (AV.agg (List.take n (List.drop off cs)), h) else none) else Option.map (fun x => (x, h)) cs[off]?) = some (r, h') /\ k r h') = b44 agg n cs off fun v => k v h := by
  intro cs off
  unfold b44 b4e
  cases agg with
  | true =>
   simp only [if_true]
   apply propext; constructor
   ·rintro ⟨r, h', he, hk⟩; split at he
    ·rename_i ho; cases he; exact ⟨ho, hk⟩
    ·cases he
   ·rintro ⟨h1, h2⟩; exact ⟨_, _, by rw [if_pos h1], h2⟩
  | false =>
   simp only [Bool.false_eq_true, if_false, Option.map_eq_some_iff]
   apply propext; constructor
   ·rintro ⟨r, h', ⟨x, h1, h2⟩, hk⟩; cases h2; exact ⟨_, h1, hk⟩
   ·rintro ⟨v, h1, h2⟩; exact ⟨v, h, ⟨v, h1, rfl⟩, h2⟩
 generalize evT t a = x
 cases x with
 | fp cs off => exact cells cs off
 | rp id i off =>
  simp only [b63]
  apply propext; constructor
  ·rintro ⟨r, h', he, hk⟩
   simp only [Option.bind_eq_some_iff] at he
   obtain ⟨⟨sz, es⟩, h1, cs, h2, he⟩ := he
   exact ⟨sz, es, cs, h1, h2, by rw [<- cells]; exact ⟨r, h', he, hk⟩⟩
  ·rintro ⟨sz, es, cs, h1, h2, h3⟩
   rw [<- cells] at h3
   obtain ⟨r, h', he, hk⟩ := h3
   exact ⟨r, h', by simp only [h1, Option.bind_some, h2]; exact he, hk⟩
 | _ => simp
theorem j75 {n a x} : op1 O (.store n a x) t h k = d2e n (evT t a) (evT t x) h fun h' => k .dead h' := by
 simp only [op1, eff, d2e]
 generalize evT t a = y
 cases y with
 | rp id i off =>
  simp only [b63]
  apply propext; constructor
  ·rintro ⟨r, h', he, hk⟩
   simp only [Option.bind_eq_some_iff] at he
   obtain ⟨⟨sz, es⟩, h1, cs, h2, he⟩ := he
   split at he
   ·rename_i hc; cases he; exact ⟨sz, es, cs, h1, h2, hc.1, hc.2.1, hc.2.2, hk⟩
   ·cases he
  ·rintro ⟨sz, es, cs, h1, h2, h3, h4, h5, h6⟩
   exact ⟨_, _, by simp only [h1, Option.bind_some, h2]; rw [if_pos ⟨h3, h4, h5⟩], h6⟩
 | _ => simp
theorem j73 {x} : op1 O (.nilck x) t h k = d1g (evT t x) h fun v => k v h := by
 simp only [op1, eff, d1g]
 generalize evT t x = y
 cases y with
 | rp id i off =>
  cases ho : h.ob id with
  | none => simp only [ho, Option.bind_none, ex0, Option.isSome_none, Bool.false_eq_true, false_and]
  | some o => simp only [ho, Option.bind_some, ex1, Option.isSome_some, true_and]
 | fp cs off => exact ex1
 | fn f a b => first | exact ex1 | exact ex0
 | _ => exact ex0
theorem j7x {o x} : op1 O (.fldA o x) t h k = c87 o (evT t x) h fun v => k v h := by
 simp only [op1, eff, c87]
 generalize evT t x = y
 cases y with
 | rp id i off =>
  cases ho : h.ob id with
  | none => simp only [ho, Option.bind_none, ex0, Option.isSome_none, Bool.false_eq_true, false_and]
  | some o => simp only [ho, Option.bind_some, ex1, Option.isSome_some, true_and]
 | fp cs off => exact ex1
 | fn f a b => first | exact ex1 | exact ex0
 | _ => exact ex0
theorem j7y {n x i} : op1 O (.ixA n x i) t h k = c9r n (evT t x) (evT t i) h fun v => k v h := by
 simp only [op1, eff, c9r]
 generalize evT t x = y
 generalize evT t i = z
 cases y with
 | fs sz es =>
  cases z with
  | v w => cases w with
   | int kd j =>
    simp only [b6i]
    apply propext; constructor
    ·rintro ⟨r, h', he, hk⟩
     split at he
     ·rename_i hc
      simp only [Option.map_eq_some_iff] at he
      obtain ⟨cs, h1, h2⟩ := he
      cases h2
      exact ⟨hc.1, cs, hc.2, h1, hk⟩
     ·cases he
    ·rintro ⟨h1, cs, h2, h3, h4⟩
     exact ⟨_, _, by rw [if_pos ⟨h1, h2⟩, h3]; rfl, h4⟩
   | _ => simp
  | _ => simp
 | rs id lo len =>
  cases z with
  | v w => cases w with
   | int kd j =>
    simp only [obK]
    apply propext; constructor
    ·rintro ⟨r, h', he, hk⟩
     simp only [Option.bind_eq_some_iff] at he
     obtain ⟨⟨sz, es⟩, h1, he⟩ := he
     split at he
     ·rename_i hc; cases he; exact ⟨sz, es, h1, hc.1, hc.2.1, hc.2.2, hk⟩
     ·cases he
    ·rintro ⟨sz, es, h1, h2, h3, h4, h5⟩
     exact ⟨_, _, by simp only [h1, Option.bind_some]; rw [if_pos ⟨h2, h3, h4⟩], h5⟩
   | _ => simp
  | _ => simp
 | _ => simp
theorem j7r {op e x y} : op1 O (.bin op e x y) t h k = b1l op e (evT t x) (evT t y) fun v => k v h := by
 simp only [op1, eff, b1l, Option.map_eq_some_iff]
 apply propext; constructor
 ·rintro ⟨r, h', ⟨v, h1, h2⟩, hk⟩; cases h2; exact ⟨_, h1, hk⟩
 ·rintro ⟨v, h1, h2⟩; exact ⟨v, h, ⟨v, h1, rfl⟩, h2⟩
theorem j76 {op x} : op1 O (.un op x) t h k = unK op (evT t x) fun v => k v h := by
 simp only [op1, eff, unK, Option.map_eq_some_iff]
 apply propext; constructor
 ·rintro ⟨r, h', ⟨v, h1, h2⟩, hk⟩; cases h2; exact ⟨_, h1, hk⟩
 ·rintro ⟨v, h1, h2⟩; exact ⟨v, h, ⟨v, h1, rfl⟩, h2⟩
theorem j7z {x} : op1 O (.len false x) t h k = b5w (evT t x) fun n => k (I n) h := by
 simp only [op1, eff, b5w, Bool.false_eq_true, if_false, Option.map_eq_some_iff]
 apply propext; constructor
 ·rintro ⟨r, h', ⟨v, h1, h2⟩, hk⟩; cases h2; exact ⟨_, h1, hk⟩
 ·rintro ⟨v, h1, h2⟩; exact ⟨_, h, ⟨v, h1, rfl⟩, h2⟩
theorem j7w {x i} : op1 O (.ext x i) t h k = c8z (evT t x) i fun v => k v h := by
 simp only [op1, eff, c8z]
 generalize evT t x = y
 cases y with
 | tup vs =>
  simp only [b4e, Option.map_eq_some_iff]
  apply propext; constructor
  ·rintro ⟨r, h', ⟨v, h1, h2⟩, hk⟩; cases h2; exact ⟨_, h1, hk⟩
  ·rintro ⟨v, h1, h2⟩; exact ⟨v, h, ⟨v, h1, rfl⟩, h2⟩
 | _ => simp
theorem j71 {f a b} : op1 O (.mkfn f a b) t h k = k (.fn f (a.map (evT t)) (b.map (evT t))) h := by simp only [op1, eff, ex1]
theorem j7u {f l} : op1 O (.call f l) t h k = b6e O f (l.map (evT t)) h k := rfl
theorem j7v {f l} : op1 O (.callv f l) t h k = ∃ n a b, callee (evT t f) = some (n, a, b) /\ b6e O n (a ++ l.map (evT t) ++ b) h k := rfl
end
section
variable {O : Orac} {d : Option Nat} {g : Nat} {b0 : Bool} {r : List XO} {K : Slots -> Heap -> Prop} {t : Slots} {h : Heap}
theorem g3k {x} : b0c O (⟨d, none, .mv x⟩ :: r) K t h = op1 O (.mv x) t h (fun v h' => b0c O r K (b0h t d v) h') := b2i rfl
theorem g7e {x} : b0c O (⟨d, some (g, b0), .mv x⟩ :: r) K t h = b2w (t g) b0 (op1 O (.mv x) (upd t g (B b0)) h (fun v h' => b0c O r K (b0h (upd t g (B b0)) d v) h')) (b0c O r K (b0h (upd t g (B (!b0))) d U) h) (b0c O r K (b0h t d U) h) := b2g rfl
theorem g3m {c a b} : b0c O (⟨d, none, .pick c a b⟩ :: r) K t h = op1 O (.pick c a b) t h (fun v h' => b0c O r K (b0h t d v) h') := b2i rfl
theorem g7g {c a b} : b0c O (⟨d, some (g, b0), .pick c a b⟩ :: r) K t h = b2w (t g) b0 (op1 O (.pick c a b) (upd t g (B b0)) h (fun v h' => b0c O r K (b0h (upd t g (B b0)) d v) h')) (b0c O r K (b0h (upd t g (B (!b0))) d U) h) (b0c O r K (b0h t d U) h) := b2g rfl
theorem g22 {x} : b0c O (⟨d, none, .boxF x⟩ :: r) K t h = op1 O (.boxF x) t h (fun v h' => b0c O r K (b0h t d v) h') := b2i rfl
theorem g65 {x} : b0c O (⟨d, some (g, b0), .boxF x⟩ :: r) K t h = b2w (t g) b0 (op1 O (.boxF x) (upd t g (B b0)) h (fun v h' => b0c O r K (b0h (upd t g (B b0)) d v) h')) (b0c O r K (b0h (upd t g (B (!b0))) d U) h) (b0c O r K (b0h t d U) h) := b2g rfl
theorem g21 {x} : b0c O (⟨d, none, .box x⟩ :: r) K t h = op1 O (.box x) t h (fun v h' => b0c O r K (b0h t d v) h') := b2i rfl
theorem g64 {x} : b0c O (⟨d, some (g, b0), .box x⟩ :: r) K t h = b2w (t g) b0 (op1 O (.box x) (upd t g (B b0)) h (fun v h' => b0c O r K (b0h (upd t g (B b0)) d v) h')) (b0c O r K (b0h (upd t g (B (!b0))) d U) h) (b0c O r K (b0h t d U) h) := b2g rfl
theorem g2z {zs} : b0c O (⟨d, none, .alloc zs⟩ :: r) K t h = op1 O (.alloc zs) t h (fun v h' => b0c O r K (b0h t d v) h') := b2i rfl
theorem g62 {zs} : b0c O (⟨d, some (g, b0), .alloc zs⟩ :: r) K t h = b2w (t g) b0 (op1 O (.alloc zs) (upd t g (B b0)) h (fun v h' => b0c O r K (b0h (upd t g (B b0)) d v) h')) (b0c O r K (b0h (upd t g (B (!b0))) d U) h) (b0c O r K (b0h t d U) h) := b2g rfl
theorem g3i {agg n a} : b0c O (⟨d, none, .load agg n a⟩ :: r) K t h = op1 O (.load agg n a) t h (fun v h' => b0c O r K (b0h t d v) h') := b2i rfl
theorem g7c {agg n a} : b0c O (⟨d, some (g, b0), .load agg n a⟩ :: r) K t h = b2w (t g) b0 (op1 O (.load agg n a) (upd t g (B b0)) h (fun v h' => b0c O r K (b0h (upd t g (B b0)) d v) h')) (b0c O r K (b0h (upd t g (B (!b0))) d U) h) (b0c O r K (b0h t d U) h) := b2g rfl
theorem g4e {n a x} : b0c O (⟨d, none, .store n a x⟩ :: r) K t h = op1 O (.store n a x) t h (fun v h' => b0c O r K (b0h t d v) h') := b2i rfl
theorem g7h {n a x} : b0c O (⟨d, some (g, b0), .store n a x⟩ :: r) K t h = b2w (t g) b0 (op1 O (.store n a x) (upd t g (B b0)) h (fun v h' => b0c O r K (b0h (upd t g (B b0)) d v) h')) (b0c O r K (b0h (upd t g (B (!b0))) d U) h) (b0c O r K (b0h t d U) h) := b2g rfl
theorem g3l {x} : b0c O (⟨d, none, .nilck x⟩ :: r) K t h = op1 O (.nilck x) t h (fun v h' => b0c O r K (b0h t d v) h') := b2i rfl
theorem g7f {x} : b0c O (⟨d, some (g, b0), .nilck x⟩ :: r) K t h = b2w (t g) b0 (op1 O (.nilck x) (upd t g (B b0)) h (fun v h' => b0c O r K (b0h (upd t g (B b0)) d v) h')) (b0c O r K (b0h (upd t g (B (!b0))) d U) h) (b0c O r K (b0h t d U) h) := b2g rfl
theorem g3b {o x} : b0c O (⟨d, none, .fldA o x⟩ :: r) K t h = op1 O (.fldA o x) t h (fun v h' => b0c O r K (b0h t d v) h') := b2i rfl
theorem g69 {o x} : b0c O (⟨d, some (g, b0), .fldA o x⟩ :: r) K t h = b2w (t g) b0 (op1 O (.fldA o x) (upd t g (B b0)) h (fun v h' => b0c O r K (b0h (upd t g (B b0)) d v) h')) (b0c O r K (b0h (upd t g (B (!b0))) d U) h) (b0c O r K (b0h t d U) h) := b2g rfl
theorem g3c {n x i} : b0c O (⟨d, none, .ixA n x i⟩ :: r) K t h = op1 O (.ixA n x i) t h (fun v h' => b0c O r K (b0h t d v) h') := b2i rfl
theorem g7a {n x i} : b0c O (⟨d, some (g, b0), .ixA n x i⟩ :: r) K t h = b2w (t g) b0 (op1 O (.ixA n x i) (upd t g (B b0)) h (fun v h' => b0c O r K (b0h (upd t g (B b0)) d v) h')) (b0c O r K (b0h (upd t g (B (!b0))) d U) h) (b0c O r K (b0h t d U) h) := b2g rfl
theorem g20 {op e x y} : b0c O (⟨d, none, .bin op e x y⟩ :: r) K t h = op1 O (.bin op e x y) t h (fun v h' => b0c O r K (b0h t d v) h') := b2i rfl
theorem g63 {op e x y} : b0c O (⟨d, some (g, b0), .bin op e x y⟩ :: r) K t h = b2w (t g) b0 (op1 O (.bin op e x y) (upd t g (B b0)) h (fun v h' => b0c O r K (b0h (upd t g (B b0)) d v) h')) (b0c O r K (b0h (upd t g (B (!b0))) d U) h) (b0c O r K (b0h t d U) h) := b2g rfl
theorem g4f {op x} : b0c O (⟨d, none, .un op x⟩ :: r) K t h = op1 O (.un op x) t h (fun v h' => b0c O r K (b0h t d v) h') := b2i rfl
theorem g7i {op x} : b0c O (⟨d, some (g, b0), .un op x⟩ :: r) K t h = b2w (t g) b0 (op1 O (.un op x) (upd t g (B b0)) h (fun v h' => b0c O r K (b0h (upd t g (B b0)) d v) h')) (b0c O r K (b0h (upd t g (B (!b0))) d U) h) (b0c O r K (b0h t d U) h) := b2g rfl
theorem g3h {x} : b0c O (⟨d, none, .len false x⟩ :: r) K t h = op1 O (.len false x) t h (fun v h' => b0c O r K (b0h t d v) h') := b2i rfl
theorem g7b {x} : b0c O (⟨d, some (g, b0), .len false x⟩ :: r) K t h = b2w (t g) b0 (op1 O (.len false x) (upd t g (B b0)) h (fun v h' => b0c O r K (b0h (upd t g (B b0)) d v) h')) (b0c O r K (b0h (upd t g (B (!b0))) d U) h) (b0c O r K (b0h t d U) h) := b2g rfl
theorem g3a {x i} : b0c O (⟨d, none, .ext x i⟩ :: r) K t h = op1 O (.ext x i) t h (fun v h' => b0c O r K (b0h t d v) h') := b2i rfl
theorem g68 {x i} : b0c O (⟨d, some (g, b0), .ext x i⟩ :: r) K t h = b2w (t g) b0 (op1 O (.ext x i) (upd t g (B b0)) h (fun v h' => b0c O r K (b0h (upd t g (B b0)) d v) h')) (b0c O r K (b0h (upd t g (B (!b0))) d U) h) (b0c O r K (b0h t d U) h) := b2g rfl
theorem g3j {f a b} : b0c O (⟨d, none, .mkfn f a b⟩ :: r) K t h = op1 O (.mkfn f a b) t h (fun v h' => b0c O r K (b0h t d v) h') := b2i rfl
theorem g7d {f a b} : b0c O (⟨d, some (g, b0), .mkfn f a b⟩ :: r) K t h = b2w (t g) b0 (op1 O (.mkfn f a b) (upd t g (B b0)) h (fun v h' => b0c O r K (b0h (upd t g (B b0)) d v) h')) (b0c O r K (b0h (upd t g (B (!b0))) d U) h) (b0c O r K (b0h t d U) h) := b2g rfl
theorem g23 {f l} : b0c O (⟨d, none, .call f l⟩ :: r) K t h = op1 O (.call f l) t h (fun v h' => b0c O r K (b0h t d v) h') := b2i rfl
theorem g66 {f l} : b0c O (⟨d, some (g, b0), .call f l⟩ :: r) K t h = b2w (t g) b0 (op1 O (.call f l) (upd t g (B b0)) h (fun v h' => b0c O r K (b0h (upd t g (B b0)) d v) h')) (b0c O r K (b0h (upd t g (B (!b0))) d U) h) (b0c O r K (b0h t d U) h) := b2g rfl
theorem g24 {f l} : b0c O (⟨d, none, .callv f l⟩ :: r) K t h = op1 O (.callv f l) t h (fun v h' => b0c O r K (b0h t d v) h') := b2i rfl
theorem g67 {f l} : b0c O (⟨d, some (g, b0), .callv f l⟩ :: r) K t h = b2w (t g) b0 (op1 O (.callv f l) (upd t g (B b0)) h (fun v h' => b0c O r K (b0h (upd t g (B b0)) d v) h')) (b0c O r K (b0h (upd t g (B (!b0))) d U) h) (b0c O r K (b0h t d U) h) := b2g rfl
end
section
variable {k : AV -> Prop} {h : Heap}
theorem g4k {n cs off} : b44 false n cs off k = b4e cs off k := by simp [b44]
theorem g4l {n cs off} : b44 true n cs off k = (off + n <= cs.length /\ k (.agg ((cs.drop off).take n))) := by simp [b44]
theorem g7j {c cs} : b4e (c :: cs) 0 k = k c := by simp [b4e]
theorem g7k {c cs n} : b4e (c :: cs) (n + 1) k = b4e cs n k := by simp [b4e]
theorem d8z {sz es i} {k : Nat -> List (List AV) -> List AV -> Prop} : b63 (some (sz, es)) i k = ∃ cs, es[i]? = some cs /\ k sz es cs := by
 apply propext; constructor
 ·rintro ⟨a, b, c, h1, h2, h3⟩; cases h1; exact ⟨c, h2, h3⟩
 ·rintro ⟨c, h2, h3⟩; exact ⟨_, _, c, rfl, h2, h3⟩
theorem j9l {sz cs} {k : Nat -> List (List AV) -> List AV -> Prop} : b63 (some (sz, [cs])) 0 k = k sz [cs] cs := by simp [d8z]
theorem j7e {sz es} {k : Nat -> List (List AV) -> Prop} : obK (some (sz, es)) k = k sz es := by
 apply propext; constructor
 ·rintro ⟨a, b, h1, h2⟩; cases h1; exact h2
 ·exact fun h => ⟨_, _, rfl, h⟩
theorem g58 {α β : Type} {f : α -> β} {l : List α} {i : Int} {k : β -> Prop} : b6i (l.map f) i k = b6i l i fun a => k (f a) := by
 simp only [b6i, List.getElem?_map, Option.map_eq_some_iff]
 apply propext; constructor
 ·rintro ⟨b, h1, ⟨a, h2, rfl⟩, h3⟩; exact ⟨a, h1, h2, h3⟩
 ·rintro ⟨a, h1, h2, h3⟩; exact ⟨_, h1, ⟨a, h2, rfl⟩, h3⟩
theorem g2a {cs} {k : List AV -> Prop} : b3s (.agg cs) k = k cs := by simp [b3s, b13, cellsOf]
theorem g2d {kd n} {k : List AV -> Prop} : b3s (.v (.int kd n)) k = k [.v (.int kd n)] := by simp [b3s, b13, cellsOf, Value.oneCell']
theorem g2b {b} {k : List AV -> Prop} : b3s (.v (.bool b)) k = k [.v (.bool b)] := by simp [b3s, b13, cellsOf, Value.oneCell']
theorem g2f {a b c} {k : List AV -> Prop} : b3s (.v (.slice a b c)) k = k [.v (.slice a b c)] := by simp [b3s, b13, cellsOf, Value.oneCell']
theorem g2c {sz es} {k : List AV -> Prop} : b3s (.fs sz es) k = k [.fs sz es] := by simp [b3s, b13, cellsOf]
theorem g2e {a b c} {k : List AV -> Prop} : b3s (.rs a b c) k = k [.rs a b c] := by simp [b3s, b13, cellsOf]
theorem j2w {sz es} {k : Int -> Prop} : b5w (.fs sz es) k = k es.length := by simp [b5w, b2o]
theorem j2y {id lo len} {k : Int -> Prop} : b5w (.rs id lo len) k = k len := by simp [b5w, b2o]
theorem j2x {k : Int -> Prop} : b5w (.v (.slice none 0 0)) k = k 0 := by simp [b5w, b2o]
theorem b4l {op e kd a b} {r : Value} (hr : b3a op kd a kd b = some r) : b1l op e (.v (.int kd a)) (.v (.int kd b)) k = k (.v r) := by simp [b1l, b2z, hr]
section
variable {e : EqK} {kd : IntKind} {a b : Int}
theorem g1y : b1l .add e (.v (.int kd a)) (.v (.int kd b)) k = k (.v (.int kd (kd.wrap (a + b)))) := b4l (by simp [b3a, b3r])
theorem g18 : b1l .sub e (.v (.int kd a)) (.v (.int kd b)) k = k (.v (.int kd (kd.wrap (a - b)))) := b4l (by simp [b3a, b3r])
theorem g16 : b1l .mul e (.v (.int kd a)) (.v (.int kd b)) k = k (.v (.int kd (kd.wrap (a * b)))) := b4l (by simp [b3a, b3r])
theorem g11 : b1l .eql e (.v (.int kd a)) (.v (.int kd b)) k = k (B (decide (a = b))) := b4l (by simp only [b3a, b3r, if_true]; by_cases h : a = b <;> simp [h])
theorem g17 : b1l .neq e (.v (.int kd a)) (.v (.int kd b)) k = k (B (decide (¬ a = b))) := b4l (by simp only [b3a, b3r, if_true]; by_cases h : a = b <;> simp [h])
theorem g15 : b1l .lss e (.v (.int kd a)) (.v (.int kd b)) k = k (B (decide (a < b))) := b4l (by simp [b3a, b3r])
theorem g14 : b1l .leq e (.v (.int kd a)) (.v (.int kd b)) k = k (B (decide (a <= b))) := b4l (by simp [b3a, b3r])
theorem g13 : b1l .gtr e (.v (.int kd a)) (.v (.int kd b)) k = k (B (decide (b < a))) := b4l (by simp [b3a, b3r])
theorem g12 : b1l .geq e (.v (.int kd a)) (.v (.int kd b)) k = k (B (decide (b <= a))) := b4l (by simp [b3a, b3r])
theorem g1z {a b : Bool} : b1l .eql .bool (B a) (B b) k = k (B (b6d a b)) := by simp [b1l, b2z, b2q, b6d]
theorem g10 {a b : Bool} : b1l .neq .bool (B a) (B b) k = k (B (!(b6d a b))) := by simp [b1l, b2z, b2q, b6d]
end
theorem l06 {b : Bool} : unK .not (B b) k = k (B (!b)) := by simp [unK, b67]
theorem l05 {kd a} : unK .neg (.v (.int kd a)) k = k (.v (.int kd (kd.wrap (0 - a)))) := by simp [unK, b67]
theorem j50 {o : Ob} : (h.new o).ob h.nx = some o := by simp [Heap.new]
theorem j5z {o : Ob} : (h.new o).nx = nxs h.nx := by simp [Heap.new, nxs]
theorem l1a {o id} : (h.upd id o).ob id = o := by simp [Heap.upd]
theorem l08 {o id} : (h.upd id o).nx = h.nx := by simp [Heap.upd]
theorem g6f {t : Slots} {n} : evT t (.t n) = t n := rfl
theorem g6c {t : Slots} {v} : evT t (.c v) = .v v := rfl
theorem g6g {t : Slots} {n} : evT t (.tf n) = b6l (t n) := rfl
theorem g6x {cs off} : b6l (.fp cs off) = .fp cs off := rfl
theorem g6y {sz es} : b6l (.fs sz es) = .fs sz es := rfl
theorem g6e {t : Slots} {n cs} : evT t (.g n cs) = .fp (cs.map GC.av) 0 := rfl
theorem g6d {t : Slots} {n} : evT t (.f n) = .fn n [] [] := rfl
theorem j81 {t : Slots} {n x} : b0h t (some n) x = upd t n x := rfl
theorem j80 {t : Slots} {x} : b0h t none x = t := rfl
end
theorem d91 {n : Int} (h1 : -9223372036854775808 <= n) (h2 : n < 9223372036854775808) : IntKind.i64.wrap n = n := by
 unfold IntKind.wrap
 simp only [IntKind.bits, IntKind.signed, Bool.true_and]
 split <;> rename_i h <;> simp at h <;> omega
attribute [go_sem] g6g g6x g6y g6f g6c g6d g6e j81 j80 d9t d9r j50 j5z l1a l08
attribute [go_sem ↓] b0r b1e b0v b46 b0u b0f b1h b1n b02 b2f b1g b9f
end Go.Nw
