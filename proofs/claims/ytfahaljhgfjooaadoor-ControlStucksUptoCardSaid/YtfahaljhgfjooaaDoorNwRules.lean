/- One rule for each operation. -/
import Derived.Test.YtfahaljhgfjooaaDoorNwVcg
set_option linter.all false
namespace Go.Nw
def nxs (n : Nat) : Nat := n + 1
def b5r (a b : Bool) : Bool := a == b
def b6s {α : Type} (l : List α) (i : Int) (k : α -> Prop) : Prop := ∃ a, 0 <= i /\ l[i.toNat]? = some a /\ k a
def b4m (cs : List AV) (i : Nat) (k : AV -> Prop) : Prop := ∃ v, cs[i]? = some v /\ k v
def b5f (agg : Bool) (n : Nat) (cs : List AV) (off : Nat) (k : AV -> Prop) : Prop := if agg then off + n <= cs.length /\ k (.agg ((cs.drop off).take n)) else b4m cs off k
def b7j (o : Option Ob) (i : Nat) (k : Nat -> List (List AV) -> List AV -> Prop) : Prop := ∃ sz es cs, o = some (sz, es) /\ es[i]? = some cs /\ k sz es cs
def obK (o : Option Ob) (k : Nat -> List (List AV) -> Prop) : Prop := ∃ sz es, o = some (sz, es) /\ k sz es
def d2q (agg : Bool) (n : Nat) (x : AV) (h : Heap) (k : AV -> Prop) : Prop :=
 match x with
 | .fp cs off => b5f agg n cs off k
 | .rp id i off => b7j (h.ob id) i fun _ _ cs => b5f agg n cs off k
 | _ => False
def d31 (n : Nat) (a x : AV) (h : Heap) (k : Heap -> Prop) : Prop :=
 match a with
 | .rp id i off => b7j (h.ob id) i fun sz es cs => b2a x = true /\ (cellsOf x).length = n /\ off + n <= cs.length /\ k (h.upd id (some (sz, es.set i (cs.take off ++ cellsOf x ++ cs.drop (off + n)))))
 | _ => False
def c2n (c : AV) (p q : Prop) : Prop := match c with | .v (.bool true) => p | .v (.bool false) => q | _ => False
def b3z (x : AV) (k : List AV -> Prop) : Prop := b2a x = true /\ k (cellsOf x)
def d23 (x : AV) (h : Heap) (k : AV -> Prop) : Prop :=
 match x with | .fp cs off => k (.fp cs off) | .rp id i off => (h.ob id).isSome = true /\ k (.rp id i off) | .fn f a b => k (.fn f a b) | _ => False
def d0o (off : Nat) (x : AV) (h : Heap) (k : AV -> Prop) : Prop := match x with | .fp cs o => k (.fp cs (o + off)) | .rp id i o => (h.ob id).isSome = true /\ k (.rp id i (o + off)) | _ => False
def d07 (n : Nat) (x i : AV) (h : Heap) (k : AV -> Prop) : Prop :=
 match x, i with
 | .fs sz es, .v (.int _ j) => sz = n /\ b6s es j fun cs => k (.fp cs 0)
 | .rs id lo len, .v (.int _ j) => obK (h.ob id) fun sz _ => sz = n /\ 0 <= j /\ j < len /\ k (.rp id (lo + j.toNat) 0)
 | _, _ => False
def b1q (op : BinOp) (e : EqK) (x y : AV) (k : AV -> Prop) : Prop := ∃ r, b27 op e x y = some r /\ k r
def unK (op : UnOp) (x : AV) (k : AV -> Prop) : Prop := ∃ r, b7m op x = some r /\ k r
def b59 (x : AV) (k : Int -> Prop) : Prop := ∃ n, b2r x = some n /\ k n
def d0f (x : AV) (i : Nat) (k : AV -> Prop) : Prop := match x with | .tup vs => b4m vs i k | _ => False
section
variable {O : Orac} {t : Slots} {h : Heap} {k : AV -> Heap -> Prop}
theorem ex1 {a : AV} {b : Heap} {k : AV -> Heap -> Prop} : (∃ r h', some (a, b) = some (r, h') /\ k r h') = k a b := by
 apply propext; constructor
 ·rintro ⟨r, h', e, hk⟩; cases e; exact hk
 ·exact fun hk => ⟨_, _, rfl, hk⟩
theorem ex0 {k : AV -> Heap -> Prop} : (∃ r h', (none : Option (AV × Heap)) = some (r, h') /\ k r h') = False := by simp
theorem l0m {x} : op1 O (.mv x) t h k = k (evT t x) h := by simp only [op1, eff, ex1]
theorem l0o {c a b} : op1 O (.pick c a b) t h k = c2n (evT t c) (k (evT t a) h) (k (evT t b) h) := by
 simp only [op1, eff]
 generalize evT t c = x
 cases x with
 | v y => cases y with
  | bool z => cases z <;> simp only [c2n, ex1, if_true, Bool.false_eq_true, if_false]
  | _ => simp only [c2n, ex0]
 | _ => simp only [c2n, ex0]
theorem l0d {x} : op1 O (.boxF x) t h k = b3z (evT t x) fun cs => k (.fp cs 0) h := rfl
theorem l0c {x} : op1 O (.box x) t h k = b3z (evT t x) fun cs => cs.isEmpty = false /\ k (.rp h.nx 0 0) (h.new (cs.length, [cs])) := by
 simp only [op1, eff, b3z]
 apply propext; constructor
 ·rintro ⟨r, h', he, hk⟩; split at he
  ·rename_i ho; cases he; exact ⟨ho.1, ho.2, hk⟩
  ·cases he
 ·rintro ⟨h1, h0, h2⟩; exact ⟨_, _, by rw [if_pos ⟨h1, h0⟩], h2⟩
theorem l0a {zs} : op1 O (.alloc zs) t h k = k (.rp h.nx 0 0) (h.new (zs.length, [zs.map .v])) := by simp only [op1, eff, ex1]
theorem l0k {agg n a} : op1 O (.load agg n a) t h k = d2q agg n (evT t a) h fun v => k v h := by
 simp only [op1, eff, d2q]
 have cells : ∀ cs off, (∃ r h', (if agg = true then (if off + n <= cs.length then some (AV.agg (List.take n (List.drop off cs)), h) else none) else Option.map (fun x => (x, h)) cs[off]?) = some (r, h') /\ k r h') = b5f agg n cs off fun v => k v h := by
  intro cs off
  unfold b5f b4m
  cases agg with
  | true =>
   simp only [if_true]
   apply propext; constructor
   ·rintro ⟨r, h', he, hk⟩; split at he
    ·rename_i ho; cases he; exact ⟨ho, hk⟩
    ·cases he
   ·rintro ⟨h1, h2⟩; exact ⟨_, _, by rw [if_pos h1], h2⟩
  | false =>
   simp only [Bool.false_eq_true, if_false, Option.map_eq_some_iff]
   apply propext; constructor
   ·rintro ⟨r, h', ⟨x, h1, h2⟩, hk⟩; cases h2; exact ⟨_, h1, hk⟩
   ·rintro ⟨v, h1, h2⟩; exact ⟨v, h, ⟨v, h1, rfl⟩, h2⟩
 generalize evT t a = x
 cases x with
 | fp cs off => exact cells cs off
 | rp id i off =>
  simp only [b7j]
  apply propext; constructor
  ·rintro ⟨r, h', he, hk⟩
   simp only [Option.bind_eq_some_iff] at he
   obtain ⟨⟨sz, es⟩, h1, cs, h2, he⟩ := he
   exact ⟨sz, es, cs, h1, h2, by rw [<- cells]; exact ⟨r, h', he, hk⟩⟩
  ·rintro ⟨sz, es, cs, h1, h2, h3⟩
   rw [<- cells] at h3
   obtain ⟨r, h', he, hk⟩ := h3
   exact ⟨r, h', by simp only [h1, Option.bind_some, h2]; exact he, hk⟩
 | _ => simp
theorem l0p {n a x} : op1 O (.store n a x) t h k = d31 n (evT t a) (evT t x) h fun h' => k .dead h' := by
 simp only [op1, eff, d31]
 generalize evT t a = y
 cases y with
 | rp id i off =>
  simp only [b7j]
  apply propext; constructor
  ·rintro ⟨r, h', he, hk⟩
   simp only [Option.bind_eq_some_iff] at he
   obtain ⟨⟨sz, es⟩, h1, cs, h2, he⟩ := he
   split at he
   ·rename_i hc; cases he; exact ⟨sz, es, cs, h1, h2, hc.1, hc.2.1, hc.2.2, hk⟩
   ·cases he
  ·rintro ⟨sz, es, cs, h1, h2, h3, h4, h5, h6⟩
   exact ⟨_, _, by simp only [h1, Option.bind_some, h2]; rw [if_pos ⟨h3, h4, h5⟩], h6⟩
 | _ => simp
theorem l0n {x} : op1 O (.nilck x) t h k = d23 (evT t x) h fun v => k v h := by
 simp only [op1, eff, d23]
 generalize evT t x = y
 cases y with
 | rp id i off =>
  cases ho : h.ob id with
  | none => simp only [ho, Option.bind_none, ex0, Option.isSome_none, Bool.false_eq_true, false_and]
  | some o => simp only [ho, Option.bind_some, ex1, Option.isSome_some, true_and]
 | fp cs off => exact ex1
 | fn f a b => first | exact ex1 | exact ex0
 | _ => exact ex0
theorem l0h {o x} : op1 O (.fldA o x) t h k = d0o o (evT t x) h fun v => k v h := by
 simp only [op1, eff, d0o]
 generalize evT t x = y
 cases y with
 | rp id i off =>
  cases ho : h.ob id with
  | none => simp only [ho, Option.bind_none, ex0, Option.isSome_none, Bool.false_eq_true, false_and]
  | some o => simp only [ho, Option.bind_some, ex1, Option.isSome_some, true_and]
 | fp cs off => exact ex1
 | fn f a b => first | exact ex1 | exact ex0
 | _ => exact ex0
theorem l0i {n x i} : op1 O (.ixA n x i) t h k = d07 n (evT t x) (evT t i) h fun v => k v h := by
 simp only [op1, eff, d07]
 generalize evT t x = y
 generalize evT t i = z
 cases y with
 | fs sz es =>
  cases z with
  | v w => cases w with
   | int kd j =>
    simp only [b6s]
    apply propext; constructor
    ·rintro ⟨r, h', he, hk⟩
     split at he
     ·rename_i hc
      simp only [Option.map_eq_some_iff] at he
      obtain ⟨cs, h1, h2⟩ := he
      cases h2
      exact ⟨hc.1, cs, hc.2, h1, hk⟩
     ·cases he
    ·rintro ⟨h1, cs, h2, h3, h4⟩
     exact ⟨_, _, by rw [if_pos ⟨h1, h2⟩, h3]; rfl, h4⟩
   | _ => simp
  | _ => simp
 | rs id lo len =>
  cases z with
  | v w => cases w with
   | int kd j =>
    simp only [obK]
    apply propext; constructor
    ·rintro ⟨r, h', he, hk⟩
     simp only [Option.bind_eq_some_iff] at he
     obtain ⟨⟨sz, es⟩, h1, he⟩ := he
     split at he
     ·rename_i hc; cases he; exact ⟨sz, es, h1, hc.1, hc.2.1, hc.2.2, hk⟩
     ·cases he
    ·rintro ⟨sz, es, h1, h2, h3, h4, h5⟩
     exact ⟨_, _, by simp only [h1, Option.bind_some]; rw [if_pos ⟨h2, h3, h4⟩], h5⟩
   | _ => simp
  | _ => simp
 | _ => simp
theorem l0b {op e x y} : op1 O (.bin op e x y) t h k = b1q op e (evT t x) (evT t y) fun v => k v h := by
 simp only [op1, eff, b1q, Option.map_eq_some_iff]
 apply propext; constructor
 ·rintro ⟨r, h', ⟨v, h1, h2⟩, hk⟩; cases h2; exact ⟨_, h1, hk⟩
 ·rintro ⟨v, h1, h2⟩; exact ⟨v, h, ⟨v, h1, rfl⟩, h2⟩
theorem l0q {op x} : op1 O (.un op x) t h k = unK op (evT t x) fun v => k v h := by
 simp only [op1, eff, unK, Option.map_eq_some_iff]
 apply propext; constructor
 ·rintro ⟨r, h', ⟨v, h1, h2⟩, hk⟩; cases h2; exact ⟨_, h1, hk⟩
 ·rintro ⟨v, h1, h2⟩; exact ⟨v, h, ⟨v, h1, rfl⟩, h2⟩
theorem l0j {x} : op1 O (.len false x) t h k = b59 (evT t x) fun n => k (I n) h := by
 simp only [op1, eff, b59, Bool.false_eq_true, if_false, Option.map_eq_some_iff]
 apply propext; constructor
 ·rintro ⟨r, h', ⟨v, h1, h2⟩, hk⟩; cases h2; exact ⟨_, h1, hk⟩
 ·rintro ⟨v, h1, h2⟩; exact ⟨_, h, ⟨v, h1, rfl⟩, h2⟩
theorem l0g {x i} : op1 O (.ext x i) t h k = d0f (evT t x) i fun v => k v h := by
 simp only [op1, eff, d0f]
 generalize evT t x = y
 cases y with
 | tup vs =>
  simp only [b4m, Option.map_eq_some_iff]
  apply propext; constructor
  ·rintro ⟨r, h', ⟨v, h1, h2⟩, hk⟩; cases h2; exact ⟨_, h1, hk⟩
  ·rintro ⟨v, h1, h2⟩; exact ⟨v, h, ⟨v, h1, rfl⟩, h2⟩
 | _ => simp
theorem l0l {f a b} : op1 O (.mkfn f a b) t h k = k (.fn f (a.map (evT t)) (b.map (evT t))) h := by simp only [op1, eff, ex1]
theorem l0e {f l} : op1 O (.call f l) t h k = b6p O f (l.map (evT t)) h k := rfl
theorem l0f {f l} : op1 O (.callv f l) t h k = ∃ n a b, callee (evT t f) = some (n, a, b) /\ b6p O n (a ++ l.map (evT t) ++ b) h k := rfl
end
section
variable {O : Orac} {d : Option Nat} {g : Nat} {b0 : Bool} {r : List XO} {K : Slots -> Heap -> Prop} {t : Slots} {h : Heap}
theorem g5t {x} : b0d O (⟨d, none, .mv x⟩ :: r) K t h = op1 O (.mv x) t h (fun v h' => b0d O r K (b0h t d v) h') := b2j rfl
theorem g9r {x} : b0d O (⟨d, some (g, b0), .mv x⟩ :: r) K t h = b25 (t g) b0 (op1 O (.mv x) (upd t g (B b0)) h (fun v h' => b0d O r K (b0h (upd t g (B b0)) d v) h')) (b0d O r K (b0h (upd t g (B (!b0))) d U) h) (b0d O r K (b0h t d U) h) := b2h rfl
theorem g5v {c a b} : b0d O (⟨d, none, .pick c a b⟩ :: r) K t h = op1 O (.pick c a b) t h (fun v h' => b0d O r K (b0h t d v) h') := b2j rfl
theorem g9t {c a b} : b0d O (⟨d, some (g, b0), .pick c a b⟩ :: r) K t h = b25 (t g) b0 (op1 O (.pick c a b) (upd t g (B b0)) h (fun v h' => b0d O r K (b0h (upd t g (B b0)) d v) h')) (b0d O r K (b0h (upd t g (B (!b0))) d U) h) (b0d O r K (b0h t d U) h) := b2h rfl
theorem g5b {x} : b0d O (⟨d, none, .boxF x⟩ :: r) K t h = op1 O (.boxF x) t h (fun v h' => b0d O r K (b0h t d v) h') := b2j rfl
theorem g9i {x} : b0d O (⟨d, some (g, b0), .boxF x⟩ :: r) K t h = b25 (t g) b0 (op1 O (.boxF x) (upd t g (B b0)) h (fun v h' => b0d O r K (b0h (upd t g (B b0)) d v) h')) (b0d O r K (b0h (upd t g (B (!b0))) d U) h) (b0d O r K (b0h t d U) h) := b2h rfl
theorem g5a {x} : b0d O (⟨d, none, .box x⟩ :: r) K t h = op1 O (.box x) t h (fun v h' => b0d O r K (b0h t d v) h') := b2j rfl
theorem g9h {x} : b0d O (⟨d, some (g, b0), .box x⟩ :: r) K t h = b25 (t g) b0 (op1 O (.box x) (upd t g (B b0)) h (fun v h' => b0d O r K (b0h (upd t g (B b0)) d v) h')) (b0d O r K (b0h (upd t g (B (!b0))) d U) h) (b0d O r K (b0h t d U) h) := b2h rfl
theorem g48 {zs} : b0d O (⟨d, none, .alloc zs⟩ :: r) K t h = op1 O (.alloc zs) t h (fun v h' => b0d O r K (b0h t d v) h') := b2j rfl
theorem g9f {zs} : b0d O (⟨d, some (g, b0), .alloc zs⟩ :: r) K t h = b25 (t g) b0 (op1 O (.alloc zs) (upd t g (B b0)) h (fun v h' => b0d O r K (b0h (upd t g (B b0)) d v) h')) (b0d O r K (b0h (upd t g (B (!b0))) d U) h) (b0d O r K (b0h t d U) h) := b2h rfl
theorem g5r {agg n a} : b0d O (⟨d, none, .load agg n a⟩ :: r) K t h = op1 O (.load agg n a) t h (fun v h' => b0d O r K (b0h t d v) h') := b2j rfl
theorem g9p {agg n a} : b0d O (⟨d, some (g, b0), .load agg n a⟩ :: r) K t h = b25 (t g) b0 (op1 O (.load agg n a) (upd t g (B b0)) h (fun v h' => b0d O r K (b0h (upd t g (B b0)) d v) h')) (b0d O r K (b0h (upd t g (B (!b0))) d U) h) (b0d O r K (b0h t d U) h) := b2h rfl
theorem g6o {n a x} : b0d O (⟨d, none, .store n a x⟩ :: r) K t h = op1 O (.store n a x) t h (fun v h' => b0d O r K (b0h t d v) h') := b2j rfl
theorem g9u {n a x} : b0d O (⟨d, some (g, b0), .store n a x⟩ :: r) K t h = b25 (t g) b0 (op1 O (.store n a x) (upd t g (B b0)) h (fun v h' => b0d O r K (b0h (upd t g (B b0)) d v) h')) (b0d O r K (b0h (upd t g (B (!b0))) d U) h) (b0d O r K (b0h t d U) h) := b2h rfl
theorem g5u {x} : b0d O (⟨d, none, .nilck x⟩ :: r) K t h = op1 O (.nilck x) t h (fun v h' => b0d O r K (b0h t d v) h') := b2j rfl
theorem g9s {x} : b0d O (⟨d, some (g, b0), .nilck x⟩ :: r) K t h = b25 (t g) b0 (op1 O (.nilck x) (upd t g (B b0)) h (fun v h' => b0d O r K (b0h (upd t g (B b0)) d v) h')) (b0d O r K (b0h (upd t g (B (!b0))) d U) h) (b0d O r K (b0h t d U) h) := b2h rfl
theorem g5k {o x} : b0d O (⟨d, none, .fldA o x⟩ :: r) K t h = op1 O (.fldA o x) t h (fun v h' => b0d O r K (b0h t d v) h') := b2j rfl
theorem g9m {o x} : b0d O (⟨d, some (g, b0), .fldA o x⟩ :: r) K t h = b25 (t g) b0 (op1 O (.fldA o x) (upd t g (B b0)) h (fun v h' => b0d O r K (b0h (upd t g (B b0)) d v) h')) (b0d O r K (b0h (upd t g (B (!b0))) d U) h) (b0d O r K (b0h t d U) h) := b2h rfl
theorem g5l {n x i} : b0d O (⟨d, none, .ixA n x i⟩ :: r) K t h = op1 O (.ixA n x i) t h (fun v h' => b0d O r K (b0h t d v) h') := b2j rfl
theorem g9n {n x i} : b0d O (⟨d, some (g, b0), .ixA n x i⟩ :: r) K t h = b25 (t g) b0 (op1 O (.ixA n x i) (upd t g (B b0)) h (fun v h' => b0d O r K (b0h (upd t g (B b0)) d v) h')) (b0d O r K (b0h (upd t g (B (!b0))) d U) h) (b0d O r K (b0h t d U) h) := b2h rfl
theorem g49 {op e x y} : b0d O (⟨d, none, .bin op e x y⟩ :: r) K t h = op1 O (.bin op e x y) t h (fun v h' => b0d O r K (b0h t d v) h') := b2j rfl
theorem g9g {op e x y} : b0d O (⟨d, some (g, b0), .bin op e x y⟩ :: r) K t h = b25 (t g) b0 (op1 O (.bin op e x y) (upd t g (B b0)) h (fun v h' => b0d O r K (b0h (upd t g (B b0)) d v) h')) (b0d O r K (b0h (upd t g (B (!b0))) d U) h) (b0d O r K (b0h t d U) h) := b2h rfl
theorem g6p {op x} : b0d O (⟨d, none, .un op x⟩ :: r) K t h = op1 O (.un op x) t h (fun v h' => b0d O r K (b0h t d v) h') := b2j rfl
theorem g9v {op x} : b0d O (⟨d, some (g, b0), .un op x⟩ :: r) K t h = b25 (t g) b0 (op1 O (.un op x) (upd t g (B b0)) h (fun v h' => b0d O r K (b0h (upd t g (B b0)) d v) h')) (b0d O r K (b0h (upd t g (B (!b0))) d U) h) (b0d O r K (b0h t d U) h) := b2h rfl
theorem g5q {x} : b0d O (⟨d, none, .len false x⟩ :: r) K t h = op1 O (.len false x) t h (fun v h' => b0d O r K (b0h t d v) h') := b2j rfl
theorem g9o {x} : b0d O (⟨d, some (g, b0), .len false x⟩ :: r) K t h = b25 (t g) b0 (op1 O (.len false x) (upd t g (B b0)) h (fun v h' => b0d O r K (b0h (upd t g (B b0)) d v) h')) (b0d O r K (b0h (upd t g (B (!b0))) d U) h) (b0d O r K (b0h t d U) h) := b2h rfl
theorem g5j {x i} : b0d O (⟨d, none, .ext x i⟩ :: r) K t h = op1 O (.ext x i) t h (fun v h' => b0d O r K (b0h t d v) h') := b2j rfl
theorem g9l {x i} : b0d O (⟨d, some (g, b0), .ext x i⟩ :: r) K t h = b25 (t g) b0 (op1 O (.ext x i) (upd t g (B b0)) h (fun v h' => b0d O r K (b0h (upd t g (B b0)) d v) h')) (b0d O r K (b0h (upd t g (B (!b0))) d U) h) (b0d O r K (b0h t d U) h) := b2h rfl
theorem g5s {f a b} : b0d O (⟨d, none, .mkfn f a b⟩ :: r) K t h = op1 O (.mkfn f a b) t h (fun v h' => b0d O r K (b0h t d v) h') := b2j rfl
theorem g9q {f a b} : b0d O (⟨d, some (g, b0), .mkfn f a b⟩ :: r) K t h = b25 (t g) b0 (op1 O (.mkfn f a b) (upd t g (B b0)) h (fun v h' => b0d O r K (b0h (upd t g (B b0)) d v) h')) (b0d O r K (b0h (upd t g (B (!b0))) d U) h) (b0d O r K (b0h t d U) h) := b2h rfl
theorem g5c {f l} : b0d O (⟨d, none, .call f l⟩ :: r) K t h = op1 O (.call f l) t h (fun v h' => b0d O r K (b0h t d v) h') := b2j rfl
theorem g9j {f l} : b0d O (⟨d, some (g, b0), .call f l⟩ :: r) K t h = b25 (t g) b0 (op1 O (.call f l) (upd t g (B b0)) h (fun v h' => b0d O r K (b0h (upd t g (B b0)) d v) h')) (b0d O r K (b0h (upd t g (B (!b0))) d U) h) (b0d O r K (b0h t d U) h) := b2h rfl
theorem g5d {f l} : b0d O (⟨d, none, .callv f l⟩ :: r) K t h = op1 O (.callv f l) t h (fun v h' => b0d O r K (b0h t d v) h') := b2j rfl
theorem g9k {f l} : b0d O (⟨d, some (g, b0), .callv f l⟩ :: r) K t h = b25 (t g) b0 (op1 O (.callv f l) (upd t g (B b0)) h (fun v h' => b0d O r K (b0h (upd t g (B b0)) d v) h')) (b0d O r K (b0h (upd t g (B (!b0))) d U) h) (b0d O r K (b0h t d U) h) := b2h rfl
end
section
variable {k : AV -> Prop} {h : Heap}
theorem g6u {n cs off} : b5f false n cs off k = b4m cs off k := by simp [b5f]
theorem g6v {n cs off} : b5f true n cs off k = (off + n <= cs.length /\ k (.agg ((cs.drop off).take n))) := by simp [b5f]
theorem g9w {c cs} : b4m (c :: cs) 0 k = k c := by simp [b4m]
theorem g9x {c cs n} : b4m (c :: cs) (n + 1) k = b4m cs n k := by simp [b4m]
theorem g0t {sz es i} {k : Nat -> List (List AV) -> List AV -> Prop} : b7j (some (sz, es)) i k = ∃ cs, es[i]? = some cs /\ k sz es cs := by
 apply propext; constructor
 ·rintro ⟨a, b, c, h1, h2, h3⟩; cases h1; exact ⟨c, h2, h3⟩
 ·rintro ⟨c, h2, h3⟩; exact ⟨_, _, c, rfl, h2, h3⟩
theorem l2d {sz cs} {k : Nat -> List (List AV) -> List AV -> Prop} : b7j (some (sz, [cs])) 0 k = k sz [cs] cs := by simp [g0t]
theorem j9y {sz es} {k : Nat -> List (List AV) -> Prop} : obK (some (sz, es)) k = k sz es := by
 apply propext; constructor
 ·rintro ⟨a, b, h1, h2⟩; cases h1; exact h2
 ·exact fun h => ⟨_, _, rfl, h⟩
theorem g8k {α β : Type} {f : α -> β} {l : List α} {i : Int} {k : β -> Prop} : b6s (l.map f) i k = b6s l i fun a => k (f a) := by
 simp only [b6s, List.getElem?_map, Option.map_eq_some_iff]
 apply propext; constructor
 ·rintro ⟨b, h1, ⟨a, h2, rfl⟩, h3⟩; exact ⟨a, h1, h2, h3⟩
 ·rintro ⟨a, h1, h2, h3⟩; exact ⟨_, h1, ⟨a, h2, rfl⟩, h3⟩
theorem g4d {cs} {k : List AV -> Prop} : b3z (.agg cs) k = k cs := by simp [b3z, b2a, cellsOf]
theorem g4g {kd n} {k : List AV -> Prop} : b3z (.v (.int kd n)) k = k [.v (.int kd n)] := by simp [b3z, b2a, cellsOf, Value.oneCell']
theorem g4e {b} {k : List AV -> Prop} : b3z (.v (.bool b)) k = k [.v (.bool b)] := by simp [b3z, b2a, cellsOf, Value.oneCell']
theorem g4i {a b c} {k : List AV -> Prop} : b3z (.v (.slice a b c)) k = k [.v (.slice a b c)] := by simp [b3z, b2a, cellsOf, Value.oneCell']
theorem g4f {sz es} {k : List AV -> Prop} : b3z (.fs sz es) k = k [.fs sz es] := by simp [b3z, b2a, cellsOf]
theorem g4h {a b c} {k : List AV -> Prop} : b3z (.rs a b c) k = k [.rs a b c] := by simp [b3z, b2a, cellsOf]
theorem j5e {sz es} {k : Int -> Prop} : b59 (.fs sz es) k = k es.length := by simp [b59, b2r]
theorem j5g {id lo len} {k : Int -> Prop} : b59 (.rs id lo len) k = k len := by simp [b59, b2r]
theorem j5f {k : Int -> Prop} : b59 (.v (.slice none 0 0)) k = k 0 := by simp [b59, b2r]
theorem b4r {op e kd a b} {r : Value} (hr : b3f op kd a kd b = some r) : b1q op e (.v (.int kd a)) (.v (.int kd b)) k = k (.v r) := by simp [b1q, b27, hr]
section
variable {e : EqK} {kd : IntKind} {a b : Int}
theorem g31 : b1q .add e (.v (.int kd a)) (.v (.int kd b)) k = k (.v (.int kd (kd.wrap (a + b)))) := b4r (by simp [b3f, b3y])
theorem g4b : b1q .sub e (.v (.int kd a)) (.v (.int kd b)) k = k (.v (.int kd (kd.wrap (a - b)))) := b4r (by simp [b3f, b3y])
theorem g39 : b1q .mul e (.v (.int kd a)) (.v (.int kd b)) k = k (.v (.int kd (kd.wrap (a * b)))) := b4r (by simp [b3f, b3y])
theorem g34 : b1q .eql e (.v (.int kd a)) (.v (.int kd b)) k = k (B (decide (a = b))) := b4r (by simp only [b3f, b3y, if_true]; by_cases h : a = b <;> simp [h])
theorem g4a : b1q .neq e (.v (.int kd a)) (.v (.int kd b)) k = k (B (decide (¬ a = b))) := b4r (by simp only [b3f, b3y, if_true]; by_cases h : a = b <;> simp [h])
theorem g38 : b1q .lss e (.v (.int kd a)) (.v (.int kd b)) k = k (B (decide (a < b))) := b4r (by simp [b3f, b3y])
theorem g37 : b1q .leq e (.v (.int kd a)) (.v (.int kd b)) k = k (B (decide (a <= b))) := b4r (by simp [b3f, b3y])
theorem g36 : b1q .gtr e (.v (.int kd a)) (.v (.int kd b)) k = k (B (decide (b < a))) := b4r (by simp [b3f, b3y])
theorem g35 : b1q .geq e (.v (.int kd a)) (.v (.int kd b)) k = k (B (decide (b <= a))) := b4r (by simp [b3f, b3y])
theorem g32 {a b : Bool} : b1q .eql .bool (B a) (B b) k = k (B (b5r a b)) := by simp [b1q, b27, b2u, b5r]
theorem g33 {a b : Bool} : b1q .neq .bool (B a) (B b) k = k (B (!(b5r a b))) := by simp [b1q, b27, b2u, b5r]
end
theorem l38 {b : Bool} : unK .not (B b) k = k (B (!b)) := by simp [unK, b7m]
theorem l37 {kd a} : unK .neg (.v (.int kd a)) k = k (.v (.int kd (kd.wrap (0 - a)))) := by simp [unK, b7m]
theorem j8i {o : Ob} : (h.new o).ob h.nx = some o := by simp [Heap.new]
theorem j8h {o : Ob} : (h.new o).nx = nxs h.nx := by simp [Heap.new, nxs]
theorem l4c {o id} : (h.upd id o).ob id = o := by simp [Heap.upd]
theorem l4a {o id} : (h.upd id o).nx = h.nx := by simp [Heap.upd]
theorem g8r {t : Slots} {n} : evT t (.t n) = t n := rfl
theorem g8o {t : Slots} {v} : evT t (.c v) = .v v := rfl
theorem g8s {t : Slots} {n} : evT t (.tf n) = b6v (t n) := rfl
theorem g9b {cs off} : b6v (.fp cs off) = .fp cs off := rfl
theorem g9c {sz es} : b6v (.fs sz es) = .fs sz es := rfl
theorem g8q {t : Slots} {n cs} : evT t (.g n cs) = .fp (cs.map GC.av) 0 := rfl
theorem g8p {t : Slots} {n} : evT t (.f n) = .fn n [] [] := rfl
theorem l1n {t : Slots} {n x} : b0h t (some n) x = upd t n x := rfl
theorem l1m {t : Slots} {x} : b0h t none x = t := rfl
end
theorem g1u {n : Int} (h1 : -9223372036854775808 <= n) (h2 : n < 9223372036854775808) : IntKind.i64.wrap n = n := by
 unfold IntKind.wrap
 simp only [IntKind.bits, IntKind.signed, Bool.true_and]
 split <;> rename_i h <;> simp at h <;> omega
attribute [go_sem] g8s g9b g9c g8r g8o g8p g8q l1n l1m g1m g1k j8i j8h l4c l4a
attribute [go_sem ↓] b0r b1b b0x b5h b0u b0f b1e b1n b01 b2b b1d c0a
end Go.Nw
