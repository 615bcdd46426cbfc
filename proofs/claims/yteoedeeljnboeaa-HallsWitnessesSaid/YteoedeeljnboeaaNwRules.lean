/- One rule for each operation. -/
import Derived.Test.YteoedeeljnboeaaNwVcg
set_option linter.all false
set_option linter.unusedVariables false
set_option linter.unusedSimpArgs false
set_option linter.unusedSectionVars false
namespace Go.Nw
def nxs (n : Nat) : Nat := n + 1
def b9y (a b : Bool) : Bool := a == b
def b7c {α : Type} (l : List α) (i : Int) (k : α → Prop) : Prop := ∃ a, 0 ≤ i ∧ l[i.toNat]? = some a ∧ k a
def b5p (cs : List AV) (i : Nat) (k : AV → Prop) : Prop := ∃ v, cs[i]? = some v ∧ k v
def b5y (agg : Bool) (n : Nat) (cs : List AV) (off : Nat) (k : AV → Prop) : Prop := if agg then off + n ≤ cs.length ∧ k (.agg ((cs.drop off).take n)) else b5p cs off k
def b72 (o : Option Ob) (i : Nat) (k : Nat → List (List AV) → List AV → Prop) : Prop := ∃ sz es cs, o = some (sz, es) ∧ es[i]? = some cs ∧ k sz es cs
def obK (o : Option Ob) (k : Nat → List (List AV) → Prop) : Prop := ∃ sz es, o = some (sz, es) ∧ k sz es
def d1k (agg : Bool) (n : Nat) (x : AV) (h : Heap) (k : AV → Prop) : Prop :=
  match x with
  | .fp cs off => b5y agg n cs off k
  | .rp id i off => b72 (h.ob id) i fun _ _ cs => b5y agg n cs off k
  | _ => False
def d2q (n : Nat) (a x : AV) (h : Heap) (k : Heap → Prop) : Prop :=
  match a with
  | .rp id i off => b72 (h.ob id) i fun sz es cs => b2u x = true ∧ (cellsOf x).length = n ∧ off + n ≤ cs.length ∧ k (h.upd id (some (sz, es.set i (cs.take off ++ cellsOf x ++ cs.drop (off + n)))))
  | _ => False
def c3x (c : AV) (p q : Prop) : Prop := match c with | .v (.bool true) => p | .v (.bool false) => q | _ => False
def b4i (x : AV) (k : List AV → Prop) : Prop := b2u x = true ∧ k (cellsOf x)
def d1v (x : AV) (h : Heap) (k : AV → Prop) : Prop :=
  match x with | .fp cs off => k (.fp cs off) | .rp id i off => (h.ob id).isSome = true ∧ k (.rp id i off) | .fn f a b => k (.fn f a b) | _ => False
def c85 (off : Nat) (x : AV) (h : Heap) (k : AV → Prop) : Prop := match x with | .fp cs o => k (.fp cs (o + off)) | .rp id i o => (h.ob id).isSome = true ∧ k (.rp id i (o + off)) | _ => False
def d0r (n : Nat) (x i : AV) (h : Heap) (k : AV → Prop) : Prop :=
  match x, i with
  | .fs sz es, .v (.int _ j) => sz = n ∧ b7c es j fun cs => k (.fp cs 0)
  | .rs id lo len, .v (.int _ j) => obK (h.ob id) fun sz _ => sz = n ∧ 0 ≤ j ∧ j < len ∧ k (.rp id (lo + j.toNat) 0)
  | _, _ => False
def b2t (op : BinOp) (e : EqK) (x y : AV) (k : AV → Prop) : Prop := ∃ r, b4s op e x y = some r ∧ k r
def unK (op : UnOp) (x : AV) (k : AV → Prop) : Prop := ∃ r, b9l op x = some r ∧ k r
def b60 (x : AV) (k : Int → Prop) : Prop := ∃ n, b3l x = some n ∧ k n
def c80 (x : AV) (i : Nat) (k : AV → Prop) : Prop := match x with | .tup vs => b5p vs i k | _ => False
section
variable {O : Orac} {t : Slots} {h : Heap} {k : AV → Heap → Prop}
theorem ex1 {a : AV} {b : Heap} {k : AV → Heap → Prop} : (∃ r h', some (a, b) = some (r, h') ∧ k r h') = k a b := by
  apply propext; constructor
  · rintro ⟨r, h', e, hk⟩; cases e; exact hk
  · exact fun hk => ⟨_, _, rfl, hk⟩
theorem ex0 {k : AV → Heap → Prop} : (∃ r h', (none : Option (AV × Heap)) = some (r, h') ∧ k r h') = False := by simp
theorem j5x {x} : op1 O (.mv x) t h k = k (evT t x) h := by simp only [op1, eff, ex1]
theorem j5z {c a b} : op1 O (.pick c a b) t h k = c3x (evT t c) (k (evT t a) h) (k (evT t b) h) := by
  simp only [op1, eff]
  generalize evT t c = x
  cases x with
  | v y => cases y with
    | bool z => cases z <;> simp only [c3x, ex1, if_true, Bool.false_eq_true, if_false]
    | _ => simp only [c3x, ex0]
  | _ => simp only [c3x, ex0]
theorem j5o {x} : op1 O (.boxF x) t h k = b4i (evT t x) fun cs => k (.fp cs 0) h := rfl
theorem j5n {x} : op1 O (.box x) t h k = b4i (evT t x) fun cs => k (.rp h.nx 0 0) (h.new (cs.length, [cs])) := by
  simp only [op1, eff, b4i]
  apply propext; constructor
  · rintro ⟨r, h', he, hk⟩; split at he
    · rename_i ho; cases he; exact ⟨ho, hk⟩
    · cases he
  · rintro ⟨h1, h2⟩; exact ⟨_, _, by rw [if_pos h1], h2⟩
theorem j5l {zs} : op1 O (.alloc zs) t h k = k (.rp h.nx 0 0) (h.new (zs.length, [zs.map .v])) := by simp only [op1, eff, ex1]
theorem j5v {agg n a} : op1 O (.load agg n a) t h k = d1k agg n (evT t a) h fun v => k v h := by
  simp only [op1, eff, d1k]
  have cells : ∀ cs off, (∃ r h', (if agg = true then (if off + n ≤ cs.length then some (AV.agg (List.take n (List.drop off cs)), h) else none) else Option.map (fun x => (x, h)) cs[off]?) = some (r, h') ∧ k r h') = b5y agg n cs off fun v => k v h := by
    intro cs off
    unfold b5y b5p
    cases agg with
    | true =>
      simp only [if_true]
      apply propext; constructor
      · rintro ⟨r, h', he, hk⟩; split at he
        · rename_i ho; cases he; exact ⟨ho, hk⟩
        · cases he
      · rintro ⟨h1, h2⟩; exact ⟨_, _, by rw [if_pos h1], h2⟩
    | false =>
      simp only [Bool.false_eq_true, if_false, Option.map_eq_some_iff]
      apply propext; constructor
      · rintro ⟨r, h', ⟨x, h1, h2⟩, hk⟩; cases h2; exact ⟨_, h1, hk⟩
      · rintro ⟨v, h1, h2⟩; exact ⟨v, h, ⟨v, h1, rfl⟩, h2⟩
  generalize evT t a = x
  cases x with
  | fp cs off => exact cells cs off
  | rp id i off =>
    simp only [b72]
    apply propext; constructor
    · rintro ⟨r, h', he, hk⟩
      simp only [Option.bind_eq_some_iff] at he
      obtain ⟨⟨sz, es⟩, h1, cs, h2, he⟩ := he
      exact ⟨sz, es, cs, h1, h2, by rw [← cells]; exact ⟨r, h', he, hk⟩⟩
    · rintro ⟨sz, es, cs, h1, h2, h3⟩
      rw [← cells] at h3
      obtain ⟨r, h', he, hk⟩ := h3
      exact ⟨r, h', by simp only [h1, Option.bind_some, h2]; exact he, hk⟩
  | _ => simp
theorem j50 {n a x} : op1 O (.store n a x) t h k = d2q n (evT t a) (evT t x) h fun h' => k .dead h' := by
  simp only [op1, eff, d2q]
  generalize evT t a = y
  cases y with
  | rp id i off =>
    simp only [b72]
    apply propext; constructor
    · rintro ⟨r, h', he, hk⟩
      simp only [Option.bind_eq_some_iff] at he
      obtain ⟨⟨sz, es⟩, h1, cs, h2, he⟩ := he
      split at he
      · rename_i hc; cases he; exact ⟨sz, es, cs, h1, h2, hc.1, hc.2.1, hc.2.2, hk⟩
      · cases he
    · rintro ⟨sz, es, cs, h1, h2, h3, h4, h5, h6⟩
      exact ⟨_, _, by simp only [h1, Option.bind_some, h2]; rw [if_pos ⟨h3, h4, h5⟩], h6⟩
  | _ => simp
theorem j5y {x} : op1 O (.nilck x) t h k = d1v (evT t x) h fun v => k v h := by
  simp only [op1, eff, d1v]
  generalize evT t x = y
  cases y with
  | rp id i off =>
    cases ho : h.ob id with
    | none => simp only [ho, Option.bind_none, ex0, Option.isSome_none, Bool.false_eq_true, false_and]
    | some o => simp only [ho, Option.bind_some, ex1, Option.isSome_some, true_and]
  | fp cs off => exact ex1
  | fn f a b => first | exact ex1 | exact ex0
  | _ => exact ex0
theorem j5s {o x} : op1 O (.fldA o x) t h k = c85 o (evT t x) h fun v => k v h := by
  simp only [op1, eff, c85]
  generalize evT t x = y
  cases y with
  | rp id i off =>
    cases ho : h.ob id with
    | none => simp only [ho, Option.bind_none, ex0, Option.isSome_none, Bool.false_eq_true, false_and]
    | some o => simp only [ho, Option.bind_some, ex1, Option.isSome_some, true_and]
  | fp cs off => exact ex1
  | fn f a b => first | exact ex1 | exact ex0
  | _ => exact ex0
theorem j5t {n x i} : op1 O (.ixA n x i) t h k = d0r n (evT t x) (evT t i) h fun v => k v h := by
  simp only [op1, eff, d0r]
  generalize evT t x = y
  generalize evT t i = z
  cases y with
  | fs sz es =>
    cases z with
    | v w => cases w with
      | int kd j =>
        simp only [b7c]
        apply propext; constructor
        · rintro ⟨r, h', he, hk⟩
          split at he
          · rename_i hc
            simp only [Option.map_eq_some_iff] at he
            obtain ⟨cs, h1, h2⟩ := he
            cases h2
            exact ⟨hc.1, cs, hc.2, h1, hk⟩
          · cases he
        · rintro ⟨h1, cs, h2, h3, h4⟩
          exact ⟨_, _, by rw [if_pos ⟨h1, h2⟩, h3]; rfl, h4⟩
      | _ => simp
    | _ => simp
  | rs id lo len =>
    cases z with
    | v w => cases w with
      | int kd j =>
        simp only [obK]
        apply propext; constructor
        · rintro ⟨r, h', he, hk⟩
          simp only [Option.bind_eq_some_iff] at he
          obtain ⟨⟨sz, es⟩, h1, he⟩ := he
          split at he
          · rename_i hc; cases he; exact ⟨sz, es, h1, hc.1, hc.2.1, hc.2.2, hk⟩
          · cases he
        · rintro ⟨sz, es, h1, h2, h3, h4, h5⟩
          exact ⟨_, _, by simp only [h1, Option.bind_some]; rw [if_pos ⟨h2, h3, h4⟩], h5⟩
      | _ => simp
    | _ => simp
  | _ => simp
theorem j5m {op e x y} : op1 O (.bin op e x y) t h k = b2t op e (evT t x) (evT t y) fun v => k v h := by
  simp only [op1, eff, b2t, Option.map_eq_some_iff]
  apply propext; constructor
  · rintro ⟨r, h', ⟨v, h1, h2⟩, hk⟩; cases h2; exact ⟨_, h1, hk⟩
  · rintro ⟨v, h1, h2⟩; exact ⟨v, h, ⟨v, h1, rfl⟩, h2⟩
theorem j51 {op x} : op1 O (.un op x) t h k = unK op (evT t x) fun v => k v h := by
  simp only [op1, eff, unK, Option.map_eq_some_iff]
  apply propext; constructor
  · rintro ⟨r, h', ⟨v, h1, h2⟩, hk⟩; cases h2; exact ⟨_, h1, hk⟩
  · rintro ⟨v, h1, h2⟩; exact ⟨v, h, ⟨v, h1, rfl⟩, h2⟩
theorem j5u {x} : op1 O (.len false x) t h k = b60 (evT t x) fun n => k (I n) h := by
  simp only [op1, eff, b60, Bool.false_eq_true, if_false, Option.map_eq_some_iff]
  apply propext; constructor
  · rintro ⟨r, h', ⟨v, h1, h2⟩, hk⟩; cases h2; exact ⟨_, h1, hk⟩
  · rintro ⟨v, h1, h2⟩; exact ⟨_, h, ⟨v, h1, rfl⟩, h2⟩
theorem j5r {x i} : op1 O (.ext x i) t h k = c80 (evT t x) i fun v => k v h := by
  simp only [op1, eff, c80]
  generalize evT t x = y
  cases y with
  | tup vs =>
    simp only [b5p, Option.map_eq_some_iff]
    apply propext; constructor
    · rintro ⟨r, h', ⟨v, h1, h2⟩, hk⟩; cases h2; exact ⟨_, h1, hk⟩
    · rintro ⟨v, h1, h2⟩; exact ⟨v, h, ⟨v, h1, rfl⟩, h2⟩
  | _ => simp
theorem j5w {f a b} : op1 O (.mkfn f a b) t h k = k (.fn f (a.map (evT t)) (b.map (evT t))) h := by simp only [op1, eff, ex1]
theorem j5p {f l} : op1 O (.call f l) t h k = b7a O f (l.map (evT t)) h k := rfl
theorem j5q {f l} : op1 O (.callv f l) t h k = ∃ n a b, callee (evT t f) = some (n, a, b) ∧ b7a O n (a ++ l.map (evT t) ++ b) h k := rfl
end
section
variable {O : Orac} {d : Option Nat} {g : Nat} {b0 : Bool} {r : List XO} {K : Slots → Heap → Prop} {t : Slots} {h : Heap}
theorem g36 {x} : b0g O (⟨d, none, .mv x⟩ :: r) K t h = op1 O (.mv x) t h (fun v h' => b0g O r K (b0t t d v) h') := b3d rfl
theorem g6t {x} : b0g O (⟨d, some (g, b0), .mv x⟩ :: r) K t h = b3m (t g) b0 (op1 O (.mv x) (upd t g (B b0)) h (fun v h' => b0g O r K (b0t (upd t g (B b0)) d v) h')) (b0g O r K (b0t (upd t g (B (!b0))) d U) h) (b0g O r K (b0t t d U) h) := b3e rfl
theorem g38 {c a b} : b0g O (⟨d, none, .pick c a b⟩ :: r) K t h = op1 O (.pick c a b) t h (fun v h' => b0g O r K (b0t t d v) h') := b3d rfl
theorem g6v {c a b} : b0g O (⟨d, some (g, b0), .pick c a b⟩ :: r) K t h = b3m (t g) b0 (op1 O (.pick c a b) (upd t g (B b0)) h (fun v h' => b0g O r K (b0t (upd t g (B b0)) d v) h')) (b0g O r K (b0t (upd t g (B (!b0))) d U) h) (b0g O r K (b0t t d U) h) := b3e rfl
theorem g3g {x} : b0g O (⟨d, none, .boxF x⟩ :: r) K t h = op1 O (.boxF x) t h (fun v h' => b0g O r K (b0t t d v) h') := b3d rfl
theorem g6k {x} : b0g O (⟨d, some (g, b0), .boxF x⟩ :: r) K t h = b3m (t g) b0 (op1 O (.boxF x) (upd t g (B b0)) h (fun v h' => b0g O r K (b0t (upd t g (B b0)) d v) h')) (b0g O r K (b0t (upd t g (B (!b0))) d U) h) (b0g O r K (b0t t d U) h) := b3e rfl
theorem g3f {x} : b0g O (⟨d, none, .box x⟩ :: r) K t h = op1 O (.box x) t h (fun v h' => b0g O r K (b0t t d v) h') := b3d rfl
theorem g6j {x} : b0g O (⟨d, some (g, b0), .box x⟩ :: r) K t h = b3m (t g) b0 (op1 O (.box x) (upd t g (B b0)) h (fun v h' => b0g O r K (b0t (upd t g (B b0)) d v) h')) (b0g O r K (b0t (upd t g (B (!b0))) d U) h) (b0g O r K (b0t t d U) h) := b3e rfl
theorem g3d {zs} : b0g O (⟨d, none, .alloc zs⟩ :: r) K t h = op1 O (.alloc zs) t h (fun v h' => b0g O r K (b0t t d v) h') := b3d rfl
theorem g6h {zs} : b0g O (⟨d, some (g, b0), .alloc zs⟩ :: r) K t h = b3m (t g) b0 (op1 O (.alloc zs) (upd t g (B b0)) h (fun v h' => b0g O r K (b0t (upd t g (B b0)) d v) h')) (b0g O r K (b0t (upd t g (B (!b0))) d U) h) (b0g O r K (b0t t d U) h) := b3e rfl
theorem g34 {agg n a} : b0g O (⟨d, none, .load agg n a⟩ :: r) K t h = op1 O (.load agg n a) t h (fun v h' => b0g O r K (b0t t d v) h') := b3d rfl
theorem g6r {agg n a} : b0g O (⟨d, some (g, b0), .load agg n a⟩ :: r) K t h = b3m (t g) b0 (op1 O (.load agg n a) (upd t g (B b0)) h (fun v h' => b0g O r K (b0t (upd t g (B b0)) d v) h')) (b0g O r K (b0t (upd t g (B (!b0))) d U) h) (b0g O r K (b0t t d U) h) := b3e rfl
theorem g4k {n a x} : b0g O (⟨d, none, .store n a x⟩ :: r) K t h = op1 O (.store n a x) t h (fun v h' => b0g O r K (b0t t d v) h') := b3d rfl
theorem g6w {n a x} : b0g O (⟨d, some (g, b0), .store n a x⟩ :: r) K t h = b3m (t g) b0 (op1 O (.store n a x) (upd t g (B b0)) h (fun v h' => b0g O r K (b0t (upd t g (B b0)) d v) h')) (b0g O r K (b0t (upd t g (B (!b0))) d U) h) (b0g O r K (b0t t d U) h) := b3e rfl
theorem g37 {x} : b0g O (⟨d, none, .nilck x⟩ :: r) K t h = op1 O (.nilck x) t h (fun v h' => b0g O r K (b0t t d v) h') := b3d rfl
theorem g6u {x} : b0g O (⟨d, some (g, b0), .nilck x⟩ :: r) K t h = b3m (t g) b0 (op1 O (.nilck x) (upd t g (B b0)) h (fun v h' => b0g O r K (b0t (upd t g (B b0)) d v) h')) (b0g O r K (b0t (upd t g (B (!b0))) d U) h) (b0g O r K (b0t t d U) h) := b3e rfl
theorem g3k {o x} : b0g O (⟨d, none, .fldA o x⟩ :: r) K t h = op1 O (.fldA o x) t h (fun v h' => b0g O r K (b0t t d v) h') := b3d rfl
theorem g6o {o x} : b0g O (⟨d, some (g, b0), .fldA o x⟩ :: r) K t h = b3m (t g) b0 (op1 O (.fldA o x) (upd t g (B b0)) h (fun v h' => b0g O r K (b0t (upd t g (B b0)) d v) h')) (b0g O r K (b0t (upd t g (B (!b0))) d U) h) (b0g O r K (b0t t d U) h) := b3e rfl
theorem g3w {n x i} : b0g O (⟨d, none, .ixA n x i⟩ :: r) K t h = op1 O (.ixA n x i) t h (fun v h' => b0g O r K (b0t t d v) h') := b3d rfl
theorem g6p {n x i} : b0g O (⟨d, some (g, b0), .ixA n x i⟩ :: r) K t h = b3m (t g) b0 (op1 O (.ixA n x i) (upd t g (B b0)) h (fun v h' => b0g O r K (b0t (upd t g (B b0)) d v) h')) (b0g O r K (b0t (upd t g (B (!b0))) d U) h) (b0g O r K (b0t t d U) h) := b3e rfl
theorem g3e {op e x y} : b0g O (⟨d, none, .bin op e x y⟩ :: r) K t h = op1 O (.bin op e x y) t h (fun v h' => b0g O r K (b0t t d v) h') := b3d rfl
theorem g6i {op e x y} : b0g O (⟨d, some (g, b0), .bin op e x y⟩ :: r) K t h = b3m (t g) b0 (op1 O (.bin op e x y) (upd t g (B b0)) h (fun v h' => b0g O r K (b0t (upd t g (B b0)) d v) h')) (b0g O r K (b0t (upd t g (B (!b0))) d U) h) (b0g O r K (b0t t d U) h) := b3e rfl
theorem g4l {op x} : b0g O (⟨d, none, .un op x⟩ :: r) K t h = op1 O (.un op x) t h (fun v h' => b0g O r K (b0t t d v) h') := b3d rfl
theorem g6x {op x} : b0g O (⟨d, some (g, b0), .un op x⟩ :: r) K t h = b3m (t g) b0 (op1 O (.un op x) (upd t g (B b0)) h (fun v h' => b0g O r K (b0t (upd t g (B b0)) d v) h')) (b0g O r K (b0t (upd t g (B (!b0))) d U) h) (b0g O r K (b0t t d U) h) := b3e rfl
theorem g33 {x} : b0g O (⟨d, none, .len false x⟩ :: r) K t h = op1 O (.len false x) t h (fun v h' => b0g O r K (b0t t d v) h') := b3d rfl
theorem g6q {x} : b0g O (⟨d, some (g, b0), .len false x⟩ :: r) K t h = b3m (t g) b0 (op1 O (.len false x) (upd t g (B b0)) h (fun v h' => b0g O r K (b0t (upd t g (B b0)) d v) h')) (b0g O r K (b0t (upd t g (B (!b0))) d U) h) (b0g O r K (b0t t d U) h) := b3e rfl
theorem g3j {x i} : b0g O (⟨d, none, .ext x i⟩ :: r) K t h = op1 O (.ext x i) t h (fun v h' => b0g O r K (b0t t d v) h') := b3d rfl
theorem g6n {x i} : b0g O (⟨d, some (g, b0), .ext x i⟩ :: r) K t h = b3m (t g) b0 (op1 O (.ext x i) (upd t g (B b0)) h (fun v h' => b0g O r K (b0t (upd t g (B b0)) d v) h')) (b0g O r K (b0t (upd t g (B (!b0))) d U) h) (b0g O r K (b0t t d U) h) := b3e rfl
theorem g35 {f a b} : b0g O (⟨d, none, .mkfn f a b⟩ :: r) K t h = op1 O (.mkfn f a b) t h (fun v h' => b0g O r K (b0t t d v) h') := b3d rfl
theorem g6s {f a b} : b0g O (⟨d, some (g, b0), .mkfn f a b⟩ :: r) K t h = b3m (t g) b0 (op1 O (.mkfn f a b) (upd t g (B b0)) h (fun v h' => b0g O r K (b0t (upd t g (B b0)) d v) h')) (b0g O r K (b0t (upd t g (B (!b0))) d U) h) (b0g O r K (b0t t d U) h) := b3e rfl
theorem g3h {f l} : b0g O (⟨d, none, .call f l⟩ :: r) K t h = op1 O (.call f l) t h (fun v h' => b0g O r K (b0t t d v) h') := b3d rfl
theorem g6l {f l} : b0g O (⟨d, some (g, b0), .call f l⟩ :: r) K t h = b3m (t g) b0 (op1 O (.call f l) (upd t g (B b0)) h (fun v h' => b0g O r K (b0t (upd t g (B b0)) d v) h')) (b0g O r K (b0t (upd t g (B (!b0))) d U) h) (b0g O r K (b0t t d U) h) := b3e rfl
theorem g3i {f l} : b0g O (⟨d, none, .callv f l⟩ :: r) K t h = op1 O (.callv f l) t h (fun v h' => b0g O r K (b0t t d v) h') := b3d rfl
theorem g6m {f l} : b0g O (⟨d, some (g, b0), .callv f l⟩ :: r) K t h = b3m (t g) b0 (op1 O (.callv f l) (upd t g (B b0)) h (fun v h' => b0g O r K (b0t (upd t g (B b0)) d v) h')) (b0g O r K (b0t (upd t g (B (!b0))) d U) h) (b0g O r K (b0t t d U) h) := b3e rfl
end
section
variable {k : AV → Prop} {h : Heap}
theorem g4p {n cs off} : b5y false n cs off k = b5p cs off k := by simp [b5y]
theorem g4q {n cs off} : b5y true n cs off k = (off + n ≤ cs.length ∧ k (.agg ((cs.drop off).take n))) := by simp [b5y]
theorem g60 {c cs} : b5p (c :: cs) 0 k = k c := by simp [b5p]
theorem g61 {c cs n} : b5p (c :: cs) (n + 1) k = b5p cs n k := by simp [b5p]
theorem d9f {sz es i} {k : Nat → List (List AV) → List AV → Prop} : b72 (some (sz, es)) i k = ∃ cs, es[i]? = some cs ∧ k sz es cs := by
  apply propext; constructor
  · rintro ⟨a, b, c, h1, h2, h3⟩; cases h1; exact ⟨c, h2, h3⟩
  · rintro ⟨c, h2, h3⟩; exact ⟨_, _, c, rfl, h2, h3⟩
theorem j7m {sz cs} {k : Nat → List (List AV) → List AV → Prop} : b72 (some (sz, [cs])) 0 k = k sz [cs] cs := by simp [d9f]
theorem j5a {sz es} {k : Nat → List (List AV) → Prop} : obK (some (sz, es)) k = k sz es := by
  apply propext; constructor
  · rintro ⟨a, b, h1, h2⟩; cases h1; exact h2
  · exact fun h => ⟨_, _, rfl, h⟩
theorem g5v {α β : Type} {f : α → β} {l : List α} {i : Int} {k : β → Prop} : b7c (l.map f) i k = b7c l i fun a => k (f a) := by
  simp only [b7c, List.getElem?_map, Option.map_eq_some_iff]
  apply propext; constructor
  · rintro ⟨b, h1, ⟨a, h2, rfl⟩, h3⟩; exact ⟨a, h1, h2, h3⟩
  · rintro ⟨a, h1, h2, h3⟩; exact ⟨_, h1, ⟨a, h2, rfl⟩, h3⟩
theorem g2y {cs} {k : List AV → Prop} : b4i (.agg cs) k = k cs := by simp [b4i, b2u, cellsOf]
theorem g21 {kd n} {k : List AV → Prop} : b4i (.v (.int kd n)) k = k [.v (.int kd n)] := by simp [b4i, b2u, cellsOf, Value.oneCell']
theorem g2z {b} {k : List AV → Prop} : b4i (.v (.bool b)) k = k [.v (.bool b)] := by simp [b4i, b2u, cellsOf, Value.oneCell']
theorem g23 {a b c} {k : List AV → Prop} : b4i (.v (.slice a b c)) k = k [.v (.slice a b c)] := by simp [b4i, b2u, cellsOf, Value.oneCell']
theorem g20 {sz es} {k : List AV → Prop} : b4i (.fs sz es) k = k [.fs sz es] := by simp [b4i, b2u, cellsOf]
theorem g22 {a b c} {k : List AV → Prop} : b4i (.rs a b c) k = k [.rs a b c] := by simp [b4i, b2u, cellsOf]
theorem j1d {sz es} {k : Int → Prop} : b60 (.fs sz es) k = k es.length := by simp [b60, b3l]
theorem j1f {id lo len} {k : Int → Prop} : b60 (.rs id lo len) k = k len := by simp [b60, b3l]
theorem j1e {k : Int → Prop} : b60 (.v (.slice none 0 0)) k = k 0 := by simp [b60, b3l]
theorem b5d {op e kd a b} {r : Value} (hr : b4n op kd a kd b = some r) : b2t op e (.v (.int kd a)) (.v (.int kd b)) k = k (.v r) := by simp [b2t, b4s, hr]
section
variable {e : EqK} {kd : IntKind} {a b : Int}
theorem g2k : b2t .add e (.v (.int kd a)) (.v (.int kd b)) k = k (.v (.int kd (kd.wrap (a + b)))) := b5d (by simp [b4n, b4h])
theorem g2u : b2t .sub e (.v (.int kd a)) (.v (.int kd b)) k = k (.v (.int kd (kd.wrap (a - b)))) := b5d (by simp [b4n, b4h])
theorem g2s : b2t .mul e (.v (.int kd a)) (.v (.int kd b)) k = k (.v (.int kd (kd.wrap (a * b)))) := b5d (by simp [b4n, b4h])
theorem g2n : b2t .eql e (.v (.int kd a)) (.v (.int kd b)) k = k (B (decide (a = b))) := b5d (by simp only [b4n, b4h, if_true]; by_cases h : a = b <;> simp [h])
theorem g2t : b2t .neq e (.v (.int kd a)) (.v (.int kd b)) k = k (B (decide (¬ a = b))) := b5d (by simp only [b4n, b4h, if_true]; by_cases h : a = b <;> simp [h])
theorem g2r : b2t .lss e (.v (.int kd a)) (.v (.int kd b)) k = k (B (decide (a < b))) := b5d (by simp [b4n, b4h])
theorem g2q : b2t .leq e (.v (.int kd a)) (.v (.int kd b)) k = k (B (decide (a ≤ b))) := b5d (by simp [b4n, b4h])
theorem g2p : b2t .gtr e (.v (.int kd a)) (.v (.int kd b)) k = k (B (decide (b < a))) := b5d (by simp [b4n, b4h])
theorem g2o : b2t .geq e (.v (.int kd a)) (.v (.int kd b)) k = k (B (decide (b ≤ a))) := b5d (by simp [b4n, b4h])
theorem g2l {a b : Bool} : b2t .eql .bool (B a) (B b) k = k (B (b9y a b)) := by simp [b2t, b4s, b3j, b9y]
theorem g2m {a b : Bool} : b2t .neq .bool (B a) (B b) k = k (B (!(b9y a b))) := by simp [b2t, b4s, b3j, b9y]
end
theorem j8y {b : Bool} : unK .not (B b) k = k (B (!b)) := by simp [unK, b9l]
theorem j8x {kd a} : unK .neg (.v (.int kd a)) k = k (.v (.int kd (kd.wrap (0 - a)))) := by simp [unK, b9l]
theorem j3w {o : Ob} : (h.new o).ob h.nx = some o := by simp [Heap.new]
theorem j3v {o : Ob} : (h.new o).nx = nxs h.nx := by simp [Heap.new, nxs]
theorem j82 {o id} : (h.upd id o).ob id = o := by simp [Heap.upd]
theorem j80 {o id} : (h.upd id o).nx = h.nx := by simp [Heap.upd]
theorem g5z {t : Slots} {n} : evT t (.t n) = t n := rfl
theorem g5w {t : Slots} {v} : evT t (.c v) = .v v := rfl
theorem g50 {t : Slots} {n} : evT t (.tf n) = b7g (t n) := rfl
theorem g6b {cs off} : b7g (.fp cs off) = .fp cs off := rfl
theorem g6c {sz es} : b7g (.fs sz es) = .fs sz es := rfl
theorem g5y {t : Slots} {n cs} : evT t (.g n cs) = .fp (cs.map .v) 0 := rfl
theorem g5x {t : Slots} {n} : evT t (.f n) = .fn n [] [] := rfl
theorem j63 {t : Slots} {n x} : b0t t (some n) x = upd t n x := rfl
theorem j62 {t : Slots} {x} : b0t t none x = t := rfl
end
theorem j9g {n : Int} (h1 : -9223372036854775808 ≤ n) (h2 : n < 9223372036854775808) : IntKind.i64.wrap n = n := by
  unfold IntKind.wrap
  simp only [IntKind.bits, IntKind.signed, Bool.true_and]
  split <;> rename_i h <;> simp at h <;> omega
attribute [go_sem] g50 g6b g6c g5z g5w g5x g5y j63 j62 g0d g0c j3w j3v j82 j80
attribute [go_sem ↓] b1b b1y b1l c2m b1f b0n b11 b1n b0m b1m b10 b1z
end Go.Nw
