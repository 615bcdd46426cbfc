/- One rule for each operation. -/
import Derived.Test.YtkoonfmgmgfmdaaDoorNwVcg
set_option linter.all false
set_option linter.unusedVariables false
set_option linter.unusedSimpArgs false
set_option linter.unusedSectionVars false
namespace Go.Nw
def nxs (n : Nat) : Nat := n + 1
def b5x (a b : Bool) : Bool := a == b
def b4j {α : Type} (l : List α) (i : Int) (k : α → Prop) : Prop := ∃ a, 0 ≤ i ∧ l[i.toNat]? = some a ∧ k a
def b24 (cs : List AV) (i : Nat) (k : AV → Prop) : Prop := ∃ v, cs[i]? = some v ∧ k v
def b3r (agg : Bool) (n : Nat) (cs : List AV) (off : Nat) (k : AV → Prop) : Prop := if agg then off + n ≤ cs.length ∧ k (.agg ((cs.drop off).take n)) else b24 cs off k
def b40 (o : Option Ob) (i : Nat) (k : Nat → List (List AV) → List AV → Prop) : Prop := ∃ sz es cs, o = some (sz, es) ∧ es[i]? = some cs ∧ k sz es cs
def obK (o : Option Ob) (k : Nat → List (List AV) → Prop) : Prop := ∃ sz es, o = some (sz, es) ∧ k sz es
def c4a (agg : Bool) (n : Nat) (x : AV) (h : Heap) (k : AV → Prop) : Prop :=
  match x with
  | .fp cs off => b3r agg n cs off k
  | .rp id i off => b40 (h.ob id) i fun _ _ cs => b3r agg n cs off k
  | _ => False
def c5c (n : Nat) (a x : AV) (h : Heap) (k : Heap → Prop) : Prop :=
  match a with
  | .rp id i off => b40 (h.ob id) i fun sz es cs => b1c x = true ∧ (cellsOf x).length = n ∧ off + n ≤ cs.length ∧ k (h.upd id (some (sz, es.set i (cs.take off ++ cellsOf x ++ cs.drop (off + n)))))
  | _ => False
def b78 (c : AV) (p q : Prop) : Prop := match c with | .v (.bool true) => p | .v (.bool false) => q | _ => False
def b2r (x : AV) (k : List AV → Prop) : Prop := b1c x = true ∧ k (cellsOf x)
def c4p (x : AV) (h : Heap) (k : AV → Prop) : Prop :=
  match x with | .fp cs off => k (.fp cs off) | .rp id i off => (h.ob id).isSome = true ∧ k (.rp id i off) | .fn f a b => k (.fn f a b) | _ => False
def c23 (off : Nat) (x : AV) (h : Heap) (k : AV → Prop) : Prop := match x with | .fp cs o => k (.fp cs (o + off)) | .rp id i o => (h.ob id).isSome = true ∧ k (.rp id i (o + off)) | _ => False
def c3g (n : Nat) (x i : AV) (h : Heap) (k : AV → Prop) : Prop :=
  match x, i with
  | .fs sz es, .v (.int _ j) => sz = n ∧ b4j es j fun cs => k (.fp cs 0)
  | .rs id lo len, .v (.int _ j) => obK (h.ob id) fun sz _ => sz = n ∧ 0 ≤ j ∧ j < len ∧ k (.rp id (lo + j.toNat) 0)
  | _, _ => False
def b1b (op : BinOp) (e : EqK) (x y : AV) (k : AV → Prop) : Prop := ∃ r, b2e op e x y = some r ∧ k r
def unK (op : UnOp) (x : AV) (k : AV → Prop) : Prop := ∃ r, b41 op x = some r ∧ k r
def b4a (x : AV) (k : Int → Prop) : Prop := ∃ n, b1x x = some n ∧ k n
def c2q (x : AV) (i : Nat) (k : AV → Prop) : Prop := match x with | .tup vs => b24 vs i k | _ => False
section
variable {O : Orac} {t : Slots} {h : Heap} {k : AV → Heap → Prop}
theorem ex1 {a : AV} {b : Heap} {k : AV → Heap → Prop} : (∃ r h', some (a, b) = some (r, h') ∧ k r h') = k a b := by
  apply propext; constructor
  · rintro ⟨r, h', e, hk⟩; cases e; exact hk
  · exact fun hk => ⟨_, _, rfl, hk⟩
theorem ex0 {k : AV → Heap → Prop} : (∃ r h', (none : Option (AV × Heap)) = some (r, h') ∧ k r h') = False := by simp
theorem g6x {x} : op1 O (.mv x) t h k = k (evT t x) h := by simp only [op1, eff, ex1]
theorem g6z {c a b} : op1 O (.pick c a b) t h k = b78 (evT t c) (k (evT t a) h) (k (evT t b) h) := by
  simp only [op1, eff]
  generalize evT t c = x
  cases x with
  | v y => cases y with
    | bool z => cases z <;> simp only [b78, ex1, if_true, Bool.false_eq_true, if_false]
    | _ => simp only [b78, ex0]
  | _ => simp only [b78, ex0]
theorem g6o {x} : op1 O (.boxF x) t h k = b2r (evT t x) fun cs => k (.fp cs 0) h := rfl
theorem g6n {x} : op1 O (.box x) t h k = b2r (evT t x) fun cs => k (.rp h.nx 0 0) (h.new (cs.length, [cs])) := by
  simp only [op1, eff, b2r]
  apply propext; constructor
  · rintro ⟨r, h', he, hk⟩; split at he
    · rename_i ho; cases he; exact ⟨ho, hk⟩
    · cases he
  · rintro ⟨h1, h2⟩; exact ⟨_, _, by rw [if_pos h1], h2⟩
theorem g6l {zs} : op1 O (.alloc zs) t h k = k (.rp h.nx 0 0) (h.new (zs.length, [zs.map .v])) := by simp only [op1, eff, ex1]
theorem g6v {agg n a} : op1 O (.load agg n a) t h k = c4a agg n (evT t a) h fun v => k v h := by
  simp only [op1, eff, c4a]
  have cells : ∀ cs off, (∃ r h', (if agg = true then (if off + n ≤ cs.length then some (AV.agg (List.take n (List.drop off cs)), h) else none) else Option.map (fun x => (x, h)) cs[off]?) = some (r, h') ∧ k r h') = b3r agg n cs off fun v => k v h := by
    intro cs off
    unfold b3r b24
    cases agg with
    | true =>
      simp only [if_true]
      apply propext; constructor
      · rintro ⟨r, h', he, hk⟩; split at he
        · rename_i ho; cases he; exact ⟨ho, hk⟩
        · cases he
      · rintro ⟨h1, h2⟩; exact ⟨_, _, by rw [if_pos h1], h2⟩
    | false =>
      simp only [Bool.false_eq_true, if_false, Option.map_eq_some_iff]
      apply propext; constructor
      · rintro ⟨r, h', ⟨x, h1, h2⟩, hk⟩; cases h2; exact ⟨_, h1, hk⟩
      · rintro ⟨v, h1, h2⟩; exact ⟨v, h, ⟨v, h1, rfl⟩, h2⟩
  generalize evT t a = x
  cases x with
  | fp cs off => exact cells cs off
  | rp id i off =>
    simp only [b40]
    apply propext; constructor
    · rintro ⟨r, h', he, hk⟩
      simp only [Option.bind_eq_some_iff] at he
      obtain ⟨⟨sz, es⟩, h1, cs, h2, he⟩ := he
      exact ⟨sz, es, cs, h1, h2, by rw [← cells]; exact ⟨r, h', he, hk⟩⟩
    · rintro ⟨sz, es, cs, h1, h2, h3⟩
      rw [← cells] at h3
      obtain ⟨r, h', he, hk⟩ := h3
      exact ⟨r, h', by simp only [h1, Option.bind_some, h2]; exact he, hk⟩
  | _ => simp
theorem g60 {n a x} : op1 O (.store n a x) t h k = c5c n (evT t a) (evT t x) h fun h' => k .dead h' := by
  simp only [op1, eff, c5c]
  generalize evT t a = y
  cases y with
  | rp id i off =>
    simp only [b40]
    apply propext; constructor
    · rintro ⟨r, h', he, hk⟩
      simp only [Option.bind_eq_some_iff] at he
      obtain ⟨⟨sz, es⟩, h1, cs, h2, he⟩ := he
      split at he
      · rename_i hc; cases he; exact ⟨sz, es, cs, h1, h2, hc.1, hc.2.1, hc.2.2, hk⟩
      · cases he
    · rintro ⟨sz, es, cs, h1, h2, h3, h4, h5, h6⟩
      exact ⟨_, _, by simp only [h1, Option.bind_some, h2]; rw [if_pos ⟨h3, h4, h5⟩], h6⟩
  | _ => simp
theorem g6y {x} : op1 O (.nilck x) t h k = c4p (evT t x) h fun v => k v h := by
  simp only [op1, eff, c4p]
  generalize evT t x = y
  cases y with
  | rp id i off =>
    cases ho : h.ob id with
    | none => simp only [ho, Option.bind_none, ex0, Option.isSome_none, Bool.false_eq_true, false_and]
    | some o => simp only [ho, Option.bind_some, ex1, Option.isSome_some, true_and]
  | fp cs off => exact ex1
  | fn f a b => first | exact ex1 | exact ex0
  | _ => exact ex0
theorem g6s {o x} : op1 O (.fldA o x) t h k = c23 o (evT t x) h fun v => k v h := by
  simp only [op1, eff, c23]
  generalize evT t x = y
  cases y with
  | rp id i off =>
    cases ho : h.ob id with
    | none => simp only [ho, Option.bind_none, ex0, Option.isSome_none, Bool.false_eq_true, false_and]
    | some o => simp only [ho, Option.bind_some, ex1, Option.isSome_some, true_and]
  | fp cs off => exact ex1
  | fn f a b => first | exact ex1 | exact ex0
  | _ => exact ex0
theorem g6t {n x i} : op1 O (.ixA n x i) t h k = c3g n (evT t x) (evT t i) h fun v => k v h := by
  simp only [op1, eff, c3g]
  generalize evT t x = y
  generalize evT t i = z
  cases y with
  | fs sz es =>
    cases z with
    | v w => cases w with
      | int kd j =>
        simp only [b4j]
        apply propext; constructor
        · rintro ⟨r, h', he, hk⟩
          split at he
          · rename_i hc
            simp only [Option.map_eq_some_iff] at he
            obtain ⟨cs, h1, h2⟩ := he
            cases h2
            exact ⟨hc.1, cs, hc.2, h1, hk⟩
          · cases he
        · rintro ⟨h1, cs, h2, h3, h4⟩
          exact ⟨_, _, by rw [if_pos ⟨h1, h2⟩, h3]; rfl, h4⟩
      | _ => simp
    | _ => simp
  | rs id lo len =>
    cases z with
    | v w => cases w with
      | int kd j =>
        simp only [obK]
        apply propext; constructor
        · rintro ⟨r, h', he, hk⟩
          simp only [Option.bind_eq_some_iff] at he
          obtain ⟨⟨sz, es⟩, h1, he⟩ := he
          split at he
          · rename_i hc; cases he; exact ⟨sz, es, h1, hc.1, hc.2.1, hc.2.2, hk⟩
          · cases he
        · rintro ⟨sz, es, h1, h2, h3, h4, h5⟩
          exact ⟨_, _, by simp only [h1, Option.bind_some]; rw [if_pos ⟨h2, h3, h4⟩], h5⟩
      | _ => simp
    | _ => simp
  | _ => simp
theorem g6m {op e x y} : op1 O (.bin op e x y) t h k = b1b op e (evT t x) (evT t y) fun v => k v h := by
  simp only [op1, eff, b1b, Option.map_eq_some_iff]
  apply propext; constructor
  · rintro ⟨r, h', ⟨v, h1, h2⟩, hk⟩; cases h2; exact ⟨_, h1, hk⟩
  · rintro ⟨v, h1, h2⟩; exact ⟨v, h, ⟨v, h1, rfl⟩, h2⟩
theorem g61 {op x} : op1 O (.un op x) t h k = unK op (evT t x) fun v => k v h := by
  simp only [op1, eff, unK, Option.map_eq_some_iff]
  apply propext; constructor
  · rintro ⟨r, h', ⟨v, h1, h2⟩, hk⟩; cases h2; exact ⟨_, h1, hk⟩
  · rintro ⟨v, h1, h2⟩; exact ⟨v, h, ⟨v, h1, rfl⟩, h2⟩
theorem g6u {x} : op1 O (.len false x) t h k = b4a (evT t x) fun n => k (I n) h := by
  simp only [op1, eff, b4a, Bool.false_eq_true, if_false, Option.map_eq_some_iff]
  apply propext; constructor
  · rintro ⟨r, h', ⟨v, h1, h2⟩, hk⟩; cases h2; exact ⟨_, h1, hk⟩
  · rintro ⟨v, h1, h2⟩; exact ⟨_, h, ⟨v, h1, rfl⟩, h2⟩
theorem g6r {x i} : op1 O (.ext x i) t h k = c2q (evT t x) i fun v => k v h := by
  simp only [op1, eff, c2q]
  generalize evT t x = y
  cases y with
  | tup vs =>
    simp only [b24, Option.map_eq_some_iff]
    apply propext; constructor
    · rintro ⟨r, h', ⟨v, h1, h2⟩, hk⟩; cases h2; exact ⟨_, h1, hk⟩
    · rintro ⟨v, h1, h2⟩; exact ⟨v, h, ⟨v, h1, rfl⟩, h2⟩
  | _ => simp
theorem g6w {f a b} : op1 O (.mkfn f a b) t h k = k (.fn f (a.map (evT t)) (b.map (evT t))) h := by simp only [op1, eff, ex1]
theorem g6p {f l} : op1 O (.call f l) t h k = b4i O f (l.map (evT t)) h k := rfl
theorem g6q {f l} : op1 O (.callv f l) t h k = ∃ n a b, callee (evT t f) = some (n, a, b) ∧ b4i O n (a ++ l.map (evT t) ++ b) h k := rfl
end
section
variable {O : Orac} {d : Option Nat} {g : Nat} {b0 : Bool} {r : List XO} {K : Slots → Heap → Prop} {t : Slots} {h : Heap}
theorem d4d {x} : b0c O (⟨d, none, .mv x⟩ :: r) K t h = op1 O (.mv x) t h (fun v h' => b0c O r K (b0e t d v) h') := b1p rfl
theorem d7p {x} : b0c O (⟨d, some (g, b0), .mv x⟩ :: r) K t h = b15 (t g) b0 (op1 O (.mv x) (upd t g (B b0)) h (fun v h' => b0c O r K (b0e (upd t g (B b0)) d v) h')) (b0c O r K (b0e (upd t g (B (!b0))) d U) h) (b0c O r K (b0e t d U) h) := b1r rfl
theorem d4j {c a b} : b0c O (⟨d, none, .pick c a b⟩ :: r) K t h = op1 O (.pick c a b) t h (fun v h' => b0c O r K (b0e t d v) h') := b1p rfl
theorem d7r {c a b} : b0c O (⟨d, some (g, b0), .pick c a b⟩ :: r) K t h = b15 (t g) b0 (op1 O (.pick c a b) (upd t g (B b0)) h (fun v h' => b0c O r K (b0e (upd t g (B b0)) d v) h')) (b0c O r K (b0e (upd t g (B (!b0))) d U) h) (b0c O r K (b0e t d U) h) := b1r rfl
theorem d3k {x} : b0c O (⟨d, none, .boxF x⟩ :: r) K t h = op1 O (.boxF x) t h (fun v h' => b0c O r K (b0e t d v) h') := b1p rfl
theorem d7g {x} : b0c O (⟨d, some (g, b0), .boxF x⟩ :: r) K t h = b15 (t g) b0 (op1 O (.boxF x) (upd t g (B b0)) h (fun v h' => b0c O r K (b0e (upd t g (B b0)) d v) h')) (b0c O r K (b0e (upd t g (B (!b0))) d U) h) (b0c O r K (b0e t d U) h) := b1r rfl
theorem d3j {x} : b0c O (⟨d, none, .box x⟩ :: r) K t h = op1 O (.box x) t h (fun v h' => b0c O r K (b0e t d v) h') := b1p rfl
theorem d7f {x} : b0c O (⟨d, some (g, b0), .box x⟩ :: r) K t h = b15 (t g) b0 (op1 O (.box x) (upd t g (B b0)) h (fun v h' => b0c O r K (b0e (upd t g (B b0)) d v) h')) (b0c O r K (b0e (upd t g (B (!b0))) d U) h) (b0c O r K (b0e t d U) h) := b1r rfl
theorem d3h {zs} : b0c O (⟨d, none, .alloc zs⟩ :: r) K t h = op1 O (.alloc zs) t h (fun v h' => b0c O r K (b0e t d v) h') := b1p rfl
theorem d7d {zs} : b0c O (⟨d, some (g, b0), .alloc zs⟩ :: r) K t h = b15 (t g) b0 (op1 O (.alloc zs) (upd t g (B b0)) h (fun v h' => b0c O r K (b0e (upd t g (B b0)) d v) h')) (b0c O r K (b0e (upd t g (B (!b0))) d U) h) (b0c O r K (b0e t d U) h) := b1r rfl
theorem d37 {agg n a} : b0c O (⟨d, none, .load agg n a⟩ :: r) K t h = op1 O (.load agg n a) t h (fun v h' => b0c O r K (b0e t d v) h') := b1p rfl
theorem d7n {agg n a} : b0c O (⟨d, some (g, b0), .load agg n a⟩ :: r) K t h = b15 (t g) b0 (op1 O (.load agg n a) (upd t g (B b0)) h (fun v h' => b0c O r K (b0e (upd t g (B b0)) d v) h')) (b0c O r K (b0e (upd t g (B (!b0))) d U) h) (b0c O r K (b0e t d U) h) := b1r rfl
theorem d4v {n a x} : b0c O (⟨d, none, .store n a x⟩ :: r) K t h = op1 O (.store n a x) t h (fun v h' => b0c O r K (b0e t d v) h') := b1p rfl
theorem d7s {n a x} : b0c O (⟨d, some (g, b0), .store n a x⟩ :: r) K t h = b15 (t g) b0 (op1 O (.store n a x) (upd t g (B b0)) h (fun v h' => b0c O r K (b0e (upd t g (B b0)) d v) h')) (b0c O r K (b0e (upd t g (B (!b0))) d U) h) (b0c O r K (b0e t d U) h) := b1r rfl
theorem d4i {x} : b0c O (⟨d, none, .nilck x⟩ :: r) K t h = op1 O (.nilck x) t h (fun v h' => b0c O r K (b0e t d v) h') := b1p rfl
theorem d7q {x} : b0c O (⟨d, some (g, b0), .nilck x⟩ :: r) K t h = b15 (t g) b0 (op1 O (.nilck x) (upd t g (B b0)) h (fun v h' => b0c O r K (b0e (upd t g (B b0)) d v) h')) (b0c O r K (b0e (upd t g (B (!b0))) d U) h) (b0c O r K (b0e t d U) h) := b1r rfl
theorem d32 {o x} : b0c O (⟨d, none, .fldA o x⟩ :: r) K t h = op1 O (.fldA o x) t h (fun v h' => b0c O r K (b0e t d v) h') := b1p rfl
theorem d7k {o x} : b0c O (⟨d, some (g, b0), .fldA o x⟩ :: r) K t h = b15 (t g) b0 (op1 O (.fldA o x) (upd t g (B b0)) h (fun v h' => b0c O r K (b0e (upd t g (B b0)) d v) h')) (b0c O r K (b0e (upd t g (B (!b0))) d U) h) (b0c O r K (b0e t d U) h) := b1r rfl
theorem d33 {n x i} : b0c O (⟨d, none, .ixA n x i⟩ :: r) K t h = op1 O (.ixA n x i) t h (fun v h' => b0c O r K (b0e t d v) h') := b1p rfl
theorem d7l {n x i} : b0c O (⟨d, some (g, b0), .ixA n x i⟩ :: r) K t h = b15 (t g) b0 (op1 O (.ixA n x i) (upd t g (B b0)) h (fun v h' => b0c O r K (b0e (upd t g (B b0)) d v) h')) (b0c O r K (b0e (upd t g (B (!b0))) d U) h) (b0c O r K (b0e t d U) h) := b1r rfl
theorem d3i {op e x y} : b0c O (⟨d, none, .bin op e x y⟩ :: r) K t h = op1 O (.bin op e x y) t h (fun v h' => b0c O r K (b0e t d v) h') := b1p rfl
theorem d7e {op e x y} : b0c O (⟨d, some (g, b0), .bin op e x y⟩ :: r) K t h = b15 (t g) b0 (op1 O (.bin op e x y) (upd t g (B b0)) h (fun v h' => b0c O r K (b0e (upd t g (B b0)) d v) h')) (b0c O r K (b0e (upd t g (B (!b0))) d U) h) (b0c O r K (b0e t d U) h) := b1r rfl
theorem d4w {op x} : b0c O (⟨d, none, .un op x⟩ :: r) K t h = op1 O (.un op x) t h (fun v h' => b0c O r K (b0e t d v) h') := b1p rfl
theorem d7t {op x} : b0c O (⟨d, some (g, b0), .un op x⟩ :: r) K t h = b15 (t g) b0 (op1 O (.un op x) (upd t g (B b0)) h (fun v h' => b0c O r K (b0e (upd t g (B b0)) d v) h')) (b0c O r K (b0e (upd t g (B (!b0))) d U) h) (b0c O r K (b0e t d U) h) := b1r rfl
theorem d36 {x} : b0c O (⟨d, none, .len false x⟩ :: r) K t h = op1 O (.len false x) t h (fun v h' => b0c O r K (b0e t d v) h') := b1p rfl
theorem d7m {x} : b0c O (⟨d, some (g, b0), .len false x⟩ :: r) K t h = b15 (t g) b0 (op1 O (.len false x) (upd t g (B b0)) h (fun v h' => b0c O r K (b0e (upd t g (B b0)) d v) h')) (b0c O r K (b0e (upd t g (B (!b0))) d U) h) (b0c O r K (b0e t d U) h) := b1r rfl
theorem d3x {x i} : b0c O (⟨d, none, .ext x i⟩ :: r) K t h = op1 O (.ext x i) t h (fun v h' => b0c O r K (b0e t d v) h') := b1p rfl
theorem d7j {x i} : b0c O (⟨d, some (g, b0), .ext x i⟩ :: r) K t h = b15 (t g) b0 (op1 O (.ext x i) (upd t g (B b0)) h (fun v h' => b0c O r K (b0e (upd t g (B b0)) d v) h')) (b0c O r K (b0e (upd t g (B (!b0))) d U) h) (b0c O r K (b0e t d U) h) := b1r rfl
theorem d4c {f a b} : b0c O (⟨d, none, .mkfn f a b⟩ :: r) K t h = op1 O (.mkfn f a b) t h (fun v h' => b0c O r K (b0e t d v) h') := b1p rfl
theorem d7o {f a b} : b0c O (⟨d, some (g, b0), .mkfn f a b⟩ :: r) K t h = b15 (t g) b0 (op1 O (.mkfn f a b) (upd t g (B b0)) h (fun v h' => b0c O r K (b0e (upd t g (B b0)) d v) h')) (b0c O r K (b0e (upd t g (B (!b0))) d U) h) (b0c O r K (b0e t d U) h) := b1r rfl
theorem d3l {f l} : b0c O (⟨d, none, .call f l⟩ :: r) K t h = op1 O (.call f l) t h (fun v h' => b0c O r K (b0e t d v) h') := b1p rfl
theorem d7h {f l} : b0c O (⟨d, some (g, b0), .call f l⟩ :: r) K t h = b15 (t g) b0 (op1 O (.call f l) (upd t g (B b0)) h (fun v h' => b0c O r K (b0e (upd t g (B b0)) d v) h')) (b0c O r K (b0e (upd t g (B (!b0))) d U) h) (b0c O r K (b0e t d U) h) := b1r rfl
theorem d3m {f l} : b0c O (⟨d, none, .callv f l⟩ :: r) K t h = op1 O (.callv f l) t h (fun v h' => b0c O r K (b0e t d v) h') := b1p rfl
theorem d7i {f l} : b0c O (⟨d, some (g, b0), .callv f l⟩ :: r) K t h = b15 (t g) b0 (op1 O (.callv f l) (upd t g (B b0)) h (fun v h' => b0c O r K (b0e (upd t g (B b0)) d v) h')) (b0c O r K (b0e (upd t g (B (!b0))) d U) h) (b0c O r K (b0e t d U) h) := b1r rfl
end
section
variable {k : AV → Prop} {h : Heap}
theorem d40 {n cs off} : b3r false n cs off k = b24 cs off k := by simp [b3r]
theorem d41 {n cs off} : b3r true n cs off k = (off + n ≤ cs.length ∧ k (.agg ((cs.drop off).take n))) := by simp [b3r]
theorem d7u {c cs} : b24 (c :: cs) 0 k = k c := by simp [b24]
theorem d7v {c cs n} : b24 (c :: cs) (n + 1) k = b24 cs n k := by simp [b24]
theorem d05 {sz es i} {k : Nat → List (List AV) → List AV → Prop} : b40 (some (sz, es)) i k = ∃ cs, es[i]? = some cs ∧ k sz es cs := by
  apply propext; constructor
  · rintro ⟨a, b, c, h1, h2, h3⟩; cases h1; exact ⟨c, h2, h3⟩
  · rintro ⟨c, h2, h3⟩; exact ⟨_, _, c, rfl, h2, h3⟩
theorem g8b {sz cs} {k : Nat → List (List AV) → List AV → Prop} : b40 (some (sz, [cs])) 0 k = k sz [cs] cs := by simp [d05]
theorem g58 {sz es} {k : Nat → List (List AV) → Prop} : obK (some (sz, es)) k = k sz es := by
  apply propext; constructor
  · rintro ⟨a, b, h1, h2⟩; cases h1; exact h2
  · exact fun h => ⟨_, _, rfl, h⟩
theorem d6p {α β : Type} {f : α → β} {l : List α} {i : Int} {k : β → Prop} : b4j (l.map f) i k = b4j l i fun a => k (f a) := by
  simp only [b4j, List.getElem?_map, Option.map_eq_some_iff]
  apply propext; constructor
  · rintro ⟨b, h1, ⟨a, h2, rfl⟩, h3⟩; exact ⟨a, h1, h2, h3⟩
  · rintro ⟨a, h1, h2, h3⟩; exact ⟨_, h1, ⟨a, h2, rfl⟩, h3⟩
theorem d26 {cs} {k : List AV → Prop} : b2r (.agg cs) k = k cs := by simp [b2r, b1c, cellsOf]
theorem d29 {kd n} {k : List AV → Prop} : b2r (.v (.int kd n)) k = k [.v (.int kd n)] := by simp [b2r, b1c, cellsOf, Value.oneCell']
theorem d27 {b} {k : List AV → Prop} : b2r (.v (.bool b)) k = k [.v (.bool b)] := by simp [b2r, b1c, cellsOf, Value.oneCell']
theorem d3b {a b c} {k : List AV → Prop} : b2r (.v (.slice a b c)) k = k [.v (.slice a b c)] := by simp [b2r, b1c, cellsOf, Value.oneCell']
theorem d28 {sz es} {k : List AV → Prop} : b2r (.fs sz es) k = k [.fs sz es] := by simp [b2r, b1c, cellsOf]
theorem d3a {a b c} {k : List AV → Prop} : b2r (.rs a b c) k = k [.rs a b c] := by simp [b2r, b1c, cellsOf]
theorem g2b {sz es} {k : Int → Prop} : b4a (.fs sz es) k = k es.length := by simp [b4a, b1x]
theorem g2d {id lo len} {k : Int → Prop} : b4a (.rs id lo len) k = k len := by simp [b4a, b1x]
theorem g2c {k : Int → Prop} : b4a (.v (.slice none 0 0)) k = k 0 := by simp [b4a, b1x]
theorem b21 {op e kd a b} {r : Value} (hr : b19 op kd a kd b = some r) : b1b op e (.v (.int kd a)) (.v (.int kd b)) k = k (.v r) := by simp [b1b, b2e, hr]
section
variable {e : EqK} {kd : IntKind} {a b : Int}
theorem d2s : b1b .add e (.v (.int kd a)) (.v (.int kd b)) k = k (.v (.int kd (kd.wrap (a + b)))) := b21 (by simp [b19, b2m])
theorem d22 : b1b .sub e (.v (.int kd a)) (.v (.int kd b)) k = k (.v (.int kd (kd.wrap (a - b)))) := b21 (by simp [b19, b2m])
theorem d20 : b1b .mul e (.v (.int kd a)) (.v (.int kd b)) k = k (.v (.int kd (kd.wrap (a * b)))) := b21 (by simp [b19, b2m])
theorem d2v : b1b .eql e (.v (.int kd a)) (.v (.int kd b)) k = k (B (decide (a = b))) := b21 (by simp only [b19, b2m, if_true]; by_cases h : a = b <;> simp [h])
theorem d21 : b1b .neq e (.v (.int kd a)) (.v (.int kd b)) k = k (B (decide (¬ a = b))) := b21 (by simp only [b19, b2m, if_true]; by_cases h : a = b <;> simp [h])
theorem d2z : b1b .lss e (.v (.int kd a)) (.v (.int kd b)) k = k (B (decide (a < b))) := b21 (by simp [b19, b2m])
theorem d2y : b1b .leq e (.v (.int kd a)) (.v (.int kd b)) k = k (B (decide (a ≤ b))) := b21 (by simp [b19, b2m])
theorem d2x : b1b .gtr e (.v (.int kd a)) (.v (.int kd b)) k = k (B (decide (b < a))) := b21 (by simp [b19, b2m])
theorem d2w : b1b .geq e (.v (.int kd a)) (.v (.int kd b)) k = k (B (decide (b ≤ a))) := b21 (by simp [b19, b2m])
theorem d2t {a b : Bool} : b1b .eql .bool (B a) (B b) k = k (B (b5x a b)) := by simp [b1b, b2e, b1y, b5x]
theorem d2u {a b : Bool} : b1b .neq .bool (B a) (B b) k = k (B (!(b5x a b))) := by simp [b1b, b2e, b1y, b5x]
end
theorem g9o {b : Bool} : unK .not (B b) k = k (B (!b)) := by simp [unK, b41]
theorem g9n {kd a} : unK .neg (.v (.int kd a)) k = k (.v (.int kd (kd.wrap (0 - a)))) := by simp [unK, b41]
theorem g4x {o : Ob} : (h.new o).ob h.nx = some o := by simp [Heap.new]
theorem g4w {o : Ob} : (h.new o).nx = nxs h.nx := by simp [Heap.new, nxs]
theorem g9s {o id} : (h.upd id o).ob id = o := by simp [Heap.upd]
theorem g9q {o id} : (h.upd id o).nx = h.nx := by simp [Heap.upd]
theorem c2o {t : Slots} {n} : evT t (.t n) = t n := rfl
theorem c2n {t : Slots} {v} : evT t (.c v) = .v v := rfl
theorem d6v {t : Slots} {n} : evT t (.tf n) = b4q (t n) := rfl
theorem d69 {cs off} : b4q (.fp cs off) = .fp cs off := rfl
theorem d7a {sz es} : b4q (.fs sz es) = .fs sz es := rfl
theorem d6u {t : Slots} {n cs} : evT t (.g n cs) = .fp (cs.map .v) 0 := rfl
theorem d6t {t : Slots} {n} : evT t (.f n) = .fn n [] [] := rfl
theorem g7u {t : Slots} {n x} : b0e t (some n) x = upd t n x := rfl
theorem g7t {t : Slots} {x} : b0e t none x = t := rfl
end
theorem c5e {n : Int} (h1 : -9223372036854775808 ≤ n) (h2 : n < 9223372036854775808) : IntKind.i64.wrap n = n := by
  unfold IntKind.wrap
  simp only [IntKind.bits, IntKind.signed, Bool.true_and]
  split <;> rename_i h <;> simp at h <;> omega
attribute [go_sem] d6v d69 d7a c2o c2n d6t d6u g7u g7t c00 c0z g4x g4w g9s g9q
attribute [go_sem ↓] b0u b2g b0k b9a b1d b0i b2k b0m b0h b0l b2j b2i
end Go.Nw
