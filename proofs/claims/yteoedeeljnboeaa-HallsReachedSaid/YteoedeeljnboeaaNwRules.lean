/- One rule for each operation. -/
import Derived.Test.YteoedeeljnboeaaNwVcg
set_option linter.all false
set_option linter.unusedVariables false
set_option linter.unusedSimpArgs false
set_option linter.unusedSectionVars false
namespace Go.Nw
def nxs (n : Nat) : Nat := n + 1
def b90 (a b : Bool) : Bool := a == b
def b7d {α : Type} (l : List α) (i : Int) (k : α → Prop) : Prop := ∃ a, 0 ≤ i ∧ l[i.toNat]? = some a ∧ k a
def b5l (cs : List AV) (i : Nat) (k : AV → Prop) : Prop := ∃ v, cs[i]? = some v ∧ k v
def b5v (agg : Bool) (n : Nat) (cs : List AV) (off : Nat) (k : AV → Prop) : Prop := if agg then off + n ≤ cs.length ∧ k (.agg ((cs.drop off).take n)) else b5l cs off k
def b8e (o : Option Ob) (i : Nat) (k : Nat → List (List AV) → List AV → Prop) : Prop := ∃ sz es cs, o = some (sz, es) ∧ es[i]? = some cs ∧ k sz es cs
def obK (o : Option Ob) (k : Nat → List (List AV) → Prop) : Prop := ∃ sz es, o = some (sz, es) ∧ k sz es
def d1h (agg : Bool) (n : Nat) (x : AV) (h : Heap) (k : AV → Prop) : Prop :=
  match x with
  | .fp cs off => b5v agg n cs off k
  | .rp id i off => b8e (h.ob id) i fun _ _ cs => b5v agg n cs off k
  | _ => False
def d2n (n : Nat) (a x : AV) (h : Heap) (k : Heap → Prop) : Prop :=
  match a with
  | .rp id i off => b8e (h.ob id) i fun sz es cs => b2r x = true ∧ (cellsOf x).length = n ∧ off + n ≤ cs.length ∧ k (h.upd id (some (sz, es.set i (cs.take off ++ cellsOf x ++ cs.drop (off + n)))))
  | _ => False
def c3p (c : AV) (p q : Prop) : Prop := match c with | .v (.bool true) => p | .v (.bool false) => q | _ => False
def b4g (x : AV) (k : List AV → Prop) : Prop := b2r x = true ∧ k (cellsOf x)
def d1t (x : AV) (h : Heap) (k : AV → Prop) : Prop :=
  match x with | .fp cs off => k (.fp cs off) | .rp id i off => (h.ob id).isSome = true ∧ k (.rp id i off) | .fn f a b => k (.fn f a b) | _ => False
def c8x (off : Nat) (x : AV) (h : Heap) (k : AV → Prop) : Prop := match x with | .fp cs o => k (.fp cs (o + off)) | .rp id i o => (h.ob id).isSome = true ∧ k (.rp id i (o + off)) | _ => False
def d0o (n : Nat) (x i : AV) (h : Heap) (k : AV → Prop) : Prop :=
  match x, i with
  | .fs sz es, .v (.int _ j) => sz = n ∧ b7d es j fun cs => k (.fp cs 0)
  | .rs id lo len, .v (.int _ j) => obK (h.ob id) fun sz _ => sz = n ∧ 0 ≤ j ∧ j < len ∧ k (.rp id (lo + j.toNat) 0)
  | _, _ => False
def b2q (op : BinOp) (e : EqK) (x y : AV) (k : AV → Prop) : Prop := ∃ r, b4q op e x y = some r ∧ k r
def unK (op : UnOp) (x : AV) (k : AV → Prop) : Prop := ∃ r, b9m op x = some r ∧ k r
def b60 (x : AV) (k : Int → Prop) : Prop := ∃ n, b3i x = some n ∧ k n
def c8q (x : AV) (i : Nat) (k : AV → Prop) : Prop := match x with | .tup vs => b5l vs i k | _ => False
section
variable {O : Orac} {t : Slots} {h : Heap} {k : AV → Heap → Prop}
theorem ex1 {a : AV} {b : Heap} {k : AV → Heap → Prop} : (∃ r h', some (a, b) = some (r, h') ∧ k r h') = k a b := by
  apply propext; constructor
  · rintro ⟨r, h', e, hk⟩; cases e; exact hk
  · exact fun hk => ⟨_, _, rfl, hk⟩
theorem ex0 {k : AV → Heap → Prop} : (∃ r h', (none : Option (AV × Heap)) = some (r, h') ∧ k r h') = False := by simp
theorem j5l {x} : op1 O (.mv x) t h k = k (evT t x) h := by simp only [op1, eff, ex1]
theorem j5n {c a b} : op1 O (.pick c a b) t h k = c3p (evT t c) (k (evT t a) h) (k (evT t b) h) := by
  simp only [op1, eff]
  generalize evT t c = x
  cases x with
  | v y => cases y with
    | bool z => cases z <;> simp only [c3p, ex1, if_true, Bool.false_eq_true, if_false]
    | _ => simp only [c3p, ex0]
  | _ => simp only [c3p, ex0]
theorem j5c {x} : op1 O (.boxF x) t h k = b4g (evT t x) fun cs => k (.fp cs 0) h := rfl
theorem j5b {x} : op1 O (.box x) t h k = b4g (evT t x) fun cs => k (.rp h.nx 0 0) (h.new (cs.length, [cs])) := by
  simp only [op1, eff, b4g]
  apply propext; constructor
  · rintro ⟨r, h', he, hk⟩; split at he
    · rename_i ho; cases he; exact ⟨ho, hk⟩
    · cases he
  · rintro ⟨h1, h2⟩; exact ⟨_, _, by rw [if_pos h1], h2⟩
theorem j49 {zs} : op1 O (.alloc zs) t h k = k (.rp h.nx 0 0) (h.new (zs.length, [zs.map .v])) := by simp only [op1, eff, ex1]
theorem j5j {agg n a} : op1 O (.load agg n a) t h k = d1h agg n (evT t a) h fun v => k v h := by
  simp only [op1, eff, d1h]
  have cells : ∀ cs off, (∃ r h', (if agg = true then (if off + n ≤ cs.length then some (AV.agg (List.take n (List.drop off cs)), h) else none) else Option.map (fun x => (x, h)) cs[off]?) = some (r, h') ∧ k r h') = b5v agg n cs off fun v => k v h := by
    intro cs off
    unfold b5v b5l
    cases agg with
    | true =>
      simp only [if_true]
      apply propext; constructor
      · rintro ⟨r, h', he, hk⟩; split at he
        · rename_i ho; cases he; exact ⟨ho, hk⟩
        · cases he
      · rintro ⟨h1, h2⟩; exact ⟨_, _, by rw [if_pos h1], h2⟩
    | false =>
      simp only [Bool.false_eq_true, if_false, Option.map_eq_some_iff]
      apply propext; constructor
      · rintro ⟨r, h', ⟨x, h1, h2⟩, hk⟩; cases h2; exact ⟨_, h1, hk⟩
      · rintro ⟨v, h1, h2⟩; exact ⟨v, h, ⟨v, h1, rfl⟩, h2⟩
  generalize evT t a = x
  cases x with
  | fp cs off => exact cells cs off
  | rp id i off =>
    simp only [b8e]
    apply propext; constructor
    · rintro ⟨r, h', he, hk⟩
      simp only [Option.bind_eq_some_iff] at he
      obtain ⟨⟨sz, es⟩, h1, cs, h2, he⟩ := he
      exact ⟨sz, es, cs, h1, h2, by rw [← cells]; exact ⟨r, h', he, hk⟩⟩
    · rintro ⟨sz, es, cs, h1, h2, h3⟩
      rw [← cells] at h3
      obtain ⟨r, h', he, hk⟩ := h3
      exact ⟨r, h', by simp only [h1, Option.bind_some, h2]; exact he, hk⟩
  | _ => simp
theorem j5o {n a x} : op1 O (.store n a x) t h k = d2n n (evT t a) (evT t x) h fun h' => k .dead h' := by
  simp only [op1, eff, d2n]
  generalize evT t a = y
  cases y with
  | rp id i off =>
    simp only [b8e]
    apply propext; constructor
    · rintro ⟨r, h', he, hk⟩
      simp only [Option.bind_eq_some_iff] at he
      obtain ⟨⟨sz, es⟩, h1, cs, h2, he⟩ := he
      split at he
      · rename_i hc; cases he; exact ⟨sz, es, cs, h1, h2, hc.1, hc.2.1, hc.2.2, hk⟩
      · cases he
    · rintro ⟨sz, es, cs, h1, h2, h3, h4, h5, h6⟩
      exact ⟨_, _, by simp only [h1, Option.bind_some, h2]; rw [if_pos ⟨h3, h4, h5⟩], h6⟩
  | _ => simp
theorem j5m {x} : op1 O (.nilck x) t h k = d1t (evT t x) h fun v => k v h := by
  simp only [op1, eff, d1t]
  generalize evT t x = y
  cases y with
  | rp id i off =>
    cases ho : h.ob id with
    | none => simp only [ho, Option.bind_none, ex0, Option.isSome_none, Bool.false_eq_true, false_and]
    | some o => simp only [ho, Option.bind_some, ex1, Option.isSome_some, true_and]
  | fp cs off => exact ex1
  | fn f a b => first | exact ex1 | exact ex0
  | _ => exact ex0
theorem j5g {o x} : op1 O (.fldA o x) t h k = c8x o (evT t x) h fun v => k v h := by
  simp only [op1, eff, c8x]
  generalize evT t x = y
  cases y with
  | rp id i off =>
    cases ho : h.ob id with
    | none => simp only [ho, Option.bind_none, ex0, Option.isSome_none, Bool.false_eq_true, false_and]
    | some o => simp only [ho, Option.bind_some, ex1, Option.isSome_some, true_and]
  | fp cs off => exact ex1
  | fn f a b => first | exact ex1 | exact ex0
  | _ => exact ex0
theorem j5h {n x i} : op1 O (.ixA n x i) t h k = d0o n (evT t x) (evT t i) h fun v => k v h := by
  simp only [op1, eff, d0o]
  generalize evT t x = y
  generalize evT t i = z
  cases y with
  | fs sz es =>
    cases z with
    | v w => cases w with
      | int kd j =>
        simp only [b7d]
        apply propext; constructor
        · rintro ⟨r, h', he, hk⟩
          split at he
          · rename_i hc
            simp only [Option.map_eq_some_iff] at he
            obtain ⟨cs, h1, h2⟩ := he
            cases h2
            exact ⟨hc.1, cs, hc.2, h1, hk⟩
          · cases he
        · rintro ⟨h1, cs, h2, h3, h4⟩
          exact ⟨_, _, by rw [if_pos ⟨h1, h2⟩, h3]; rfl, h4⟩
      | _ => simp
    | _ => simp
  | rs id lo len =>
    cases z with
    | v w => cases w with
      | int kd j =>
        simp only [obK]
        apply propext; constructor
        · rintro ⟨r, h', he, hk⟩
          simp only [Option.bind_eq_some_iff] at he
          obtain ⟨⟨sz, es⟩, h1, he⟩ := he
          split at he
          · rename_i hc; cases he; exact ⟨sz, es, h1, hc.1, hc.2.1, hc.2.2, hk⟩
          · cases he
        · rintro ⟨sz, es, h1, h2, h3, h4, h5⟩
          exact ⟨_, _, by simp only [h1, Option.bind_some]; rw [if_pos ⟨h2, h3, h4⟩], h5⟩
      | _ => simp
    | _ => simp
  | _ => simp
theorem j5a {op e x y} : op1 O (.bin op e x y) t h k = b2q op e (evT t x) (evT t y) fun v => k v h := by
  simp only [op1, eff, b2q, Option.map_eq_some_iff]
  apply propext; constructor
  · rintro ⟨r, h', ⟨v, h1, h2⟩, hk⟩; cases h2; exact ⟨_, h1, hk⟩
  · rintro ⟨v, h1, h2⟩; exact ⟨v, h, ⟨v, h1, rfl⟩, h2⟩
theorem j5p {op x} : op1 O (.un op x) t h k = unK op (evT t x) fun v => k v h := by
  simp only [op1, eff, unK, Option.map_eq_some_iff]
  apply propext; constructor
  · rintro ⟨r, h', ⟨v, h1, h2⟩, hk⟩; cases h2; exact ⟨_, h1, hk⟩
  · rintro ⟨v, h1, h2⟩; exact ⟨v, h, ⟨v, h1, rfl⟩, h2⟩
theorem j5i {x} : op1 O (.len false x) t h k = b60 (evT t x) fun n => k (I n) h := by
  simp only [op1, eff, b60, Bool.false_eq_true, if_false, Option.map_eq_some_iff]
  apply propext; constructor
  · rintro ⟨r, h', ⟨v, h1, h2⟩, hk⟩; cases h2; exact ⟨_, h1, hk⟩
  · rintro ⟨v, h1, h2⟩; exact ⟨_, h, ⟨v, h1, rfl⟩, h2⟩
theorem j5f {x i} : op1 O (.ext x i) t h k = c8q (evT t x) i fun v => k v h := by
  simp only [op1, eff, c8q]
  generalize evT t x = y
  cases y with
  | tup vs =>
    simp only [b5l, Option.map_eq_some_iff]
    apply propext; constructor
    · rintro ⟨r, h', ⟨v, h1, h2⟩, hk⟩; cases h2; exact ⟨_, h1, hk⟩
    · rintro ⟨v, h1, h2⟩; exact ⟨v, h, ⟨v, h1, rfl⟩, h2⟩
  | _ => simp
theorem j5k {f a b} : op1 O (.mkfn f a b) t h k = k (.fn f (a.map (evT t)) (b.map (evT t))) h := by simp only [op1, eff, ex1]
theorem j5d {f l} : op1 O (.call f l) t h k = b7a O f (l.map (evT t)) h k := rfl
theorem j5e {f l} : op1 O (.callv f l) t h k = ∃ n a b, callee (evT t f) = some (n, a, b) ∧ b7a O n (a ++ l.map (evT t) ++ b) h k := rfl
end
section
variable {O : Orac} {d : Option Nat} {g : Nat} {b0 : Bool} {r : List XO} {K : Slots → Heap → Prop} {t : Slots} {h : Heap}
theorem g36 {x} : b0f O (⟨d, none, .mv x⟩ :: r) K t h = op1 O (.mv x) t h (fun v h' => b0f O r K (b0t t d v) h') := b28 rfl
theorem g6k {x} : b0f O (⟨d, some (g, b0), .mv x⟩ :: r) K t h = b3j (t g) b0 (op1 O (.mv x) (upd t g (B b0)) h (fun v h' => b0f O r K (b0t (upd t g (B b0)) d v) h')) (b0f O r K (b0t (upd t g (B (!b0))) d U) h) (b0f O r K (b0t t d U) h) := b29 rfl
theorem g38 {c a b} : b0f O (⟨d, none, .pick c a b⟩ :: r) K t h = op1 O (.pick c a b) t h (fun v h' => b0f O r K (b0t t d v) h') := b28 rfl
theorem g6m {c a b} : b0f O (⟨d, some (g, b0), .pick c a b⟩ :: r) K t h = b3j (t g) b0 (op1 O (.pick c a b) (upd t g (B b0)) h (fun v h' => b0f O r K (b0t (upd t g (B b0)) d v) h')) (b0f O r K (b0t (upd t g (B (!b0))) d U) h) (b0f O r K (b0t t d U) h) := b29 rfl
theorem g3d {x} : b0f O (⟨d, none, .boxF x⟩ :: r) K t h = op1 O (.boxF x) t h (fun v h' => b0f O r K (b0t t d v) h') := b28 rfl
theorem g6b {x} : b0f O (⟨d, some (g, b0), .boxF x⟩ :: r) K t h = b3j (t g) b0 (op1 O (.boxF x) (upd t g (B b0)) h (fun v h' => b0f O r K (b0t (upd t g (B b0)) d v) h')) (b0f O r K (b0t (upd t g (B (!b0))) d U) h) (b0f O r K (b0t t d U) h) := b29 rfl
theorem g3c {x} : b0f O (⟨d, none, .box x⟩ :: r) K t h = op1 O (.box x) t h (fun v h' => b0f O r K (b0t t d v) h') := b28 rfl
theorem g6a {x} : b0f O (⟨d, some (g, b0), .box x⟩ :: r) K t h = b3j (t g) b0 (op1 O (.box x) (upd t g (B b0)) h (fun v h' => b0f O r K (b0t (upd t g (B b0)) d v) h')) (b0f O r K (b0t (upd t g (B (!b0))) d U) h) (b0f O r K (b0t t d U) h) := b29 rfl
theorem g3a {zs} : b0f O (⟨d, none, .alloc zs⟩ :: r) K t h = op1 O (.alloc zs) t h (fun v h' => b0f O r K (b0t t d v) h') := b28 rfl
theorem g58 {zs} : b0f O (⟨d, some (g, b0), .alloc zs⟩ :: r) K t h = b3j (t g) b0 (op1 O (.alloc zs) (upd t g (B b0)) h (fun v h' => b0f O r K (b0t (upd t g (B b0)) d v) h')) (b0f O r K (b0t (upd t g (B (!b0))) d U) h) (b0f O r K (b0t t d U) h) := b29 rfl
theorem g34 {agg n a} : b0f O (⟨d, none, .load agg n a⟩ :: r) K t h = op1 O (.load agg n a) t h (fun v h' => b0f O r K (b0t t d v) h') := b28 rfl
theorem g6i {agg n a} : b0f O (⟨d, some (g, b0), .load agg n a⟩ :: r) K t h = b3j (t g) b0 (op1 O (.load agg n a) (upd t g (B b0)) h (fun v h' => b0f O r K (b0t (upd t g (B b0)) d v) h')) (b0f O r K (b0t (upd t g (B (!b0))) d U) h) (b0f O r K (b0t t d U) h) := b29 rfl
theorem g4h {n a x} : b0f O (⟨d, none, .store n a x⟩ :: r) K t h = op1 O (.store n a x) t h (fun v h' => b0f O r K (b0t t d v) h') := b28 rfl
theorem g6n {n a x} : b0f O (⟨d, some (g, b0), .store n a x⟩ :: r) K t h = b3j (t g) b0 (op1 O (.store n a x) (upd t g (B b0)) h (fun v h' => b0f O r K (b0t (upd t g (B b0)) d v) h')) (b0f O r K (b0t (upd t g (B (!b0))) d U) h) (b0f O r K (b0t t d U) h) := b29 rfl
theorem g37 {x} : b0f O (⟨d, none, .nilck x⟩ :: r) K t h = op1 O (.nilck x) t h (fun v h' => b0f O r K (b0t t d v) h') := b28 rfl
theorem g6l {x} : b0f O (⟨d, some (g, b0), .nilck x⟩ :: r) K t h = b3j (t g) b0 (op1 O (.nilck x) (upd t g (B b0)) h (fun v h' => b0f O r K (b0t (upd t g (B b0)) d v) h')) (b0f O r K (b0t (upd t g (B (!b0))) d U) h) (b0f O r K (b0t t d U) h) := b29 rfl
theorem g3h {o x} : b0f O (⟨d, none, .fldA o x⟩ :: r) K t h = op1 O (.fldA o x) t h (fun v h' => b0f O r K (b0t t d v) h') := b28 rfl
theorem g6f {o x} : b0f O (⟨d, some (g, b0), .fldA o x⟩ :: r) K t h = b3j (t g) b0 (op1 O (.fldA o x) (upd t g (B b0)) h (fun v h' => b0f O r K (b0t (upd t g (B b0)) d v) h')) (b0f O r K (b0t (upd t g (B (!b0))) d U) h) (b0f O r K (b0t t d U) h) := b29 rfl
theorem g3x {n x i} : b0f O (⟨d, none, .ixA n x i⟩ :: r) K t h = op1 O (.ixA n x i) t h (fun v h' => b0f O r K (b0t t d v) h') := b28 rfl
theorem g6g {n x i} : b0f O (⟨d, some (g, b0), .ixA n x i⟩ :: r) K t h = b3j (t g) b0 (op1 O (.ixA n x i) (upd t g (B b0)) h (fun v h' => b0f O r K (b0t (upd t g (B b0)) d v) h')) (b0f O r K (b0t (upd t g (B (!b0))) d U) h) (b0f O r K (b0t t d U) h) := b29 rfl
theorem g3b {op e x y} : b0f O (⟨d, none, .bin op e x y⟩ :: r) K t h = op1 O (.bin op e x y) t h (fun v h' => b0f O r K (b0t t d v) h') := b28 rfl
theorem g59 {op e x y} : b0f O (⟨d, some (g, b0), .bin op e x y⟩ :: r) K t h = b3j (t g) b0 (op1 O (.bin op e x y) (upd t g (B b0)) h (fun v h' => b0f O r K (b0t (upd t g (B b0)) d v) h')) (b0f O r K (b0t (upd t g (B (!b0))) d U) h) (b0f O r K (b0t t d U) h) := b29 rfl
theorem g4i {op x} : b0f O (⟨d, none, .un op x⟩ :: r) K t h = op1 O (.un op x) t h (fun v h' => b0f O r K (b0t t d v) h') := b28 rfl
theorem g6o {op x} : b0f O (⟨d, some (g, b0), .un op x⟩ :: r) K t h = b3j (t g) b0 (op1 O (.un op x) (upd t g (B b0)) h (fun v h' => b0f O r K (b0t (upd t g (B b0)) d v) h')) (b0f O r K (b0t (upd t g (B (!b0))) d U) h) (b0f O r K (b0t t d U) h) := b29 rfl
theorem g33 {x} : b0f O (⟨d, none, .len false x⟩ :: r) K t h = op1 O (.len false x) t h (fun v h' => b0f O r K (b0t t d v) h') := b28 rfl
theorem g6h {x} : b0f O (⟨d, some (g, b0), .len false x⟩ :: r) K t h = b3j (t g) b0 (op1 O (.len false x) (upd t g (B b0)) h (fun v h' => b0f O r K (b0t (upd t g (B b0)) d v) h')) (b0f O r K (b0t (upd t g (B (!b0))) d U) h) (b0f O r K (b0t t d U) h) := b29 rfl
theorem g3g {x i} : b0f O (⟨d, none, .ext x i⟩ :: r) K t h = op1 O (.ext x i) t h (fun v h' => b0f O r K (b0t t d v) h') := b28 rfl
theorem g6e {x i} : b0f O (⟨d, some (g, b0), .ext x i⟩ :: r) K t h = b3j (t g) b0 (op1 O (.ext x i) (upd t g (B b0)) h (fun v h' => b0f O r K (b0t (upd t g (B b0)) d v) h')) (b0f O r K (b0t (upd t g (B (!b0))) d U) h) (b0f O r K (b0t t d U) h) := b29 rfl
theorem g35 {f a b} : b0f O (⟨d, none, .mkfn f a b⟩ :: r) K t h = op1 O (.mkfn f a b) t h (fun v h' => b0f O r K (b0t t d v) h') := b28 rfl
theorem g6j {f a b} : b0f O (⟨d, some (g, b0), .mkfn f a b⟩ :: r) K t h = b3j (t g) b0 (op1 O (.mkfn f a b) (upd t g (B b0)) h (fun v h' => b0f O r K (b0t (upd t g (B b0)) d v) h')) (b0f O r K (b0t (upd t g (B (!b0))) d U) h) (b0f O r K (b0t t d U) h) := b29 rfl
theorem g3e {f l} : b0f O (⟨d, none, .call f l⟩ :: r) K t h = op1 O (.call f l) t h (fun v h' => b0f O r K (b0t t d v) h') := b28 rfl
theorem g6c {f l} : b0f O (⟨d, some (g, b0), .call f l⟩ :: r) K t h = b3j (t g) b0 (op1 O (.call f l) (upd t g (B b0)) h (fun v h' => b0f O r K (b0t (upd t g (B b0)) d v) h')) (b0f O r K (b0t (upd t g (B (!b0))) d U) h) (b0f O r K (b0t t d U) h) := b29 rfl
theorem g3f {f l} : b0f O (⟨d, none, .callv f l⟩ :: r) K t h = op1 O (.callv f l) t h (fun v h' => b0f O r K (b0t t d v) h') := b28 rfl
theorem g6d {f l} : b0f O (⟨d, some (g, b0), .callv f l⟩ :: r) K t h = b3j (t g) b0 (op1 O (.callv f l) (upd t g (B b0)) h (fun v h' => b0f O r K (b0t (upd t g (B b0)) d v) h')) (b0f O r K (b0t (upd t g (B (!b0))) d U) h) (b0f O r K (b0t t d U) h) := b29 rfl
end
section
variable {k : AV → Prop} {h : Heap}
theorem g4m {n cs off} : b5v false n cs off k = b5l cs off k := by simp [b5v]
theorem g4n {n cs off} : b5v true n cs off k = (off + n ≤ cs.length ∧ k (.agg ((cs.drop off).take n))) := by simp [b5v]
theorem g6r {c cs} : b5l (c :: cs) 0 k = k c := by simp [b5l]
theorem g6s {c cs n} : b5l (c :: cs) (n + 1) k = b5l cs n k := by simp [b5l]
theorem d9t {sz es i} {k : Nat → List (List AV) → List AV → Prop} : b8e (some (sz, es)) i k = ∃ cs, es[i]? = some cs ∧ k sz es cs := by
  apply propext; constructor
  · rintro ⟨a, b, c, h1, h2, h3⟩; cases h1; exact ⟨c, h2, h3⟩
  · rintro ⟨c, h2, h3⟩; exact ⟨_, _, c, rfl, h2, h3⟩
theorem j67 {sz cs} {k : Nat → List (List AV) → List AV → Prop} : b8e (some (sz, [cs])) 0 k = k sz [cs] cs := by simp [d9t]
theorem j4x {sz es} {k : Nat → List (List AV) → Prop} : obK (some (sz, es)) k = k sz es := by
  apply propext; constructor
  · rintro ⟨a, b, h1, h2⟩; cases h1; exact h2
  · exact fun h => ⟨_, _, rfl, h⟩
theorem g5p {α β : Type} {f : α → β} {l : List α} {i : Int} {k : β → Prop} : b7d (l.map f) i k = b7d l i fun a => k (f a) := by
  simp only [b7d, List.getElem?_map, Option.map_eq_some_iff]
  apply propext; constructor
  · rintro ⟨b, h1, ⟨a, h2, rfl⟩, h3⟩; exact ⟨a, h1, h2, h3⟩
  · rintro ⟨a, h1, h2, h3⟩; exact ⟨_, h1, ⟨a, h2, rfl⟩, h3⟩
theorem g2x {cs} {k : List AV → Prop} : b4g (.agg cs) k = k cs := by simp [b4g, b2r, cellsOf]
theorem g20 {kd n} {k : List AV → Prop} : b4g (.v (.int kd n)) k = k [.v (.int kd n)] := by simp [b4g, b2r, cellsOf, Value.oneCell']
theorem g2y {b} {k : List AV → Prop} : b4g (.v (.bool b)) k = k [.v (.bool b)] := by simp [b4g, b2r, cellsOf, Value.oneCell']
theorem g22 {a b c} {k : List AV → Prop} : b4g (.v (.slice a b c)) k = k [.v (.slice a b c)] := by simp [b4g, b2r, cellsOf, Value.oneCell']
theorem g2z {sz es} {k : List AV → Prop} : b4g (.fs sz es) k = k [.fs sz es] := by simp [b4g, b2r, cellsOf]
theorem g21 {a b c} {k : List AV → Prop} : b4g (.rs a b c) k = k [.rs a b c] := by simp [b4g, b2r, cellsOf]
theorem j02 {sz es} {k : Int → Prop} : b60 (.fs sz es) k = k es.length := by simp [b60, b3i]
theorem j04 {id lo len} {k : Int → Prop} : b60 (.rs id lo len) k = k len := by simp [b60, b3i]
theorem j03 {k : Int → Prop} : b60 (.v (.slice none 0 0)) k = k 0 := by simp [b60, b3i]
theorem b41 {op e kd a b} {r : Value} (hr : b4b op kd a kd b = some r) : b2q op e (.v (.int kd a)) (.v (.int kd b)) k = k (.v r) := by simp [b2q, b4q, hr]
section
variable {e : EqK} {kd : IntKind} {a b : Int}
theorem g2k : b2q .add e (.v (.int kd a)) (.v (.int kd b)) k = k (.v (.int kd (kd.wrap (a + b)))) := b41 (by simp [b4b, b38])
theorem g2u : b2q .sub e (.v (.int kd a)) (.v (.int kd b)) k = k (.v (.int kd (kd.wrap (a - b)))) := b41 (by simp [b4b, b38])
theorem g2s : b2q .mul e (.v (.int kd a)) (.v (.int kd b)) k = k (.v (.int kd (kd.wrap (a * b)))) := b41 (by simp [b4b, b38])
theorem g2n : b2q .eql e (.v (.int kd a)) (.v (.int kd b)) k = k (B (decide (a = b))) := b41 (by simp only [b4b, b38, if_true]; by_cases h : a = b <;> simp [h])
theorem g2t : b2q .neq e (.v (.int kd a)) (.v (.int kd b)) k = k (B (decide (¬ a = b))) := b41 (by simp only [b4b, b38, if_true]; by_cases h : a = b <;> simp [h])
theorem g2r : b2q .lss e (.v (.int kd a)) (.v (.int kd b)) k = k (B (decide (a < b))) := b41 (by simp [b4b, b38])
theorem g2q : b2q .leq e (.v (.int kd a)) (.v (.int kd b)) k = k (B (decide (a ≤ b))) := b41 (by simp [b4b, b38])
theorem g2p : b2q .gtr e (.v (.int kd a)) (.v (.int kd b)) k = k (B (decide (b < a))) := b41 (by simp [b4b, b38])
theorem g2o : b2q .geq e (.v (.int kd a)) (.v (.int kd b)) k = k (B (decide (b ≤ a))) := b41 (by simp [b4b, b38])
theorem g2l {a b : Bool} : b2q .eql .bool (B a) (B b) k = k (B (b90 a b)) := by simp [b2q, b4q, b3f, b90]
theorem g2m {a b : Bool} : b2q .neq .bool (B a) (B b) k = k (B (!(b90 a b))) := by simp [b2q, b4q, b3f, b90]
end
theorem j8f {b : Bool} : unK .not (B b) k = k (B (!b)) := by simp [unK, b9m]
theorem j8e {kd a} : unK .neg (.v (.int kd a)) k = k (.v (.int kd (kd.wrap (0 - a)))) := by simp [unK, b9m]
theorem j3l {o : Ob} : (h.new o).ob h.nx = some o := by simp [Heap.new]
theorem j3k {o : Ob} : (h.new o).nx = nxs h.nx := by simp [Heap.new, nxs]
theorem j8j {o id} : (h.upd id o).ob id = o := by simp [Heap.upd]
theorem j8h {o id} : (h.upd id o).nx = h.nx := by simp [Heap.upd]
theorem g5t {t : Slots} {n} : evT t (.t n) = t n := rfl
theorem g5q {t : Slots} {v} : evT t (.c v) = .v v := rfl
theorem g5u {t : Slots} {n} : evT t (.tf n) = b7f (t n) := rfl
theorem g54 {cs off} : b7f (.fp cs off) = .fp cs off := rfl
theorem g55 {sz es} : b7f (.fs sz es) = .fs sz es := rfl
theorem g5s {t : Slots} {n cs} : evT t (.g n cs) = .fp (cs.map .v) 0 := rfl
theorem g5r {t : Slots} {n} : evT t (.f n) = .fn n [] [] := rfl
theorem j6n {t : Slots} {n x} : b0t t (some n) x = upd t n x := rfl
theorem j6m {t : Slots} {x} : b0t t none x = t := rfl
end
theorem j8v {n : Int} (h1 : -9223372036854775808 ≤ n) (h2 : n < 9223372036854775808) : IntKind.i64.wrap n = n := by
  unfold IntKind.wrap
  simp only [IntKind.bits, IntKind.signed, Bool.true_and]
  split <;> rename_i h <;> simp at h <;> omega
attribute [go_sem] g5u g54 g55 g5t g5q g5r g5s j6n j6m g0p g0o j3l j3k j8j j8h
attribute [go_sem ↓] b02 b1w b1c c16 b05 b0i b1z b1e b0h b1d b1y b1x
end Go.Nw
