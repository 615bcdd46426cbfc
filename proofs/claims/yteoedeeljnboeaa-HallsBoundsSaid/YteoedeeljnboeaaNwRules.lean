/- One rule for each operation. -/
import Derived.Test.YteoedeeljnboeaaNwVcg
set_option linter.all false
set_option linter.unusedVariables false
set_option linter.unusedSimpArgs false
set_option linter.unusedSectionVars false
namespace Go.Nw
def nxs (n : Nat) : Nat := n + 1
def c0a (a b : Bool) : Bool := a == b
def b7d {α : Type} (l : List α) (i : Int) (k : α → Prop) : Prop := ∃ a, 0 ≤ i ∧ l[i.toNat]? = some a ∧ k a
def b5o (cs : List AV) (i : Nat) (k : AV → Prop) : Prop := ∃ v, cs[i]? = some v ∧ k v
def b5x (agg : Bool) (n : Nat) (cs : List AV) (off : Nat) (k : AV → Prop) : Prop := if agg then off + n ≤ cs.length ∧ k (.agg ((cs.drop off).take n)) else b5o cs off k
def b75 (o : Option Ob) (i : Nat) (k : Nat → List (List AV) → List AV → Prop) : Prop := ∃ sz es cs, o = some (sz, es) ∧ es[i]? = some cs ∧ k sz es cs
def obK (o : Option Ob) (k : Nat → List (List AV) → Prop) : Prop := ∃ sz es, o = some (sz, es) ∧ k sz es
def d1c (agg : Bool) (n : Nat) (x : AV) (h : Heap) (k : AV → Prop) : Prop :=
  match x with
  | .fp cs off => b5x agg n cs off k
  | .rp id i off => b75 (h.ob id) i fun _ _ cs => b5x agg n cs off k
  | _ => False
def d2h (n : Nat) (a x : AV) (h : Heap) (k : Heap → Prop) : Prop :=
  match a with
  | .rp id i off => b75 (h.ob id) i fun sz es cs => b2w x = true ∧ (cellsOf x).length = n ∧ off + n ≤ cs.length ∧ k (h.upd id (some (sz, es.set i (cs.take off ++ cellsOf x ++ cs.drop (off + n)))))
  | _ => False
def c3v (c : AV) (p q : Prop) : Prop := match c with | .v (.bool true) => p | .v (.bool false) => q | _ => False
def b4f (x : AV) (k : List AV → Prop) : Prop := b2w x = true ∧ k (cellsOf x)
def d1l (x : AV) (h : Heap) (k : AV → Prop) : Prop :=
  match x with | .fp cs off => k (.fp cs off) | .rp id i off => (h.ob id).isSome = true ∧ k (.rp id i off) | .fn f a b => k (.fn f a b) | _ => False
def c8y (off : Nat) (x : AV) (h : Heap) (k : AV → Prop) : Prop := match x with | .fp cs o => k (.fp cs (o + off)) | .rp id i o => (h.ob id).isSome = true ∧ k (.rp id i (o + off)) | _ => False
def d0j (n : Nat) (x i : AV) (h : Heap) (k : AV → Prop) : Prop :=
  match x, i with
  | .fs sz es, .v (.int _ j) => sz = n ∧ b7d es j fun cs => k (.fp cs 0)
  | .rs id lo len, .v (.int _ j) => obK (h.ob id) fun sz _ => sz = n ∧ 0 ≤ j ∧ j < len ∧ k (.rp id (lo + j.toNat) 0)
  | _, _ => False
def b2u (op : BinOp) (e : EqK) (x y : AV) (k : AV → Prop) : Prop := ∃ r, b4o op e x y = some r ∧ k r
def unK (op : UnOp) (x : AV) (k : AV → Prop) : Prop := ∃ r, b9v op x = some r ∧ k r
def b65 (x : AV) (k : Int → Prop) : Prop := ∃ n, b3f x = some n ∧ k n
def c8t (x : AV) (i : Nat) (k : AV → Prop) : Prop := match x with | .tup vs => b5o vs i k | _ => False
section
variable {O : Orac} {t : Slots} {h : Heap} {k : AV → Heap → Prop}
theorem ex1 {a : AV} {b : Heap} {k : AV → Heap → Prop} : (∃ r h', some (a, b) = some (r, h') ∧ k r h') = k a b := by
  apply propext; constructor
  · rintro ⟨r, h', e, hk⟩; cases e; exact hk
  · exact fun hk => ⟨_, _, rfl, hk⟩
theorem ex0 {k : AV → Heap → Prop} : (∃ r h', (none : Option (AV × Heap)) = some (r, h') ∧ k r h') = False := by simp
theorem j5e {x} : op1 O (.mv x) t h k = k (evT t x) h := by simp only [op1, eff, ex1]
theorem j5g {c a b} : op1 O (.pick c a b) t h k = c3v (evT t c) (k (evT t a) h) (k (evT t b) h) := by
  simp only [op1, eff]
  generalize evT t c = x
  cases x with
  | v y => cases y with
    | bool z => cases z <;> simp only [c3v, ex1, if_true, Bool.false_eq_true, if_false]
    | _ => simp only [c3v, ex0]
  | _ => simp only [c3v, ex0]
theorem j45 {x} : op1 O (.boxF x) t h k = b4f (evT t x) fun cs => k (.fp cs 0) h := rfl
theorem j44 {x} : op1 O (.box x) t h k = b4f (evT t x) fun cs => k (.rp h.nx 0 0) (h.new (cs.length, [cs])) := by
  simp only [op1, eff, b4f]
  apply propext; constructor
  · rintro ⟨r, h', he, hk⟩; split at he
    · rename_i ho; cases he; exact ⟨ho, hk⟩
    · cases he
  · rintro ⟨h1, h2⟩; exact ⟨_, _, by rw [if_pos h1], h2⟩
theorem j42 {zs} : op1 O (.alloc zs) t h k = k (.rp h.nx 0 0) (h.new (zs.length, [zs.map .v])) := by simp only [op1, eff, ex1]
theorem j5c {agg n a} : op1 O (.load agg n a) t h k = d1c agg n (evT t a) h fun v => k v h := by
  simp only [op1, eff, d1c]
  have cells : ∀ cs off, (∃ r h', (if agg = true then (if off + n ≤ cs.length then some (AV.agg (List.take n (List.drop off cs)), h) else none) else Option.map (fun x => (x, h)) cs[off]?) = some (r, h') ∧ k r h') = b5x agg n cs off fun v => k v h := by
    intro cs off
    unfold b5x b5o
    cases agg with
    | true =>
      simp only [if_true]
      apply propext; constructor
      · rintro ⟨r, h', he, hk⟩; split at he
        · rename_i ho; cases he; exact ⟨ho, hk⟩
        · cases he
      · rintro ⟨h1, h2⟩; exact ⟨_, _, by rw [if_pos h1], h2⟩
    | false =>
      simp only [Bool.false_eq_true, if_false, Option.map_eq_some_iff]
      apply propext; constructor
      · rintro ⟨r, h', ⟨x, h1, h2⟩, hk⟩; cases h2; exact ⟨_, h1, hk⟩
      · rintro ⟨v, h1, h2⟩; exact ⟨v, h, ⟨v, h1, rfl⟩, h2⟩
  generalize evT t a = x
  cases x with
  | fp cs off => exact cells cs off
  | rp id i off =>
    simp only [b75]
    apply propext; constructor
    · rintro ⟨r, h', he, hk⟩
      simp only [Option.bind_eq_some_iff] at he
      obtain ⟨⟨sz, es⟩, h1, cs, h2, he⟩ := he
      exact ⟨sz, es, cs, h1, h2, by rw [← cells]; exact ⟨r, h', he, hk⟩⟩
    · rintro ⟨sz, es, cs, h1, h2, h3⟩
      rw [← cells] at h3
      obtain ⟨r, h', he, hk⟩ := h3
      exact ⟨r, h', by simp only [h1, Option.bind_some, h2]; exact he, hk⟩
  | _ => simp
theorem j5h {n a x} : op1 O (.store n a x) t h k = d2h n (evT t a) (evT t x) h fun h' => k .dead h' := by
  simp only [op1, eff, d2h]
  generalize evT t a = y
  cases y with
  | rp id i off =>
    simp only [b75]
    apply propext; constructor
    · rintro ⟨r, h', he, hk⟩
      simp only [Option.bind_eq_some_iff] at he
      obtain ⟨⟨sz, es⟩, h1, cs, h2, he⟩ := he
      split at he
      · rename_i hc; cases he; exact ⟨sz, es, cs, h1, h2, hc.1, hc.2.1, hc.2.2, hk⟩
      · cases he
    · rintro ⟨sz, es, cs, h1, h2, h3, h4, h5, h6⟩
      exact ⟨_, _, by simp only [h1, Option.bind_some, h2]; rw [if_pos ⟨h3, h4, h5⟩], h6⟩
  | _ => simp
theorem j5f {x} : op1 O (.nilck x) t h k = d1l (evT t x) h fun v => k v h := by
  simp only [op1, eff, d1l]
  generalize evT t x = y
  cases y with
  | rp id i off =>
    cases ho : h.ob id with
    | none => simp only [ho, Option.bind_none, ex0, Option.isSome_none, Bool.false_eq_true, false_and]
    | some o => simp only [ho, Option.bind_some, ex1, Option.isSome_some, true_and]
  | fp cs off => exact ex1
  | fn f a b => first | exact ex1 | exact ex0
  | _ => exact ex0
theorem j49 {o x} : op1 O (.fldA o x) t h k = c8y o (evT t x) h fun v => k v h := by
  simp only [op1, eff, c8y]
  generalize evT t x = y
  cases y with
  | rp id i off =>
    cases ho : h.ob id with
    | none => simp only [ho, Option.bind_none, ex0, Option.isSome_none, Bool.false_eq_true, false_and]
    | some o => simp only [ho, Option.bind_some, ex1, Option.isSome_some, true_and]
  | fp cs off => exact ex1
  | fn f a b => first | exact ex1 | exact ex0
  | _ => exact ex0
theorem j5a {n x i} : op1 O (.ixA n x i) t h k = d0j n (evT t x) (evT t i) h fun v => k v h := by
  simp only [op1, eff, d0j]
  generalize evT t x = y
  generalize evT t i = z
  cases y with
  | fs sz es =>
    cases z with
    | v w => cases w with
      | int kd j =>
        simp only [b7d]
        apply propext; constructor
        · rintro ⟨r, h', he, hk⟩
          split at he
          · rename_i hc
            simp only [Option.map_eq_some_iff] at he
            obtain ⟨cs, h1, h2⟩ := he
            cases h2
            exact ⟨hc.1, cs, hc.2, h1, hk⟩
          · cases he
        · rintro ⟨h1, cs, h2, h3, h4⟩
          exact ⟨_, _, by rw [if_pos ⟨h1, h2⟩, h3]; rfl, h4⟩
      | _ => simp
    | _ => simp
  | rs id lo len =>
    cases z with
    | v w => cases w with
      | int kd j =>
        simp only [obK]
        apply propext; constructor
        · rintro ⟨r, h', he, hk⟩
          simp only [Option.bind_eq_some_iff] at he
          obtain ⟨⟨sz, es⟩, h1, he⟩ := he
          split at he
          · rename_i hc; cases he; exact ⟨sz, es, h1, hc.1, hc.2.1, hc.2.2, hk⟩
          · cases he
        · rintro ⟨sz, es, h1, h2, h3, h4, h5⟩
          exact ⟨_, _, by simp only [h1, Option.bind_some]; rw [if_pos ⟨h2, h3, h4⟩], h5⟩
      | _ => simp
    | _ => simp
  | _ => simp
theorem j43 {op e x y} : op1 O (.bin op e x y) t h k = b2u op e (evT t x) (evT t y) fun v => k v h := by
  simp only [op1, eff, b2u, Option.map_eq_some_iff]
  apply propext; constructor
  · rintro ⟨r, h', ⟨v, h1, h2⟩, hk⟩; cases h2; exact ⟨_, h1, hk⟩
  · rintro ⟨v, h1, h2⟩; exact ⟨v, h, ⟨v, h1, rfl⟩, h2⟩
theorem j5i {op x} : op1 O (.un op x) t h k = unK op (evT t x) fun v => k v h := by
  simp only [op1, eff, unK, Option.map_eq_some_iff]
  apply propext; constructor
  · rintro ⟨r, h', ⟨v, h1, h2⟩, hk⟩; cases h2; exact ⟨_, h1, hk⟩
  · rintro ⟨v, h1, h2⟩; exact ⟨v, h, ⟨v, h1, rfl⟩, h2⟩
theorem j5b {x} : op1 O (.len false x) t h k = b65 (evT t x) fun n => k (I n) h := by
  simp only [op1, eff, b65, Bool.false_eq_true, if_false, Option.map_eq_some_iff]
  apply propext; constructor
  · rintro ⟨r, h', ⟨v, h1, h2⟩, hk⟩; cases h2; exact ⟨_, h1, hk⟩
  · rintro ⟨v, h1, h2⟩; exact ⟨_, h, ⟨v, h1, rfl⟩, h2⟩
theorem j48 {x i} : op1 O (.ext x i) t h k = c8t (evT t x) i fun v => k v h := by
  simp only [op1, eff, c8t]
  generalize evT t x = y
  cases y with
  | tup vs =>
    simp only [b5o, Option.map_eq_some_iff]
    apply propext; constructor
    · rintro ⟨r, h', ⟨v, h1, h2⟩, hk⟩; cases h2; exact ⟨_, h1, hk⟩
    · rintro ⟨v, h1, h2⟩; exact ⟨v, h, ⟨v, h1, rfl⟩, h2⟩
  | _ => simp
theorem j5d {f a b} : op1 O (.mkfn f a b) t h k = k (.fn f (a.map (evT t)) (b.map (evT t))) h := by simp only [op1, eff, ex1]
theorem j46 {f l} : op1 O (.call f l) t h k = b7b O f (l.map (evT t)) h k := rfl
theorem j47 {f l} : op1 O (.callv f l) t h k = ∃ n a b, callee (evT t f) = some (n, a, b) ∧ b7b O n (a ++ l.map (evT t) ++ b) h k := rfl
end
section
variable {O : Orac} {d : Option Nat} {g : Nat} {b0 : Bool} {r : List XO} {K : Slots → Heap → Prop} {t : Slots} {h : Heap}
theorem g3u {x} : b0g O (⟨d, none, .mv x⟩ :: r) K t h = op1 O (.mv x) t h (fun v h' => b0g O r K (b0p t d v) h') := b27 rfl
theorem g6f {x} : b0g O (⟨d, some (g, b0), .mv x⟩ :: r) K t h = b3h (t g) b0 (op1 O (.mv x) (upd t g (B b0)) h (fun v h' => b0g O r K (b0p (upd t g (B b0)) d v) h')) (b0g O r K (b0p (upd t g (B (!b0))) d U) h) (b0g O r K (b0p t d U) h) := b29 rfl
theorem g3w {c a b} : b0g O (⟨d, none, .pick c a b⟩ :: r) K t h = op1 O (.pick c a b) t h (fun v h' => b0g O r K (b0p t d v) h') := b27 rfl
theorem g6h {c a b} : b0g O (⟨d, some (g, b0), .pick c a b⟩ :: r) K t h = b3h (t g) b0 (op1 O (.pick c a b) (upd t g (B b0)) h (fun v h' => b0g O r K (b0p (upd t g (B b0)) d v) h')) (b0g O r K (b0p (upd t g (B (!b0))) d U) h) (b0g O r K (b0p t d U) h) := b29 rfl
theorem g26 {x} : b0g O (⟨d, none, .boxF x⟩ :: r) K t h = op1 O (.boxF x) t h (fun v h' => b0g O r K (b0p t d v) h') := b27 rfl
theorem g56 {x} : b0g O (⟨d, some (g, b0), .boxF x⟩ :: r) K t h = b3h (t g) b0 (op1 O (.boxF x) (upd t g (B b0)) h (fun v h' => b0g O r K (b0p (upd t g (B b0)) d v) h')) (b0g O r K (b0p (upd t g (B (!b0))) d U) h) (b0g O r K (b0p t d U) h) := b29 rfl
theorem g25 {x} : b0g O (⟨d, none, .box x⟩ :: r) K t h = op1 O (.box x) t h (fun v h' => b0g O r K (b0p t d v) h') := b27 rfl
theorem g55 {x} : b0g O (⟨d, some (g, b0), .box x⟩ :: r) K t h = b3h (t g) b0 (op1 O (.box x) (upd t g (B b0)) h (fun v h' => b0g O r K (b0p (upd t g (B b0)) d v) h')) (b0g O r K (b0p (upd t g (B (!b0))) d U) h) (b0g O r K (b0p t d U) h) := b29 rfl
theorem g23 {zs} : b0g O (⟨d, none, .alloc zs⟩ :: r) K t h = op1 O (.alloc zs) t h (fun v h' => b0g O r K (b0p t d v) h') := b27 rfl
theorem g53 {zs} : b0g O (⟨d, some (g, b0), .alloc zs⟩ :: r) K t h = b3h (t g) b0 (op1 O (.alloc zs) (upd t g (B b0)) h (fun v h' => b0g O r K (b0p (upd t g (B b0)) d v) h')) (b0g O r K (b0p (upd t g (B (!b0))) d U) h) (b0g O r K (b0p t d U) h) := b29 rfl
theorem g3s {agg n a} : b0g O (⟨d, none, .load agg n a⟩ :: r) K t h = op1 O (.load agg n a) t h (fun v h' => b0g O r K (b0p t d v) h') := b27 rfl
theorem g6d {agg n a} : b0g O (⟨d, some (g, b0), .load agg n a⟩ :: r) K t h = b3h (t g) b0 (op1 O (.load agg n a) (upd t g (B b0)) h (fun v h' => b0g O r K (b0p (upd t g (B b0)) d v) h')) (b0g O r K (b0p (upd t g (B (!b0))) d U) h) (b0g O r K (b0p t d U) h) := b29 rfl
theorem g38 {n a x} : b0g O (⟨d, none, .store n a x⟩ :: r) K t h = op1 O (.store n a x) t h (fun v h' => b0g O r K (b0p t d v) h') := b27 rfl
theorem g6i {n a x} : b0g O (⟨d, some (g, b0), .store n a x⟩ :: r) K t h = b3h (t g) b0 (op1 O (.store n a x) (upd t g (B b0)) h (fun v h' => b0g O r K (b0p (upd t g (B b0)) d v) h')) (b0g O r K (b0p (upd t g (B (!b0))) d U) h) (b0g O r K (b0p t d U) h) := b29 rfl
theorem g3v {x} : b0g O (⟨d, none, .nilck x⟩ :: r) K t h = op1 O (.nilck x) t h (fun v h' => b0g O r K (b0p t d v) h') := b27 rfl
theorem g6g {x} : b0g O (⟨d, some (g, b0), .nilck x⟩ :: r) K t h = b3h (t g) b0 (op1 O (.nilck x) (upd t g (B b0)) h (fun v h' => b0g O r K (b0p (upd t g (B b0)) d v) h')) (b0g O r K (b0p (upd t g (B (!b0))) d U) h) (b0g O r K (b0p t d U) h) := b29 rfl
theorem g3a {o x} : b0g O (⟨d, none, .fldA o x⟩ :: r) K t h = op1 O (.fldA o x) t h (fun v h' => b0g O r K (b0p t d v) h') := b27 rfl
theorem g6a {o x} : b0g O (⟨d, some (g, b0), .fldA o x⟩ :: r) K t h = b3h (t g) b0 (op1 O (.fldA o x) (upd t g (B b0)) h (fun v h' => b0g O r K (b0p (upd t g (B b0)) d v) h')) (b0g O r K (b0p (upd t g (B (!b0))) d U) h) (b0g O r K (b0p t d U) h) := b29 rfl
theorem g3m {n x i} : b0g O (⟨d, none, .ixA n x i⟩ :: r) K t h = op1 O (.ixA n x i) t h (fun v h' => b0g O r K (b0p t d v) h') := b27 rfl
theorem g6b {n x i} : b0g O (⟨d, some (g, b0), .ixA n x i⟩ :: r) K t h = b3h (t g) b0 (op1 O (.ixA n x i) (upd t g (B b0)) h (fun v h' => b0g O r K (b0p (upd t g (B b0)) d v) h')) (b0g O r K (b0p (upd t g (B (!b0))) d U) h) (b0g O r K (b0p t d U) h) := b29 rfl
theorem g24 {op e x y} : b0g O (⟨d, none, .bin op e x y⟩ :: r) K t h = op1 O (.bin op e x y) t h (fun v h' => b0g O r K (b0p t d v) h') := b27 rfl
theorem g54 {op e x y} : b0g O (⟨d, some (g, b0), .bin op e x y⟩ :: r) K t h = b3h (t g) b0 (op1 O (.bin op e x y) (upd t g (B b0)) h (fun v h' => b0g O r K (b0p (upd t g (B b0)) d v) h')) (b0g O r K (b0p (upd t g (B (!b0))) d U) h) (b0g O r K (b0p t d U) h) := b29 rfl
theorem g39 {op x} : b0g O (⟨d, none, .un op x⟩ :: r) K t h = op1 O (.un op x) t h (fun v h' => b0g O r K (b0p t d v) h') := b27 rfl
theorem g6j {op x} : b0g O (⟨d, some (g, b0), .un op x⟩ :: r) K t h = b3h (t g) b0 (op1 O (.un op x) (upd t g (B b0)) h (fun v h' => b0g O r K (b0p (upd t g (B b0)) d v) h')) (b0g O r K (b0p (upd t g (B (!b0))) d U) h) (b0g O r K (b0p t d U) h) := b29 rfl
theorem g3r {x} : b0g O (⟨d, none, .len false x⟩ :: r) K t h = op1 O (.len false x) t h (fun v h' => b0g O r K (b0p t d v) h') := b27 rfl
theorem g6c {x} : b0g O (⟨d, some (g, b0), .len false x⟩ :: r) K t h = b3h (t g) b0 (op1 O (.len false x) (upd t g (B b0)) h (fun v h' => b0g O r K (b0p (upd t g (B b0)) d v) h')) (b0g O r K (b0p (upd t g (B (!b0))) d U) h) (b0g O r K (b0p t d U) h) := b29 rfl
theorem g29 {x i} : b0g O (⟨d, none, .ext x i⟩ :: r) K t h = op1 O (.ext x i) t h (fun v h' => b0g O r K (b0p t d v) h') := b27 rfl
theorem g59 {x i} : b0g O (⟨d, some (g, b0), .ext x i⟩ :: r) K t h = b3h (t g) b0 (op1 O (.ext x i) (upd t g (B b0)) h (fun v h' => b0g O r K (b0p (upd t g (B b0)) d v) h')) (b0g O r K (b0p (upd t g (B (!b0))) d U) h) (b0g O r K (b0p t d U) h) := b29 rfl
theorem g3t {f a b} : b0g O (⟨d, none, .mkfn f a b⟩ :: r) K t h = op1 O (.mkfn f a b) t h (fun v h' => b0g O r K (b0p t d v) h') := b27 rfl
theorem g6e {f a b} : b0g O (⟨d, some (g, b0), .mkfn f a b⟩ :: r) K t h = b3h (t g) b0 (op1 O (.mkfn f a b) (upd t g (B b0)) h (fun v h' => b0g O r K (b0p (upd t g (B b0)) d v) h')) (b0g O r K (b0p (upd t g (B (!b0))) d U) h) (b0g O r K (b0p t d U) h) := b29 rfl
theorem g27 {f l} : b0g O (⟨d, none, .call f l⟩ :: r) K t h = op1 O (.call f l) t h (fun v h' => b0g O r K (b0p t d v) h') := b27 rfl
theorem g57 {f l} : b0g O (⟨d, some (g, b0), .call f l⟩ :: r) K t h = b3h (t g) b0 (op1 O (.call f l) (upd t g (B b0)) h (fun v h' => b0g O r K (b0p (upd t g (B b0)) d v) h')) (b0g O r K (b0p (upd t g (B (!b0))) d U) h) (b0g O r K (b0p t d U) h) := b29 rfl
theorem g28 {f l} : b0g O (⟨d, none, .callv f l⟩ :: r) K t h = op1 O (.callv f l) t h (fun v h' => b0g O r K (b0p t d v) h') := b27 rfl
theorem g58 {f l} : b0g O (⟨d, some (g, b0), .callv f l⟩ :: r) K t h = b3h (t g) b0 (op1 O (.callv f l) (upd t g (B b0)) h (fun v h' => b0g O r K (b0p (upd t g (B b0)) d v) h')) (b0g O r K (b0p (upd t g (B (!b0))) d U) h) (b0g O r K (b0p t d U) h) := b29 rfl
end
section
variable {k : AV → Prop} {h : Heap}
theorem g4d {n cs off} : b5x false n cs off k = b5o cs off k := by simp [b5x]
theorem g4e {n cs off} : b5x true n cs off k = (off + n ≤ cs.length ∧ k (.agg ((cs.drop off).take n))) := by simp [b5x]
theorem g6m {c cs} : b5o (c :: cs) 0 k = k c := by simp [b5o]
theorem g6n {c cs n} : b5o (c :: cs) (n + 1) k = b5o cs n k := by simp [b5o]
theorem d86 {sz es i} {k : Nat → List (List AV) → List AV → Prop} : b75 (some (sz, es)) i k = ∃ cs, es[i]? = some cs ∧ k sz es cs := by
  apply propext; constructor
  · rintro ⟨a, b, c, h1, h2, h3⟩; cases h1; exact ⟨c, h2, h3⟩
  · rintro ⟨c, h2, h3⟩; exact ⟨_, _, c, rfl, h2, h3⟩
theorem j65 {sz cs} {k : Nat → List (List AV) → List AV → Prop} : b75 (some (sz, [cs])) 0 k = k sz [cs] cs := by simp [d86]
theorem j4r {sz es} {k : Nat → List (List AV) → Prop} : obK (some (sz, es)) k = k sz es := by
  apply propext; constructor
  · rintro ⟨a, b, h1, h2⟩; cases h1; exact h2
  · exact fun h => ⟨_, _, rfl, h⟩
theorem g5j {α β : Type} {f : α → β} {l : List α} {i : Int} {k : β → Prop} : b7d (l.map f) i k = b7d l i fun a => k (f a) := by
  simp only [b7d, List.getElem?_map, Option.map_eq_some_iff]
  apply propext; constructor
  · rintro ⟨b, h1, ⟨a, h2, rfl⟩, h3⟩; exact ⟨a, h1, h2, h3⟩
  · rintro ⟨a, h1, h2, h3⟩; exact ⟨_, h1, ⟨a, h2, rfl⟩, h3⟩
theorem g2o {cs} {k : List AV → Prop} : b4f (.agg cs) k = k cs := by simp [b4f, b2w, cellsOf]
theorem g2r {kd n} {k : List AV → Prop} : b4f (.v (.int kd n)) k = k [.v (.int kd n)] := by simp [b4f, b2w, cellsOf, Value.oneCell']
theorem g2p {b} {k : List AV → Prop} : b4f (.v (.bool b)) k = k [.v (.bool b)] := by simp [b4f, b2w, cellsOf, Value.oneCell']
theorem g2t {a b c} {k : List AV → Prop} : b4f (.v (.slice a b c)) k = k [.v (.slice a b c)] := by simp [b4f, b2w, cellsOf, Value.oneCell']
theorem g2q {sz es} {k : List AV → Prop} : b4f (.fs sz es) k = k [.fs sz es] := by simp [b4f, b2w, cellsOf]
theorem g2s {a b c} {k : List AV → Prop} : b4f (.rs a b c) k = k [.rs a b c] := by simp [b4f, b2w, cellsOf]
theorem j0y {sz es} {k : Int → Prop} : b65 (.fs sz es) k = k es.length := by simp [b65, b3f]
theorem j00 {id lo len} {k : Int → Prop} : b65 (.rs id lo len) k = k len := by simp [b65, b3f]
theorem j0z {k : Int → Prop} : b65 (.v (.slice none 0 0)) k = k 0 := by simp [b65, b3f]
theorem b5d {op e kd a b} {r : Value} (hr : b4j op kd a kd b = some r) : b2u op e (.v (.int kd a)) (.v (.int kd b)) k = k (.v r) := by simp [b2u, b4o, hr]
section
variable {e : EqK} {kd : IntKind} {a b : Int}
theorem g19 : b2u .add e (.v (.int kd a)) (.v (.int kd b)) k = k (.v (.int kd (kd.wrap (a + b)))) := b5d (by simp [b4j, b4e])
theorem g2j : b2u .sub e (.v (.int kd a)) (.v (.int kd b)) k = k (.v (.int kd (kd.wrap (a - b)))) := b5d (by simp [b4j, b4e])
theorem g2h : b2u .mul e (.v (.int kd a)) (.v (.int kd b)) k = k (.v (.int kd (kd.wrap (a * b)))) := b5d (by simp [b4j, b4e])
theorem g2c : b2u .eql e (.v (.int kd a)) (.v (.int kd b)) k = k (B (decide (a = b))) := b5d (by simp only [b4j, b4e, if_true]; by_cases h : a = b <;> simp [h])
theorem g2i : b2u .neq e (.v (.int kd a)) (.v (.int kd b)) k = k (B (decide (¬ a = b))) := b5d (by simp only [b4j, b4e, if_true]; by_cases h : a = b <;> simp [h])
theorem g2g : b2u .lss e (.v (.int kd a)) (.v (.int kd b)) k = k (B (decide (a < b))) := b5d (by simp [b4j, b4e])
theorem g2f : b2u .leq e (.v (.int kd a)) (.v (.int kd b)) k = k (B (decide (a ≤ b))) := b5d (by simp [b4j, b4e])
theorem g2e : b2u .gtr e (.v (.int kd a)) (.v (.int kd b)) k = k (B (decide (b < a))) := b5d (by simp [b4j, b4e])
theorem g2d : b2u .geq e (.v (.int kd a)) (.v (.int kd b)) k = k (B (decide (b ≤ a))) := b5d (by simp [b4j, b4e])
theorem g2a {a b : Bool} : b2u .eql .bool (B a) (B b) k = k (B (c0a a b)) := by simp [b2u, b4o, b3d, c0a]
theorem g2b {a b : Bool} : b2u .neq .bool (B a) (B b) k = k (B (!(c0a a b))) := by simp [b2u, b4o, b3d, c0a]
end
theorem j8i {b : Bool} : unK .not (B b) k = k (B (!b)) := by simp [unK, b9v]
theorem j8h {kd a} : unK .neg (.v (.int kd a)) k = k (.v (.int kd (kd.wrap (0 - a)))) := by simp [unK, b9v]
theorem j3f {o : Ob} : (h.new o).ob h.nx = some o := by simp [Heap.new]
theorem j3e {o : Ob} : (h.new o).nx = nxs h.nx := by simp [Heap.new, nxs]
theorem j8m {o id} : (h.upd id o).ob id = o := by simp [Heap.upd]
theorem j8k {o id} : (h.upd id o).nx = h.nx := by simp [Heap.upd]
theorem g5o {t : Slots} {n} : evT t (.t n) = t n := rfl
theorem g5l {t : Slots} {v} : evT t (.c v) = .v v := rfl
theorem g5p {t : Slots} {n} : evT t (.tf n) = b7f (t n) := rfl
theorem g5x {cs off} : b7f (.fp cs off) = .fp cs off := rfl
theorem g5y {sz es} : b7f (.fs sz es) = .fs sz es := rfl
theorem g5n {t : Slots} {n cs} : evT t (.g n cs) = .fp (cs.map .v) 0 := rfl
theorem g5m {t : Slots} {n} : evT t (.f n) = .fn n [] [] := rfl
theorem j6k {t : Slots} {n x} : b0p t (some n) x = upd t n x := rfl
theorem j6j {t : Slots} {x} : b0p t none x = t := rfl
end
theorem j8x {n : Int} (h1 : -9223372036854775808 ≤ n) (h2 : n < 9223372036854775808) : IntKind.i64.wrap n = n := by
  unfold IntKind.wrap
  simp only [IntKind.bits, IntKind.signed, Bool.true_and]
  split <;> rename_i h <;> simp at h <;> omega
attribute [go_sem] g5p g5x g5y g5o g5l g5m g5n j6k j6j d90 d9z j3f j3e j8m j8k
attribute [go_sem ↓] b08 b17 b1i c2q b1e b0n b2b b1m b0m b1l b2a b19
end Go.Nw
