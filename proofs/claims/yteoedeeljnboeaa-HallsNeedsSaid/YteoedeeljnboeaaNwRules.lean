/- One rule for each operation. -/
import Derived.Test.YteoedeeljnboeaaNwVcg
set_option linter.all false
set_option linter.unusedVariables false
set_option linter.unusedSimpArgs false
set_option linter.unusedSectionVars false
namespace Go.Nw
def nxs (n : Nat) : Nat := n + 1
def c0c (a b : Bool) : Bool := a == b
def b7n {α : Type} (l : List α) (i : Int) (k : α → Prop) : Prop := ∃ a, 0 ≤ i ∧ l[i.toNat]? = some a ∧ k a
def b5x (cs : List AV) (i : Nat) (k : AV → Prop) : Prop := ∃ v, cs[i]? = some v ∧ k v
def b59 (agg : Bool) (n : Nat) (cs : List AV) (off : Nat) (k : AV → Prop) : Prop := if agg then off + n ≤ cs.length ∧ k (.agg ((cs.drop off).take n)) else b5x cs off k
def b8h (o : Option Ob) (i : Nat) (k : Nat → List (List AV) → List AV → Prop) : Prop := ∃ sz es cs, o = some (sz, es) ∧ es[i]? = some cs ∧ k sz es cs
def obK (o : Option Ob) (k : Nat → List (List AV) → Prop) : Prop := ∃ sz es, o = some (sz, es) ∧ k sz es
def d1q (agg : Bool) (n : Nat) (x : AV) (h : Heap) (k : AV → Prop) : Prop :=
  match x with
  | .fp cs off => b59 agg n cs off k
  | .rp id i off => b8h (h.ob id) i fun _ _ cs => b59 agg n cs off k
  | _ => False
def d2x (n : Nat) (a x : AV) (h : Heap) (k : Heap → Prop) : Prop :=
  match a with
  | .rp id i off => b8h (h.ob id) i fun sz es cs => b2x x = true ∧ (cellsOf x).length = n ∧ off + n ≤ cs.length ∧ k (h.upd id (some (sz, es.set i (cs.take off ++ cellsOf x ++ cs.drop (off + n)))))
  | _ => False
def c34 (c : AV) (p q : Prop) : Prop := match c with | .v (.bool true) => p | .v (.bool false) => q | _ => False
def b4p (x : AV) (k : List AV → Prop) : Prop := b2x x = true ∧ k (cellsOf x)
def d11 (x : AV) (h : Heap) (k : AV → Prop) : Prop :=
  match x with | .fp cs off => k (.fp cs off) | .rp id i off => (h.ob id).isSome = true ∧ k (.rp id i off) | .fn f a b => k (.fn f a b) | _ => False
def c9g (off : Nat) (x : AV) (h : Heap) (k : AV → Prop) : Prop := match x with | .fp cs o => k (.fp cs (o + off)) | .rp id i o => (h.ob id).isSome = true ∧ k (.rp id i (o + off)) | _ => False
def d02 (n : Nat) (x i : AV) (h : Heap) (k : AV → Prop) : Prop :=
  match x, i with
  | .fs sz es, .v (.int _ j) => sz = n ∧ b7n es j fun cs => k (.fp cs 0)
  | .rs id lo len, .v (.int _ j) => obK (h.ob id) fun sz _ => sz = n ∧ 0 ≤ j ∧ j < len ∧ k (.rp id (lo + j.toNat) 0)
  | _, _ => False
def b2w (op : BinOp) (e : EqK) (x y : AV) (k : AV → Prop) : Prop := ∃ r, b4w op e x y = some r ∧ k r
def unK (op : UnOp) (x : AV) (k : AV → Prop) : Prop := ∃ r, b90 op x = some r ∧ k r
def b7d (x : AV) (k : Int → Prop) : Prop := ∃ n, b3k x = some n ∧ k n
def c89 (x : AV) (i : Nat) (k : AV → Prop) : Prop := match x with | .tup vs => b5x vs i k | _ => False
section
variable {O : Orac} {t : Slots} {h : Heap} {k : AV → Heap → Prop}
theorem ex1 {a : AV} {b : Heap} {k : AV → Heap → Prop} : (∃ r h', some (a, b) = some (r, h') ∧ k r h') = k a b := by
  apply propext; constructor
  · rintro ⟨r, h', e, hk⟩; cases e; exact hk
  · exact fun hk => ⟨_, _, rfl, hk⟩
theorem ex0 {k : AV → Heap → Prop} : (∃ r h', (none : Option (AV × Heap)) = some (r, h') ∧ k r h') = False := by simp
theorem j6n {x} : op1 O (.mv x) t h k = k (evT t x) h := by simp only [op1, eff, ex1]
theorem j6p {c a b} : op1 O (.pick c a b) t h k = c34 (evT t c) (k (evT t a) h) (k (evT t b) h) := by
  simp only [op1, eff]
  generalize evT t c = x
  cases x with
  | v y => cases y with
    | bool z => cases z <;> simp only [c34, ex1, if_true, Bool.false_eq_true, if_false]
    | _ => simp only [c34, ex0]
  | _ => simp only [c34, ex0]
theorem j6e {x} : op1 O (.boxF x) t h k = b4p (evT t x) fun cs => k (.fp cs 0) h := rfl
theorem j6d {x} : op1 O (.box x) t h k = b4p (evT t x) fun cs => k (.rp h.nx 0 0) (h.new (cs.length, [cs])) := by
  simp only [op1, eff, b4p]
  apply propext; constructor
  · rintro ⟨r, h', he, hk⟩; split at he
    · rename_i ho; cases he; exact ⟨ho, hk⟩
    · cases he
  · rintro ⟨h1, h2⟩; exact ⟨_, _, by rw [if_pos h1], h2⟩
theorem j6b {zs} : op1 O (.alloc zs) t h k = k (.rp h.nx 0 0) (h.new (zs.length, [zs.map .v])) := by simp only [op1, eff, ex1]
theorem j6l {agg n a} : op1 O (.load agg n a) t h k = d1q agg n (evT t a) h fun v => k v h := by
  simp only [op1, eff, d1q]
  have cells : ∀ cs off, (∃ r h', (if agg = true then (if off + n ≤ cs.length then some (AV.agg (List.take n (List.drop off cs)), h) else none) else Option.map (fun x => (x, h)) cs[off]?) = some (r, h') ∧ k r h') = b59 agg n cs off fun v => k v h := by
    intro cs off
    unfold b59 b5x
    cases agg with
    | true =>
      simp only [if_true]
      apply propext; constructor
      · rintro ⟨r, h', he, hk⟩; split at he
        · rename_i ho; cases he; exact ⟨ho, hk⟩
        · cases he
      · rintro ⟨h1, h2⟩; exact ⟨_, _, by rw [if_pos h1], h2⟩
    | false =>
      simp only [Bool.false_eq_true, if_false, Option.map_eq_some_iff]
      apply propext; constructor
      · rintro ⟨r, h', ⟨x, h1, h2⟩, hk⟩; cases h2; exact ⟨_, h1, hk⟩
      · rintro ⟨v, h1, h2⟩; exact ⟨v, h, ⟨v, h1, rfl⟩, h2⟩
  generalize evT t a = x
  cases x with
  | fp cs off => exact cells cs off
  | rp id i off =>
    simp only [b8h]
    apply propext; constructor
    · rintro ⟨r, h', he, hk⟩
      simp only [Option.bind_eq_some_iff] at he
      obtain ⟨⟨sz, es⟩, h1, cs, h2, he⟩ := he
      exact ⟨sz, es, cs, h1, h2, by rw [← cells]; exact ⟨r, h', he, hk⟩⟩
    · rintro ⟨sz, es, cs, h1, h2, h3⟩
      rw [← cells] at h3
      obtain ⟨r, h', he, hk⟩ := h3
      exact ⟨r, h', by simp only [h1, Option.bind_some, h2]; exact he, hk⟩
  | _ => simp
theorem j6q {n a x} : op1 O (.store n a x) t h k = d2x n (evT t a) (evT t x) h fun h' => k .dead h' := by
  simp only [op1, eff, d2x]
  generalize evT t a = y
  cases y with
  | rp id i off =>
    simp only [b8h]
    apply propext; constructor
    · rintro ⟨r, h', he, hk⟩
      simp only [Option.bind_eq_some_iff] at he
      obtain ⟨⟨sz, es⟩, h1, cs, h2, he⟩ := he
      split at he
      · rename_i hc; cases he; exact ⟨sz, es, cs, h1, h2, hc.1, hc.2.1, hc.2.2, hk⟩
      · cases he
    · rintro ⟨sz, es, cs, h1, h2, h3, h4, h5, h6⟩
      exact ⟨_, _, by simp only [h1, Option.bind_some, h2]; rw [if_pos ⟨h3, h4, h5⟩], h6⟩
  | _ => simp
theorem j6o {x} : op1 O (.nilck x) t h k = d11 (evT t x) h fun v => k v h := by
  simp only [op1, eff, d11]
  generalize evT t x = y
  cases y with
  | rp id i off =>
    cases ho : h.ob id with
    | none => simp only [ho, Option.bind_none, ex0, Option.isSome_none, Bool.false_eq_true, false_and]
    | some o => simp only [ho, Option.bind_some, ex1, Option.isSome_some, true_and]
  | fp cs off => exact ex1
  | fn f a b => first | exact ex1 | exact ex0
  | _ => exact ex0
theorem j6i {o x} : op1 O (.fldA o x) t h k = c9g o (evT t x) h fun v => k v h := by
  simp only [op1, eff, c9g]
  generalize evT t x = y
  cases y with
  | rp id i off =>
    cases ho : h.ob id with
    | none => simp only [ho, Option.bind_none, ex0, Option.isSome_none, Bool.false_eq_true, false_and]
    | some o => simp only [ho, Option.bind_some, ex1, Option.isSome_some, true_and]
  | fp cs off => exact ex1
  | fn f a b => first | exact ex1 | exact ex0
  | _ => exact ex0
theorem j6j {n x i} : op1 O (.ixA n x i) t h k = d02 n (evT t x) (evT t i) h fun v => k v h := by
  simp only [op1, eff, d02]
  generalize evT t x = y
  generalize evT t i = z
  cases y with
  | fs sz es =>
    cases z with
    | v w => cases w with
      | int kd j =>
        simp only [b7n]
        apply propext; constructor
        · rintro ⟨r, h', he, hk⟩
          split at he
          · rename_i hc
            simp only [Option.map_eq_some_iff] at he
            obtain ⟨cs, h1, h2⟩ := he
            cases h2
            exact ⟨hc.1, cs, hc.2, h1, hk⟩
          · cases he
        · rintro ⟨h1, cs, h2, h3, h4⟩
          exact ⟨_, _, by rw [if_pos ⟨h1, h2⟩, h3]; rfl, h4⟩
      | _ => simp
    | _ => simp
  | rs id lo len =>
    cases z with
    | v w => cases w with
      | int kd j =>
        simp only [obK]
        apply propext; constructor
        · rintro ⟨r, h', he, hk⟩
          simp only [Option.bind_eq_some_iff] at he
          obtain ⟨⟨sz, es⟩, h1, he⟩ := he
          split at he
          · rename_i hc; cases he; exact ⟨sz, es, h1, hc.1, hc.2.1, hc.2.2, hk⟩
          · cases he
        · rintro ⟨sz, es, h1, h2, h3, h4, h5⟩
          exact ⟨_, _, by simp only [h1, Option.bind_some]; rw [if_pos ⟨h2, h3, h4⟩], h5⟩
      | _ => simp
    | _ => simp
  | _ => simp
theorem j6c {op e x y} : op1 O (.bin op e x y) t h k = b2w op e (evT t x) (evT t y) fun v => k v h := by
  simp only [op1, eff, b2w, Option.map_eq_some_iff]
  apply propext; constructor
  · rintro ⟨r, h', ⟨v, h1, h2⟩, hk⟩; cases h2; exact ⟨_, h1, hk⟩
  · rintro ⟨v, h1, h2⟩; exact ⟨v, h, ⟨v, h1, rfl⟩, h2⟩
theorem j6r {op x} : op1 O (.un op x) t h k = unK op (evT t x) fun v => k v h := by
  simp only [op1, eff, unK, Option.map_eq_some_iff]
  apply propext; constructor
  · rintro ⟨r, h', ⟨v, h1, h2⟩, hk⟩; cases h2; exact ⟨_, h1, hk⟩
  · rintro ⟨v, h1, h2⟩; exact ⟨v, h, ⟨v, h1, rfl⟩, h2⟩
theorem j6k {x} : op1 O (.len false x) t h k = b7d (evT t x) fun n => k (I n) h := by
  simp only [op1, eff, b7d, Bool.false_eq_true, if_false, Option.map_eq_some_iff]
  apply propext; constructor
  · rintro ⟨r, h', ⟨v, h1, h2⟩, hk⟩; cases h2; exact ⟨_, h1, hk⟩
  · rintro ⟨v, h1, h2⟩; exact ⟨_, h, ⟨v, h1, rfl⟩, h2⟩
theorem j6h {x i} : op1 O (.ext x i) t h k = c89 (evT t x) i fun v => k v h := by
  simp only [op1, eff, c89]
  generalize evT t x = y
  cases y with
  | tup vs =>
    simp only [b5x, Option.map_eq_some_iff]
    apply propext; constructor
    · rintro ⟨r, h', ⟨v, h1, h2⟩, hk⟩; cases h2; exact ⟨_, h1, hk⟩
    · rintro ⟨v, h1, h2⟩; exact ⟨v, h, ⟨v, h1, rfl⟩, h2⟩
  | _ => simp
theorem j6m {f a b} : op1 O (.mkfn f a b) t h k = k (.fn f (a.map (evT t)) (b.map (evT t))) h := by simp only [op1, eff, ex1]
theorem j6f {f l} : op1 O (.call f l) t h k = b7l O f (l.map (evT t)) h k := rfl
theorem j6g {f l} : op1 O (.callv f l) t h k = ∃ n a b, callee (evT t f) = some (n, a, b) ∧ b7l O n (a ++ l.map (evT t) ++ b) h k := rfl
end
section
variable {O : Orac} {d : Option Nat} {g : Nat} {b0 : Bool} {r : List XO} {K : Slots → Heap → Prop} {t : Slots} {h : Heap}
theorem g40 {x} : b0g O (⟨d, none, .mv x⟩ :: r) K t h = op1 O (.mv x) t h (fun v h' => b0g O r K (b0s t d v) h') := b3a rfl
theorem g7j {x} : b0g O (⟨d, some (g, b0), .mv x⟩ :: r) K t h = b3l (t g) b0 (op1 O (.mv x) (upd t g (B b0)) h (fun v h' => b0g O r K (b0s (upd t g (B b0)) d v) h')) (b0g O r K (b0s (upd t g (B (!b0))) d U) h) (b0g O r K (b0s t d U) h) := b3c rfl
theorem g42 {c a b} : b0g O (⟨d, none, .pick c a b⟩ :: r) K t h = op1 O (.pick c a b) t h (fun v h' => b0g O r K (b0s t d v) h') := b3a rfl
theorem g7l {c a b} : b0g O (⟨d, some (g, b0), .pick c a b⟩ :: r) K t h = b3l (t g) b0 (op1 O (.pick c a b) (upd t g (B b0)) h (fun v h' => b0g O r K (b0s (upd t g (B b0)) d v) h')) (b0g O r K (b0s (upd t g (B (!b0))) d U) h) (b0g O r K (b0s t d U) h) := b3c rfl
theorem g4e {x} : b0g O (⟨d, none, .boxF x⟩ :: r) K t h = op1 O (.boxF x) t h (fun v h' => b0g O r K (b0s t d v) h') := b3a rfl
theorem g7a {x} : b0g O (⟨d, some (g, b0), .boxF x⟩ :: r) K t h = b3l (t g) b0 (op1 O (.boxF x) (upd t g (B b0)) h (fun v h' => b0g O r K (b0s (upd t g (B b0)) d v) h')) (b0g O r K (b0s (upd t g (B (!b0))) d U) h) (b0g O r K (b0s t d U) h) := b3c rfl
theorem g4d {x} : b0g O (⟨d, none, .box x⟩ :: r) K t h = op1 O (.box x) t h (fun v h' => b0g O r K (b0s t d v) h') := b3a rfl
theorem g69 {x} : b0g O (⟨d, some (g, b0), .box x⟩ :: r) K t h = b3l (t g) b0 (op1 O (.box x) (upd t g (B b0)) h (fun v h' => b0g O r K (b0s (upd t g (B b0)) d v) h')) (b0g O r K (b0s (upd t g (B (!b0))) d U) h) (b0g O r K (b0s t d U) h) := b3c rfl
theorem g4b {zs} : b0g O (⟨d, none, .alloc zs⟩ :: r) K t h = op1 O (.alloc zs) t h (fun v h' => b0g O r K (b0s t d v) h') := b3a rfl
theorem g67 {zs} : b0g O (⟨d, some (g, b0), .alloc zs⟩ :: r) K t h = b3l (t g) b0 (op1 O (.alloc zs) (upd t g (B b0)) h (fun v h' => b0g O r K (b0s (upd t g (B b0)) d v) h')) (b0g O r K (b0s (upd t g (B (!b0))) d U) h) (b0g O r K (b0s t d U) h) := b3c rfl
theorem g4y {agg n a} : b0g O (⟨d, none, .load agg n a⟩ :: r) K t h = op1 O (.load agg n a) t h (fun v h' => b0g O r K (b0s t d v) h') := b3a rfl
theorem g7h {agg n a} : b0g O (⟨d, some (g, b0), .load agg n a⟩ :: r) K t h = b3l (t g) b0 (op1 O (.load agg n a) (upd t g (B b0)) h (fun v h' => b0g O r K (b0s (upd t g (B b0)) d v) h')) (b0g O r K (b0s (upd t g (B (!b0))) d U) h) (b0g O r K (b0s t d U) h) := b3c rfl
theorem g5d {n a x} : b0g O (⟨d, none, .store n a x⟩ :: r) K t h = op1 O (.store n a x) t h (fun v h' => b0g O r K (b0s t d v) h') := b3a rfl
theorem g7m {n a x} : b0g O (⟨d, some (g, b0), .store n a x⟩ :: r) K t h = b3l (t g) b0 (op1 O (.store n a x) (upd t g (B b0)) h (fun v h' => b0g O r K (b0s (upd t g (B b0)) d v) h')) (b0g O r K (b0s (upd t g (B (!b0))) d U) h) (b0g O r K (b0s t d U) h) := b3c rfl
theorem g41 {x} : b0g O (⟨d, none, .nilck x⟩ :: r) K t h = op1 O (.nilck x) t h (fun v h' => b0g O r K (b0s t d v) h') := b3a rfl
theorem g7k {x} : b0g O (⟨d, some (g, b0), .nilck x⟩ :: r) K t h = b3l (t g) b0 (op1 O (.nilck x) (upd t g (B b0)) h (fun v h' => b0g O r K (b0s (upd t g (B b0)) d v) h')) (b0g O r K (b0s (upd t g (B (!b0))) d U) h) (b0g O r K (b0s t d U) h) := b3c rfl
theorem g4i {o x} : b0g O (⟨d, none, .fldA o x⟩ :: r) K t h = op1 O (.fldA o x) t h (fun v h' => b0g O r K (b0s t d v) h') := b3a rfl
theorem g7e {o x} : b0g O (⟨d, some (g, b0), .fldA o x⟩ :: r) K t h = b3l (t g) b0 (op1 O (.fldA o x) (upd t g (B b0)) h (fun v h' => b0g O r K (b0s (upd t g (B b0)) d v) h')) (b0g O r K (b0s (upd t g (B (!b0))) d U) h) (b0g O r K (b0s t d U) h) := b3c rfl
theorem g4s {n x i} : b0g O (⟨d, none, .ixA n x i⟩ :: r) K t h = op1 O (.ixA n x i) t h (fun v h' => b0g O r K (b0s t d v) h') := b3a rfl
theorem g7f {n x i} : b0g O (⟨d, some (g, b0), .ixA n x i⟩ :: r) K t h = b3l (t g) b0 (op1 O (.ixA n x i) (upd t g (B b0)) h (fun v h' => b0g O r K (b0s (upd t g (B b0)) d v) h')) (b0g O r K (b0s (upd t g (B (!b0))) d U) h) (b0g O r K (b0s t d U) h) := b3c rfl
theorem g4c {op e x y} : b0g O (⟨d, none, .bin op e x y⟩ :: r) K t h = op1 O (.bin op e x y) t h (fun v h' => b0g O r K (b0s t d v) h') := b3a rfl
theorem g68 {op e x y} : b0g O (⟨d, some (g, b0), .bin op e x y⟩ :: r) K t h = b3l (t g) b0 (op1 O (.bin op e x y) (upd t g (B b0)) h (fun v h' => b0g O r K (b0s (upd t g (B b0)) d v) h')) (b0g O r K (b0s (upd t g (B (!b0))) d U) h) (b0g O r K (b0s t d U) h) := b3c rfl
theorem g5e {op x} : b0g O (⟨d, none, .un op x⟩ :: r) K t h = op1 O (.un op x) t h (fun v h' => b0g O r K (b0s t d v) h') := b3a rfl
theorem g7n {op x} : b0g O (⟨d, some (g, b0), .un op x⟩ :: r) K t h = b3l (t g) b0 (op1 O (.un op x) (upd t g (B b0)) h (fun v h' => b0g O r K (b0s (upd t g (B b0)) d v) h')) (b0g O r K (b0s (upd t g (B (!b0))) d U) h) (b0g O r K (b0s t d U) h) := b3c rfl
theorem g4x {x} : b0g O (⟨d, none, .len false x⟩ :: r) K t h = op1 O (.len false x) t h (fun v h' => b0g O r K (b0s t d v) h') := b3a rfl
theorem g7g {x} : b0g O (⟨d, some (g, b0), .len false x⟩ :: r) K t h = b3l (t g) b0 (op1 O (.len false x) (upd t g (B b0)) h (fun v h' => b0g O r K (b0s (upd t g (B b0)) d v) h')) (b0g O r K (b0s (upd t g (B (!b0))) d U) h) (b0g O r K (b0s t d U) h) := b3c rfl
theorem g4h {x i} : b0g O (⟨d, none, .ext x i⟩ :: r) K t h = op1 O (.ext x i) t h (fun v h' => b0g O r K (b0s t d v) h') := b3a rfl
theorem g7d {x i} : b0g O (⟨d, some (g, b0), .ext x i⟩ :: r) K t h = b3l (t g) b0 (op1 O (.ext x i) (upd t g (B b0)) h (fun v h' => b0g O r K (b0s (upd t g (B b0)) d v) h')) (b0g O r K (b0s (upd t g (B (!b0))) d U) h) (b0g O r K (b0s t d U) h) := b3c rfl
theorem g4z {f a b} : b0g O (⟨d, none, .mkfn f a b⟩ :: r) K t h = op1 O (.mkfn f a b) t h (fun v h' => b0g O r K (b0s t d v) h') := b3a rfl
theorem g7i {f a b} : b0g O (⟨d, some (g, b0), .mkfn f a b⟩ :: r) K t h = b3l (t g) b0 (op1 O (.mkfn f a b) (upd t g (B b0)) h (fun v h' => b0g O r K (b0s (upd t g (B b0)) d v) h')) (b0g O r K (b0s (upd t g (B (!b0))) d U) h) (b0g O r K (b0s t d U) h) := b3c rfl
theorem g4f {f l} : b0g O (⟨d, none, .call f l⟩ :: r) K t h = op1 O (.call f l) t h (fun v h' => b0g O r K (b0s t d v) h') := b3a rfl
theorem g7b {f l} : b0g O (⟨d, some (g, b0), .call f l⟩ :: r) K t h = b3l (t g) b0 (op1 O (.call f l) (upd t g (B b0)) h (fun v h' => b0g O r K (b0s (upd t g (B b0)) d v) h')) (b0g O r K (b0s (upd t g (B (!b0))) d U) h) (b0g O r K (b0s t d U) h) := b3c rfl
theorem g4g {f l} : b0g O (⟨d, none, .callv f l⟩ :: r) K t h = op1 O (.callv f l) t h (fun v h' => b0g O r K (b0s t d v) h') := b3a rfl
theorem g7c {f l} : b0g O (⟨d, some (g, b0), .callv f l⟩ :: r) K t h = b3l (t g) b0 (op1 O (.callv f l) (upd t g (B b0)) h (fun v h' => b0g O r K (b0s (upd t g (B b0)) d v) h')) (b0g O r K (b0s (upd t g (B (!b0))) d U) h) (b0g O r K (b0s t d U) h) := b3c rfl
end
section
variable {k : AV → Prop} {h : Heap}
theorem g5i {n cs off} : b59 false n cs off k = b5x cs off k := by simp [b59]
theorem g5j {n cs off} : b59 true n cs off k = (off + n ≤ cs.length ∧ k (.agg ((cs.drop off).take n))) := by simp [b59]
theorem g7q {c cs} : b5x (c :: cs) 0 k = k c := by simp [b5x]
theorem g7r {c cs n} : b5x (c :: cs) (n + 1) k = b5x cs n k := by simp [b5x]
theorem d96 {sz es i} {k : Nat → List (List AV) → List AV → Prop} : b8h (some (sz, es)) i k = ∃ cs, es[i]? = some cs ∧ k sz es cs := by
  apply propext; constructor
  · rintro ⟨a, b, c, h1, h2, h3⟩; cases h1; exact ⟨c, h2, h3⟩
  · rintro ⟨c, h2, h3⟩; exact ⟨_, _, c, rfl, h2, h3⟩
theorem j8b {sz cs} {k : Nat → List (List AV) → List AV → Prop} : b8h (some (sz, [cs])) 0 k = k sz [cs] cs := by simp [d96]
theorem j50 {sz es} {k : Nat → List (List AV) → Prop} : obK (some (sz, es)) k = k sz es := by
  apply propext; constructor
  · rintro ⟨a, b, h1, h2⟩; cases h1; exact h2
  · exact fun h => ⟨_, _, rfl, h⟩
theorem g6o {α β : Type} {f : α → β} {l : List α} {i : Int} {k : β → Prop} : b7n (l.map f) i k = b7n l i fun a => k (f a) := by
  simp only [b7n, List.getElem?_map, Option.map_eq_some_iff]
  apply propext; constructor
  · rintro ⟨b, h1, ⟨a, h2, rfl⟩, h3⟩; exact ⟨a, h1, h2, h3⟩
  · rintro ⟨a, h1, h2, h3⟩; exact ⟨_, h1, ⟨a, h2, rfl⟩, h3⟩
theorem g3w {cs} {k : List AV → Prop} : b4p (.agg cs) k = k cs := by simp [b4p, b2x, cellsOf]
theorem g3z {kd n} {k : List AV → Prop} : b4p (.v (.int kd n)) k = k [.v (.int kd n)] := by simp [b4p, b2x, cellsOf, Value.oneCell']
theorem g3x {b} {k : List AV → Prop} : b4p (.v (.bool b)) k = k [.v (.bool b)] := by simp [b4p, b2x, cellsOf, Value.oneCell']
theorem g31 {a b c} {k : List AV → Prop} : b4p (.v (.slice a b c)) k = k [.v (.slice a b c)] := by simp [b4p, b2x, cellsOf, Value.oneCell']
theorem g3y {sz es} {k : List AV → Prop} : b4p (.fs sz es) k = k [.fs sz es] := by simp [b4p, b2x, cellsOf]
theorem g30 {a b c} {k : List AV → Prop} : b4p (.rs a b c) k = k [.rs a b c] := by simp [b4p, b2x, cellsOf]
theorem j12 {sz es} {k : Int → Prop} : b7d (.fs sz es) k = k es.length := by simp [b7d, b3k]
theorem j14 {id lo len} {k : Int → Prop} : b7d (.rs id lo len) k = k len := by simp [b7d, b3k]
theorem j13 {k : Int → Prop} : b7d (.v (.slice none 0 0)) k = k 0 := by simp [b7d, b3k]
theorem b5g {op e kd a b} {r : Value} (hr : b4j op kd a kd b = some r) : b2w op e (.v (.int kd a)) (.v (.int kd b)) k = k (.v r) := by simp [b2w, b4w, hr]
section
variable {e : EqK} {kd : IntKind} {a b : Int}
theorem g3j : b2w .add e (.v (.int kd a)) (.v (.int kd b)) k = k (.v (.int kd (kd.wrap (a + b)))) := b5g (by simp [b4j, b4h])
theorem g3t : b2w .sub e (.v (.int kd a)) (.v (.int kd b)) k = k (.v (.int kd (kd.wrap (a - b)))) := b5g (by simp [b4j, b4h])
theorem g3r : b2w .mul e (.v (.int kd a)) (.v (.int kd b)) k = k (.v (.int kd (kd.wrap (a * b)))) := b5g (by simp [b4j, b4h])
theorem g3m : b2w .eql e (.v (.int kd a)) (.v (.int kd b)) k = k (B (decide (a = b))) := b5g (by simp only [b4j, b4h, if_true]; by_cases h : a = b <;> simp [h])
theorem g3s : b2w .neq e (.v (.int kd a)) (.v (.int kd b)) k = k (B (decide (¬ a = b))) := b5g (by simp only [b4j, b4h, if_true]; by_cases h : a = b <;> simp [h])
theorem g3q : b2w .lss e (.v (.int kd a)) (.v (.int kd b)) k = k (B (decide (a < b))) := b5g (by simp [b4j, b4h])
theorem g3p : b2w .leq e (.v (.int kd a)) (.v (.int kd b)) k = k (B (decide (a ≤ b))) := b5g (by simp [b4j, b4h])
theorem g3o : b2w .gtr e (.v (.int kd a)) (.v (.int kd b)) k = k (B (decide (b < a))) := b5g (by simp [b4j, b4h])
theorem g3n : b2w .geq e (.v (.int kd a)) (.v (.int kd b)) k = k (B (decide (b ≤ a))) := b5g (by simp [b4j, b4h])
theorem g3k {a b : Bool} : b2w .eql .bool (B a) (B b) k = k (B (c0c a b)) := by simp [b2w, b4w, b3j, c0c]
theorem g3l {a b : Bool} : b2w .neq .bool (B a) (B b) k = k (B (!(c0c a b))) := by simp [b2w, b4w, b3j, c0c]
end
theorem j9o {b : Bool} : unK .not (B b) k = k (B (!b)) := by simp [unK, b90]
theorem j9n {kd a} : unK .neg (.v (.int kd a)) k = k (.v (.int kd (kd.wrap (0 - a)))) := by simp [unK, b90]
theorem j4o {o : Ob} : (h.new o).ob h.nx = some o := by simp [Heap.new]
theorem j4n {o : Ob} : (h.new o).nx = nxs h.nx := by simp [Heap.new, nxs]
theorem j9s {o id} : (h.upd id o).ob id = o := by simp [Heap.upd]
theorem j9q {o id} : (h.upd id o).nx = h.nx := by simp [Heap.upd]
theorem g6s {t : Slots} {n} : evT t (.t n) = t n := rfl
theorem g6p {t : Slots} {v} : evT t (.c v) = .v v := rfl
theorem g6t {t : Slots} {n} : evT t (.tf n) = b7p (t n) := rfl
theorem g61 {cs off} : b7p (.fp cs off) = .fp cs off := rfl
theorem g62 {sz es} : b7p (.fs sz es) = .fs sz es := rfl
theorem g6r {t : Slots} {n cs} : evT t (.g n cs) = .fp (cs.map .v) 0 := rfl
theorem g6q {t : Slots} {n} : evT t (.f n) = .fn n [] [] := rfl
theorem j7t {t : Slots} {n x} : b0s t (some n) x = upd t n x := rfl
theorem j7s {t : Slots} {x} : b0s t none x = t := rfl
end
theorem j93 {n : Int} (h1 : -9223372036854775808 ≤ n) (h2 : n < 9223372036854775808) : IntKind.i64.wrap n = n := by
  unfold IntKind.wrap
  simp only [IntKind.bits, IntKind.signed, Bool.true_and]
  split <;> rename_i h <;> simp at h <;> omega
attribute [go_sem] g6t g61 g62 g6s g6p g6q g6r j7t j7s g02 g01 j4o j4n j9s j9q
attribute [go_sem ↓] b07 b1z b1k c2u b1c b0n b2a b1m b0m b1l b19 b11
end Go.Nw
