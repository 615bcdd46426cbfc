/- One rule for each operation. -/
import Derived.Test.YteoedeeljnboeaaNwVcg
set_option linter.all false
set_option linter.unusedVariables false
set_option linter.unusedSimpArgs false
set_option linter.unusedSectionVars false
namespace Go.Nw
def nxs (n : Nat) : Nat := n + 1
def b83 (a b : Bool) : Bool := a == b
def b6o {α : Type} (l : List α) (i : Int) (k : α → Prop) : Prop := ∃ a, 0 ≤ i ∧ l[i.toNat]? = some a ∧ k a
def b46 (cs : List AV) (i : Nat) (k : AV → Prop) : Prop := ∃ v, cs[i]? = some v ∧ k v
def b5f (agg : Bool) (n : Nat) (cs : List AV) (off : Nat) (k : AV → Prop) : Prop := if agg then off + n ≤ cs.length ∧ k (.agg ((cs.drop off).take n)) else b46 cs off k
def b7d (o : Option Ob) (i : Nat) (k : Nat → List (List AV) → List AV → Prop) : Prop := ∃ sz es cs, o = some (sz, es) ∧ es[i]? = some cs ∧ k sz es cs
def obK (o : Option Ob) (k : Nat → List (List AV) → Prop) : Prop := ∃ sz es, o = some (sz, es) ∧ k sz es
def d0u (agg : Bool) (n : Nat) (x : AV) (h : Heap) (k : AV → Prop) : Prop :=
  match x with
  | .fp cs off => b5f agg n cs off k
  | .rp id i off => b7d (h.ob id) i fun _ _ cs => b5f agg n cs off k
  | _ => False
def d1x (n : Nat) (a x : AV) (h : Heap) (k : Heap → Prop) : Prop :=
  match a with
  | .rp id i off => b7d (h.ob id) i fun sz es cs => b2u x = true ∧ (cellsOf x).length = n ∧ off + n ≤ cs.length ∧ k (h.upd id (some (sz, es.set i (cs.take off ++ cellsOf x ++ cs.drop (off + n)))))
  | _ => False
def c2l (c : AV) (p q : Prop) : Prop := match c with | .v (.bool true) => p | .v (.bool false) => q | _ => False
def b35 (x : AV) (k : List AV → Prop) : Prop := b2u x = true ∧ k (cellsOf x)
def d05 (x : AV) (h : Heap) (k : AV → Prop) : Prop :=
  match x with | .fp cs off => k (.fp cs off) | .rp id i off => (h.ob id).isSome = true ∧ k (.rp id i off) | .fn f a b => k (.fn f a b) | _ => False
def c8c (off : Nat) (x : AV) (h : Heap) (k : AV → Prop) : Prop := match x with | .fp cs o => k (.fp cs (o + off)) | .rp id i o => (h.ob id).isSome = true ∧ k (.rp id i (o + off)) | _ => False
def c91 (n : Nat) (x i : AV) (h : Heap) (k : AV → Prop) : Prop :=
  match x, i with
  | .fs sz es, .v (.int _ j) => sz = n ∧ b6o es j fun cs => k (.fp cs 0)
  | .rs id lo len, .v (.int _ j) => obK (h.ob id) fun sz _ => sz = n ∧ 0 ≤ j ∧ j < len ∧ k (.rp id (lo + j.toNat) 0)
  | _, _ => False
def b2s (op : BinOp) (e : EqK) (x y : AV) (k : AV → Prop) : Prop := ∃ r, b4c op e x y = some r ∧ k r
def unK (op : UnOp) (x : AV) (k : AV → Prop) : Prop := ∃ r, b8p op x = some r ∧ k r
def b6i (x : AV) (k : Int → Prop) : Prop := ∃ n, b3e x = some n ∧ k n
def c74 (x : AV) (i : Nat) (k : AV → Prop) : Prop := match x with | .tup vs => b46 vs i k | _ => False
section
variable {O : Orac} {t : Slots} {h : Heap} {k : AV → Heap → Prop}
theorem ex1 {a : AV} {b : Heap} {k : AV → Heap → Prop} : (∃ r h', some (a, b) = some (r, h') ∧ k r h') = k a b := by
  apply propext; constructor
  · rintro ⟨r, h', e, hk⟩; cases e; exact hk
  · exact fun hk => ⟨_, _, rfl, hk⟩
theorem ex0 {k : AV → Heap → Prop} : (∃ r h', (none : Option (AV × Heap)) = some (r, h') ∧ k r h') = False := by simp
theorem j4f {x} : op1 O (.mv x) t h k = k (evT t x) h := by simp only [op1, eff, ex1]
theorem j4h {c a b} : op1 O (.pick c a b) t h k = c2l (evT t c) (k (evT t a) h) (k (evT t b) h) := by
  simp only [op1, eff]
  generalize evT t c = x
  cases x with
  | v y => cases y with
    | bool z => cases z <;> simp only [c2l, ex1, if_true, Bool.false_eq_true, if_false]
    | _ => simp only [c2l, ex0]
  | _ => simp only [c2l, ex0]
theorem j36 {x} : op1 O (.boxF x) t h k = b35 (evT t x) fun cs => k (.fp cs 0) h := rfl
theorem j35 {x} : op1 O (.box x) t h k = b35 (evT t x) fun cs => k (.rp h.nx 0 0) (h.new (cs.length, [cs])) := by
  simp only [op1, eff, b35]
  apply propext; constructor
  · rintro ⟨r, h', he, hk⟩; split at he
    · rename_i ho; cases he; exact ⟨ho, hk⟩
    · cases he
  · rintro ⟨h1, h2⟩; exact ⟨_, _, by rw [if_pos h1], h2⟩
theorem j33 {zs} : op1 O (.alloc zs) t h k = k (.rp h.nx 0 0) (h.new (zs.length, [zs.map .v])) := by simp only [op1, eff, ex1]
theorem j4d {agg n a} : op1 O (.load agg n a) t h k = d0u agg n (evT t a) h fun v => k v h := by
  simp only [op1, eff, d0u]
  have cells : ∀ cs off, (∃ r h', (if agg = true then (if off + n ≤ cs.length then some (AV.agg (List.take n (List.drop off cs)), h) else none) else Option.map (fun x => (x, h)) cs[off]?) = some (r, h') ∧ k r h') = b5f agg n cs off fun v => k v h := by
    intro cs off
    unfold b5f b46
    cases agg with
    | true =>
      simp only [if_true]
      apply propext; constructor
      · rintro ⟨r, h', he, hk⟩; split at he
        · rename_i ho; cases he; exact ⟨ho, hk⟩
        · cases he
      · rintro ⟨h1, h2⟩; exact ⟨_, _, by rw [if_pos h1], h2⟩
    | false =>
      simp only [Bool.false_eq_true, if_false, Option.map_eq_some_iff]
      apply propext; constructor
      · rintro ⟨r, h', ⟨x, h1, h2⟩, hk⟩; cases h2; exact ⟨_, h1, hk⟩
      · rintro ⟨v, h1, h2⟩; exact ⟨v, h, ⟨v, h1, rfl⟩, h2⟩
  generalize evT t a = x
  cases x with
  | fp cs off => exact cells cs off
  | rp id i off =>
    simp only [b7d]
    apply propext; constructor
    · rintro ⟨r, h', he, hk⟩
      simp only [Option.bind_eq_some_iff] at he
      obtain ⟨⟨sz, es⟩, h1, cs, h2, he⟩ := he
      exact ⟨sz, es, cs, h1, h2, by rw [← cells]; exact ⟨r, h', he, hk⟩⟩
    · rintro ⟨sz, es, cs, h1, h2, h3⟩
      rw [← cells] at h3
      obtain ⟨r, h', he, hk⟩ := h3
      exact ⟨r, h', by simp only [h1, Option.bind_some, h2]; exact he, hk⟩
  | _ => simp
theorem j4i {n a x} : op1 O (.store n a x) t h k = d1x n (evT t a) (evT t x) h fun h' => k .dead h' := by
  simp only [op1, eff, d1x]
  generalize evT t a = y
  cases y with
  | rp id i off =>
    simp only [b7d]
    apply propext; constructor
    · rintro ⟨r, h', he, hk⟩
      simp only [Option.bind_eq_some_iff] at he
      obtain ⟨⟨sz, es⟩, h1, cs, h2, he⟩ := he
      split at he
      · rename_i hc; cases he; exact ⟨sz, es, cs, h1, h2, hc.1, hc.2.1, hc.2.2, hk⟩
      · cases he
    · rintro ⟨sz, es, cs, h1, h2, h3, h4, h5, h6⟩
      exact ⟨_, _, by simp only [h1, Option.bind_some, h2]; rw [if_pos ⟨h3, h4, h5⟩], h6⟩
  | _ => simp
theorem j4g {x} : op1 O (.nilck x) t h k = d05 (evT t x) h fun v => k v h := by
  simp only [op1, eff, d05]
  generalize evT t x = y
  cases y with
  | rp id i off =>
    cases ho : h.ob id with
    | none => simp only [ho, Option.bind_none, ex0, Option.isSome_none, Bool.false_eq_true, false_and]
    | some o => simp only [ho, Option.bind_some, ex1, Option.isSome_some, true_and]
  | fp cs off => exact ex1
  | fn f a b => first | exact ex1 | exact ex0
  | _ => exact ex0
theorem j4a {o x} : op1 O (.fldA o x) t h k = c8c o (evT t x) h fun v => k v h := by
  simp only [op1, eff, c8c]
  generalize evT t x = y
  cases y with
  | rp id i off =>
    cases ho : h.ob id with
    | none => simp only [ho, Option.bind_none, ex0, Option.isSome_none, Bool.false_eq_true, false_and]
    | some o => simp only [ho, Option.bind_some, ex1, Option.isSome_some, true_and]
  | fp cs off => exact ex1
  | fn f a b => first | exact ex1 | exact ex0
  | _ => exact ex0
theorem j4b {n x i} : op1 O (.ixA n x i) t h k = c91 n (evT t x) (evT t i) h fun v => k v h := by
  simp only [op1, eff, c91]
  generalize evT t x = y
  generalize evT t i = z
  cases y with
  | fs sz es =>
    cases z with
    | v w => cases w with
      | int kd j =>
        simp only [b6o]
        apply propext; constructor
        · rintro ⟨r, h', he, hk⟩
          split at he
          · rename_i hc
            simp only [Option.map_eq_some_iff] at he
            obtain ⟨cs, h1, h2⟩ := he
            cases h2
            exact ⟨hc.1, cs, hc.2, h1, hk⟩
          · cases he
        · rintro ⟨h1, cs, h2, h3, h4⟩
          exact ⟨_, _, by rw [if_pos ⟨h1, h2⟩, h3]; rfl, h4⟩
      | _ => simp
    | _ => simp
  | rs id lo len =>
    cases z with
    | v w => cases w with
      | int kd j =>
        simp only [obK]
        apply propext; constructor
        · rintro ⟨r, h', he, hk⟩
          simp only [Option.bind_eq_some_iff] at he
          obtain ⟨⟨sz, es⟩, h1, he⟩ := he
          split at he
          · rename_i hc; cases he; exact ⟨sz, es, h1, hc.1, hc.2.1, hc.2.2, hk⟩
          · cases he
        · rintro ⟨sz, es, h1, h2, h3, h4, h5⟩
          exact ⟨_, _, by simp only [h1, Option.bind_some]; rw [if_pos ⟨h2, h3, h4⟩], h5⟩
      | _ => simp
    | _ => simp
  | _ => simp
theorem j34 {op e x y} : op1 O (.bin op e x y) t h k = b2s op e (evT t x) (evT t y) fun v => k v h := by
  simp only [op1, eff, b2s, Option.map_eq_some_iff]
  apply propext; constructor
  · rintro ⟨r, h', ⟨v, h1, h2⟩, hk⟩; cases h2; exact ⟨_, h1, hk⟩
  · rintro ⟨v, h1, h2⟩; exact ⟨v, h, ⟨v, h1, rfl⟩, h2⟩
theorem j4j {op x} : op1 O (.un op x) t h k = unK op (evT t x) fun v => k v h := by
  simp only [op1, eff, unK, Option.map_eq_some_iff]
  apply propext; constructor
  · rintro ⟨r, h', ⟨v, h1, h2⟩, hk⟩; cases h2; exact ⟨_, h1, hk⟩
  · rintro ⟨v, h1, h2⟩; exact ⟨v, h, ⟨v, h1, rfl⟩, h2⟩
theorem j4c {x} : op1 O (.len false x) t h k = b6i (evT t x) fun n => k (I n) h := by
  simp only [op1, eff, b6i, Bool.false_eq_true, if_false, Option.map_eq_some_iff]
  apply propext; constructor
  · rintro ⟨r, h', ⟨v, h1, h2⟩, hk⟩; cases h2; exact ⟨_, h1, hk⟩
  · rintro ⟨v, h1, h2⟩; exact ⟨_, h, ⟨v, h1, rfl⟩, h2⟩
theorem j39 {x i} : op1 O (.ext x i) t h k = c74 (evT t x) i fun v => k v h := by
  simp only [op1, eff, c74]
  generalize evT t x = y
  cases y with
  | tup vs =>
    simp only [b46, Option.map_eq_some_iff]
    apply propext; constructor
    · rintro ⟨r, h', ⟨v, h1, h2⟩, hk⟩; cases h2; exact ⟨_, h1, hk⟩
    · rintro ⟨v, h1, h2⟩; exact ⟨v, h, ⟨v, h1, rfl⟩, h2⟩
  | _ => simp
theorem j4e {f a b} : op1 O (.mkfn f a b) t h k = k (.fn f (a.map (evT t)) (b.map (evT t))) h := by simp only [op1, eff, ex1]
theorem j37 {f l} : op1 O (.call f l) t h k = b6m O f (l.map (evT t)) h k := rfl
theorem j38 {f l} : op1 O (.callv f l) t h k = ∃ n a b, callee (evT t f) = some (n, a, b) ∧ b6m O n (a ++ l.map (evT t) ++ b) h k := rfl
end
section
variable {O : Orac} {d : Option Nat} {g : Nat} {b0 : Bool} {r : List XO} {K : Slots → Heap → Prop} {t : Slots} {h : Heap}
theorem g28 {x} : b0g O (⟨d, none, .mv x⟩ :: r) K t h = op1 O (.mv x) t h (fun v h' => b0g O r K (b0t t d v) h') := b24 rfl
theorem g5n {x} : b0g O (⟨d, some (g, b0), .mv x⟩ :: r) K t h = b3f (t g) b0 (op1 O (.mv x) (upd t g (B b0)) h (fun v h' => b0g O r K (b0t (upd t g (B b0)) d v) h')) (b0g O r K (b0t (upd t g (B (!b0))) d U) h) (b0g O r K (b0t t d U) h) := b25 rfl
theorem g3a {c a b} : b0g O (⟨d, none, .pick c a b⟩ :: r) K t h = op1 O (.pick c a b) t h (fun v h' => b0g O r K (b0t t d v) h') := b24 rfl
theorem g5p {c a b} : b0g O (⟨d, some (g, b0), .pick c a b⟩ :: r) K t h = b3f (t g) b0 (op1 O (.pick c a b) (upd t g (B b0)) h (fun v h' => b0g O r K (b0t (upd t g (B b0)) d v) h')) (b0g O r K (b0t (upd t g (B (!b0))) d U) h) (b0g O r K (b0t t d U) h) := b25 rfl
theorem g2e {x} : b0g O (⟨d, none, .boxF x⟩ :: r) K t h = op1 O (.boxF x) t h (fun v h' => b0g O r K (b0t t d v) h') := b24 rfl
theorem g5e {x} : b0g O (⟨d, some (g, b0), .boxF x⟩ :: r) K t h = b3f (t g) b0 (op1 O (.boxF x) (upd t g (B b0)) h (fun v h' => b0g O r K (b0t (upd t g (B b0)) d v) h')) (b0g O r K (b0t (upd t g (B (!b0))) d U) h) (b0g O r K (b0t t d U) h) := b25 rfl
theorem g2d {x} : b0g O (⟨d, none, .box x⟩ :: r) K t h = op1 O (.box x) t h (fun v h' => b0g O r K (b0t t d v) h') := b24 rfl
theorem g5d {x} : b0g O (⟨d, some (g, b0), .box x⟩ :: r) K t h = b3f (t g) b0 (op1 O (.box x) (upd t g (B b0)) h (fun v h' => b0g O r K (b0t (upd t g (B b0)) d v) h')) (b0g O r K (b0t (upd t g (B (!b0))) d U) h) (b0g O r K (b0t t d U) h) := b25 rfl
theorem g2b {zs} : b0g O (⟨d, none, .alloc zs⟩ :: r) K t h = op1 O (.alloc zs) t h (fun v h' => b0g O r K (b0t t d v) h') := b24 rfl
theorem g5b {zs} : b0g O (⟨d, some (g, b0), .alloc zs⟩ :: r) K t h = b3f (t g) b0 (op1 O (.alloc zs) (upd t g (B b0)) h (fun v h' => b0g O r K (b0t (upd t g (B b0)) d v) h')) (b0g O r K (b0t (upd t g (B (!b0))) d U) h) (b0g O r K (b0t t d U) h) := b25 rfl
theorem g26 {agg n a} : b0g O (⟨d, none, .load agg n a⟩ :: r) K t h = op1 O (.load agg n a) t h (fun v h' => b0g O r K (b0t t d v) h') := b24 rfl
theorem g5l {agg n a} : b0g O (⟨d, some (g, b0), .load agg n a⟩ :: r) K t h = b3f (t g) b0 (op1 O (.load agg n a) (upd t g (B b0)) h (fun v h' => b0g O r K (b0t (upd t g (B b0)) d v) h')) (b0g O r K (b0t (upd t g (B (!b0))) d U) h) (b0g O r K (b0t t d U) h) := b25 rfl
theorem g3j {n a x} : b0g O (⟨d, none, .store n a x⟩ :: r) K t h = op1 O (.store n a x) t h (fun v h' => b0g O r K (b0t t d v) h') := b24 rfl
theorem g5q {n a x} : b0g O (⟨d, some (g, b0), .store n a x⟩ :: r) K t h = b3f (t g) b0 (op1 O (.store n a x) (upd t g (B b0)) h (fun v h' => b0g O r K (b0t (upd t g (B b0)) d v) h')) (b0g O r K (b0t (upd t g (B (!b0))) d U) h) (b0g O r K (b0t t d U) h) := b25 rfl
theorem g29 {x} : b0g O (⟨d, none, .nilck x⟩ :: r) K t h = op1 O (.nilck x) t h (fun v h' => b0g O r K (b0t t d v) h') := b24 rfl
theorem g5o {x} : b0g O (⟨d, some (g, b0), .nilck x⟩ :: r) K t h = b3f (t g) b0 (op1 O (.nilck x) (upd t g (B b0)) h (fun v h' => b0g O r K (b0t (upd t g (B b0)) d v) h')) (b0g O r K (b0t (upd t g (B (!b0))) d U) h) (b0g O r K (b0t t d U) h) := b25 rfl
theorem g2i {o x} : b0g O (⟨d, none, .fldA o x⟩ :: r) K t h = op1 O (.fldA o x) t h (fun v h' => b0g O r K (b0t t d v) h') := b24 rfl
theorem g5i {o x} : b0g O (⟨d, some (g, b0), .fldA o x⟩ :: r) K t h = b3f (t g) b0 (op1 O (.fldA o x) (upd t g (B b0)) h (fun v h' => b0g O r K (b0t (upd t g (B b0)) d v) h')) (b0g O r K (b0t (upd t g (B (!b0))) d U) h) (b0g O r K (b0t t d U) h) := b25 rfl
theorem g2y {n x i} : b0g O (⟨d, none, .ixA n x i⟩ :: r) K t h = op1 O (.ixA n x i) t h (fun v h' => b0g O r K (b0t t d v) h') := b24 rfl
theorem g5j {n x i} : b0g O (⟨d, some (g, b0), .ixA n x i⟩ :: r) K t h = b3f (t g) b0 (op1 O (.ixA n x i) (upd t g (B b0)) h (fun v h' => b0g O r K (b0t (upd t g (B b0)) d v) h')) (b0g O r K (b0t (upd t g (B (!b0))) d U) h) (b0g O r K (b0t t d U) h) := b25 rfl
theorem g2c {op e x y} : b0g O (⟨d, none, .bin op e x y⟩ :: r) K t h = op1 O (.bin op e x y) t h (fun v h' => b0g O r K (b0t t d v) h') := b24 rfl
theorem g5c {op e x y} : b0g O (⟨d, some (g, b0), .bin op e x y⟩ :: r) K t h = b3f (t g) b0 (op1 O (.bin op e x y) (upd t g (B b0)) h (fun v h' => b0g O r K (b0t (upd t g (B b0)) d v) h')) (b0g O r K (b0t (upd t g (B (!b0))) d U) h) (b0g O r K (b0t t d U) h) := b25 rfl
theorem g3k {op x} : b0g O (⟨d, none, .un op x⟩ :: r) K t h = op1 O (.un op x) t h (fun v h' => b0g O r K (b0t t d v) h') := b24 rfl
theorem g5r {op x} : b0g O (⟨d, some (g, b0), .un op x⟩ :: r) K t h = b3f (t g) b0 (op1 O (.un op x) (upd t g (B b0)) h (fun v h' => b0g O r K (b0t (upd t g (B b0)) d v) h')) (b0g O r K (b0t (upd t g (B (!b0))) d U) h) (b0g O r K (b0t t d U) h) := b25 rfl
theorem g25 {x} : b0g O (⟨d, none, .len false x⟩ :: r) K t h = op1 O (.len false x) t h (fun v h' => b0g O r K (b0t t d v) h') := b24 rfl
theorem g5k {x} : b0g O (⟨d, some (g, b0), .len false x⟩ :: r) K t h = b3f (t g) b0 (op1 O (.len false x) (upd t g (B b0)) h (fun v h' => b0g O r K (b0t (upd t g (B b0)) d v) h')) (b0g O r K (b0t (upd t g (B (!b0))) d U) h) (b0g O r K (b0t t d U) h) := b25 rfl
theorem g2h {x i} : b0g O (⟨d, none, .ext x i⟩ :: r) K t h = op1 O (.ext x i) t h (fun v h' => b0g O r K (b0t t d v) h') := b24 rfl
theorem g5h {x i} : b0g O (⟨d, some (g, b0), .ext x i⟩ :: r) K t h = b3f (t g) b0 (op1 O (.ext x i) (upd t g (B b0)) h (fun v h' => b0g O r K (b0t (upd t g (B b0)) d v) h')) (b0g O r K (b0t (upd t g (B (!b0))) d U) h) (b0g O r K (b0t t d U) h) := b25 rfl
theorem g27 {f a b} : b0g O (⟨d, none, .mkfn f a b⟩ :: r) K t h = op1 O (.mkfn f a b) t h (fun v h' => b0g O r K (b0t t d v) h') := b24 rfl
theorem g5m {f a b} : b0g O (⟨d, some (g, b0), .mkfn f a b⟩ :: r) K t h = b3f (t g) b0 (op1 O (.mkfn f a b) (upd t g (B b0)) h (fun v h' => b0g O r K (b0t (upd t g (B b0)) d v) h')) (b0g O r K (b0t (upd t g (B (!b0))) d U) h) (b0g O r K (b0t t d U) h) := b25 rfl
theorem g2f {f l} : b0g O (⟨d, none, .call f l⟩ :: r) K t h = op1 O (.call f l) t h (fun v h' => b0g O r K (b0t t d v) h') := b24 rfl
theorem g5f {f l} : b0g O (⟨d, some (g, b0), .call f l⟩ :: r) K t h = b3f (t g) b0 (op1 O (.call f l) (upd t g (B b0)) h (fun v h' => b0g O r K (b0t (upd t g (B b0)) d v) h')) (b0g O r K (b0t (upd t g (B (!b0))) d U) h) (b0g O r K (b0t t d U) h) := b25 rfl
theorem g2g {f l} : b0g O (⟨d, none, .callv f l⟩ :: r) K t h = op1 O (.callv f l) t h (fun v h' => b0g O r K (b0t t d v) h') := b24 rfl
theorem g5g {f l} : b0g O (⟨d, some (g, b0), .callv f l⟩ :: r) K t h = b3f (t g) b0 (op1 O (.callv f l) (upd t g (B b0)) h (fun v h' => b0g O r K (b0t (upd t g (B b0)) d v) h')) (b0g O r K (b0t (upd t g (B (!b0))) d U) h) (b0g O r K (b0t t d U) h) := b25 rfl
end
section
variable {k : AV → Prop} {h : Heap}
theorem g3o {n cs off} : b5f false n cs off k = b46 cs off k := by simp [b5f]
theorem g3p {n cs off} : b5f true n cs off k = (off + n ≤ cs.length ∧ k (.agg ((cs.drop off).take n))) := by simp [b5f]
theorem g5u {c cs} : b46 (c :: cs) 0 k = k c := by simp [b46]
theorem g5v {c cs n} : b46 (c :: cs) (n + 1) k = b46 cs n k := by simp [b46]
theorem d81 {sz es i} {k : Nat → List (List AV) → List AV → Prop} : b7d (some (sz, es)) i k = ∃ cs, es[i]? = some cs ∧ k sz es cs := by
  apply propext; constructor
  · rintro ⟨a, b, c, h1, h2, h3⟩; cases h1; exact ⟨c, h2, h3⟩
  · rintro ⟨c, h2, h3⟩; exact ⟨_, _, c, rfl, h2, h3⟩
theorem j5u {sz cs} {k : Nat → List (List AV) → List AV → Prop} : b7d (some (sz, [cs])) 0 k = k sz [cs] cs := by simp [d81]
theorem j3s {sz es} {k : Nat → List (List AV) → Prop} : obK (some (sz, es)) k = k sz es := by
  apply propext; constructor
  · rintro ⟨a, b, h1, h2⟩; cases h1; exact h2
  · exact fun h => ⟨_, _, rfl, h⟩
theorem g4t {α β : Type} {f : α → β} {l : List α} {i : Int} {k : β → Prop} : b6o (l.map f) i k = b6o l i fun a => k (f a) := by
  simp only [b6o, List.getElem?_map, Option.map_eq_some_iff]
  apply propext; constructor
  · rintro ⟨b, h1, ⟨a, h2, rfl⟩, h3⟩; exact ⟨a, h1, h2, h3⟩
  · rintro ⟨a, h1, h2, h3⟩; exact ⟨_, h1, ⟨a, h2, rfl⟩, h3⟩
theorem g1y {cs} {k : List AV → Prop} : b35 (.agg cs) k = k cs := by simp [b35, b2u, cellsOf]
theorem g11 {kd n} {k : List AV → Prop} : b35 (.v (.int kd n)) k = k [.v (.int kd n)] := by simp [b35, b2u, cellsOf, Value.oneCell']
theorem g1z {b} {k : List AV → Prop} : b35 (.v (.bool b)) k = k [.v (.bool b)] := by simp [b35, b2u, cellsOf, Value.oneCell']
theorem g13 {a b c} {k : List AV → Prop} : b35 (.v (.slice a b c)) k = k [.v (.slice a b c)] := by simp [b35, b2u, cellsOf, Value.oneCell']
theorem g10 {sz es} {k : List AV → Prop} : b35 (.fs sz es) k = k [.fs sz es] := by simp [b35, b2u, cellsOf]
theorem g12 {a b c} {k : List AV → Prop} : b35 (.rs a b c) k = k [.rs a b c] := by simp [b35, b2u, cellsOf]
theorem g93 {sz es} {k : Int → Prop} : b6i (.fs sz es) k = k es.length := by simp [b6i, b3e]
theorem g95 {id lo len} {k : Int → Prop} : b6i (.rs id lo len) k = k len := by simp [b6i, b3e]
theorem g94 {k : Int → Prop} : b6i (.v (.slice none 0 0)) k = k 0 := by simp [b6i, b3e]
theorem b4g {op e kd a b} {r : Value} (hr : b32 op kd a kd b = some r) : b2s op e (.v (.int kd a)) (.v (.int kd b)) k = k (.v r) := by simp [b2s, b4c, hr]
section
variable {e : EqK} {kd : IntKind} {a b : Int}
theorem g1m : b2s .add e (.v (.int kd a)) (.v (.int kd b)) k = k (.v (.int kd (kd.wrap (a + b)))) := b4g (by simp [b32, b3x])
theorem g1w : b2s .sub e (.v (.int kd a)) (.v (.int kd b)) k = k (.v (.int kd (kd.wrap (a - b)))) := b4g (by simp [b32, b3x])
theorem g1u : b2s .mul e (.v (.int kd a)) (.v (.int kd b)) k = k (.v (.int kd (kd.wrap (a * b)))) := b4g (by simp [b32, b3x])
theorem g1p : b2s .eql e (.v (.int kd a)) (.v (.int kd b)) k = k (B (decide (a = b))) := b4g (by simp only [b32, b3x, if_true]; by_cases h : a = b <;> simp [h])
theorem g1v : b2s .neq e (.v (.int kd a)) (.v (.int kd b)) k = k (B (decide (¬ a = b))) := b4g (by simp only [b32, b3x, if_true]; by_cases h : a = b <;> simp [h])
theorem g1t : b2s .lss e (.v (.int kd a)) (.v (.int kd b)) k = k (B (decide (a < b))) := b4g (by simp [b32, b3x])
theorem g1s : b2s .leq e (.v (.int kd a)) (.v (.int kd b)) k = k (B (decide (a ≤ b))) := b4g (by simp [b32, b3x])
theorem g1r : b2s .gtr e (.v (.int kd a)) (.v (.int kd b)) k = k (B (decide (b < a))) := b4g (by simp [b32, b3x])
theorem g1q : b2s .geq e (.v (.int kd a)) (.v (.int kd b)) k = k (B (decide (b ≤ a))) := b4g (by simp [b32, b3x])
theorem g1n {a b : Bool} : b2s .eql .bool (B a) (B b) k = k (B (b83 a b)) := by simp [b2s, b4c, b3b, b83]
theorem g1o {a b : Bool} : b2s .neq .bool (B a) (B b) k = k (B (!(b83 a b))) := by simp [b2s, b4c, b3b, b83]
end
theorem j69 {b : Bool} : unK .not (B b) k = k (B (!b)) := by simp [unK, b8p]
theorem j68 {kd a} : unK .neg (.v (.int kd a)) k = k (.v (.int kd (kd.wrap (0 - a)))) := by simp [unK, b8p]
theorem j2i {o : Ob} : (h.new o).ob h.nx = some o := by simp [Heap.new]
theorem j2h {o : Ob} : (h.new o).nx = nxs h.nx := by simp [Heap.new, nxs]
theorem j7d {o id} : (h.upd id o).ob id = o := by simp [Heap.upd]
theorem j7b {o id} : (h.upd id o).nx = h.nx := by simp [Heap.upd]
theorem g4x {t : Slots} {n} : evT t (.t n) = t n := rfl
theorem g4u {t : Slots} {v} : evT t (.c v) = .v v := rfl
theorem g4y {t : Slots} {n} : evT t (.tf n) = b6q (t n) := rfl
theorem g46 {cs off} : b6q (.fp cs off) = .fp cs off := rfl
theorem g47 {sz es} : b6q (.fs sz es) = .fs sz es := rfl
theorem g4w {t : Slots} {n cs} : evT t (.g n cs) = .fp (cs.map .v) 0 := rfl
theorem g4v {t : Slots} {n} : evT t (.f n) = .fn n [] [] := rfl
theorem j5d {t : Slots} {n x} : b0t t (some n) x = upd t n x := rfl
theorem j5c {t : Slots} {x} : b0t t none x = t := rfl
end
theorem j7l {n : Int} (h1 : -9223372036854775808 ≤ n) (h2 : n < 9223372036854775808) : IntKind.i64.wrap n = n := by
  unfold IntKind.wrap
  simp only [IntKind.bits, IntKind.signed, Bool.true_and]
  split <;> rename_i h <;> simp at h <;> omega
attribute [go_sem] g4y g46 g47 g4x g4u g4v g4w j5d j5c d9r d9q j2i j2h j7d j7b
attribute [go_sem ↓] b0z b1t b1a c05 b00 b0j b1w b1c b0i b1b b1v b1u
end Go.Nw
