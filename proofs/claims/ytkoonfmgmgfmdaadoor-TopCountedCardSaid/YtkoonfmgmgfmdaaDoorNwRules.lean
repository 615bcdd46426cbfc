/- One rule for each operation. -/
import Derived.Test.YtkoonfmgmgfmdaaDoorNwVcg
set_option linter.all false
set_option linter.unusedVariables false
set_option linter.unusedSimpArgs false
set_option linter.unusedSectionVars false
namespace Go.Nw
def nxs (n : Nat) : Nat := n + 1
def b9b (a b : Bool) : Bool := a == b
def b61 {α : Type} (l : List α) (i : Int) (k : α → Prop) : Prop := ∃ a, 0 ≤ i ∧ l[i.toNat]? = some a ∧ k a
def b4p (cs : List AV) (i : Nat) (k : AV → Prop) : Prop := ∃ v, cs[i]? = some v ∧ k v
def b5s (agg : Bool) (n : Nat) (cs : List AV) (off : Nat) (k : AV → Prop) : Prop := if agg then off + n ≤ cs.length ∧ k (.agg ((cs.drop off).take n)) else b4p cs off k
def b7r (o : Option Ob) (i : Nat) (k : Nat → List (List AV) → List AV → Prop) : Prop := ∃ sz es cs, o = some (sz, es) ∧ es[i]? = some cs ∧ k sz es cs
def obK (o : Option Ob) (k : Nat → List (List AV) → Prop) : Prop := ∃ sz es, o = some (sz, es) ∧ k sz es
def d0y (agg : Bool) (n : Nat) (x : AV) (h : Heap) (k : AV → Prop) : Prop :=
  match x with
  | .fp cs off => b5s agg n cs off k
  | .rp id i off => b7r (h.ob id) i fun _ _ cs => b5s agg n cs off k
  | _ => False
def d19 (n : Nat) (a x : AV) (h : Heap) (k : Heap → Prop) : Prop :=
  match a with
  | .rp id i off => b7r (h.ob id) i fun sz es cs => b2d x = true ∧ (cellsOf x).length = n ∧ off + n ≤ cs.length ∧ k (h.upd id (some (sz, es.set i (cs.take off ++ cellsOf x ++ cs.drop (off + n)))))
  | _ => False
def c3e (c : AV) (p q : Prop) : Prop := match c with | .v (.bool true) => p | .v (.bool false) => q | _ => False
def b34 (x : AV) (k : List AV → Prop) : Prop := b2d x = true ∧ k (cellsOf x)
def d1e (x : AV) (h : Heap) (k : AV → Prop) : Prop :=
  match x with | .fp cs off => k (.fp cs off) | .rp id i off => (h.ob id).isSome = true ∧ k (.rp id i off) | .fn f a b => k (.fn f a b) | _ => False
def c9g (off : Nat) (x : AV) (h : Heap) (k : AV → Prop) : Prop := match x with | .fp cs o => k (.fp cs (o + off)) | .rp id i o => (h.ob id).isSome = true ∧ k (.rp id i (o + off)) | _ => False
def c93 (n : Nat) (x i : AV) (h : Heap) (k : AV → Prop) : Prop :=
  match x, i with
  | .fs sz es, .v (.int _ j) => sz = n ∧ b61 es j fun cs => k (.fp cs 0)
  | .rs id lo len, .v (.int _ j) => obK (h.ob id) fun sz _ => sz = n ∧ 0 ≤ j ∧ j < len ∧ k (.rp id (lo + j.toNat) 0)
  | _, _ => False
def b2c (op : BinOp) (e : EqK) (x y : AV) (k : AV → Prop) : Prop := ∃ r, b3q op e x y = some r ∧ k r
def unK (op : UnOp) (x : AV) (k : AV → Prop) : Prop := ∃ r, b7v op x = some r ∧ k r
def b6n (x : AV) (k : Int → Prop) : Prop := ∃ n, b22 x = some n ∧ k n
def c84 (x : AV) (i : Nat) (k : AV → Prop) : Prop := match x with | .tup vs => b4p vs i k | _ => False
section
variable {O : Orac} {t : Slots} {h : Heap} {k : AV → Heap → Prop}
theorem ex1 {a : AV} {b : Heap} {k : AV → Heap → Prop} : (∃ r h', some (a, b) = some (r, h') ∧ k r h') = k a b := by
  apply propext; constructor
  · rintro ⟨r, h', e, hk⟩; cases e; exact hk
  · exact fun hk => ⟨_, _, rfl, hk⟩
theorem ex0 {k : AV → Heap → Prop} : (∃ r h', (none : Option (AV × Heap)) = some (r, h') ∧ k r h') = False := by simp
theorem j6k {x} : op1 O (.mv x) t h k = k (evT t x) h := by simp only [op1, eff, ex1]
theorem j6m {c a b} : op1 O (.pick c a b) t h k = c3e (evT t c) (k (evT t a) h) (k (evT t b) h) := by
  simp only [op1, eff]
  generalize evT t c = x
  cases x with
  | v y => cases y with
    | bool z => cases z <;> simp only [c3e, ex1, if_true, Bool.false_eq_true, if_false]
    | _ => simp only [c3e, ex0]
  | _ => simp only [c3e, ex0]
theorem j6b {x} : op1 O (.boxF x) t h k = b34 (evT t x) fun cs => k (.fp cs 0) h := rfl
theorem j6a {x} : op1 O (.box x) t h k = b34 (evT t x) fun cs => k (.rp h.nx 0 0) (h.new (cs.length, [cs])) := by
  simp only [op1, eff, b34]
  apply propext; constructor
  · rintro ⟨r, h', he, hk⟩; split at he
    · rename_i ho; cases he; exact ⟨ho, hk⟩
    · cases he
  · rintro ⟨h1, h2⟩; exact ⟨_, _, by rw [if_pos h1], h2⟩
theorem j58 {zs} : op1 O (.alloc zs) t h k = k (.rp h.nx 0 0) (h.new (zs.length, [zs.map .v])) := by simp only [op1, eff, ex1]
theorem j6i {agg n a} : op1 O (.load agg n a) t h k = d0y agg n (evT t a) h fun v => k v h := by
  simp only [op1, eff, d0y]
  have cells : ∀ cs off, (∃ r h', (if agg = true then (if off + n ≤ cs.length then some (AV.agg (List.take n (List.drop off cs)), h) else none) else Option.map (fun x => (x, h)) cs[off]?) = some (r, h') ∧ k r h') = b5s agg n cs off fun v => k v h := by
    intro cs off
    unfold b5s b4p
    cases agg with
    | true =>
      simp only [if_true]
      apply propext; constructor
      · rintro ⟨r, h', he, hk⟩; split at he
        · rename_i ho; cases he; exact ⟨ho, hk⟩
        · cases he
      · rintro ⟨h1, h2⟩; exact ⟨_, _, by rw [if_pos h1], h2⟩
    | false =>
      simp only [Bool.false_eq_true, if_false, Option.map_eq_some_iff]
      apply propext; constructor
      · rintro ⟨r, h', ⟨x, h1, h2⟩, hk⟩; cases h2; exact ⟨_, h1, hk⟩
      · rintro ⟨v, h1, h2⟩; exact ⟨v, h, ⟨v, h1, rfl⟩, h2⟩
  generalize evT t a = x
  cases x with
  | fp cs off => exact cells cs off
  | rp id i off =>
    simp only [b7r]
    apply propext; constructor
    · rintro ⟨r, h', he, hk⟩
      simp only [Option.bind_eq_some_iff] at he
      obtain ⟨⟨sz, es⟩, h1, cs, h2, he⟩ := he
      exact ⟨sz, es, cs, h1, h2, by rw [← cells]; exact ⟨r, h', he, hk⟩⟩
    · rintro ⟨sz, es, cs, h1, h2, h3⟩
      rw [← cells] at h3
      obtain ⟨r, h', he, hk⟩ := h3
      exact ⟨r, h', by simp only [h1, Option.bind_some, h2]; exact he, hk⟩
  | _ => simp
theorem j6n {n a x} : op1 O (.store n a x) t h k = d19 n (evT t a) (evT t x) h fun h' => k .dead h' := by
  simp only [op1, eff, d19]
  generalize evT t a = y
  cases y with
  | rp id i off =>
    simp only [b7r]
    apply propext; constructor
    · rintro ⟨r, h', he, hk⟩
      simp only [Option.bind_eq_some_iff] at he
      obtain ⟨⟨sz, es⟩, h1, cs, h2, he⟩ := he
      split at he
      · rename_i hc; cases he; exact ⟨sz, es, cs, h1, h2, hc.1, hc.2.1, hc.2.2, hk⟩
      · cases he
    · rintro ⟨sz, es, cs, h1, h2, h3, h4, h5, h6⟩
      exact ⟨_, _, by simp only [h1, Option.bind_some, h2]; rw [if_pos ⟨h3, h4, h5⟩], h6⟩
  | _ => simp
theorem j6l {x} : op1 O (.nilck x) t h k = d1e (evT t x) h fun v => k v h := by
  simp only [op1, eff, d1e]
  generalize evT t x = y
  cases y with
  | rp id i off =>
    cases ho : h.ob id with
    | none => simp only [ho, Option.bind_none, ex0, Option.isSome_none, Bool.false_eq_true, false_and]
    | some o => simp only [ho, Option.bind_some, ex1, Option.isSome_some, true_and]
  | fp cs off => exact ex1
  | fn f a b => first | exact ex1 | exact ex0
  | _ => exact ex0
theorem j6f {o x} : op1 O (.fldA o x) t h k = c9g o (evT t x) h fun v => k v h := by
  simp only [op1, eff, c9g]
  generalize evT t x = y
  cases y with
  | rp id i off =>
    cases ho : h.ob id with
    | none => simp only [ho, Option.bind_none, ex0, Option.isSome_none, Bool.false_eq_true, false_and]
    | some o => simp only [ho, Option.bind_some, ex1, Option.isSome_some, true_and]
  | fp cs off => exact ex1
  | fn f a b => first | exact ex1 | exact ex0
  | _ => exact ex0
theorem j6g {n x i} : op1 O (.ixA n x i) t h k = c93 n (evT t x) (evT t i) h fun v => k v h := by
  simp only [op1, eff, c93]
  generalize evT t x = y
  generalize evT t i = z
  cases y with
  | fs sz es =>
    cases z with
    | v w => cases w with
      | int kd j =>
        simp only [b61]
        apply propext; constructor
        · rintro ⟨r, h', he, hk⟩
          split at he
          · rename_i hc
            simp only [Option.map_eq_some_iff] at he
            obtain ⟨cs, h1, h2⟩ := he
            cases h2
            exact ⟨hc.1, cs, hc.2, h1, hk⟩
          · cases he
        · rintro ⟨h1, cs, h2, h3, h4⟩
          exact ⟨_, _, by rw [if_pos ⟨h1, h2⟩, h3]; rfl, h4⟩
      | _ => simp
    | _ => simp
  | rs id lo len =>
    cases z with
    | v w => cases w with
      | int kd j =>
        simp only [obK]
        apply propext; constructor
        · rintro ⟨r, h', he, hk⟩
          simp only [Option.bind_eq_some_iff] at he
          obtain ⟨⟨sz, es⟩, h1, he⟩ := he
          split at he
          · rename_i hc; cases he; exact ⟨sz, es, h1, hc.1, hc.2.1, hc.2.2, hk⟩
          · cases he
        · rintro ⟨sz, es, h1, h2, h3, h4, h5⟩
          exact ⟨_, _, by simp only [h1, Option.bind_some]; rw [if_pos ⟨h2, h3, h4⟩], h5⟩
      | _ => simp
    | _ => simp
  | _ => simp
theorem j59 {op e x y} : op1 O (.bin op e x y) t h k = b2c op e (evT t x) (evT t y) fun v => k v h := by
  simp only [op1, eff, b2c, Option.map_eq_some_iff]
  apply propext; constructor
  · rintro ⟨r, h', ⟨v, h1, h2⟩, hk⟩; cases h2; exact ⟨_, h1, hk⟩
  · rintro ⟨v, h1, h2⟩; exact ⟨v, h, ⟨v, h1, rfl⟩, h2⟩
theorem j6o {op x} : op1 O (.un op x) t h k = unK op (evT t x) fun v => k v h := by
  simp only [op1, eff, unK, Option.map_eq_some_iff]
  apply propext; constructor
  · rintro ⟨r, h', ⟨v, h1, h2⟩, hk⟩; cases h2; exact ⟨_, h1, hk⟩
  · rintro ⟨v, h1, h2⟩; exact ⟨v, h, ⟨v, h1, rfl⟩, h2⟩
theorem j6h {x} : op1 O (.len false x) t h k = b6n (evT t x) fun n => k (I n) h := by
  simp only [op1, eff, b6n, Bool.false_eq_true, if_false, Option.map_eq_some_iff]
  apply propext; constructor
  · rintro ⟨r, h', ⟨v, h1, h2⟩, hk⟩; cases h2; exact ⟨_, h1, hk⟩
  · rintro ⟨v, h1, h2⟩; exact ⟨_, h, ⟨v, h1, rfl⟩, h2⟩
theorem j6e {x i} : op1 O (.ext x i) t h k = c84 (evT t x) i fun v => k v h := by
  simp only [op1, eff, c84]
  generalize evT t x = y
  cases y with
  | tup vs =>
    simp only [b4p, Option.map_eq_some_iff]
    apply propext; constructor
    · rintro ⟨r, h', ⟨v, h1, h2⟩, hk⟩; cases h2; exact ⟨_, h1, hk⟩
    · rintro ⟨v, h1, h2⟩; exact ⟨v, h, ⟨v, h1, rfl⟩, h2⟩
  | _ => simp
theorem j6j {f a b} : op1 O (.mkfn f a b) t h k = k (.fn f (a.map (evT t)) (b.map (evT t))) h := by simp only [op1, eff, ex1]
theorem j6c {f l} : op1 O (.call f l) t h k = b6z O f (l.map (evT t)) h k := rfl
theorem j6d {f l} : op1 O (.callv f l) t h k = ∃ n a b, callee (evT t f) = some (n, a, b) ∧ b6z O n (a ++ l.map (evT t) ++ b) h k := rfl
end
section
variable {O : Orac} {d : Option Nat} {g : Nat} {b0 : Bool} {r : List XO} {K : Slots → Heap → Prop} {t : Slots} {h : Heap}
theorem g3l {x} : b0d O (⟨d, none, .mv x⟩ :: r) K t h = op1 O (.mv x) t h (fun v h' => b0d O r K (b0l t d v) h') := b2y rfl
theorem g61 {x} : b0d O (⟨d, some (g, b0), .mv x⟩ :: r) K t h = b3c (t g) b0 (op1 O (.mv x) (upd t g (B b0)) h (fun v h' => b0d O r K (b0l (upd t g (B b0)) d v) h')) (b0d O r K (b0l (upd t g (B (!b0))) d U) h) (b0d O r K (b0l t d U) h) := b20 rfl
theorem g3q {c a b} : b0d O (⟨d, none, .pick c a b⟩ :: r) K t h = op1 O (.pick c a b) t h (fun v h' => b0d O r K (b0l t d v) h') := b2y rfl
theorem g63 {c a b} : b0d O (⟨d, some (g, b0), .pick c a b⟩ :: r) K t h = b3c (t g) b0 (op1 O (.pick c a b) (upd t g (B b0)) h (fun v h' => b0d O r K (b0l (upd t g (B b0)) d v) h')) (b0d O r K (b0l (upd t g (B (!b0))) d U) h) (b0d O r K (b0l t d U) h) := b20 rfl
theorem g2p {x} : b0d O (⟨d, none, .boxF x⟩ :: r) K t h = op1 O (.boxF x) t h (fun v h' => b0d O r K (b0l t d v) h') := b2y rfl
theorem g6s {x} : b0d O (⟨d, some (g, b0), .boxF x⟩ :: r) K t h = b3c (t g) b0 (op1 O (.boxF x) (upd t g (B b0)) h (fun v h' => b0d O r K (b0l (upd t g (B b0)) d v) h')) (b0d O r K (b0l (upd t g (B (!b0))) d U) h) (b0d O r K (b0l t d U) h) := b20 rfl
theorem g2o {x} : b0d O (⟨d, none, .box x⟩ :: r) K t h = op1 O (.box x) t h (fun v h' => b0d O r K (b0l t d v) h') := b2y rfl
theorem g6r {x} : b0d O (⟨d, some (g, b0), .box x⟩ :: r) K t h = b3c (t g) b0 (op1 O (.box x) (upd t g (B b0)) h (fun v h' => b0d O r K (b0l (upd t g (B b0)) d v) h')) (b0d O r K (b0l (upd t g (B (!b0))) d U) h) (b0d O r K (b0l t d U) h) := b20 rfl
theorem g2m {zs} : b0d O (⟨d, none, .alloc zs⟩ :: r) K t h = op1 O (.alloc zs) t h (fun v h' => b0d O r K (b0l t d v) h') := b2y rfl
theorem g6p {zs} : b0d O (⟨d, some (g, b0), .alloc zs⟩ :: r) K t h = b3c (t g) b0 (op1 O (.alloc zs) (upd t g (B b0)) h (fun v h' => b0d O r K (b0l (upd t g (B b0)) d v) h')) (b0d O r K (b0l (upd t g (B (!b0))) d U) h) (b0d O r K (b0l t d U) h) := b20 rfl
theorem g3f {agg n a} : b0d O (⟨d, none, .load agg n a⟩ :: r) K t h = op1 O (.load agg n a) t h (fun v h' => b0d O r K (b0l t d v) h') := b2y rfl
theorem g6z {agg n a} : b0d O (⟨d, some (g, b0), .load agg n a⟩ :: r) K t h = b3c (t g) b0 (op1 O (.load agg n a) (upd t g (B b0)) h (fun v h' => b0d O r K (b0l (upd t g (B b0)) d v) h')) (b0d O r K (b0l (upd t g (B (!b0))) d U) h) (b0d O r K (b0l t d U) h) := b20 rfl
theorem g30 {n a x} : b0d O (⟨d, none, .store n a x⟩ :: r) K t h = op1 O (.store n a x) t h (fun v h' => b0d O r K (b0l t d v) h') := b2y rfl
theorem g64 {n a x} : b0d O (⟨d, some (g, b0), .store n a x⟩ :: r) K t h = b3c (t g) b0 (op1 O (.store n a x) (upd t g (B b0)) h (fun v h' => b0d O r K (b0l (upd t g (B b0)) d v) h')) (b0d O r K (b0l (upd t g (B (!b0))) d U) h) (b0d O r K (b0l t d U) h) := b20 rfl
theorem g3p {x} : b0d O (⟨d, none, .nilck x⟩ :: r) K t h = op1 O (.nilck x) t h (fun v h' => b0d O r K (b0l t d v) h') := b2y rfl
theorem g62 {x} : b0d O (⟨d, some (g, b0), .nilck x⟩ :: r) K t h = b3c (t g) b0 (op1 O (.nilck x) (upd t g (B b0)) h (fun v h' => b0d O r K (b0l (upd t g (B b0)) d v) h')) (b0d O r K (b0l (upd t g (B (!b0))) d U) h) (b0d O r K (b0l t d U) h) := b20 rfl
theorem g2z {o x} : b0d O (⟨d, none, .fldA o x⟩ :: r) K t h = op1 O (.fldA o x) t h (fun v h' => b0d O r K (b0l t d v) h') := b2y rfl
theorem g6w {o x} : b0d O (⟨d, some (g, b0), .fldA o x⟩ :: r) K t h = b3c (t g) b0 (op1 O (.fldA o x) (upd t g (B b0)) h (fun v h' => b0d O r K (b0l (upd t g (B b0)) d v) h')) (b0d O r K (b0l (upd t g (B (!b0))) d U) h) (b0d O r K (b0l t d U) h) := b20 rfl
theorem g3c {n x i} : b0d O (⟨d, none, .ixA n x i⟩ :: r) K t h = op1 O (.ixA n x i) t h (fun v h' => b0d O r K (b0l t d v) h') := b2y rfl
theorem g6x {n x i} : b0d O (⟨d, some (g, b0), .ixA n x i⟩ :: r) K t h = b3c (t g) b0 (op1 O (.ixA n x i) (upd t g (B b0)) h (fun v h' => b0d O r K (b0l (upd t g (B b0)) d v) h')) (b0d O r K (b0l (upd t g (B (!b0))) d U) h) (b0d O r K (b0l t d U) h) := b20 rfl
theorem g2n {op e x y} : b0d O (⟨d, none, .bin op e x y⟩ :: r) K t h = op1 O (.bin op e x y) t h (fun v h' => b0d O r K (b0l t d v) h') := b2y rfl
theorem g6q {op e x y} : b0d O (⟨d, some (g, b0), .bin op e x y⟩ :: r) K t h = b3c (t g) b0 (op1 O (.bin op e x y) (upd t g (B b0)) h (fun v h' => b0d O r K (b0l (upd t g (B b0)) d v) h')) (b0d O r K (b0l (upd t g (B (!b0))) d U) h) (b0d O r K (b0l t d U) h) := b20 rfl
theorem g31 {op x} : b0d O (⟨d, none, .un op x⟩ :: r) K t h = op1 O (.un op x) t h (fun v h' => b0d O r K (b0l t d v) h') := b2y rfl
theorem g65 {op x} : b0d O (⟨d, some (g, b0), .un op x⟩ :: r) K t h = b3c (t g) b0 (op1 O (.un op x) (upd t g (B b0)) h (fun v h' => b0d O r K (b0l (upd t g (B b0)) d v) h')) (b0d O r K (b0l (upd t g (B (!b0))) d U) h) (b0d O r K (b0l t d U) h) := b20 rfl
theorem g3e {x} : b0d O (⟨d, none, .len false x⟩ :: r) K t h = op1 O (.len false x) t h (fun v h' => b0d O r K (b0l t d v) h') := b2y rfl
theorem g6y {x} : b0d O (⟨d, some (g, b0), .len false x⟩ :: r) K t h = b3c (t g) b0 (op1 O (.len false x) (upd t g (B b0)) h (fun v h' => b0d O r K (b0l (upd t g (B b0)) d v) h')) (b0d O r K (b0l (upd t g (B (!b0))) d U) h) (b0d O r K (b0l t d U) h) := b20 rfl
theorem g2u {x i} : b0d O (⟨d, none, .ext x i⟩ :: r) K t h = op1 O (.ext x i) t h (fun v h' => b0d O r K (b0l t d v) h') := b2y rfl
theorem g6v {x i} : b0d O (⟨d, some (g, b0), .ext x i⟩ :: r) K t h = b3c (t g) b0 (op1 O (.ext x i) (upd t g (B b0)) h (fun v h' => b0d O r K (b0l (upd t g (B b0)) d v) h')) (b0d O r K (b0l (upd t g (B (!b0))) d U) h) (b0d O r K (b0l t d U) h) := b20 rfl
theorem g3k {f a b} : b0d O (⟨d, none, .mkfn f a b⟩ :: r) K t h = op1 O (.mkfn f a b) t h (fun v h' => b0d O r K (b0l t d v) h') := b2y rfl
theorem g60 {f a b} : b0d O (⟨d, some (g, b0), .mkfn f a b⟩ :: r) K t h = b3c (t g) b0 (op1 O (.mkfn f a b) (upd t g (B b0)) h (fun v h' => b0d O r K (b0l (upd t g (B b0)) d v) h')) (b0d O r K (b0l (upd t g (B (!b0))) d U) h) (b0d O r K (b0l t d U) h) := b20 rfl
theorem g2q {f l} : b0d O (⟨d, none, .call f l⟩ :: r) K t h = op1 O (.call f l) t h (fun v h' => b0d O r K (b0l t d v) h') := b2y rfl
theorem g6t {f l} : b0d O (⟨d, some (g, b0), .call f l⟩ :: r) K t h = b3c (t g) b0 (op1 O (.call f l) (upd t g (B b0)) h (fun v h' => b0d O r K (b0l (upd t g (B b0)) d v) h')) (b0d O r K (b0l (upd t g (B (!b0))) d U) h) (b0d O r K (b0l t d U) h) := b20 rfl
theorem g2r {f l} : b0d O (⟨d, none, .callv f l⟩ :: r) K t h = op1 O (.callv f l) t h (fun v h' => b0d O r K (b0l t d v) h') := b2y rfl
theorem g6u {f l} : b0d O (⟨d, some (g, b0), .callv f l⟩ :: r) K t h = b3c (t g) b0 (op1 O (.callv f l) (upd t g (B b0)) h (fun v h' => b0d O r K (b0l (upd t g (B b0)) d v) h')) (b0d O r K (b0l (upd t g (B (!b0))) d U) h) (b0d O r K (b0l t d U) h) := b20 rfl
end
section
variable {k : AV → Prop} {h : Heap}
theorem g35 {n cs off} : b5s false n cs off k = b4p cs off k := by simp [b5s]
theorem g36 {n cs off} : b5s true n cs off k = (off + n ≤ cs.length ∧ k (.agg ((cs.drop off).take n))) := by simp [b5s]
theorem g68 {c cs} : b4p (c :: cs) 0 k = k c := by simp [b4p]
theorem g69 {c cs n} : b4p (c :: cs) (n + 1) k = b4p cs n k := by simp [b4p]
theorem d8x {sz es i} {k : Nat → List (List AV) → List AV → Prop} : b7r (some (sz, es)) i k = ∃ cs, es[i]? = some cs ∧ k sz es cs := by
  apply propext; constructor
  · rintro ⟨a, b, c, h1, h2, h3⟩; cases h1; exact ⟨c, h2, h3⟩
  · rintro ⟨c, h2, h3⟩; exact ⟨_, _, c, rfl, h2, h3⟩
theorem j8c {sz cs} {k : Nat → List (List AV) → List AV → Prop} : b7r (some (sz, [cs])) 0 k = k sz [cs] cs := by simp [d8x]
theorem j5w {sz es} {k : Nat → List (List AV) → Prop} : obK (some (sz, es)) k = k sz es := by
  apply propext; constructor
  · rintro ⟨a, b, h1, h2⟩; cases h1; exact h2
  · exact fun h => ⟨_, _, rfl, h⟩
theorem g50 {α β : Type} {f : α → β} {l : List α} {i : Int} {k : β → Prop} : b61 (l.map f) i k = b61 l i fun a => k (f a) := by
  simp only [b61, List.getElem?_map, Option.map_eq_some_iff]
  apply propext; constructor
  · rintro ⟨b, h1, ⟨a, h2, rfl⟩, h3⟩; exact ⟨a, h1, h2, h3⟩
  · rintro ⟨a, h1, h2, h3⟩; exact ⟨_, h1, ⟨a, h2, rfl⟩, h3⟩
theorem g19 {cs} {k : List AV → Prop} : b34 (.agg cs) k = k cs := by simp [b34, b2d, cellsOf]
theorem g2c {kd n} {k : List AV → Prop} : b34 (.v (.int kd n)) k = k [.v (.int kd n)] := by simp [b34, b2d, cellsOf, Value.oneCell']
theorem g2a {b} {k : List AV → Prop} : b34 (.v (.bool b)) k = k [.v (.bool b)] := by simp [b34, b2d, cellsOf, Value.oneCell']
theorem g2e {a b c} {k : List AV → Prop} : b34 (.v (.slice a b c)) k = k [.v (.slice a b c)] := by simp [b34, b2d, cellsOf, Value.oneCell']
theorem g2b {sz es} {k : List AV → Prop} : b34 (.fs sz es) k = k [.fs sz es] := by simp [b34, b2d, cellsOf]
theorem g2d {a b c} {k : List AV → Prop} : b34 (.rs a b c) k = k [.rs a b c] := by simp [b34, b2d, cellsOf]
theorem j1t {sz es} {k : Int → Prop} : b6n (.fs sz es) k = k es.length := by simp [b6n, b22]
theorem j1v {id lo len} {k : Int → Prop} : b6n (.rs id lo len) k = k len := by simp [b6n, b22]
theorem j1u {k : Int → Prop} : b6n (.v (.slice none 0 0)) k = k 0 := by simp [b6n, b22]
theorem b4m {op e kd a b} {r : Value} (hr : b3j op kd a kd b = some r) : b2c op e (.v (.int kd a)) (.v (.int kd b)) k = k (.v r) := by simp [b2c, b3q, hr]
section
variable {e : EqK} {kd : IntKind} {a b : Int}
theorem g1t : b2c .add e (.v (.int kd a)) (.v (.int kd b)) k = k (.v (.int kd (kd.wrap (a + b)))) := b4m (by simp [b3j, b3w])
theorem g13 : b2c .sub e (.v (.int kd a)) (.v (.int kd b)) k = k (.v (.int kd (kd.wrap (a - b)))) := b4m (by simp [b3j, b3w])
theorem g11 : b2c .mul e (.v (.int kd a)) (.v (.int kd b)) k = k (.v (.int kd (kd.wrap (a * b)))) := b4m (by simp [b3j, b3w])
theorem g1w : b2c .eql e (.v (.int kd a)) (.v (.int kd b)) k = k (B (decide (a = b))) := b4m (by simp only [b3j, b3w, if_true]; by_cases h : a = b <;> simp [h])
theorem g12 : b2c .neq e (.v (.int kd a)) (.v (.int kd b)) k = k (B (decide (¬ a = b))) := b4m (by simp only [b3j, b3w, if_true]; by_cases h : a = b <;> simp [h])
theorem g10 : b2c .lss e (.v (.int kd a)) (.v (.int kd b)) k = k (B (decide (a < b))) := b4m (by simp [b3j, b3w])
theorem g1z : b2c .leq e (.v (.int kd a)) (.v (.int kd b)) k = k (B (decide (a ≤ b))) := b4m (by simp [b3j, b3w])
theorem g1y : b2c .gtr e (.v (.int kd a)) (.v (.int kd b)) k = k (B (decide (b < a))) := b4m (by simp [b3j, b3w])
theorem g1x : b2c .geq e (.v (.int kd a)) (.v (.int kd b)) k = k (B (decide (b ≤ a))) := b4m (by simp [b3j, b3w])
theorem g1u {a b : Bool} : b2c .eql .bool (B a) (B b) k = k (B (b9b a b)) := by simp [b2c, b3q, b29, b9b]
theorem g1v {a b : Bool} : b2c .neq .bool (B a) (B b) k = k (B (!(b9b a b))) := by simp [b2c, b3q, b29, b9b]
end
theorem j92 {b : Bool} : unK .not (B b) k = k (B (!b)) := by simp [unK, b7v]
theorem j91 {kd a} : unK .neg (.v (.int kd a)) k = k (.v (.int kd (kd.wrap (0 - a)))) := by simp [unK, b7v]
theorem j4i {o : Ob} : (h.new o).ob h.nx = some o := by simp [Heap.new]
theorem j4h {o : Ob} : (h.new o).nx = nxs h.nx := by simp [Heap.new, nxs]
theorem j96 {o id} : (h.upd id o).ob id = o := by simp [Heap.upd]
theorem j94 {o id} : (h.upd id o).nx = h.nx := by simp [Heap.upd]
theorem c82 {t : Slots} {n} : evT t (.t n) = t n := rfl
theorem c81 {t : Slots} {v} : evT t (.c v) = .v v := rfl
theorem g56 {t : Slots} {n} : evT t (.tf n) = b68 (t n) := rfl
theorem g6j {cs off} : b68 (.fp cs off) = .fp cs off := rfl
theorem g6k {sz es} : b68 (.fs sz es) = .fs sz es := rfl
theorem g55 {t : Slots} {n cs} : evT t (.g n cs) = .fp (cs.map .v) 0 := rfl
theorem g54 {t : Slots} {n} : evT t (.f n) = .fn n [] [] := rfl
theorem j7p {t : Slots} {n x} : b0l t (some n) x = upd t n x := rfl
theorem j7o {t : Slots} {x} : b0l t none x = t := rfl
end
theorem d2d {n : Int} (h1 : -9223372036854775808 ≤ n) (h2 : n < 9223372036854775808) : IntKind.i64.wrap n = n := by
  unfold IntKind.wrap
  simp only [IntKind.bits, IntKind.signed, Bool.true_and]
  split <;> rename_i h <;> simp at h <;> omega
attribute [go_sem] g56 g6j g6k c82 c81 g54 g55 j7p j7o c7d c7c j4i j4h j96 j94
attribute [go_sem ↓] b0y b1t b01 c1o b1c b0j b1w b03 b0i b02 b1v b1u
end Go.Nw
