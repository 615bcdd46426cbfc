/- One rule for each operation. -/
import Derived.Test.YtaccbljgojdfjaaDoorNwVcg
set_option linter.all false
set_option linter.unusedVariables false
set_option linter.unusedSimpArgs false
set_option linter.unusedSectionVars false
namespace Go.Nw
def nxs (n : Nat) : Nat := n + 1
def b3s (a b : Bool) : Bool := a == b
def b38 {α : Type} (l : List α) (i : Int) (k : α → Prop) : Prop := ∃ a, 0 ≤ i ∧ l[i.toNat]? = some a ∧ k a
def b2m (cs : List AV) (i : Nat) (k : AV → Prop) : Prop := ∃ v, cs[i]? = some v ∧ k v
def b3f (agg : Bool) (n : Nat) (cs : List AV) (off : Nat) (k : AV → Prop) : Prop := if agg then off + n ≤ cs.length ∧ k (.agg ((cs.drop off).take n)) else b2m cs off k
def b4j (o : Option Ob) (i : Nat) (k : Nat → List (List AV) → List AV → Prop) : Prop := ∃ sz es cs, o = some (sz, es) ∧ es[i]? = some cs ∧ k sz es cs
def obK (o : Option Ob) (k : Nat → List (List AV) → Prop) : Prop := ∃ sz es, o = some (sz, es) ∧ k sz es
def c1u (agg : Bool) (n : Nat) (x : AV) (h : Heap) (k : AV → Prop) : Prop :=
  match x with
  | .fp cs off => b3f agg n cs off k
  | .rp id i off => b4j (h.ob id) i fun _ _ cs => b3f agg n cs off k
  | _ => False
def c2t (n : Nat) (a x : AV) (h : Heap) (k : Heap → Prop) : Prop :=
  match a with
  | .rp id i off => b4j (h.ob id) i fun sz es cs => b02 x = true ∧ (cellsOf x).length = n ∧ off + n ≤ cs.length ∧ k (h.upd id (some (sz, es.set i (cs.take off ++ cellsOf x ++ cs.drop (off + n)))))
  | _ => False
def b67 (c : AV) (p q : Prop) : Prop := match c with | .v (.bool true) => p | .v (.bool false) => q | _ => False
def b17 (x : AV) (k : List AV → Prop) : Prop := b02 x = true ∧ k (cellsOf x)
def c2a (x : AV) (h : Heap) (k : AV → Prop) : Prop :=
  match x with | .fp cs off => k (.fp cs off) | .rp id i off => (h.ob id).isSome = true ∧ k (.rp id i off) | .fn f a b => k (.fn f a b) | _ => False
def c07 (off : Nat) (x : AV) (h : Heap) (k : AV → Prop) : Prop := match x with | .fp cs o => k (.fp cs (o + off)) | .rp id i o => (h.ob id).isSome = true ∧ k (.rp id i (o + off)) | _ => False
def c1j (n : Nat) (x i : AV) (h : Heap) (k : AV → Prop) : Prop :=
  match x, i with
  | .fs sz es, .v (.int _ j) => sz = n ∧ b38 es j fun cs => k (.fp cs 0)
  | .rs id lo len, .v (.int _ j) => obK (h.ob id) fun sz _ => sz = n ∧ 0 ≤ j ∧ j < len ∧ k (.rp id (lo + j.toNat) 0)
  | _, _ => False
def b0y (op : BinOp) (e : EqK) (x y : AV) (k : AV → Prop) : Prop := ∃ r, b10 op e x y = some r ∧ k r
def unK (op : UnOp) (x : AV) (k : AV → Prop) : Prop := ∃ r, b4l op x = some r ∧ k r
def b3z (x : AV) (k : Int → Prop) : Prop := ∃ n, b1k x = some n ∧ k n
def c0v (x : AV) (i : Nat) (k : AV → Prop) : Prop := match x with | .tup vs => b2m vs i k | _ => False
section
variable {O : Orac} {t : Slots} {h : Heap} {k : AV → Heap → Prop}
theorem ex1 {a : AV} {b : Heap} {k : AV → Heap → Prop} : (∃ r h', some (a, b) = some (r, h') ∧ k r h') = k a b := by
  apply propext; constructor
  · rintro ⟨r, h', e, hk⟩; cases e; exact hk
  · exact fun hk => ⟨_, _, rfl, hk⟩
theorem ex0 {k : AV → Heap → Prop} : (∃ r h', (none : Option (AV × Heap)) = some (r, h') ∧ k r h') = False := by simp
theorem g17 {x} : op1 O (.mv x) t h k = k (evT t x) h := by simp only [op1, eff, ex1]
theorem g19 {c a b} : op1 O (.pick c a b) t h k = b67 (evT t c) (k (evT t a) h) (k (evT t b) h) := by
  simp only [op1, eff]
  generalize evT t c = x
  cases x with
  | v y => cases y with
    | bool z => cases z <;> simp only [b67, ex1, if_true, Bool.false_eq_true, if_false]
    | _ => simp only [b67, ex0]
  | _ => simp only [b67, ex0]
theorem g1y {x} : op1 O (.boxF x) t h k = b17 (evT t x) fun cs => k (.fp cs 0) h := rfl
theorem g1x {x} : op1 O (.box x) t h k = b17 (evT t x) fun cs => k (.rp h.nx 0 0) (h.new (cs.length, [cs])) := by
  simp only [op1, eff, b17]
  apply propext; constructor
  · rintro ⟨r, h', he, hk⟩; split at he
    · rename_i ho; cases he; exact ⟨ho, hk⟩
    · cases he
  · rintro ⟨h1, h2⟩; exact ⟨_, _, by rw [if_pos h1], h2⟩
theorem g1v {zs} : op1 O (.alloc zs) t h k = k (.rp h.nx 0 0) (h.new (zs.length, [zs.map .v])) := by simp only [op1, eff, ex1]
theorem g15 {agg n a} : op1 O (.load agg n a) t h k = c1u agg n (evT t a) h fun v => k v h := by
  simp only [op1, eff, c1u]
  have cells : ∀ cs off, (∃ r h', (if agg = true then (if off + n ≤ cs.length then some (AV.agg (List.take n (List.drop off cs)), h) else none) else Option.map (fun x => (x, h)) cs[off]?) = some (r, h') ∧ k r h') = b3f agg n cs off fun v => k v h := by
    intro cs off
    unfold b3f b2m
    cases agg with
    | true =>
      simp only [if_true]
      apply propext; constructor
      · rintro ⟨r, h', he, hk⟩; split at he
        · rename_i ho; cases he; exact ⟨ho, hk⟩
        · cases he
      · rintro ⟨h1, h2⟩; exact ⟨_, _, by rw [if_pos h1], h2⟩
    | false =>
      simp only [Bool.false_eq_true, if_false, Option.map_eq_some_iff]
      apply propext; constructor
      · rintro ⟨r, h', ⟨x, h1, h2⟩, hk⟩; cases h2; exact ⟨_, h1, hk⟩
      · rintro ⟨v, h1, h2⟩; exact ⟨v, h, ⟨v, h1, rfl⟩, h2⟩
  generalize evT t a = x
  cases x with
  | fp cs off => exact cells cs off
  | rp id i off =>
    simp only [b4j]
    apply propext; constructor
    · rintro ⟨r, h', he, hk⟩
      simp only [Option.bind_eq_some_iff] at he
      obtain ⟨⟨sz, es⟩, h1, cs, h2, he⟩ := he
      exact ⟨sz, es, cs, h1, h2, by rw [← cells]; exact ⟨r, h', he, hk⟩⟩
    · rintro ⟨sz, es, cs, h1, h2, h3⟩
      rw [← cells] at h3
      obtain ⟨r, h', he, hk⟩ := h3
      exact ⟨r, h', by simp only [h1, Option.bind_some, h2]; exact he, hk⟩
  | _ => simp
theorem g2a {n a x} : op1 O (.store n a x) t h k = c2t n (evT t a) (evT t x) h fun h' => k .dead h' := by
  simp only [op1, eff, c2t]
  generalize evT t a = y
  cases y with
  | rp id i off =>
    simp only [b4j]
    apply propext; constructor
    · rintro ⟨r, h', he, hk⟩
      simp only [Option.bind_eq_some_iff] at he
      obtain ⟨⟨sz, es⟩, h1, cs, h2, he⟩ := he
      split at he
      · rename_i hc; cases he; exact ⟨sz, es, cs, h1, h2, hc.1, hc.2.1, hc.2.2, hk⟩
      · cases he
    · rintro ⟨sz, es, cs, h1, h2, h3, h4, h5, h6⟩
      exact ⟨_, _, by simp only [h1, Option.bind_some, h2]; rw [if_pos ⟨h3, h4, h5⟩], h6⟩
  | _ => simp
theorem g18 {x} : op1 O (.nilck x) t h k = c2a (evT t x) h fun v => k v h := by
  simp only [op1, eff, c2a]
  generalize evT t x = y
  cases y with
  | rp id i off =>
    cases ho : h.ob id with
    | none => simp only [ho, Option.bind_none, ex0, Option.isSome_none, Bool.false_eq_true, false_and]
    | some o => simp only [ho, Option.bind_some, ex1, Option.isSome_some, true_and]
  | fp cs off => exact ex1
  | fn f a b => first | exact ex1 | exact ex0
  | _ => exact ex0
theorem g12 {o x} : op1 O (.fldA o x) t h k = c07 o (evT t x) h fun v => k v h := by
  simp only [op1, eff, c07]
  generalize evT t x = y
  cases y with
  | rp id i off =>
    cases ho : h.ob id with
    | none => simp only [ho, Option.bind_none, ex0, Option.isSome_none, Bool.false_eq_true, false_and]
    | some o => simp only [ho, Option.bind_some, ex1, Option.isSome_some, true_and]
  | fp cs off => exact ex1
  | fn f a b => first | exact ex1 | exact ex0
  | _ => exact ex0
theorem g13 {n x i} : op1 O (.ixA n x i) t h k = c1j n (evT t x) (evT t i) h fun v => k v h := by
  simp only [op1, eff, c1j]
  generalize evT t x = y
  generalize evT t i = z
  cases y with
  | fs sz es =>
    cases z with
    | v w => cases w with
      | int kd j =>
        simp only [b38]
        apply propext; constructor
        · rintro ⟨r, h', he, hk⟩
          split at he
          · rename_i hc
            simp only [Option.map_eq_some_iff] at he
            obtain ⟨cs, h1, h2⟩ := he
            cases h2
            exact ⟨hc.1, cs, hc.2, h1, hk⟩
          · cases he
        · rintro ⟨h1, cs, h2, h3, h4⟩
          exact ⟨_, _, by rw [if_pos ⟨h1, h2⟩, h3]; rfl, h4⟩
      | _ => simp
    | _ => simp
  | rs id lo len =>
    cases z with
    | v w => cases w with
      | int kd j =>
        simp only [obK]
        apply propext; constructor
        · rintro ⟨r, h', he, hk⟩
          simp only [Option.bind_eq_some_iff] at he
          obtain ⟨⟨sz, es⟩, h1, he⟩ := he
          split at he
          · rename_i hc; cases he; exact ⟨sz, es, h1, hc.1, hc.2.1, hc.2.2, hk⟩
          · cases he
        · rintro ⟨sz, es, h1, h2, h3, h4, h5⟩
          exact ⟨_, _, by simp only [h1, Option.bind_some]; rw [if_pos ⟨h2, h3, h4⟩], h5⟩
      | _ => simp
    | _ => simp
  | _ => simp
theorem g1w {op e x y} : op1 O (.bin op e x y) t h k = b0y op e (evT t x) (evT t y) fun v => k v h := by
  simp only [op1, eff, b0y, Option.map_eq_some_iff]
  apply propext; constructor
  · rintro ⟨r, h', ⟨v, h1, h2⟩, hk⟩; cases h2; exact ⟨_, h1, hk⟩
  · rintro ⟨v, h1, h2⟩; exact ⟨v, h, ⟨v, h1, rfl⟩, h2⟩
theorem g2b {op x} : op1 O (.un op x) t h k = unK op (evT t x) fun v => k v h := by
  simp only [op1, eff, unK, Option.map_eq_some_iff]
  apply propext; constructor
  · rintro ⟨r, h', ⟨v, h1, h2⟩, hk⟩; cases h2; exact ⟨_, h1, hk⟩
  · rintro ⟨v, h1, h2⟩; exact ⟨v, h, ⟨v, h1, rfl⟩, h2⟩
theorem g14 {x} : op1 O (.len false x) t h k = b3z (evT t x) fun n => k (I n) h := by
  simp only [op1, eff, b3z, Bool.false_eq_true, if_false, Option.map_eq_some_iff]
  apply propext; constructor
  · rintro ⟨r, h', ⟨v, h1, h2⟩, hk⟩; cases h2; exact ⟨_, h1, hk⟩
  · rintro ⟨v, h1, h2⟩; exact ⟨_, h, ⟨v, h1, rfl⟩, h2⟩
theorem g11 {x i} : op1 O (.ext x i) t h k = c0v (evT t x) i fun v => k v h := by
  simp only [op1, eff, c0v]
  generalize evT t x = y
  cases y with
  | tup vs =>
    simp only [b2m, Option.map_eq_some_iff]
    apply propext; constructor
    · rintro ⟨r, h', ⟨v, h1, h2⟩, hk⟩; cases h2; exact ⟨_, h1, hk⟩
    · rintro ⟨v, h1, h2⟩; exact ⟨v, h, ⟨v, h1, rfl⟩, h2⟩
  | _ => simp
theorem g16 {f a b} : op1 O (.mkfn f a b) t h k = k (.fn f (a.map (evT t)) (b.map (evT t))) h := by simp only [op1, eff, ex1]
theorem g1z {f l} : op1 O (.call f l) t h k = b37 O f (l.map (evT t)) h k := rfl
theorem g10 {f l} : op1 O (.callv f l) t h k = ∃ n a b, callee (evT t f) = some (n, a, b) ∧ b37 O n (a ++ l.map (evT t) ++ b) h k := rfl
end
section
variable {O : Orac} {d : Option Nat} {g : Nat} {b0 : Bool} {r : List XO} {K : Slots → Heap → Prop} {t : Slots} {h : Heap}
theorem d0z {x} : b0a O (⟨d, none, .mv x⟩ :: r) K t h = op1 O (.mv x) t h (fun v h' => b0a O r K (b0b t d v) h') := b1f rfl
theorem d3s {x} : b0a O (⟨d, some (g, b0), .mv x⟩ :: r) K t h = b1p (t g) b0 (op1 O (.mv x) (upd t g (B b0)) h (fun v h' => b0a O r K (b0b (upd t g (B b0)) d v) h')) (b0a O r K (b0b (upd t g (B (!b0))) d U) h) (b0a O r K (b0b t d U) h) := b1g rfl
theorem d01 {c a b} : b0a O (⟨d, none, .pick c a b⟩ :: r) K t h = op1 O (.pick c a b) t h (fun v h' => b0a O r K (b0b t d v) h') := b1f rfl
theorem d3u {c a b} : b0a O (⟨d, some (g, b0), .pick c a b⟩ :: r) K t h = b1p (t g) b0 (op1 O (.pick c a b) (upd t g (B b0)) h (fun v h' => b0a O r K (b0b (upd t g (B b0)) d v) h')) (b0a O r K (b0b (upd t g (B (!b0))) d U) h) (b0a O r K (b0b t d U) h) := b1g rfl
theorem d0d {x} : b0a O (⟨d, none, .boxF x⟩ :: r) K t h = op1 O (.boxF x) t h (fun v h' => b0a O r K (b0b t d v) h') := b1f rfl
theorem d3j {x} : b0a O (⟨d, some (g, b0), .boxF x⟩ :: r) K t h = b1p (t g) b0 (op1 O (.boxF x) (upd t g (B b0)) h (fun v h' => b0a O r K (b0b (upd t g (B b0)) d v) h')) (b0a O r K (b0b (upd t g (B (!b0))) d U) h) (b0a O r K (b0b t d U) h) := b1g rfl
theorem d0c {x} : b0a O (⟨d, none, .box x⟩ :: r) K t h = op1 O (.box x) t h (fun v h' => b0a O r K (b0b t d v) h') := b1f rfl
theorem d3i {x} : b0a O (⟨d, some (g, b0), .box x⟩ :: r) K t h = b1p (t g) b0 (op1 O (.box x) (upd t g (B b0)) h (fun v h' => b0a O r K (b0b (upd t g (B b0)) d v) h')) (b0a O r K (b0b (upd t g (B (!b0))) d U) h) (b0a O r K (b0b t d U) h) := b1g rfl
theorem d0a {zs} : b0a O (⟨d, none, .alloc zs⟩ :: r) K t h = op1 O (.alloc zs) t h (fun v h' => b0a O r K (b0b t d v) h') := b1f rfl
theorem d3g {zs} : b0a O (⟨d, some (g, b0), .alloc zs⟩ :: r) K t h = b1p (t g) b0 (op1 O (.alloc zs) (upd t g (B b0)) h (fun v h' => b0a O r K (b0b (upd t g (B b0)) d v) h')) (b0a O r K (b0b (upd t g (B (!b0))) d U) h) (b0a O r K (b0b t d U) h) := b1g rfl
theorem d0t {agg n a} : b0a O (⟨d, none, .load agg n a⟩ :: r) K t h = op1 O (.load agg n a) t h (fun v h' => b0a O r K (b0b t d v) h') := b1f rfl
theorem d3q {agg n a} : b0a O (⟨d, some (g, b0), .load agg n a⟩ :: r) K t h = b1p (t g) b0 (op1 O (.load agg n a) (upd t g (B b0)) h (fun v h' => b0a O r K (b0b (upd t g (B b0)) d v) h')) (b0a O r K (b0b (upd t g (B (!b0))) d U) h) (b0a O r K (b0b t d U) h) := b1g rfl
theorem d05 {n a x} : b0a O (⟨d, none, .store n a x⟩ :: r) K t h = op1 O (.store n a x) t h (fun v h' => b0a O r K (b0b t d v) h') := b1f rfl
theorem d3v {n a x} : b0a O (⟨d, some (g, b0), .store n a x⟩ :: r) K t h = b1p (t g) b0 (op1 O (.store n a x) (upd t g (B b0)) h (fun v h' => b0a O r K (b0b (upd t g (B b0)) d v) h')) (b0a O r K (b0b (upd t g (B (!b0))) d U) h) (b0a O r K (b0b t d U) h) := b1g rfl
theorem d00 {x} : b0a O (⟨d, none, .nilck x⟩ :: r) K t h = op1 O (.nilck x) t h (fun v h' => b0a O r K (b0b t d v) h') := b1f rfl
theorem d3t {x} : b0a O (⟨d, some (g, b0), .nilck x⟩ :: r) K t h = b1p (t g) b0 (op1 O (.nilck x) (upd t g (B b0)) h (fun v h' => b0a O r K (b0b (upd t g (B b0)) d v) h')) (b0a O r K (b0b (upd t g (B (!b0))) d U) h) (b0a O r K (b0b t d U) h) := b1g rfl
theorem d0n {o x} : b0a O (⟨d, none, .fldA o x⟩ :: r) K t h = op1 O (.fldA o x) t h (fun v h' => b0a O r K (b0b t d v) h') := b1f rfl
theorem d3n {o x} : b0a O (⟨d, some (g, b0), .fldA o x⟩ :: r) K t h = b1p (t g) b0 (op1 O (.fldA o x) (upd t g (B b0)) h (fun v h' => b0a O r K (b0b (upd t g (B b0)) d v) h')) (b0a O r K (b0b (upd t g (B (!b0))) d U) h) (b0a O r K (b0b t d U) h) := b1g rfl
theorem d0o {n x i} : b0a O (⟨d, none, .ixA n x i⟩ :: r) K t h = op1 O (.ixA n x i) t h (fun v h' => b0a O r K (b0b t d v) h') := b1f rfl
theorem d3o {n x i} : b0a O (⟨d, some (g, b0), .ixA n x i⟩ :: r) K t h = b1p (t g) b0 (op1 O (.ixA n x i) (upd t g (B b0)) h (fun v h' => b0a O r K (b0b (upd t g (B b0)) d v) h')) (b0a O r K (b0b (upd t g (B (!b0))) d U) h) (b0a O r K (b0b t d U) h) := b1g rfl
theorem d0b {op e x y} : b0a O (⟨d, none, .bin op e x y⟩ :: r) K t h = op1 O (.bin op e x y) t h (fun v h' => b0a O r K (b0b t d v) h') := b1f rfl
theorem d3h {op e x y} : b0a O (⟨d, some (g, b0), .bin op e x y⟩ :: r) K t h = b1p (t g) b0 (op1 O (.bin op e x y) (upd t g (B b0)) h (fun v h' => b0a O r K (b0b (upd t g (B b0)) d v) h')) (b0a O r K (b0b (upd t g (B (!b0))) d U) h) (b0a O r K (b0b t d U) h) := b1g rfl
theorem d06 {op x} : b0a O (⟨d, none, .un op x⟩ :: r) K t h = op1 O (.un op x) t h (fun v h' => b0a O r K (b0b t d v) h') := b1f rfl
theorem d3w {op x} : b0a O (⟨d, some (g, b0), .un op x⟩ :: r) K t h = b1p (t g) b0 (op1 O (.un op x) (upd t g (B b0)) h (fun v h' => b0a O r K (b0b (upd t g (B b0)) d v) h')) (b0a O r K (b0b (upd t g (B (!b0))) d U) h) (b0a O r K (b0b t d U) h) := b1g rfl
theorem d0s {x} : b0a O (⟨d, none, .len false x⟩ :: r) K t h = op1 O (.len false x) t h (fun v h' => b0a O r K (b0b t d v) h') := b1f rfl
theorem d3p {x} : b0a O (⟨d, some (g, b0), .len false x⟩ :: r) K t h = b1p (t g) b0 (op1 O (.len false x) (upd t g (B b0)) h (fun v h' => b0a O r K (b0b (upd t g (B b0)) d v) h')) (b0a O r K (b0b (upd t g (B (!b0))) d U) h) (b0a O r K (b0b t d U) h) := b1g rfl
theorem d0i {x i} : b0a O (⟨d, none, .ext x i⟩ :: r) K t h = op1 O (.ext x i) t h (fun v h' => b0a O r K (b0b t d v) h') := b1f rfl
theorem d3m {x i} : b0a O (⟨d, some (g, b0), .ext x i⟩ :: r) K t h = b1p (t g) b0 (op1 O (.ext x i) (upd t g (B b0)) h (fun v h' => b0a O r K (b0b (upd t g (B b0)) d v) h')) (b0a O r K (b0b (upd t g (B (!b0))) d U) h) (b0a O r K (b0b t d U) h) := b1g rfl
theorem d0y {f a b} : b0a O (⟨d, none, .mkfn f a b⟩ :: r) K t h = op1 O (.mkfn f a b) t h (fun v h' => b0a O r K (b0b t d v) h') := b1f rfl
theorem d3r {f a b} : b0a O (⟨d, some (g, b0), .mkfn f a b⟩ :: r) K t h = b1p (t g) b0 (op1 O (.mkfn f a b) (upd t g (B b0)) h (fun v h' => b0a O r K (b0b (upd t g (B b0)) d v) h')) (b0a O r K (b0b (upd t g (B (!b0))) d U) h) (b0a O r K (b0b t d U) h) := b1g rfl
theorem d0e {f l} : b0a O (⟨d, none, .call f l⟩ :: r) K t h = op1 O (.call f l) t h (fun v h' => b0a O r K (b0b t d v) h') := b1f rfl
theorem d3k {f l} : b0a O (⟨d, some (g, b0), .call f l⟩ :: r) K t h = b1p (t g) b0 (op1 O (.call f l) (upd t g (B b0)) h (fun v h' => b0a O r K (b0b (upd t g (B b0)) d v) h')) (b0a O r K (b0b (upd t g (B (!b0))) d U) h) (b0a O r K (b0b t d U) h) := b1g rfl
theorem d0f {f l} : b0a O (⟨d, none, .callv f l⟩ :: r) K t h = op1 O (.callv f l) t h (fun v h' => b0a O r K (b0b t d v) h') := b1f rfl
theorem d3l {f l} : b0a O (⟨d, some (g, b0), .callv f l⟩ :: r) K t h = b1p (t g) b0 (op1 O (.callv f l) (upd t g (B b0)) h (fun v h' => b0a O r K (b0b (upd t g (B b0)) d v) h')) (b0a O r K (b0b (upd t g (B (!b0))) d U) h) (b0a O r K (b0b t d U) h) := b1g rfl
end
section
variable {k : AV → Prop} {h : Heap}
theorem d1a {n cs off} : b3f false n cs off k = b2m cs off k := by simp [b3f]
theorem d1b {n cs off} : b3f true n cs off k = (off + n ≤ cs.length ∧ k (.agg ((cs.drop off).take n))) := by simp [b3f]
theorem d3x {c cs} : b2m (c :: cs) 0 k = k c := by simp [b2m]
theorem d3y {c cs n} : b2m (c :: cs) (n + 1) k = b2m cs n k := by simp [b2m]
theorem c71 {sz es i} {k : Nat → List (List AV) → List AV → Prop} : b4j (some (sz, es)) i k = ∃ cs, es[i]? = some cs ∧ k sz es cs := by
  apply propext; constructor
  · rintro ⟨a, b, c, h1, h2, h3⟩; cases h1; exact ⟨c, h2, h3⟩
  · rintro ⟨c, h2, h3⟩; exact ⟨_, _, c, rfl, h2, h3⟩
theorem g3m {sz cs} {k : Nat → List (List AV) → List AV → Prop} : b4j (some (sz, [cs])) 0 k = k sz [cs] cs := by simp [c71]
theorem g1i {sz es} {k : Nat → List (List AV) → Prop} : obK (some (sz, es)) k = k sz es := by
  apply propext; constructor
  · rintro ⟨a, b, h1, h2⟩; cases h1; exact h2
  · exact fun h => ⟨_, _, rfl, h⟩
theorem d2y {α β : Type} {f : α → β} {l : List α} {i : Int} {k : β → Prop} : b38 (l.map f) i k = b38 l i fun a => k (f a) := by
  simp only [b38, List.getElem?_map, Option.map_eq_some_iff]
  apply propext; constructor
  · rintro ⟨b, h1, ⟨a, h2, rfl⟩, h3⟩; exact ⟨a, h1, h2, h3⟩
  · rintro ⟨a, h1, h2, h3⟩; exact ⟨_, h1, ⟨a, h2, rfl⟩, h3⟩
theorem c9y {cs} {k : List AV → Prop} : b17 (.agg cs) k = k cs := by simp [b17, b02, cellsOf]
theorem c91 {kd n} {k : List AV → Prop} : b17 (.v (.int kd n)) k = k [.v (.int kd n)] := by simp [b17, b02, cellsOf, Value.oneCell']
theorem c9z {b} {k : List AV → Prop} : b17 (.v (.bool b)) k = k [.v (.bool b)] := by simp [b17, b02, cellsOf, Value.oneCell']
theorem c93 {a b c} {k : List AV → Prop} : b17 (.v (.slice a b c)) k = k [.v (.slice a b c)] := by simp [b17, b02, cellsOf, Value.oneCell']
theorem c90 {sz es} {k : List AV → Prop} : b17 (.fs sz es) k = k [.fs sz es] := by simp [b17, b02, cellsOf]
theorem c92 {a b c} {k : List AV → Prop} : b17 (.rs a b c) k = k [.rs a b c] := by simp [b17, b02, cellsOf]
theorem d7p {sz es} {k : Int → Prop} : b3z (.fs sz es) k = k es.length := by simp [b3z, b1k]
theorem d7r {id lo len} {k : Int → Prop} : b3z (.rs id lo len) k = k len := by simp [b3z, b1k]
theorem d7q {k : Int → Prop} : b3z (.v (.slice none 0 0)) k = k 0 := by simp [b3z, b1k]
theorem b2r {op e kd a b} {r : Value} (hr : b1x op kd a kd b = some r) : b0y op e (.v (.int kd a)) (.v (.int kd b)) k = k (.v r) := by simp [b0y, b10, hr]
section
variable {e : EqK} {kd : IntKind} {a b : Int}
theorem c9l : b0y .add e (.v (.int kd a)) (.v (.int kd b)) k = k (.v (.int kd (kd.wrap (a + b)))) := b2r (by simp [b1x, b16])
theorem c9v : b0y .sub e (.v (.int kd a)) (.v (.int kd b)) k = k (.v (.int kd (kd.wrap (a - b)))) := b2r (by simp [b1x, b16])
theorem c9t : b0y .mul e (.v (.int kd a)) (.v (.int kd b)) k = k (.v (.int kd (kd.wrap (a * b)))) := b2r (by simp [b1x, b16])
theorem c9o : b0y .eql e (.v (.int kd a)) (.v (.int kd b)) k = k (B (decide (a = b))) := b2r (by simp only [b1x, b16, if_true]; by_cases h : a = b <;> simp [h])
theorem c9u : b0y .neq e (.v (.int kd a)) (.v (.int kd b)) k = k (B (decide (¬ a = b))) := b2r (by simp only [b1x, b16, if_true]; by_cases h : a = b <;> simp [h])
theorem c9s : b0y .lss e (.v (.int kd a)) (.v (.int kd b)) k = k (B (decide (a < b))) := b2r (by simp [b1x, b16])
theorem c9r : b0y .leq e (.v (.int kd a)) (.v (.int kd b)) k = k (B (decide (a ≤ b))) := b2r (by simp [b1x, b16])
theorem c9q : b0y .gtr e (.v (.int kd a)) (.v (.int kd b)) k = k (B (decide (b < a))) := b2r (by simp [b1x, b16])
theorem c9p : b0y .geq e (.v (.int kd a)) (.v (.int kd b)) k = k (B (decide (b ≤ a))) := b2r (by simp [b1x, b16])
theorem c9m {a b : Bool} : b0y .eql .bool (B a) (B b) k = k (B (b3s a b)) := by simp [b0y, b10, b1l, b3s]
theorem c9n {a b : Bool} : b0y .neq .bool (B a) (B b) k = k (B (!(b3s a b))) := by simp [b0y, b10, b1l, b3s]
end
theorem g4p {b : Bool} : unK .not (B b) k = k (B (!b)) := by simp [unK, b4l]
theorem g4o {kd a} : unK .neg (.v (.int kd a)) k = k (.v (.int kd (kd.wrap (0 - a)))) := by simp [unK, b4l]
theorem d95 {o : Ob} : (h.new o).ob h.nx = some o := by simp [Heap.new]
theorem d94 {o : Ob} : (h.new o).nx = nxs h.nx := by simp [Heap.new, nxs]
theorem g4t {o id} : (h.upd id o).ob id = o := by simp [Heap.upd]
theorem g4r {o id} : (h.upd id o).nx = h.nx := by simp [Heap.upd]
theorem c0s {t : Slots} {n} : evT t (.t n) = t n := rfl
theorem c0r {t : Slots} {v} : evT t (.c v) = .v v := rfl
theorem d21 {t : Slots} {n} : evT t (.tf n) = b4b (t n) := rfl
theorem d3d {cs off} : b4b (.fp cs off) = .fp cs off := rfl
theorem d3e {sz es} : b4b (.fs sz es) = .fs sz es := rfl
theorem d20 {t : Slots} {n cs} : evT t (.g n cs) = .fp (cs.map .v) 0 := rfl
theorem d2z {t : Slots} {n} : evT t (.f n) = .fn n [] [] := rfl
theorem g27 {t : Slots} {n x} : b0b t (some n) x = upd t n x := rfl
theorem g26 {t : Slots} {x} : b0b t none x = t := rfl
end
theorem c2w {n : Int} (h1 : -9223372036854775808 ≤ n) (h2 : n < 9223372036854775808) : IntKind.i64.wrap n = n := by
  unfold IntKind.wrap
  simp only [IntKind.bits, IntKind.signed, Bool.true_and]
  split <;> rename_i h <;> simp at h <;> omega
attribute [go_sem] d21 d3d d3e c0s c0r d2z d20 g27 g26 b9r b9q d95 d94 g4t g4r
attribute [go_sem ↓] b00 b2y b0s b6g b1o b0h b27 b0u b0g b0t b26 b25
end Go.Nw
