/- One rule for each operation. -/
import Derived.Test.YteoedeeljnboeaaNwVcg
set_option linter.all false
set_option linter.unusedVariables false
set_option linter.unusedSimpArgs false
set_option linter.unusedSectionVars false
namespace Go.Nw

/-- The next number. -/
def nxs (n : Nat) : Nat := n + 1
def beqB (a b : Bool) : Bool := a == b
/-- The element of a list at a number, which must be in range. -/
def elemK {α : Type} (l : List α) (i : Int) (k : α → Prop) : Prop := ∃ a, 0 ≤ i ∧ l[i.toNat]? = some a ∧ k a
def getK (cs : List AV) (i : Nat) (k : AV → Prop) : Prop := ∃ v, cs[i]? = some v ∧ k v
def cellsK (agg : Bool) (n : Nat) (cs : List AV) (off : Nat) (k : AV → Prop) : Prop := if agg then off + n ≤ cs.length ∧ k (.agg ((cs.drop off).take n)) else getK cs off k
def rowK (o : Option Ob) (i : Nat) (k : Nat → List (List AV) → List AV → Prop) : Prop := ∃ sz es cs, o = some (sz, es) ∧ es[i]? = some cs ∧ k sz es cs
def obK (o : Option Ob) (k : Nat → List (List AV) → Prop) : Prop := ∃ sz es, o = some (sz, es) ∧ k sz es
def loadK (agg : Bool) (n : Nat) (x : AV) (h : Heap) (k : AV → Prop) : Prop :=
  match x with
  | .fp cs off => cellsK agg n cs off k
  | .rp id i off => rowK (h.ob id) i fun _ _ cs => cellsK agg n cs off k
  | _ => False
def storeK (n : Nat) (a x : AV) (h : Heap) (k : Heap → Prop) : Prop :=
  match a with
  | .rp id i off => rowK (h.ob id) i fun sz es cs => okCells x = true ∧ (cellsOf x).length = n ∧ off + n ≤ cs.length ∧ k (h.upd id (some (sz, es.set i (cs.take off ++ cellsOf x ++ cs.drop (off + n)))))
  | _ => False
def pickK (c : AV) (p q : Prop) : Prop := match c with | .v (.bool true) => p | .v (.bool false) => q | _ => False
def boxK (x : AV) (k : List AV → Prop) : Prop := okCells x = true ∧ k (cellsOf x)
def nilckK (x : AV) (h : Heap) (k : AV → Prop) : Prop :=
  match x with | .fp cs off => k (.fp cs off) | .rp id i off => (h.ob id).isSome = true ∧ k (.rp id i off) | .fn f a b => k (.fn f a b) | _ => False
def fldAK (off : Nat) (x : AV) (h : Heap) (k : AV → Prop) : Prop := match x with | .fp cs o => k (.fp cs (o + off)) | .rp id i o => (h.ob id).isSome = true ∧ k (.rp id i (o + off)) | _ => False
def ixAK (n : Nat) (x i : AV) (h : Heap) (k : AV → Prop) : Prop :=
  match x, i with
  | .fs sz es, .v (.int _ j) => sz = n ∧ elemK es j fun cs => k (.fp cs 0)
  | .rs id lo len, .v (.int _ j) => obK (h.ob id) fun sz _ => sz = n ∧ 0 ≤ j ∧ j < len ∧ k (.rp id (lo + j.toNat) 0)
  | _, _ => False
def binK (op : BinOp) (e : EqK) (x y : AV) (k : AV → Prop) : Prop := ∃ r, binop op e x y = some r ∧ k r
def unK (op : UnOp) (x : AV) (k : AV → Prop) : Prop := ∃ r, unop op x = some r ∧ k r
def lenK (x : AV) (k : Int → Prop) : Prop := ∃ n, sliceLen x = some n ∧ k n
def extK (x : AV) (i : Nat) (k : AV → Prop) : Prop := match x with | .tup vs => getK vs i k | _ => False

section
variable {O : Orac} {t : Slots} {h : Heap} {k : AV → Heap → Prop}

theorem ex1 {a : AV} {b : Heap} {k : AV → Heap → Prop} : (∃ r h', some (a, b) = some (r, h') ∧ k r h') = k a b := by
  apply propext; constructor
  · rintro ⟨r, h', e, hk⟩; cases e; exact hk
  · exact fun hk => ⟨_, _, rfl, hk⟩
theorem ex0 {k : AV → Heap → Prop} : (∃ r h', (none : Option (AV × Heap)) = some (r, h') ∧ k r h') = False := by simp

theorem op1_mv {x} : op1 O (.mv x) t h k = k (evT t x) h := by simp only [op1, eff, ex1]
theorem op1_pick {c a b} : op1 O (.pick c a b) t h k = pickK (evT t c) (k (evT t a) h) (k (evT t b) h) := by
  simp only [op1, eff]
  generalize evT t c = x
  cases x with
  | v y => cases y with
    | bool z => cases z <;> simp only [pickK, ex1, if_true, Bool.false_eq_true, if_false]
    | _ => simp only [pickK, ex0]
  | _ => simp only [pickK, ex0]
theorem op1_boxF {x} : op1 O (.boxF x) t h k = boxK (evT t x) fun cs => k (.fp cs 0) h := rfl
theorem op1_box {x} : op1 O (.box x) t h k = boxK (evT t x) fun cs => k (.rp h.nx 0 0) (h.new (cs.length, [cs])) := by
  simp only [op1, eff, boxK]
  apply propext; constructor
  · rintro ⟨r, h', he, hk⟩; split at he
    · rename_i ho; cases he; exact ⟨ho, hk⟩
    · cases he
  · rintro ⟨h1, h2⟩; exact ⟨_, _, by rw [if_pos h1], h2⟩
theorem op1_alloc {zs} : op1 O (.alloc zs) t h k = k (.rp h.nx 0 0) (h.new (zs.length, [zs.map .v])) := by simp only [op1, eff, ex1]
theorem op1_load {agg n a} : op1 O (.load agg n a) t h k = loadK agg n (evT t a) h fun v => k v h := by
  simp only [op1, eff, loadK]
  have cells : ∀ cs off, (∃ r h', (if agg = true then (if off + n ≤ cs.length then some (AV.agg (List.take n (List.drop off cs)), h) else none) else Option.map (fun x => (x, h)) cs[off]?) = some (r, h') ∧ k r h') = cellsK agg n cs off fun v => k v h := by
    intro cs off
    unfold cellsK getK
    cases agg with
    | true =>
      simp only [if_true]
      apply propext; constructor
      · rintro ⟨r, h', he, hk⟩; split at he
        · rename_i ho; cases he; exact ⟨ho, hk⟩
        · cases he
      · rintro ⟨h1, h2⟩; exact ⟨_, _, by rw [if_pos h1], h2⟩
    | false =>
      simp only [Bool.false_eq_true, if_false, Option.map_eq_some_iff]
      apply propext; constructor
      · rintro ⟨r, h', ⟨x, h1, h2⟩, hk⟩; cases h2; exact ⟨_, h1, hk⟩
      · rintro ⟨v, h1, h2⟩; exact ⟨v, h, ⟨v, h1, rfl⟩, h2⟩
  generalize evT t a = x
  cases x with
  | fp cs off => exact cells cs off
  | rp id i off =>
    simp only [rowK]
    apply propext; constructor
    · rintro ⟨r, h', he, hk⟩
      simp only [Option.bind_eq_some_iff] at he
      obtain ⟨⟨sz, es⟩, h1, cs, h2, he⟩ := he
      exact ⟨sz, es, cs, h1, h2, by rw [← cells]; exact ⟨r, h', he, hk⟩⟩
    · rintro ⟨sz, es, cs, h1, h2, h3⟩
      rw [← cells] at h3
      obtain ⟨r, h', he, hk⟩ := h3
      exact ⟨r, h', by simp only [h1, Option.bind_some, h2]; exact he, hk⟩
  | _ => simp
theorem op1_store {n a x} : op1 O (.store n a x) t h k = storeK n (evT t a) (evT t x) h fun h' => k .dead h' := by
  simp only [op1, eff, storeK]
  generalize evT t a = y
  cases y with
  | rp id i off =>
    simp only [rowK]
    apply propext; constructor
    · rintro ⟨r, h', he, hk⟩
      simp only [Option.bind_eq_some_iff] at he
      obtain ⟨⟨sz, es⟩, h1, cs, h2, he⟩ := he
      split at he
      · rename_i hc; cases he; exact ⟨sz, es, cs, h1, h2, hc.1, hc.2.1, hc.2.2, hk⟩
      · cases he
    · rintro ⟨sz, es, cs, h1, h2, h3, h4, h5, h6⟩
      exact ⟨_, _, by simp only [h1, Option.bind_some, h2]; rw [if_pos ⟨h3, h4, h5⟩], h6⟩
  | _ => simp
theorem op1_nilck {x} : op1 O (.nilck x) t h k = nilckK (evT t x) h fun v => k v h := by
  simp only [op1, eff, nilckK]
  generalize evT t x = y
  cases y with
  | rp id i off =>
    cases ho : h.ob id with
    | none => simp only [ho, Option.bind_none, ex0, Option.isSome_none, Bool.false_eq_true, false_and]
    | some o => simp only [ho, Option.bind_some, ex1, Option.isSome_some, true_and]
  | fp cs off => exact ex1
  | fn f a b => first | exact ex1 | exact ex0
  | _ => exact ex0
theorem op1_fldA {o x} : op1 O (.fldA o x) t h k = fldAK o (evT t x) h fun v => k v h := by
  simp only [op1, eff, fldAK]
  generalize evT t x = y
  cases y with
  | rp id i off =>
    cases ho : h.ob id with
    | none => simp only [ho, Option.bind_none, ex0, Option.isSome_none, Bool.false_eq_true, false_and]
    | some o => simp only [ho, Option.bind_some, ex1, Option.isSome_some, true_and]
  | fp cs off => exact ex1
  | fn f a b => first | exact ex1 | exact ex0
  | _ => exact ex0
theorem op1_ixA {n x i} : op1 O (.ixA n x i) t h k = ixAK n (evT t x) (evT t i) h fun v => k v h := by
  simp only [op1, eff, ixAK]
  generalize evT t x = y
  generalize evT t i = z
  cases y with
  | fs sz es =>
    cases z with
    | v w => cases w with
      | int kd j =>
        simp only [elemK]
        apply propext; constructor
        · rintro ⟨r, h', he, hk⟩
          split at he
          · rename_i hc
            simp only [Option.map_eq_some_iff] at he
            obtain ⟨cs, h1, h2⟩ := he
            cases h2
            exact ⟨hc.1, cs, hc.2, h1, hk⟩
          · cases he
        · rintro ⟨h1, cs, h2, h3, h4⟩
          exact ⟨_, _, by rw [if_pos ⟨h1, h2⟩, h3]; rfl, h4⟩
      | _ => simp
    | _ => simp
  | rs id lo len =>
    cases z with
    | v w => cases w with
      | int kd j =>
        simp only [obK]
        apply propext; constructor
        · rintro ⟨r, h', he, hk⟩
          simp only [Option.bind_eq_some_iff] at he
          obtain ⟨⟨sz, es⟩, h1, he⟩ := he
          split at he
          · rename_i hc; cases he; exact ⟨sz, es, h1, hc.1, hc.2.1, hc.2.2, hk⟩
          · cases he
        · rintro ⟨sz, es, h1, h2, h3, h4, h5⟩
          exact ⟨_, _, by simp only [h1, Option.bind_some]; rw [if_pos ⟨h2, h3, h4⟩], h5⟩
      | _ => simp
    | _ => simp
  | _ => simp
theorem op1_bin {op e x y} : op1 O (.bin op e x y) t h k = binK op e (evT t x) (evT t y) fun v => k v h := by
  simp only [op1, eff, binK, Option.map_eq_some_iff]
  apply propext; constructor
  · rintro ⟨r, h', ⟨v, h1, h2⟩, hk⟩; cases h2; exact ⟨_, h1, hk⟩
  · rintro ⟨v, h1, h2⟩; exact ⟨v, h, ⟨v, h1, rfl⟩, h2⟩
theorem op1_un {op x} : op1 O (.un op x) t h k = unK op (evT t x) fun v => k v h := by
  simp only [op1, eff, unK, Option.map_eq_some_iff]
  apply propext; constructor
  · rintro ⟨r, h', ⟨v, h1, h2⟩, hk⟩; cases h2; exact ⟨_, h1, hk⟩
  · rintro ⟨v, h1, h2⟩; exact ⟨v, h, ⟨v, h1, rfl⟩, h2⟩
theorem op1_len {x} : op1 O (.len false x) t h k = lenK (evT t x) fun n => k (I n) h := by
  simp only [op1, eff, lenK, Bool.false_eq_true, if_false, Option.map_eq_some_iff]
  apply propext; constructor
  · rintro ⟨r, h', ⟨v, h1, h2⟩, hk⟩; cases h2; exact ⟨_, h1, hk⟩
  · rintro ⟨v, h1, h2⟩; exact ⟨_, h, ⟨v, h1, rfl⟩, h2⟩
theorem op1_ext {x i} : op1 O (.ext x i) t h k = extK (evT t x) i fun v => k v h := by
  simp only [op1, eff, extK]
  generalize evT t x = y
  cases y with
  | tup vs =>
    simp only [getK, Option.map_eq_some_iff]
    apply propext; constructor
    · rintro ⟨r, h', ⟨v, h1, h2⟩, hk⟩; cases h2; exact ⟨_, h1, hk⟩
    · rintro ⟨v, h1, h2⟩; exact ⟨v, h, ⟨v, h1, rfl⟩, h2⟩
  | _ => simp
theorem op1_mkfn {f a b} : op1 O (.mkfn f a b) t h k = k (.fn f (a.map (evT t)) (b.map (evT t))) h := by simp only [op1, eff, ex1]
theorem op1_call {f l} : op1 O (.call f l) t h k = callWp O f (l.map (evT t)) h k := rfl
theorem op1_callv {f l} : op1 O (.callv f l) t h k = ∃ n a b, callee (evT t f) = some (n, a, b) ∧ callWp O n (a ++ l.map (evT t) ++ b) h k := rfl
end

/- A list's first operation. -/
section
variable {O : Orac} {d : Option Nat} {g : Nat} {b0 : Bool} {r : List XO} {K : Slots → Heap → Prop} {t : Slots} {h : Heap}
theorem c_mv {x} : cops O (⟨d, none, .mv x⟩ :: r) K t h = op1 O (.mv x) t h (fun v h' => cops O r K (putT t d v) h') := cops_cons rfl
theorem g_mv {x} : cops O (⟨d, some (g, b0), .mv x⟩ :: r) K t h = guardU (t g) b0 (op1 O (.mv x) (upd t g (B b0)) h (fun v h' => cops O r K (putT (upd t g (B b0)) d v) h')) (cops O r K (putT (upd t g (B (!b0))) d U) h) (cops O r K (putT t d U) h) := cops_guardU rfl
theorem c_pick {c a b} : cops O (⟨d, none, .pick c a b⟩ :: r) K t h = op1 O (.pick c a b) t h (fun v h' => cops O r K (putT t d v) h') := cops_cons rfl
theorem g_pick {c a b} : cops O (⟨d, some (g, b0), .pick c a b⟩ :: r) K t h = guardU (t g) b0 (op1 O (.pick c a b) (upd t g (B b0)) h (fun v h' => cops O r K (putT (upd t g (B b0)) d v) h')) (cops O r K (putT (upd t g (B (!b0))) d U) h) (cops O r K (putT t d U) h) := cops_guardU rfl
theorem c_boxF {x} : cops O (⟨d, none, .boxF x⟩ :: r) K t h = op1 O (.boxF x) t h (fun v h' => cops O r K (putT t d v) h') := cops_cons rfl
theorem g_boxF {x} : cops O (⟨d, some (g, b0), .boxF x⟩ :: r) K t h = guardU (t g) b0 (op1 O (.boxF x) (upd t g (B b0)) h (fun v h' => cops O r K (putT (upd t g (B b0)) d v) h')) (cops O r K (putT (upd t g (B (!b0))) d U) h) (cops O r K (putT t d U) h) := cops_guardU rfl
theorem c_box {x} : cops O (⟨d, none, .box x⟩ :: r) K t h = op1 O (.box x) t h (fun v h' => cops O r K (putT t d v) h') := cops_cons rfl
theorem g_box {x} : cops O (⟨d, some (g, b0), .box x⟩ :: r) K t h = guardU (t g) b0 (op1 O (.box x) (upd t g (B b0)) h (fun v h' => cops O r K (putT (upd t g (B b0)) d v) h')) (cops O r K (putT (upd t g (B (!b0))) d U) h) (cops O r K (putT t d U) h) := cops_guardU rfl
theorem c_alloc {zs} : cops O (⟨d, none, .alloc zs⟩ :: r) K t h = op1 O (.alloc zs) t h (fun v h' => cops O r K (putT t d v) h') := cops_cons rfl
theorem g_alloc {zs} : cops O (⟨d, some (g, b0), .alloc zs⟩ :: r) K t h = guardU (t g) b0 (op1 O (.alloc zs) (upd t g (B b0)) h (fun v h' => cops O r K (putT (upd t g (B b0)) d v) h')) (cops O r K (putT (upd t g (B (!b0))) d U) h) (cops O r K (putT t d U) h) := cops_guardU rfl
theorem c_load {agg n a} : cops O (⟨d, none, .load agg n a⟩ :: r) K t h = op1 O (.load agg n a) t h (fun v h' => cops O r K (putT t d v) h') := cops_cons rfl
theorem g_load {agg n a} : cops O (⟨d, some (g, b0), .load agg n a⟩ :: r) K t h = guardU (t g) b0 (op1 O (.load agg n a) (upd t g (B b0)) h (fun v h' => cops O r K (putT (upd t g (B b0)) d v) h')) (cops O r K (putT (upd t g (B (!b0))) d U) h) (cops O r K (putT t d U) h) := cops_guardU rfl
theorem c_store {n a x} : cops O (⟨d, none, .store n a x⟩ :: r) K t h = op1 O (.store n a x) t h (fun v h' => cops O r K (putT t d v) h') := cops_cons rfl
theorem g_store {n a x} : cops O (⟨d, some (g, b0), .store n a x⟩ :: r) K t h = guardU (t g) b0 (op1 O (.store n a x) (upd t g (B b0)) h (fun v h' => cops O r K (putT (upd t g (B b0)) d v) h')) (cops O r K (putT (upd t g (B (!b0))) d U) h) (cops O r K (putT t d U) h) := cops_guardU rfl
theorem c_nilck {x} : cops O (⟨d, none, .nilck x⟩ :: r) K t h = op1 O (.nilck x) t h (fun v h' => cops O r K (putT t d v) h') := cops_cons rfl
theorem g_nilck {x} : cops O (⟨d, some (g, b0), .nilck x⟩ :: r) K t h = guardU (t g) b0 (op1 O (.nilck x) (upd t g (B b0)) h (fun v h' => cops O r K (putT (upd t g (B b0)) d v) h')) (cops O r K (putT (upd t g (B (!b0))) d U) h) (cops O r K (putT t d U) h) := cops_guardU rfl
theorem c_fldA {o x} : cops O (⟨d, none, .fldA o x⟩ :: r) K t h = op1 O (.fldA o x) t h (fun v h' => cops O r K (putT t d v) h') := cops_cons rfl
theorem g_fldA {o x} : cops O (⟨d, some (g, b0), .fldA o x⟩ :: r) K t h = guardU (t g) b0 (op1 O (.fldA o x) (upd t g (B b0)) h (fun v h' => cops O r K (putT (upd t g (B b0)) d v) h')) (cops O r K (putT (upd t g (B (!b0))) d U) h) (cops O r K (putT t d U) h) := cops_guardU rfl
theorem c_ixA {n x i} : cops O (⟨d, none, .ixA n x i⟩ :: r) K t h = op1 O (.ixA n x i) t h (fun v h' => cops O r K (putT t d v) h') := cops_cons rfl
theorem g_ixA {n x i} : cops O (⟨d, some (g, b0), .ixA n x i⟩ :: r) K t h = guardU (t g) b0 (op1 O (.ixA n x i) (upd t g (B b0)) h (fun v h' => cops O r K (putT (upd t g (B b0)) d v) h')) (cops O r K (putT (upd t g (B (!b0))) d U) h) (cops O r K (putT t d U) h) := cops_guardU rfl
theorem c_bin {op e x y} : cops O (⟨d, none, .bin op e x y⟩ :: r) K t h = op1 O (.bin op e x y) t h (fun v h' => cops O r K (putT t d v) h') := cops_cons rfl
theorem g_bin {op e x y} : cops O (⟨d, some (g, b0), .bin op e x y⟩ :: r) K t h = guardU (t g) b0 (op1 O (.bin op e x y) (upd t g (B b0)) h (fun v h' => cops O r K (putT (upd t g (B b0)) d v) h')) (cops O r K (putT (upd t g (B (!b0))) d U) h) (cops O r K (putT t d U) h) := cops_guardU rfl
theorem c_un {op x} : cops O (⟨d, none, .un op x⟩ :: r) K t h = op1 O (.un op x) t h (fun v h' => cops O r K (putT t d v) h') := cops_cons rfl
theorem g_un {op x} : cops O (⟨d, some (g, b0), .un op x⟩ :: r) K t h = guardU (t g) b0 (op1 O (.un op x) (upd t g (B b0)) h (fun v h' => cops O r K (putT (upd t g (B b0)) d v) h')) (cops O r K (putT (upd t g (B (!b0))) d U) h) (cops O r K (putT t d U) h) := cops_guardU rfl
theorem c_len {x} : cops O (⟨d, none, .len false x⟩ :: r) K t h = op1 O (.len false x) t h (fun v h' => cops O r K (putT t d v) h') := cops_cons rfl
theorem g_len {x} : cops O (⟨d, some (g, b0), .len false x⟩ :: r) K t h = guardU (t g) b0 (op1 O (.len false x) (upd t g (B b0)) h (fun v h' => cops O r K (putT (upd t g (B b0)) d v) h')) (cops O r K (putT (upd t g (B (!b0))) d U) h) (cops O r K (putT t d U) h) := cops_guardU rfl
theorem c_ext {x i} : cops O (⟨d, none, .ext x i⟩ :: r) K t h = op1 O (.ext x i) t h (fun v h' => cops O r K (putT t d v) h') := cops_cons rfl
theorem g_ext {x i} : cops O (⟨d, some (g, b0), .ext x i⟩ :: r) K t h = guardU (t g) b0 (op1 O (.ext x i) (upd t g (B b0)) h (fun v h' => cops O r K (putT (upd t g (B b0)) d v) h')) (cops O r K (putT (upd t g (B (!b0))) d U) h) (cops O r K (putT t d U) h) := cops_guardU rfl
theorem c_mkfn {f a b} : cops O (⟨d, none, .mkfn f a b⟩ :: r) K t h = op1 O (.mkfn f a b) t h (fun v h' => cops O r K (putT t d v) h') := cops_cons rfl
theorem g_mkfn {f a b} : cops O (⟨d, some (g, b0), .mkfn f a b⟩ :: r) K t h = guardU (t g) b0 (op1 O (.mkfn f a b) (upd t g (B b0)) h (fun v h' => cops O r K (putT (upd t g (B b0)) d v) h')) (cops O r K (putT (upd t g (B (!b0))) d U) h) (cops O r K (putT t d U) h) := cops_guardU rfl
theorem c_call {f l} : cops O (⟨d, none, .call f l⟩ :: r) K t h = op1 O (.call f l) t h (fun v h' => cops O r K (putT t d v) h') := cops_cons rfl
theorem g_call {f l} : cops O (⟨d, some (g, b0), .call f l⟩ :: r) K t h = guardU (t g) b0 (op1 O (.call f l) (upd t g (B b0)) h (fun v h' => cops O r K (putT (upd t g (B b0)) d v) h')) (cops O r K (putT (upd t g (B (!b0))) d U) h) (cops O r K (putT t d U) h) := cops_guardU rfl
theorem c_callv {f l} : cops O (⟨d, none, .callv f l⟩ :: r) K t h = op1 O (.callv f l) t h (fun v h' => cops O r K (putT t d v) h') := cops_cons rfl
theorem g_callv {f l} : cops O (⟨d, some (g, b0), .callv f l⟩ :: r) K t h = guardU (t g) b0 (op1 O (.callv f l) (upd t g (B b0)) h (fun v h' => cops O r K (putT (upd t g (B b0)) d v) h')) (cops O r K (putT (upd t g (B (!b0))) d U) h) (cops O r K (putT t d U) h) := cops_guardU rfl
end

/- The forms of what an operation looks at. -/
section
variable {k : AV → Prop} {h : Heap}
theorem cellsK_f {n cs off} : cellsK false n cs off k = getK cs off k := by simp [cellsK]
theorem cellsK_t {n cs off} : cellsK true n cs off k = (off + n ≤ cs.length ∧ k (.agg ((cs.drop off).take n))) := by simp [cellsK]
theorem getK_0 {c cs} : getK (c :: cs) 0 k = k c := by simp [getK]
theorem getK_s {c cs n} : getK (c :: cs) (n + 1) k = getK cs n k := by simp [getK]
theorem rowK_some {sz es i} {k : Nat → List (List AV) → List AV → Prop} : rowK (some (sz, es)) i k = ∃ cs, es[i]? = some cs ∧ k sz es cs := by
  apply propext; constructor
  · rintro ⟨a, b, c, h1, h2, h3⟩; cases h1; exact ⟨c, h2, h3⟩
  · rintro ⟨c, h2, h3⟩; exact ⟨_, _, c, rfl, h2, h3⟩
theorem rowK_one {sz cs} {k : Nat → List (List AV) → List AV → Prop} : rowK (some (sz, [cs])) 0 k = k sz [cs] cs := by simp [rowK_some]
theorem obK_some {sz es} {k : Nat → List (List AV) → Prop} : obK (some (sz, es)) k = k sz es := by
  apply propext; constructor
  · rintro ⟨a, b, h1, h2⟩; cases h1; exact h2
  · exact fun h => ⟨_, _, rfl, h⟩
theorem elemK_map {α β : Type} {f : α → β} {l : List α} {i : Int} {k : β → Prop} : elemK (l.map f) i k = elemK l i fun a => k (f a) := by
  simp only [elemK, List.getElem?_map, Option.map_eq_some_iff]
  apply propext; constructor
  · rintro ⟨b, h1, ⟨a, h2, rfl⟩, h3⟩; exact ⟨a, h1, h2, h3⟩
  · rintro ⟨a, h1, h2, h3⟩; exact ⟨_, h1, ⟨a, h2, rfl⟩, h3⟩

theorem boxK_agg {cs} {k : List AV → Prop} : boxK (.agg cs) k = k cs := by simp [boxK, okCells, cellsOf]
theorem boxK_int {kd n} {k : List AV → Prop} : boxK (.v (.int kd n)) k = k [.v (.int kd n)] := by simp [boxK, okCells, cellsOf, Value.oneCell']
theorem boxK_bool {b} {k : List AV → Prop} : boxK (.v (.bool b)) k = k [.v (.bool b)] := by simp [boxK, okCells, cellsOf, Value.oneCell']
theorem boxK_slice {a b c} {k : List AV → Prop} : boxK (.v (.slice a b c)) k = k [.v (.slice a b c)] := by simp [boxK, okCells, cellsOf, Value.oneCell']
theorem boxK_fs {sz es} {k : List AV → Prop} : boxK (.fs sz es) k = k [.fs sz es] := by simp [boxK, okCells, cellsOf]
theorem boxK_rs {a b c} {k : List AV → Prop} : boxK (.rs a b c) k = k [.rs a b c] := by simp [boxK, okCells, cellsOf]
theorem lenK_fs {sz es} {k : Int → Prop} : lenK (.fs sz es) k = k es.length := by simp [lenK, sliceLen]
theorem lenK_rs {id lo len} {k : Int → Prop} : lenK (.rs id lo len) k = k len := by simp [lenK, sliceLen]
theorem lenK_nil {k : Int → Prop} : lenK (.v (.slice none 0 0)) k = k 0 := by simp [lenK, sliceLen]
theorem binK_i {op e kd a b} {r : Value} (hr : intop op kd a kd b = some r) : binK op e (.v (.int kd a)) (.v (.int kd b)) k = k (.v r) := by simp [binK, binop, hr]
section
variable {e : EqK} {kd : IntKind} {a b : Int}
theorem binK_add : binK .add e (.v (.int kd a)) (.v (.int kd b)) k = k (.v (.int kd (kd.wrap (a + b)))) := binK_i (by simp [intop, binI])
theorem binK_sub : binK .sub e (.v (.int kd a)) (.v (.int kd b)) k = k (.v (.int kd (kd.wrap (a - b)))) := binK_i (by simp [intop, binI])
theorem binK_mul : binK .mul e (.v (.int kd a)) (.v (.int kd b)) k = k (.v (.int kd (kd.wrap (a * b)))) := binK_i (by simp [intop, binI])
theorem binK_eql : binK .eql e (.v (.int kd a)) (.v (.int kd b)) k = k (B (decide (a = b))) := binK_i (by simp only [intop, binI, if_true]; by_cases h : a = b <;> simp [h])
theorem binK_neq : binK .neq e (.v (.int kd a)) (.v (.int kd b)) k = k (B (decide (¬ a = b))) := binK_i (by simp only [intop, binI, if_true]; by_cases h : a = b <;> simp [h])
theorem binK_lss : binK .lss e (.v (.int kd a)) (.v (.int kd b)) k = k (B (decide (a < b))) := binK_i (by simp [intop, binI])
theorem binK_leq : binK .leq e (.v (.int kd a)) (.v (.int kd b)) k = k (B (decide (a ≤ b))) := binK_i (by simp [intop, binI])
theorem binK_gtr : binK .gtr e (.v (.int kd a)) (.v (.int kd b)) k = k (B (decide (b < a))) := binK_i (by simp [intop, binI])
theorem binK_geq : binK .geq e (.v (.int kd a)) (.v (.int kd b)) k = k (B (decide (b ≤ a))) := binK_i (by simp [intop, binI])
theorem binK_beql {a b : Bool} : binK .eql .bool (B a) (B b) k = k (B (beqB a b)) := by simp [binK, binop, eqop, beqB]
theorem binK_bneq {a b : Bool} : binK .neq .bool (B a) (B b) k = k (B (!(beqB a b))) := by simp [binK, binop, eqop, beqB]
end
theorem unK_not {b : Bool} : unK .not (B b) k = k (B (!b)) := by simp [unK, unop]
theorem unK_neg {kd a} : unK .neg (.v (.int kd a)) k = k (.v (.int kd (kd.wrap (0 - a)))) := by simp [unK, unop]
theorem new_ob_same {o : Ob} : (h.new o).ob h.nx = some o := by simp [Heap.new]
theorem new_nx {o : Ob} : (h.new o).nx = nxs h.nx := by simp [Heap.new, nxs]
theorem upd_ob_same {o id} : (h.upd id o).ob id = o := by simp [Heap.upd]
theorem upd_nx {o id} : (h.upd id o).nx = h.nx := by simp [Heap.upd]
theorem evT_t {t : Slots} {n} : evT t (.t n) = t n := rfl
theorem evT_c {t : Slots} {v} : evT t (.c v) = .v v := rfl
theorem evT_tf {t : Slots} {n} : evT t (.tf n) = frzOf (t n) := rfl
theorem frzOf_fp {cs off} : frzOf (.fp cs off) = .fp cs off := rfl
theorem frzOf_fs {sz es} : frzOf (.fs sz es) = .fs sz es := rfl
theorem evT_g {t : Slots} {n cs} : evT t (.g n cs) = .fp (cs.map .v) 0 := rfl
theorem evT_f {t : Slots} {n} : evT t (.f n) = .fn n [] [] := rfl
theorem putT_s {t : Slots} {n x} : putT t (some n) x = upd t n x := rfl
theorem putT_n {t : Slots} {x} : putT t none x = t := rfl
end

theorem wrap_id {n : Int} (h1 : -9223372036854775808 ≤ n) (h2 : n < 9223372036854775808) : IntKind.i64.wrap n = n := by
  unfold IntKind.wrap
  simp only [IntKind.bits, IntKind.signed, Bool.true_and]
  split <;> rename_i h <;> simp at h <;> omega

attribute [go_sem] evT_tf frzOf_fp frzOf_fs evT_t evT_c evT_f evT_g putT_s putT_n upd_same upd_ne new_ob_same new_nx upd_ob_same upd_nx

attribute [go_sem ↓] cw_skip cw_exit cw_ret cw_reg cw_block qseq_normal qseq_exit qseq_ret qblock_normal qblock_ret qblock_same qblock_ne
end Go.Nw
