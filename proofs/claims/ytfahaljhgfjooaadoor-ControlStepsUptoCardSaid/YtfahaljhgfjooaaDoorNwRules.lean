/- One rule for each operation. -/
import Derived.Test.YtfahaljhgfjooaaDoorNwVcg
set_option linter.all false
namespace Go.Nw
def nxs (n : Nat) : Nat := n + 1
def b5y (a b : Bool) : Bool := a == b
def b56 {α : Type} (l : List α) (i : Int) (k : α -> Prop) : Prop := ∃ a, 0 <= i /\ l[i.toNat]? = some a /\ k a
def b39 (cs : List AV) (i : Nat) (k : AV -> Prop) : Prop := ∃ v, cs[i]? = some v /\ k v
def b4w (agg : Bool) (n : Nat) (cs : List AV) (off : Nat) (k : AV -> Prop) : Prop := if agg then off + n <= cs.length /\ k (.agg ((cs.drop off).take n)) else b39 cs off k
def b6w (o : Option Ob) (i : Nat) (k : Nat -> List (List AV) -> List AV -> Prop) : Prop := ∃ sz es cs, o = some (sz, es) /\ es[i]? = some cs /\ k sz es cs
def obK (o : Option Ob) (k : Nat -> List (List AV) -> Prop) : Prop := ∃ sz es, o = some (sz, es) /\ k sz es
def c9p (agg : Bool) (n : Nat) (x : AV) (h : Heap) (k : AV -> Prop) : Prop :=
 match x with
 | .fp cs off => b4w agg n cs off k
 | .rp id i off => b6w (h.ob id) i fun _ _ cs => b4w agg n cs off k
 | _ => False
def d01 (n : Nat) (a x : AV) (h : Heap) (k : Heap -> Prop) : Prop :=
 match a with
 | .rp id i off => b6w (h.ob id) i fun sz es cs => b1v x = true /\ (cellsOf x).length = n /\ off + n <= cs.length /\ k (h.upd id (some (sz, es.set i (cs.take off ++ cellsOf x ++ cs.drop (off + n)))))
 | _ => False
def c02 (c : AV) (p q : Prop) : Prop := match c with | .v (.bool true) => p | .v (.bool false) => q | _ => False
def b3r (x : AV) (k : List AV -> Prop) : Prop := b1v x = true /\ k (cellsOf x)
def c93 (x : AV) (h : Heap) (k : AV -> Prop) : Prop :=
 match x with | .fp cs off => k (.fp cs off) | .rp id i off => (h.ob id).isSome = true /\ k (.rp id i off) | .fn f a b => k (.fn f a b) | _ => False
def c74 (off : Nat) (x : AV) (h : Heap) (k : AV -> Prop) : Prop := match x with | .fp cs o => k (.fp cs (o + off)) | .rp id i o => (h.ob id).isSome = true /\ k (.rp id i (o + off)) | _ => False
def c8n (n : Nat) (x i : AV) (h : Heap) (k : AV -> Prop) : Prop :=
 match x, i with
 | .fs sz es, .v (.int _ j) => sz = n /\ b56 es j fun cs => k (.fp cs 0)
 | .rs id lo len, .v (.int _ j) => obK (h.ob id) fun sz _ => sz = n /\ 0 <= j /\ j < len /\ k (.rp id (lo + j.toNat) 0)
 | _, _ => False
def b1j (op : BinOp) (e : EqK) (x y : AV) (k : AV -> Prop) : Prop := ∃ r, b2s op e x y = some r /\ k r
def unK (op : UnOp) (x : AV) (k : AV -> Prop) : Prop := ∃ r, b62 op x = some r /\ k r
def b5l (x : AV) (k : Int -> Prop) : Prop := ∃ n, b2j x = some n /\ k n
def c7w (x : AV) (i : Nat) (k : AV -> Prop) : Prop := match x with | .tup vs => b39 vs i k | _ => False
section
variable {O : Orac} {t : Slots} {h : Heap} {k : AV -> Heap -> Prop}
theorem ex1 {a : AV} {b : Heap} {k : AV -> Heap -> Prop} : (∃ r h', some (a, b) = some (r, h') /\ k r h') = k a b := by
 apply propext; constructor
 ·rintro ⟨r, h', e, hk⟩; cases e; exact hk
 ·exact fun hk => ⟨_, _, rfl, hk⟩
theorem ex0 {k : AV -> Heap -> Prop} : (∃ r h', (none : Option (AV × Heap)) = some (r, h') /\ k r h') = False := by simp
theorem j5r {x} : op1 O (.mv x) t h k = k (evT t x) h := by simp only [op1, eff, ex1]
theorem j5t {c a b} : op1 O (.pick c a b) t h k = c02 (evT t c) (k (evT t a) h) (k (evT t b) h) := by
 simp only [op1, eff]
 generalize evT t c = x
 cases x with
 | v y => cases y with
  | bool z => cases z <;> simp only [c02, ex1, if_true, fT9, if_false]
  | _ => simp only [c02, ex0]
 | _ => simp only [c02, ex0]
theorem j5i {x} : op1 O (.boxF x) t h k = b3r (evT t x) fun cs => k (.fp cs 0) h := rfl
theorem j5h {x} : op1 O (.box x) t h k = b3r (evT t x) fun cs => cs.isEmpty = false /\ k (.rp h.nx 0 0) (h.new (cs.length, [cs])) := by
 simp only [op1, eff, b3r]
 apply propext; constructor
 ·rintro ⟨r, h', he, hk⟩; split at he
  ·rename_i ho; cases he; exact ⟨ho.1, ho.2, hk⟩
  ·cases he
 ·rintro ⟨h1, h0, h2⟩; exact ⟨_, _, by rw [if_pos ⟨h1, h0⟩], h2⟩
theorem j5f {zs} : op1 O (.alloc zs) t h k = k (.rp h.nx 0 0) (h.new (zs.length, [zs.map .v])) := by simp only [op1, eff, ex1]
theorem j5p {agg n a} : op1 O (.load agg n a) t h k = c9p agg n (evT t a) h fun v => k v h := by
 simp only [op1, eff, c9p]
 have cells : ∀ cs off, (∃ r h', (if agg = true then (if off + n <= cs.length then some (AV.agg (List.take n (List.drop off cs)), h) else none) else Option.map (fun x => (x, h)) cs[off]?) = some (r, h') /\ k r h') = b4w agg n cs off fun v => k v h := by
  intro cs off
  unfold b4w b39
  cases agg with
  | true =>
   simp only [if_true]
   apply propext; constructor
   ·rintro ⟨r, h', he, hk⟩; split at he
    ·rename_i ho; cases he; exact ⟨ho, hk⟩
    ·cases he
   ·rintro ⟨h1, h2⟩; exact ⟨_, _, by rw [if_pos h1], h2⟩
  | false =>
   simp only [fT9, if_false, mE9]
   apply propext; constructor
   ·rintro ⟨r, h', ⟨x, h1, h2⟩, hk⟩; cases h2; exact ⟨_, h1, hk⟩
   ·rintro ⟨v, h1, h2⟩; exact ⟨v, h, ⟨v, h1, rfl⟩, h2⟩
 generalize evT t a = x
 cases x with
 | fp cs off => exact cells cs off
 | rp id i off =>
  simp only [b6w]
  apply propext; constructor
  ·rintro ⟨r, h', he, hk⟩
   simp only [bE9] at he
   obtain ⟨⟨sz, es⟩, h1, cs, h2, he⟩ := he
   exact ⟨sz, es, cs, h1, h2, by rw [<- cells]; exact ⟨r, h', he, hk⟩⟩
  ·rintro ⟨sz, es, cs, h1, h2, h3⟩
   rw [<- cells] at h3
   obtain ⟨r, h', he, hk⟩ := h3
   exact ⟨r, h', by simp only [h1, bS9, h2]; exact he, hk⟩
 | _ => simp
theorem j5u {n a x} : op1 O (.store n a x) t h k = d01 n (evT t a) (evT t x) h fun h' => k .dead h' := by
 simp only [op1, eff, d01]
 generalize evT t a = y
 cases y with
 | rp id i off =>
  simp only [b6w]
  apply propext; constructor
  ·rintro ⟨r, h', he, hk⟩
   simp only [bE9] at he
   obtain ⟨⟨sz, es⟩, h1, cs, h2, he⟩ := he
   split at he
   ·rename_i hc; cases he; exact ⟨sz, es, cs, h1, h2, hc.1, hc.2.1, hc.2.2, hk⟩
   ·cases he
  ·rintro ⟨sz, es, cs, h1, h2, h3, h4, h5, h6⟩
   exact ⟨_, _, by simp only [h1, bS9, h2]; rw [if_pos ⟨h3, h4, h5⟩], h6⟩
 | _ => simp
theorem j5s {x} : op1 O (.nilck x) t h k = c93 (evT t x) h fun v => k v h := by
 simp only [op1, eff, c93]
 generalize evT t x = y
 cases y with
 | rp id i off =>
  cases ho : h.ob id with
  | none => simp only [ho, Option.bind_none, ex0, Option.isSome_none, fT9, false_and]
  | some o => simp only [ho, bS9, ex1, Option.isSome_some, true_and]
 | fp cs off => exact ex1
 | fn f a b => first | exact ex1 | exact ex0
 | _ => exact ex0
theorem j5m {o x} : op1 O (.fldA o x) t h k = c74 o (evT t x) h fun v => k v h := by
 simp only [op1, eff, c74]
 generalize evT t x = y
 cases y with
 | rp id i off =>
  cases ho : h.ob id with
  | none => simp only [ho, Option.bind_none, ex0, Option.isSome_none, fT9, false_and]
  | some o => simp only [ho, bS9, ex1, Option.isSome_some, true_and]
 | fp cs off => exact ex1
 | fn f a b => first | exact ex1 | exact ex0
 | _ => exact ex0
theorem j5n {n x i} : op1 O (.ixA n x i) t h k = c8n n (evT t x) (evT t i) h fun v => k v h := by
 simp only [op1, eff, c8n]
 generalize evT t x = y
 generalize evT t i = z
 cases y with
 | fs sz es =>
  cases z with
  | v w => cases w with
   | int kd j =>
    simp only [b56]
    apply propext; constructor
    ·rintro ⟨r, h', he, hk⟩
     split at he
     ·rename_i hc
      simp only [mE9] at he
      obtain ⟨cs, h1, h2⟩ := he
      cases h2
      exact ⟨hc.1, cs, hc.2, h1, hk⟩
     ·cases he
    ·rintro ⟨h1, cs, h2, h3, h4⟩
     exact ⟨_, _, by rw [if_pos ⟨h1, h2⟩, h3]; rfl, h4⟩
   | _ => simp
  | _ => simp
 | rs id lo len =>
  cases z with
  | v w => cases w with
   | int kd j =>
    simp only [obK]
    apply propext; constructor
    ·rintro ⟨r, h', he, hk⟩
     simp only [bE9] at he
     obtain ⟨⟨sz, es⟩, h1, he⟩ := he
     split at he
     ·rename_i hc; cases he; exact ⟨sz, es, h1, hc.1, hc.2.1, hc.2.2, hk⟩
     ·cases he
    ·rintro ⟨sz, es, h1, h2, h3, h4, h5⟩
     exact ⟨_, _, by simp only [h1, bS9]; rw [if_pos ⟨h2, h3, h4⟩], h5⟩
   | _ => simp
  | _ => simp
 | _ => simp
theorem j5g {op e x y} : op1 O (.bin op e x y) t h k = b1j op e (evT t x) (evT t y) fun v => k v h := by
 simp only [op1, eff, b1j, mE9]
 apply propext; constructor
 ·rintro ⟨r, h', ⟨v, h1, h2⟩, hk⟩; cases h2; exact ⟨_, h1, hk⟩
 ·rintro ⟨v, h1, h2⟩; exact ⟨v, h, ⟨v, h1, rfl⟩, h2⟩
theorem j5v {op x} : op1 O (.un op x) t h k = unK op (evT t x) fun v => k v h := by
 simp only [op1, eff, unK, mE9]
 apply propext; constructor
 ·rintro ⟨r, h', ⟨v, h1, h2⟩, hk⟩; cases h2; exact ⟨_, h1, hk⟩
 ·rintro ⟨v, h1, h2⟩; exact ⟨v, h, ⟨v, h1, rfl⟩, h2⟩
theorem j5o {x} : op1 O (.len false x) t h k = b5l (evT t x) fun n => k (I n) h := by
 simp only [op1, eff, b5l, fT9, if_false, mE9]
 apply propext; constructor
 ·rintro ⟨r, h', ⟨v, h1, h2⟩, hk⟩; cases h2; exact ⟨_, h1, hk⟩
 ·rintro ⟨v, h1, h2⟩; exact ⟨_, h, ⟨v, h1, rfl⟩, h2⟩
theorem j5l {x i} : op1 O (.ext x i) t h k = c7w (evT t x) i fun v => k v h := by
 simp only [op1, eff, c7w]
 generalize evT t x = y
 cases y with
 | tup vs =>
  simp only [b39, mE9]
  apply propext; constructor
  ·rintro ⟨r, h', ⟨v, h1, h2⟩, hk⟩; cases h2; exact ⟨_, h1, hk⟩
  ·rintro ⟨v, h1, h2⟩; exact ⟨v, h, ⟨v, h1, rfl⟩, h2⟩
 | _ => simp
theorem j5q {f a b} : op1 O (.mkfn f a b) t h k = k (.fn f (a.map (evT t)) (b.map (evT t))) h := by simp only [op1, eff, ex1]
theorem j5j {f l} : op1 O (.call f l) t h k = b5z O f (l.map (evT t)) h k := rfl
theorem j5k {f l} : op1 O (.callv f l) t h k = ∃ n a b, callee (evT t f) = some (n, a, b) /\ b5z O n (a ++ l.map (evT t) ++ b) h k := rfl
end
section
variable {O : Orac} {d : Option Nat} {g : Nat} {b0 : Bool} {r : List XO} {K : Slots -> Heap -> Prop} {t : Slots} {h : Heap}
theorem g1s {x} : b0c O (⟨d, none, .mv x⟩ :: r) K t h = op1 O (.mv x) t h (fun v h' => b0c O r K (b0g t d v) h') := b2b rfl
theorem g5c {x} : b0c O (⟨d, some (g, b0), .mv x⟩ :: r) K t h = b2r (t g) b0 (op1 O (.mv x) (upd t g (B b0)) h (fun v h' => b0c O r K (b0g (upd t g (B b0)) d v) h')) (b0c O r K (b0g (upd t g (B (!b0))) d U) h) (b0c O r K (b0g t d U) h) := b15 rfl
theorem g1u {c a b} : b0c O (⟨d, none, .pick c a b⟩ :: r) K t h = op1 O (.pick c a b) t h (fun v h' => b0c O r K (b0g t d v) h') := b2b rfl
theorem g5e {c a b} : b0c O (⟨d, some (g, b0), .pick c a b⟩ :: r) K t h = b2r (t g) b0 (op1 O (.pick c a b) (upd t g (B b0)) h (fun v h' => b0c O r K (b0g (upd t g (B b0)) d v) h')) (b0c O r K (b0g (upd t g (B (!b0))) d U) h) (b0c O r K (b0g t d U) h) := b15 rfl
theorem g1e {x} : b0c O (⟨d, none, .boxF x⟩ :: r) K t h = op1 O (.boxF x) t h (fun v h' => b0c O r K (b0g t d v) h') := b2b rfl
theorem g43 {x} : b0c O (⟨d, some (g, b0), .boxF x⟩ :: r) K t h = b2r (t g) b0 (op1 O (.boxF x) (upd t g (B b0)) h (fun v h' => b0c O r K (b0g (upd t g (B b0)) d v) h')) (b0c O r K (b0g (upd t g (B (!b0))) d U) h) (b0c O r K (b0g t d U) h) := b15 rfl
theorem g1d {x} : b0c O (⟨d, none, .box x⟩ :: r) K t h = op1 O (.box x) t h (fun v h' => b0c O r K (b0g t d v) h') := b2b rfl
theorem g42 {x} : b0c O (⟨d, some (g, b0), .box x⟩ :: r) K t h = b2r (t g) b0 (op1 O (.box x) (upd t g (B b0)) h (fun v h' => b0c O r K (b0g (upd t g (B b0)) d v) h')) (b0c O r K (b0g (upd t g (B (!b0))) d U) h) (b0c O r K (b0g t d U) h) := b15 rfl
theorem g1b {zs} : b0c O (⟨d, none, .alloc zs⟩ :: r) K t h = op1 O (.alloc zs) t h (fun v h' => b0c O r K (b0g t d v) h') := b2b rfl
theorem g40 {zs} : b0c O (⟨d, some (g, b0), .alloc zs⟩ :: r) K t h = b2r (t g) b0 (op1 O (.alloc zs) (upd t g (B b0)) h (fun v h' => b0c O r K (b0g (upd t g (B b0)) d v) h')) (b0c O r K (b0g (upd t g (B (!b0))) d U) h) (b0c O r K (b0g t d U) h) := b15 rfl
theorem g1q {agg n a} : b0c O (⟨d, none, .load agg n a⟩ :: r) K t h = op1 O (.load agg n a) t h (fun v h' => b0c O r K (b0g t d v) h') := b2b rfl
theorem g5a {agg n a} : b0c O (⟨d, some (g, b0), .load agg n a⟩ :: r) K t h = b2r (t g) b0 (op1 O (.load agg n a) (upd t g (B b0)) h (fun v h' => b0c O r K (b0g (upd t g (B b0)) d v) h')) (b0c O r K (b0g (upd t g (B (!b0))) d U) h) (b0c O r K (b0g t d U) h) := b15 rfl
theorem g2l {n a x} : b0c O (⟨d, none, .store n a x⟩ :: r) K t h = op1 O (.store n a x) t h (fun v h' => b0c O r K (b0g t d v) h') := b2b rfl
theorem g5f {n a x} : b0c O (⟨d, some (g, b0), .store n a x⟩ :: r) K t h = b2r (t g) b0 (op1 O (.store n a x) (upd t g (B b0)) h (fun v h' => b0c O r K (b0g (upd t g (B b0)) d v) h')) (b0c O r K (b0g (upd t g (B (!b0))) d U) h) (b0c O r K (b0g t d U) h) := b15 rfl
theorem g1t {x} : b0c O (⟨d, none, .nilck x⟩ :: r) K t h = op1 O (.nilck x) t h (fun v h' => b0c O r K (b0g t d v) h') := b2b rfl
theorem g5d {x} : b0c O (⟨d, some (g, b0), .nilck x⟩ :: r) K t h = b2r (t g) b0 (op1 O (.nilck x) (upd t g (B b0)) h (fun v h' => b0c O r K (b0g (upd t g (B b0)) d v) h')) (b0c O r K (b0g (upd t g (B (!b0))) d U) h) (b0c O r K (b0g t d U) h) := b15 rfl
theorem g1k {o x} : b0c O (⟨d, none, .fldA o x⟩ :: r) K t h = op1 O (.fldA o x) t h (fun v h' => b0c O r K (b0g t d v) h') := b2b rfl
theorem g47 {o x} : b0c O (⟨d, some (g, b0), .fldA o x⟩ :: r) K t h = b2r (t g) b0 (op1 O (.fldA o x) (upd t g (B b0)) h (fun v h' => b0c O r K (b0g (upd t g (B b0)) d v) h')) (b0c O r K (b0g (upd t g (B (!b0))) d U) h) (b0c O r K (b0g t d U) h) := b15 rfl
theorem g1l {n x i} : b0c O (⟨d, none, .ixA n x i⟩ :: r) K t h = op1 O (.ixA n x i) t h (fun v h' => b0c O r K (b0g t d v) h') := b2b rfl
theorem g48 {n x i} : b0c O (⟨d, some (g, b0), .ixA n x i⟩ :: r) K t h = b2r (t g) b0 (op1 O (.ixA n x i) (upd t g (B b0)) h (fun v h' => b0c O r K (b0g (upd t g (B b0)) d v) h')) (b0c O r K (b0g (upd t g (B (!b0))) d U) h) (b0c O r K (b0g t d U) h) := b15 rfl
theorem g1c {op e x y} : b0c O (⟨d, none, .bin op e x y⟩ :: r) K t h = op1 O (.bin op e x y) t h (fun v h' => b0c O r K (b0g t d v) h') := b2b rfl
theorem g41 {op e x y} : b0c O (⟨d, some (g, b0), .bin op e x y⟩ :: r) K t h = b2r (t g) b0 (op1 O (.bin op e x y) (upd t g (B b0)) h (fun v h' => b0c O r K (b0g (upd t g (B b0)) d v) h')) (b0c O r K (b0g (upd t g (B (!b0))) d U) h) (b0c O r K (b0g t d U) h) := b15 rfl
theorem g2m {op x} : b0c O (⟨d, none, .un op x⟩ :: r) K t h = op1 O (.un op x) t h (fun v h' => b0c O r K (b0g t d v) h') := b2b rfl
theorem g5g {op x} : b0c O (⟨d, some (g, b0), .un op x⟩ :: r) K t h = b2r (t g) b0 (op1 O (.un op x) (upd t g (B b0)) h (fun v h' => b0c O r K (b0g (upd t g (B b0)) d v) h')) (b0c O r K (b0g (upd t g (B (!b0))) d U) h) (b0c O r K (b0g t d U) h) := b15 rfl
theorem g1p {x} : b0c O (⟨d, none, .len false x⟩ :: r) K t h = op1 O (.len false x) t h (fun v h' => b0c O r K (b0g t d v) h') := b2b rfl
theorem g49 {x} : b0c O (⟨d, some (g, b0), .len false x⟩ :: r) K t h = b2r (t g) b0 (op1 O (.len false x) (upd t g (B b0)) h (fun v h' => b0c O r K (b0g (upd t g (B b0)) d v) h')) (b0c O r K (b0g (upd t g (B (!b0))) d U) h) (b0c O r K (b0g t d U) h) := b15 rfl
theorem g1j {x i} : b0c O (⟨d, none, .ext x i⟩ :: r) K t h = op1 O (.ext x i) t h (fun v h' => b0c O r K (b0g t d v) h') := b2b rfl
theorem g46 {x i} : b0c O (⟨d, some (g, b0), .ext x i⟩ :: r) K t h = b2r (t g) b0 (op1 O (.ext x i) (upd t g (B b0)) h (fun v h' => b0c O r K (b0g (upd t g (B b0)) d v) h')) (b0c O r K (b0g (upd t g (B (!b0))) d U) h) (b0c O r K (b0g t d U) h) := b15 rfl
theorem g1r {f a b} : b0c O (⟨d, none, .mkfn f a b⟩ :: r) K t h = op1 O (.mkfn f a b) t h (fun v h' => b0c O r K (b0g t d v) h') := b2b rfl
theorem g5b {f a b} : b0c O (⟨d, some (g, b0), .mkfn f a b⟩ :: r) K t h = b2r (t g) b0 (op1 O (.mkfn f a b) (upd t g (B b0)) h (fun v h' => b0c O r K (b0g (upd t g (B b0)) d v) h')) (b0c O r K (b0g (upd t g (B (!b0))) d U) h) (b0c O r K (b0g t d U) h) := b15 rfl
theorem g1f {f l} : b0c O (⟨d, none, .call f l⟩ :: r) K t h = op1 O (.call f l) t h (fun v h' => b0c O r K (b0g t d v) h') := b2b rfl
theorem g44 {f l} : b0c O (⟨d, some (g, b0), .call f l⟩ :: r) K t h = b2r (t g) b0 (op1 O (.call f l) (upd t g (B b0)) h (fun v h' => b0c O r K (b0g (upd t g (B b0)) d v) h')) (b0c O r K (b0g (upd t g (B (!b0))) d U) h) (b0c O r K (b0g t d U) h) := b15 rfl
theorem g1g {f l} : b0c O (⟨d, none, .callv f l⟩ :: r) K t h = op1 O (.callv f l) t h (fun v h' => b0c O r K (b0g t d v) h') := b2b rfl
theorem g45 {f l} : b0c O (⟨d, some (g, b0), .callv f l⟩ :: r) K t h = b2r (t g) b0 (op1 O (.callv f l) (upd t g (B b0)) h (fun v h' => b0c O r K (b0g (upd t g (B b0)) d v) h')) (b0c O r K (b0g (upd t g (B (!b0))) d U) h) (b0c O r K (b0g t d U) h) := b15 rfl
end
section
variable {k : AV -> Prop} {h : Heap}
theorem g2r {n cs off} : b4w false n cs off k = b39 cs off k := by simp [b4w]
theorem g2s {n cs off} : b4w true n cs off k = (off + n <= cs.length /\ k (.agg ((cs.drop off).take n))) := by simp [b4w]
theorem g5h {c cs} : b39 (c :: cs) 0 k = k c := by simp [b39]
theorem g5i {c cs n} : b39 (c :: cs) (n + 1) k = b39 cs n k := by simp [b39]
theorem d7l {sz es i} {k : Nat -> List (List AV) -> List AV -> Prop} : b6w (some (sz, es)) i k = ∃ cs, es[i]? = some cs /\ k sz es cs := by
 apply propext; constructor
 ·rintro ⟨a, b, c, h1, h2, h3⟩; cases h1; exact ⟨c, h2, h3⟩
 ·rintro ⟨c, h2, h3⟩; exact ⟨_, _, c, rfl, h2, h3⟩
theorem j64 {sz cs} {k : Nat -> List (List AV) -> List AV -> Prop} : b6w (some (sz, [cs])) 0 k = k sz [cs] cs := by simp [d7l]
theorem j43 {sz es} {k : Nat -> List (List AV) -> Prop} : obK (some (sz, es)) k = k sz es := by
 apply propext; constructor
 ·rintro ⟨a, b, h1, h2⟩; cases h1; exact h2
 ·exact fun h => ⟨_, _, rfl, h⟩
theorem g4b {α β : Type} {f : α -> β} {l : List α} {i : Int} {k : β -> Prop} : b56 (l.map f) i k = b56 l i fun a => k (f a) := by
 simp only [b56, List.getElem?_map, mE9]
 apply propext; constructor
 ·rintro ⟨b, h1, ⟨a, h2, rfl⟩, h3⟩; exact ⟨a, h1, h2, h3⟩
 ·rintro ⟨a, h1, h2, h3⟩; exact ⟨_, h1, ⟨a, h2, rfl⟩, h3⟩
theorem g0p {cs} {k : List AV -> Prop} : b3r (.agg cs) k = k cs := by simp [b3r, b1v, cellsOf]
theorem g0s {kd n} {k : List AV -> Prop} : b3r (.v (.int kd n)) k = k [.v (.int kd n)] := by simp [b3r, b1v, cellsOf, Value.oneCell']
theorem g0q {b} {k : List AV -> Prop} : b3r (.v (.bool b)) k = k [.v (.bool b)] := by simp [b3r, b1v, cellsOf, Value.oneCell']
theorem g0u {a b c} {k : List AV -> Prop} : b3r (.v (.slice a b c)) k = k [.v (.slice a b c)] := by simp [b3r, b1v, cellsOf, Value.oneCell']
theorem g0r {sz es} {k : List AV -> Prop} : b3r (.fs sz es) k = k [.fs sz es] := by simp [b3r, b1v, cellsOf]
theorem g0t {a b c} {k : List AV -> Prop} : b3r (.rs a b c) k = k [.rs a b c] := by simp [b3r, b1v, cellsOf]
theorem j0m {sz es} {k : Int -> Prop} : b5l (.fs sz es) k = k es.length := by simp [b5l, b2j]
theorem j0o {id lo len} {k : Int -> Prop} : b5l (.rs id lo len) k = k len := by simp [b5l, b2j]
theorem j0n {k : Int -> Prop} : b5l (.v (.slice none 0 0)) k = k 0 := by simp [b5l, b2j]
theorem b4f {op e kd a b} {r : Value} (hr : b26 op kd a kd b = some r) : b1j op e (.v (.int kd a)) (.v (.int kd b)) k = k (.v r) := by simp [b1j, b2s, hr]
section
variable {e : EqK} {kd : IntKind} {a b : Int}
theorem g0d : b1j .add e (.v (.int kd a)) (.v (.int kd b)) k = k (.v (.int kd (kd.wrap (a + b)))) := b4f (by simp [b26, b3q])
theorem g0n : b1j .sub e (.v (.int kd a)) (.v (.int kd b)) k = k (.v (.int kd (kd.wrap (a - b)))) := b4f (by simp [b26, b3q])
theorem g0l : b1j .mul e (.v (.int kd a)) (.v (.int kd b)) k = k (.v (.int kd (kd.wrap (a * b)))) := b4f (by simp [b26, b3q])
theorem g0g : b1j .eql e (.v (.int kd a)) (.v (.int kd b)) k = k (B (decide (a = b))) := b4f (by simp only [b26, b3q, if_true]; by_cases h : a = b <;> simp [h])
theorem g0m : b1j .neq e (.v (.int kd a)) (.v (.int kd b)) k = k (B (decide (¬ a = b))) := b4f (by simp only [b26, b3q, if_true]; by_cases h : a = b <;> simp [h])
theorem g0k : b1j .lss e (.v (.int kd a)) (.v (.int kd b)) k = k (B (decide (a < b))) := b4f (by simp [b26, b3q])
theorem g0j : b1j .leq e (.v (.int kd a)) (.v (.int kd b)) k = k (B (decide (a <= b))) := b4f (by simp [b26, b3q])
theorem g0i : b1j .gtr e (.v (.int kd a)) (.v (.int kd b)) k = k (B (decide (b < a))) := b4f (by simp [b26, b3q])
theorem g0h : b1j .geq e (.v (.int kd a)) (.v (.int kd b)) k = k (B (decide (b <= a))) := b4f (by simp [b26, b3q])
theorem g0e {a b : Bool} : b1j .eql .bool (B a) (B b) k = k (B (b5y a b)) := by simp [b1j, b2s, b2l, b5y]
theorem g0f {a b : Bool} : b1j .neq .bool (B a) (B b) k = k (B (!(b5y a b))) := by simp [b1j, b2s, b2l, b5y]
end
theorem j8p {b : Bool} : unK .not (B b) k = k (B (!b)) := by simp [unK, b62]
theorem j8o {kd a} : unK .neg (.v (.int kd a)) k = k (.v (.int kd (kd.wrap (0 - a)))) := by simp [unK, b62]
theorem j3r {o : Ob} : (h.new o).ob h.nx = some o := by simp [Heap.new]
theorem j3q {o : Ob} : (h.new o).nx = nxs h.nx := by simp [Heap.new, nxs]
theorem j8t {o id} : (h.upd id o).ob id = o := by simp [Heap.upd]
theorem j8r {o id} : (h.upd id o).nx = h.nx := by simp [Heap.upd]
theorem g4i {t : Slots} {n} : evT t (.t n) = t n := rfl
theorem g4f {t : Slots} {v} : evT t (.c v) = .v v := rfl
theorem g4j {t : Slots} {n} : evT t (.tf n) = b6a (t n) := rfl
theorem g4u {cs off} : b6a (.fp cs off) = .fp cs off := rfl
theorem g4v {sz es} : b6a (.fs sz es) = .fs sz es := rfl
theorem g4h {t : Slots} {n cs} : evT t (.g n cs) = .fp (cs.map GC.av) 0 := rfl
theorem g4g {t : Slots} {n} : evT t (.f n) = .fn n [] [] := rfl
theorem j6o {t : Slots} {n x} : b0g t (some n) x = upd t n x := rfl
theorem j6n {t : Slots} {x} : b0g t none x = t := rfl
end
theorem d8k {n : Int} (h1 : -9223372036854775808 <= n) (h2 : n < 9223372036854775808) : IntKind.i64.wrap n = n := by
 unfold IntKind.wrap
 simp only [IntKind.bits, IntKind.signed, Bool.true_and]
 split <;> rename_i h <;> simp at h <;> omega
attribute [go_sem] g4j g4u g4v g4i g4f g4g g4h j6o j6n d8e d8c j3r j3q j8t j8r
attribute [go_sem ↓] b0r b1c b0u b4x b0t b0e b1h b1i b00 b13 b1g b86
end Go.Nw
