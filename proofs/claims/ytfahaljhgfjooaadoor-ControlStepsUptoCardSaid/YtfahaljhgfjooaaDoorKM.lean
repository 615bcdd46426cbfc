/- Models of functions: printed by gen.py. -/
import Derived.Test.YtfahaljhgfjooaaDoorNwMaps
import Derived.Test.YtfahaljhgfjooaaDoorNwCtlSrc
set_option linter.all false
namespace Go.Nw.KM
noncomputable section
open Go.Nw.Ctl
set_option maxHeartbeats 4000000
theorem lA9 {α : Type} {l m : List α} : (l ++ m).length = l.length + m.length := List.length_append
theorem mA9 {α β : Type} {f : α → β} {l m : List α} : List.map f (l ++ m) = List.map f l ++ List.map f m := List.map_append
theorem oF9 {a b : Bool} : (a || b) = false ↔ a = false ∧ b = false := Bool.or_eq_false_iff
theorem nF9 : (¬False) = True := not_false_eq_true
theorem bF9 {α : Type} [BEq α] [LawfulBEq α] {a b : α} : (a == b) = false ↔ a ≠ b := beq_eq_false_iff_ne
theorem sI9 {α : Type} {a b : α} (h : some a = some b) : a = b := Option.some.inj h
variable {O : Orac} [MapsOk O]
def wl_0 : List ByteArray := b5b.map fun s => ⟨s.toArray⟩
@[go_sem] theorem m68 : List.map GC.av b5h = [.fs 1 (List.map eS wl_0)] := by
 simp only [b5h, List.map_cons, List.map_nil, GC.av, wl_0, List.map_map]; rfl
def b1k (n : Int) (low : Int) (high : Int) : Bool :=
 (decide (low <= n)) && (decide (n <= high))
def b65 (O : Orac) : Prop := ∀ (n : Int) (low : Int) (high : Int), Fn O "newel/newelref04.from" [I n, I low, I high] (B (b1k n low high))
structure Counter where
 Name : ByteArray
 Max : Int
 deriving Inhabited, DecidableEq
structure State where
 Name : ByteArray
 Shows : Int
 deriving Inhabited, DecidableEq
structure Literal where
 Kind : Int
 Number : Int
 Value : Int
 Not : Bool
 deriving Inhabited, DecidableEq
structure Set where
 Kind : Int
 Counter : Int
 deriving Inhabited, DecidableEq
structure Rule where
 From : Int
 To : Int
 When : List (List Literal)
 Sets : List Set
 deriving Inhabited, DecidableEq
structure Machine where
 Inputs : List ByteArray
 Outputs : List ByteArray
 Counters : List Counter
 States : List State
 Rules : List Rule
 deriving Inhabited, DecidableEq
@[go_sem] def b0l (x : Counter) : List AV := [.v (.string x.Name), I x.Max]
theorem b1r (x : Counter) : ∀ c ∈ b0l x, Frz c := (b0a (b0d _) (b0a (b0d _) b0o))
theorem j0q (x : Counter) : (b0l x).length = 2 := rfl
@[go_sem] theorem m7c {l : List Counter} {n : Nat} {a0 : ByteArray} {a1 : Int} : (List.map b0l l).set n [.v (.string a0), I a1] = List.map b0l (l.set n (Counter.mk a0 a1)) := by rw [List.map_set]; rfl
@[go_sem] def b0m (x : State) : List AV := [.v (.string x.Name), I x.Shows]
theorem b1t (x : State) : ∀ c ∈ b0m x, Frz c := (b0a (b0d _) (b0a (b0d _) b0o))
theorem j0u (x : State) : (b0m x).length = 2 := rfl
@[go_sem] theorem m7l {l : List State} {n : Nat} {a0 : ByteArray} {a1 : Int} : (List.map b0m l).set n [.v (.string a0), I a1] = List.map b0m (l.set n (State.mk a0 a1)) := by rw [List.map_set]; rfl
@[go_sem] def b24 (x : Literal) : List AV := [I x.Kind, I x.Number, I x.Value, B x.Not]
theorem c0g (x : Literal) : ∀ c ∈ b24 x, Frz c := (b0a (b0d _) (b0a (b0d _) (b0a (b0d _) (b0a (b0d _) b0o))))
theorem j0r (x : Literal) : (b24 x).length = 4 := rfl
@[go_sem] theorem m7h {l : List Literal} {n : Nat} {a0 : Int} {a1 : Int} {a2 : Int} {a3 : Bool} : (List.map b24 l).set n [I a0, I a1, I a2, B a3] = List.map b24 (l.set n (Literal.mk a0 a1 a2 a3)) := by rw [List.map_set]; rfl
@[go_sem] def b03 (x : List Literal) : List AV := [.fs 4 (List.map b24 x)]
theorem b4g (x : List Literal) : ∀ c ∈ b03 x, Frz c := (b0a (b0f fun a _ => c0g a) b0o)
theorem d56 (x : List Literal) : (b03 x).length = 1 := rfl
@[go_sem] theorem m7f {l : List (List Literal)} {n : Nat} {a0 : List Literal} : (List.map b03 l).set n [.fs 4 (List.map b24 a0)] = List.map b03 (l.set n a0) := by rw [List.map_set]; rfl
@[go_sem] def b2c (x : Set) : List AV := [I x.Kind, I x.Counter]
theorem c78 (x : Set) : ∀ c ∈ b2c x, Frz c := (b0a (b0d _) (b0a (b0d _) b0o))
theorem j0t (x : Set) : (b2c x).length = 2 := rfl
@[go_sem] theorem m7k {l : List Set} {n : Nat} {a0 : Int} {a1 : Int} : (List.map b2c l).set n [I a0, I a1] = List.map b2c (l.set n (Set.mk a0 a1)) := by rw [List.map_set]; rfl
@[go_sem] def b0j (x : Rule) : List AV := [I x.From, I x.To, .fs 1 (List.map b03 x.When), .fs 2 (List.map b2c x.Sets)]
theorem b1s (x : Rule) : ∀ c ∈ b0j x, Frz c := (b0a (b0d _) (b0a (b0d _) (b0a (b0f fun a _ => b4g a) (b0a (b0f fun a _ => c78 a) b0o))))
theorem j0s (x : Rule) : (b0j x).length = 4 := rfl
@[go_sem] theorem m7j {l : List Rule} {n : Nat} {a0 : Int} {a1 : Int} {a2 : List (List Literal)} {a3 : List Set} : (List.map b0j l).set n [I a0, I a1, .fs 1 (List.map b03 a2), .fs 2 (List.map b2c a3)] = List.map b0j (l.set n (Rule.mk a0 a1 a2 a3)) := by rw [List.map_set]; rfl
def c5b (l_3_1 : List ByteArray) : Option (List ByteArray) :=
 some l_3_1
def c48 (m : Machine) : ((List ByteArray) × Int) -> Option (Out ((List ByteArray) × Int) (((List ByteArray))))
 | (l_3_1, i_5) =>
  if decide (i_5 < (List.length m.States : Int)) then
   (get m.States i_5).bind fun x15 =>
   (ap 16 l_3_1 ([x15.Name])).bind fun l16 =>
   some (.nx (l16, wr (i_5 + 1)))
  else
   some (.br l_3_1)
def c5a (m : Machine) (l_3 : List ByteArray) : Option (List ByteArray) :=
 (b0w (c48 m) (l_3, 0)).bind fun l_3_1 =>
 c5b l_3_1
def c49 (m : Machine) : ((List ByteArray) × Int) -> Option (Out ((List ByteArray) × Int) (((List ByteArray))))
 | (l_3, i_4) =>
  if decide (i_4 < (List.length m.Counters : Int)) then
   (get m.Counters i_4).bind fun x24 =>
   (ap 16 l_3 ([x24.Name])).bind fun l25 =>
   some (.nx (l25, wr (i_4 + 1)))
  else
   some (.br l_3)
def c1p (m : Machine) : Option (List ByteArray) :=
 (ap 16 ([]) m.Inputs).bind fun l3 =>
 (ap 16 l3 m.Outputs).bind fun l4 =>
 (b0w (c49 m) (l4, 0)).bind fun l_3 =>
 c5a m l_3
@[go_sem] def vM (m : Machine) : List AV := [.fs 1 (List.map eS m.Inputs), .fs 1 (List.map eS m.Outputs), .fs 2 (List.map b0l m.Counters), .fs 2 (List.map b0m m.States), .fs 4 (List.map b0j m.Rules)]
theorem fM (m : Machine) : Frz (.agg (vM m)) := (.agg _ (b0a (b0f fun a _ => b0y a) (b0a (b0f fun a _ => b0y a) (b0a (b0f fun a _ => b1r a) (b0a (b0f fun a _ => b1t a) (b0a (b0f fun a _ => b1s a) b0o))))))
def c6t (O : Orac) : Prop := ∀ (m : Machine) (r : List ByteArray) (hm0 : c1p m = some r), Fn O "newel/newelref04.names" [.agg (vM m)] (.fs 1 (List.map eS r))
def d0d (s : ByteArray) : Option Bool :=
 some (decide (0 < (ByteArray.size s : Int)))
def c1m (s : ByteArray) : Int -> Option (Out Int (Unit ⊕ Bool))
 | i_4 =>
  if decide (i_4 < (ByteArray.size s : Int)) then
   (get (b29 s) i_4).bind fun x10 =>
   if (decide (x10 < 97)) || (decide (122 < x10)) then
    some (.br (.inr false))
   else
    some (.nx (wr (i_4 + 1)))
  else
   some (.br (.inl ()))
def c46 (s : ByteArray) : Option Bool :=
 (b0w (c1m s) (0)).bind fun
  | (.inl ()) => d0d s
  | (.inr r') => some r'
def c1n (s : ByteArray) : Int -> Option (Out Int (Unit ⊕ Bool))
 | i_3 =>
  if decide (i_3 < (List.length wl_0 : Int)) then
   (get wl_0 i_3).bind fun x19 =>
   if decide (s = x19) then
    some (.br (.inr false))
   else
    some (.nx (wr (i_3 + 1)))
  else
   some (.br (.inl ()))
def b89 (s : ByteArray) : Option Bool :=
 (b0w (c1n s) (0)).bind fun
  | (.inl ()) => c46 s
  | (.inr r') => some r'
def c6q (O : Orac) : Prop := ∀ (s : ByteArray) (r : Bool) (hm0 : b89 s = some r), Fn O "newel/newelref04.Word" [.v (.string s)] (B r)
def d0e : Option Bool :=
 some true
def c47 (i_7 : Int) : Option (Out Int (Unit ⊕ Bool)) :=
 some (.nx (wr (i_7 + 1)))
def b6u (k_8 : Int) (is_10 : Bool) : Option (Out Int (Unit ⊕ Bool)) :=
 if !is_10 then
  some (.br (.inr false))
 else
  some (.nx (wr (k_8 + 1)))
def b7v (m : Machine) (c : List (List Literal)) (inside : Bool) (i_7 : Int) : Int -> Option (Out Int (Unit ⊕ Bool))
 | k_8 =>
  (get c i_7).bind fun x16 =>
  if decide (k_8 < (List.length x16 : Int)) then
   (get x16 k_8).bind fun x21 =>
   if decide (x21.Kind = 1) then
    b6u k_8 ((b1k x21.Number 0 (wr ((List.length m.Inputs : Int) - 1))) && (decide (x21.Value = 0)))
   else
    if decide (x21.Kind = 2) then
     (if (b1k x21.Number 0 (wr ((List.length m.Counters : Int) - 1))) then (get m.Counters x21.Number).bind fun x30 =>
     some (b1k x21.Value 0 x30.Max) else some false).bind fun c31 =>
     b6u k_8 c31
    else
     if decide (x21.Kind = 3) then
      b6u k_8 ((inside && (b1k x21.Number 0 (wr ((List.length m.States : Int) - 1)))) && (decide (x21.Value = 0)))
     else
      if decide (x21.Kind = 4) then
       b6u k_8 ((b1k x21.Number 0 (wr ((List.length m.Outputs : Int) - 1))) && (decide (x21.Value = 0)))
      else
       b6u k_8 false
  else
   some (.br (.inl ()))
def b9b (m : Machine) (c : List (List Literal)) (inside : Bool) : Int -> Option (Out Int (Unit ⊕ Bool))
 | i_7 =>
  if decide (i_7 < (List.length c : Int)) then
   (get c i_7).bind fun x11 =>
   if decide (6 < (List.length x11 : Int)) then
    some (.br (.inr false))
   else
    (b0w (b7v m c inside i_7) (0)).bind fun
     | (.inl ()) => c47 i_7
     | (.inr r') => some (.br (.inr r'))
  else
   some (.br (.inl ()))
def c1o (m : Machine) (c : List (List Literal)) (inside : Bool) : Option Bool :=
 if decide (6 < (List.length c : Int)) then
  some false
 else
  (b0w (b9b m c inside) (0)).bind fun
   | (.inl ()) => d0e
   | (.inr r') => some r'
def c6r (O : Orac) : Prop := ∀ (m : Machine) (c : List (List Literal)) (inside : Bool) (r : Bool) (hm0 : c1o m c inside = some r), Fn O "newel/newelref04.condition" [.agg (vM m), .fs 1 (List.map b03 c), B inside] (B r)
def d0b : Option Int :=
 some 0
def c4t (i_8 : Int) : Option (Out Int (Unit ⊕ Int)) :=
 some (.nx (wr (i_8 + 1)))
def c06 (m : Machine) (x23 : Rule) : Int -> Option (Out Int (Unit ⊕ Int))
 | k_10 =>
  if decide (k_10 < (List.length x23.Sets : Int)) then
   (get x23.Sets k_10).bind fun x38 =>
   if (!(b1k x38.Kind 1 3)) || (!(b1k x38.Counter 0 (wr ((List.length m.Counters : Int) - 1)))) then
    some (.br (.inr 41))
   else
    some (.nx (wr (k_10 + 1)))
  else
   some (.br (.inl ()))
def b7t (m : Machine) : Int -> Option (Out Int (Unit ⊕ Int))
 | i_8 =>
  if decide (i_8 < (List.length m.Rules : Int)) then
   (get m.Rules i_8).bind fun x23 =>
   (if (!(b1k x23.From (-1) (wr ((List.length m.States : Int) - 1)))) || (!(b1k x23.To 0 (wr ((List.length m.States : Int) - 1)))) then some true else (c1o m x23.When false).bind fun y26 =>
   some (!y26)).bind fun c27 =>
   if c27 || (decide (4 < (List.length x23.Sets : Int))) then
    some (.br (.inr 41))
   else
    (b0w (c06 m x23) (0)).bind fun
     | (.inl ()) => c4t i_8
     | (.inr r') => some (.br (.inr r'))
  else
   some (.br (.inl ()))
def c4s (m : Machine) : Option Int :=
 (b0w (b7t m) (0)).bind fun
  | (.inl ()) => d0b
  | (.inr r') => some r'
def c05 (m : Machine) : Int -> Option (Out Int (Unit ⊕ Int))
 | i_7 =>
  if decide (i_7 < (List.length m.States : Int)) then
   (get m.States i_7).bind fun x49 =>
   (shl .i64 1 (IntKind.wrap .u64 (List.length m.Outputs : Int))).bind fun q50 =>
   if !(b1k x49.Shows 0 (wr (q50 - 1))) then
    some (.br (.inr 41))
   else
    some (.nx (wr (i_7 + 1)))
  else
   some (.br (.inl ()))
def c4r (m : Machine) : Option Int :=
 (b0w (c05 m) (0)).bind fun
  | (.inl ()) => c4s m
  | (.inr r') => some r'
def c04 (m : Machine) : Int -> Option (Out Int (Unit ⊕ Int))
 | i_6 =>
  if decide (i_6 < (List.length m.Counters : Int)) then
   (get m.Counters i_6).bind fun x58 =>
   if !(b1k x58.Max 1 7) then
    some (.br (.inr 41))
   else
    some (.nx (wr (i_6 + 1)))
  else
   some (.br (.inl ()))
def c4q (m : Machine) : Option Int :=
 (b0w (c04 m) (0)).bind fun
  | (.inl ()) => c4r m
  | (.inr r') => some r'
def c4u (i_4 : Int) : Option (Out Int (Unit ⊕ Int)) :=
 some (.nx (wr (i_4 + 1)))
def b7s (y8 : List ByteArray) (i_4 : Int) : Int -> Option (Out Int (Unit ⊕ Int))
 | k_5 =>
  if decide (k_5 < i_4) then
   (get y8 k_5).bind fun x81 =>
   (get y8 i_4).bind fun x82 =>
   if decide (x81 = x82) then
    some (.br (.inr 41))
   else
    some (.nx (wr (k_5 + 1)))
  else
   some (.br (.inl ()))
def b6t (y8 : List ByteArray) : Int -> Option (Out Int (Unit ⊕ Int))
 | i_4 =>
  if decide (i_4 < (List.length y8 : Int)) then
   (get y8 i_4).bind fun x69 =>
   (if decide (8 < (ByteArray.size x69 : Int)) then some true else (b89 x69).bind fun y70 =>
   some (!y70)).bind fun c71 =>
   if c71 then
    some (.br (.inr 41))
   else
    (b0w (b7s y8 i_4) (0)).bind fun
     | (.inl ()) => c4u i_4
     | (.inr r') => some (.br (.inr r'))
  else
   some (.br (.inl ()))
def b87 (m : Machine) : Option Int :=
 if ((((decide (4 < (List.length m.Inputs : Int))) || (decide (6 < (List.length m.Outputs : Int)))) || (decide (2 < (List.length m.Counters : Int)))) || (!(b1k (List.length m.States : Int) 1 12))) || (decide (40 < (List.length m.Rules : Int))) then
  some 41
 else
  (c1p m).bind fun y8 =>
  (b0w (b6t y8) (0)).bind fun
   | (.inl ()) => c4q m
   | (.inr r') => some r'
def c2k (O : Orac) : Prop := ∀ (m : Machine) (r : Int) (hm0 : b87 m = some r), Fn O "newel/newelref04.Check" [.agg (vM m)] (I r)
def b1o (n : Int) (low : Int) (high : Int) : Bool :=
 (decide (low <= n)) && (decide (n <= high))
def b76 (O : Orac) : Prop := ∀ (n : Int) (low : Int) (high : Int), Fn O "newel/situation.within" [I n, I low, I high] (B (b1o n low high))
@[go_sem] def b3s (x : List ByteArray) : List AV := [.fs 1 (List.map eS x)]
theorem c3r (x : List ByteArray) : ∀ c ∈ b3s x, Frz c := (b0a (b0f fun a _ => b0y a) b0o)
theorem d57 (x : List ByteArray) : (b3s x).length = 1 := rfl
@[go_sem] theorem m7g {l : List (List ByteArray)} {n : Nat} {a0 : List ByteArray} : (List.map b3s l).set n [.fs 1 (List.map eS a0)] = List.map b3s (l.set n a0) := by rw [List.map_set]; rfl
def c5z (slices : List (List ByteArray)) : Option (List ByteArray) :=
 if slices.flatten.length * 16 <= 2 ^ 40 /\ slices.length < 2 ^ 40 /\ 0 < slices.flatten.length then some slices.flatten else none
def c65 (O : Orac) : Prop := ∀ (slices : List (List ByteArray)) (r : List ByteArray) (hm0 : c5z slices = some r), FnW O "slices.Concat[[]string,string]" [.fs 1 (List.map b3s slices)] 1 eS r
def c50 (slices : List (List ByteArray)) : Option Unit :=
 if slices.flatten.length = 0 /\ slices.length < 2 ^ 40 then some () else none
def c66 (O : Orac) : Prop := ∀ (slices : List (List ByteArray)) (r : Unit) (hm0 : c50 slices = some r), Fn O "slices.Concat[[]string,string]" [.fs 1 (List.map b3s slices)] (.v (.slice none 0 0))
def c5t (l_3_1 : List ByteArray) : Option (List ByteArray) :=
 some l_3_1
def c5q (m : Machine) : ((List ByteArray) × Int) -> Option (Out ((List ByteArray) × Int) (((List ByteArray))))
 | (l_3_1, x_30) =>
  if decide (x_30 < (List.length m.States : Int)) then
   (get m.States x_30).bind fun x12 =>
   (ap 16 l_3_1 ([x12.Name])).bind fun l14 =>
   some (.nx (l14, wr (x_30 + 1)))
  else
   some (.br l_3_1)
def c5s (m : Machine) (l_3 : List ByteArray) : Option (List ByteArray) :=
 (b0w (c5q m) (l_3, 0)).bind fun l_3_1 =>
 c5t l_3_1
def c5r (m : Machine) : ((List ByteArray) × Int) -> Option (Out ((List ByteArray) × Int) (((List ByteArray))))
 | (l_3, x_17) =>
  if decide (x_17 < (List.length m.Counters : Int)) then
   (get m.Counters x_17).bind fun x21 =>
   (ap 16 l_3 ([x21.Name])).bind fun l23 =>
   some (.nx (l23, wr (x_17 + 1)))
  else
   some (.br l_3)
def c5p (m : Machine) : Option (List ByteArray) :=
 (c5z ([m.Inputs, m.Outputs])).bind fun y2 =>
 (b0w (c5r m) (y2, 0)).bind fun l_3 =>
 c5s m l_3
def c63 (O : Orac) : Prop := ∀ (m : Machine) (r : List ByteArray) (hm0 : c5p m = some r), Fn O "newel/situation.names" [.agg (vM m)] (.fs 1 (List.map eS r))
def c5y (l_3_1 : List ByteArray) : Option (List ByteArray) :=
 some l_3_1
def c5v (m : Machine) : ((List ByteArray) × Int) -> Option (Out ((List ByteArray) × Int) (((List ByteArray))))
 | (l_3_1, x_30) =>
  if decide (x_30 < (List.length m.States : Int)) then
   (get m.States x_30).bind fun x12 =>
   (ap 16 l_3_1 ([x12.Name])).bind fun l14 =>
   some (.nx (l14, wr (x_30 + 1)))
  else
   some (.br l_3_1)
def c5x (m : Machine) (l_3 : List ByteArray) : Option (List ByteArray) :=
 (b0w (c5v m) (l_3, 0)).bind fun l_3_1 =>
 c5y l_3_1
def c5w (m : Machine) : ((List ByteArray) × Int) -> Option (Out ((List ByteArray) × Int) (((List ByteArray))))
 | (l_3, x_17) =>
  if decide (x_17 < (List.length m.Counters : Int)) then
   (get m.Counters x_17).bind fun x21 =>
   (ap 16 l_3 ([x21.Name])).bind fun l23 =>
   some (.nx (l23, wr (x_17 + 1)))
  else
   some (.br l_3)
def c5u (m : Machine) : Option (List ByteArray) :=
 (c50 ([m.Inputs, m.Outputs])).bind fun y2 =>
 (b0w (c5w m) ([], 0)).bind fun l_3 =>
 c5x m l_3
def c64 (O : Orac) : Prop := ∀ (m : Machine) (r : List ByteArray) (hm0 : c5u m = some r), Fn O "newel/situation.names" [.agg (vM m)] (.fs 1 (List.map eS r))
def c2b (m : Machine) : Option (List ByteArray) :=
 if 0 < m.Inputs.length + m.Outputs.length then c5p m else c5u m
def c62 (O : Orac) : Prop := ∀ (m : Machine) (r : List ByteArray) (hm0 : c2b m = some r), Fn O "newel/situation.names" [.agg (vM m)] (.fs 1 (List.map eS r))
def d0t (word : ByteArray) : Option Bool :=
 some (!(decide (word = (ByteArray.mk #[]))))
def c18 (word : ByteArray) : Int -> Option (Out Int (Unit ⊕ Bool))
 | x_8 =>
  if decide (x_8 < (List.length (b29 word) : Int)) then
   (get (b29 word) x_8).bind fun x8 =>
   if (decide (x8 < 97)) || (decide (122 < x8)) then
    some (.br (.inr false))
   else
    some (.nx (wr (x_8 + 1)))
  else
   some (.br (.inl ()))
def c17 (word : ByteArray) : Option Bool :=
 (b0w (c18 word) (0)).bind fun
  | (.inl ()) => d0t word
  | (.inr r') => some r'
def c6y (O : Orac) : Prop := ∀ (word : ByteArray) (r : Bool) (hm0 : c17 word = some r), Fn O "newel/situation.Plain" [.v (.string word)] (B r)
def b48 (x_4 : Bool) : Bool :=
 if x_4 then
  true
 else
  false
def b70 (word : ByteArray) : Bool :=
 if decide (word = (ByteArray.mk #[97, 110, 121])) then
  b48 (decide (word = (ByteArray.mk #[97, 110, 121])))
 else
  if decide (word = (ByteArray.mk #[116, 111])) then
   b48 (decide (word = (ByteArray.mk #[116, 111])))
  else
   if decide (word = (ByteArray.mk #[122, 101, 114, 111])) then
    b48 (decide (word = (ByteArray.mk #[122, 101, 114, 111])))
   else
    if decide (word = (ByteArray.mk #[109, 111, 114, 101])) then
     b48 (decide (word = (ByteArray.mk #[109, 111, 114, 101])))
    else
     if decide (word = (ByteArray.mk #[108, 101, 115, 115])) then
      b48 (decide (word = (ByteArray.mk #[108, 101, 115, 115])))
     else
      if decide (word = (ByteArray.mk #[105, 102])) then
       b48 (decide (word = (ByteArray.mk #[105, 102])))
      else
       if decide (word = (ByteArray.mk #[121, 101, 115])) then
        b48 (decide (word = (ByteArray.mk #[121, 101, 115])))
       else
        b48 (decide (word = (ByteArray.mk #[110, 111])))
def c6z (O : Orac) : Prop := ∀ (word : ByteArray), Fn O "newel/situation.Reserved" [.v (.string word)] (B (b70 word))
def d0u : Option Bool :=
 some true
def b9h (y2 : List ByteArray) : ((List (ByteArray × Int)) × Int) -> Option (Out ((List (ByteArray × Int)) × Int) (Unit ⊕ Bool))
 | (seen_3, x_10) =>
  if decide (x_10 < (List.length y2 : Int)) then
   (get y2 x_10).bind fun x10 =>
   (c17 x10).bind fun y12 =>
   if (((!y12) || (decide (8 < (ByteArray.size x10 : Int)))) || (b70 x10)) || (decide (1 < (b2x (b4c seen_3 x10 (wr ((b2x seen_3 x10 0) + 1))) x10 0))) then
    some (.br (.inr false))
   else
    some (.nx ((b4c seen_3 x10 (wr ((b2x seen_3 x10 0) + 1))), wr (x_10 + 1)))
  else
   some (.br (.inl ()))
def c2a (m : Machine) : Option Bool :=
 (c2b m).bind fun y2 =>
 (b0w (b9h y2) (([] : List (ByteArray × Int)), 0)).bind fun
  | (.inl ()) => d0u
  | (.inr r') => some r'
def c61 (O : Orac) : Prop := ∀ (m : Machine) (r : Bool) (hm0 : c2a m = some r), Fn O "newel/situation.named" [.agg (vM m)] (B r)
def c19 (m : Machine) (x : Literal) : Option Bool :=
 if decide (x.Kind = 1) then
  some ((b1o x.Number 0 (wr ((List.length m.Inputs : Int) - 1))) && (decide (x.Value = 0)))
 else
  if decide (x.Kind = 2) then
   (if (b1o x.Number 0 (wr ((List.length m.Counters : Int) - 1))) then (get m.Counters x.Number).bind fun x7 =>
   some (b1o x.Value 0 x7.Max) else some false).bind fun c8 =>
   some c8
  else
   if decide (x.Kind = 3) then
    some ((b1o x.Number 0 (wr ((List.length m.States : Int) - 1))) && (decide (x.Value = 0)))
   else
    if decide (x.Kind = 4) then
     some ((b1o x.Number 0 (wr ((List.length m.Outputs : Int) - 1))) && (decide (x.Value = 0)))
    else
     some false
def c60 (O : Orac) : Prop := ∀ (m : Machine) (x : Literal) (r : Bool) (hm0 : c19 m x = some r), Fn O "newel/situation.asks" [.agg (vM m), .agg [I x.Kind, I x.Number, I x.Value, B x.Not]] (B r)
def b7y (x : Literal) (c0 : Machine) : Option Bool :=
 (c19 c0 x).bind fun y2 =>
 some (!y2)
def c6v (O : Orac) : Prop := ∀ (x : Literal) (c0 : Machine) (r : Bool) (hm0 : b7y x c0 = some r), Fn O "newel/situation.Asked$1" [.agg [I x.Kind, I x.Number, I x.Value, B x.Not], .fp (vM c0) 0] (B r)
def d0y : Option Int :=
 some (-1)
def d70 (s : List Literal) (f : Literal -> Option Bool) : Int -> Option (Out Int (Unit ⊕ Int))
 | x_8 =>
  if decide (x_8 < (List.length s : Int)) then
   (get s x_8).bind fun x9 =>
   (f x9).bind fun y10 =>
   if y10 then
    some (.br (.inr x_8))
   else
    some (.nx (wr (x_8 + 1)))
  else
   some (.br (.inl ()))
def d0x (s : List Literal) (f : Literal -> Option Bool) : Option Int :=
 (b0w (d70 s f) (0)).bind fun
  | (.inl ()) => d0y
  | (.inr r') => some r'
def c69 (O : Orac) : Prop := ∀ (s : List Literal) (f_n : String) (f_a f_b : List AV) (f : Literal -> Option Bool) (f_z : Frz (.fn f_n f_a f_b)) (f_h : ∀ z0 y, f z0 = some y -> Fn O f_n (f_a ++ [.agg [I z0.Kind, I z0.Number, I z0.Value, B z0.Not]] ++ f_b) (B y)) (r : Int) (hm0 : d0x s f = some r), Fn O "slices.IndexFunc[newel/api.Term,newel/api.Literal]" [.fs 4 (List.map b24 s), .fn f_n f_a f_b] (I r)
def b60 (s : List Literal) (f : Literal -> Option Bool) : Option Bool :=
 (d0x s f).bind fun y2 =>
 some (decide (0 <= y2))
def b9j (O : Orac) : Prop := ∀ (s : List Literal) (f_n : String) (f_a f_b : List AV) (f : Literal -> Option Bool) (f_z : Frz (.fn f_n f_a f_b)) (f_h : ∀ z0 y, f z0 = some y -> Fn O f_n (f_a ++ [.agg [I z0.Kind, I z0.Number, I z0.Value, B z0.Not]] ++ f_b) (B y)) (r : Bool) (hm0 : b60 s f = some r), Fn O "slices.ContainsFunc[newel/api.Term,newel/api.Literal]" [.fs 4 (List.map b24 s), .fn f_n f_a f_b] (B r)
def d0r : Option Bool :=
 some true
def c1y (m : Machine) (c : List (List Literal)) : Int -> Option (Out Int (Unit ⊕ Bool))
 | x_12 =>
  if decide (x_12 < (List.length c : Int)) then
   (get c x_12).bind fun x10 =>
   (if decide (6 < (List.length x10 : Int)) then some true else (b60 x10 (fun z14 => b7y z14 m)).bind fun y15 =>
   some y15).bind fun c16 =>
   if c16 then
    some (.br (.inr false))
   else
    some (.nx (wr (x_12 + 1)))
  else
   some (.br (.inl ()))
def c1x (m : Machine) (c : List (List Literal)) : Option Bool :=
 if decide (6 < (List.length c : Int)) then
  some false
 else
  (b0w (c1y m c) (0)).bind fun
   | (.inl ()) => d0r
   | (.inr r') => some r'
def c6u (O : Orac) : Prop := ∀ (m : Machine) (c : List (List Literal)) (r : Bool) (hm0 : c1x m c = some r), Fn O "newel/situation.Asked" [.agg (vM m), .fs 1 (List.map b03 c)] (B r)
def b6z (x : Literal) : Bool :=
 decide (x.Kind = 3)
def c6x (O : Orac) : Prop := ∀ (x : Literal), Fn O "newel/situation.Check$1" [.agg [I x.Kind, I x.Number, I x.Value, B x.Not]] (B (b6z x))
def d0s : Option Int :=
 some 0
def c5n (x_79 : Int) : Option (Out Int (Unit ⊕ Int)) :=
 some (.nx (wr (x_79 + 1)))
def c14 (m : Machine) (x24 : Rule) : Int -> Option (Out Int (Unit ⊕ Int))
 | x_127 =>
  if decide (x_127 < (List.length x24.Sets : Int)) then
   (get x24.Sets x_127).bind fun x41 =>
   if (!(b1o x41.Kind 1 3)) || (!(b1o x41.Counter 0 (wr ((List.length m.Counters : Int) - 1)))) then
    some (.br (.inr 41))
   else
    some (.nx (wr (x_127 + 1)))
  else
   some (.br (.inl ()))
def c5o (m : Machine) (x_79 : Int) (x24 : Rule) : Option (Out Int (Unit ⊕ Int)) :=
 (b0w (c14 m x24) (0)).bind fun
  | (.inl ()) => c5n x_79
  | (.inr r') => some (.br (.inr r'))
def c12 (x24 : Rule) : Int -> Option (Out Int (Unit ⊕ Int))
 | x_117 =>
  if decide (x_117 < (List.length x24.When : Int)) then
   (get x24.When x_117).bind fun x50 =>
   (b60 x50 (fun z53 => some (b6z z53))).bind fun y54 =>
   if y54 then
    some (.br (.inr 41))
   else
    some (.nx (wr (x_117 + 1)))
  else
   some (.br (.inl ()))
def b7z (m : Machine) : Int -> Option (Out Int (Unit ⊕ Int))
 | x_79 =>
  if decide (x_79 < (List.length m.Rules : Int)) then
   (get m.Rules x_79).bind fun x24 =>
   (if (!(b1o x24.From (-1) (wr ((List.length m.States : Int) - 1)))) || (!(b1o x24.To 0 (wr ((List.length m.States : Int) - 1)))) then some true else (c1x m x24.When).bind fun y27 =>
   some (!y27)).bind fun c28 =>
   if c28 || (decide (4 < (List.length x24.Sets : Int))) then
    some (.br (.inr 41))
   else
    (b0w (c12 x24) (0)).bind fun
     | (.inl ()) => c5o m x_79 x24
     | (.inr r') => some (.br (.inr r'))
  else
   some (.br (.inl ()))
def c5m (m : Machine) : Option Int :=
 (b0w (b7z m) (0)).bind fun
  | (.inl ()) => d0s
  | (.inr r') => some r'
def c11 (m : Machine) : Int -> Option (Out Int (Unit ⊕ Int))
 | x_62 =>
  if decide (x_62 < (List.length m.States : Int)) then
   (get m.States x_62).bind fun x63 =>
   (shl .i64 1 (List.length m.Outputs : Int)).bind fun q65 =>
   if !(b1o x63.Shows 0 (wr (q65 - 1))) then
    some (.br (.inr 41))
   else
    some (.nx (wr (x_62 + 1)))
  else
   some (.br (.inl ()))
def c5l (m : Machine) : Option Int :=
 (b0w (c11 m) (0)).bind fun
  | (.inl ()) => c5m m
  | (.inr r') => some r'
def c15 (m : Machine) : Int -> Option (Out Int (Unit ⊕ Int))
 | x_50 =>
  if decide (x_50 < (List.length m.Counters : Int)) then
   (get m.Counters x_50).bind fun x73 =>
   if !(b1o x73.Max 1 7) then
    some (.br (.inr 41))
   else
    some (.nx (wr (x_50 + 1)))
  else
   some (.br (.inl ()))
def c1z (m : Machine) : Option Int :=
 (if ((((decide (4 < (List.length m.Inputs : Int))) || (decide (6 < (List.length m.Outputs : Int)))) || (decide (2 < (List.length m.Counters : Int)))) || (!(b1o (List.length m.States : Int) 1 12))) || (decide (40 < (List.length m.Rules : Int))) then some true else (c2a m).bind fun y3 =>
 some (!y3)).bind fun c4 =>
 if c4 then
  some 41
 else
  (b0w (c15 m) (0)).bind fun
   | (.inl ()) => c5l m
   | (.inr r') => some r'
def c6w (O : Orac) : Prop := ∀ (m : Machine) (r : Int) (hm0 : c1z m = some r), Fn O "newel/situation.Check" [.agg (vM m)] (I r)
def b8l (m : Machine) : Option Int :=
 (c1z m).bind fun y2 =>
 some y2
def c2i (O : Orac) : Prop := ∀ (m : Machine) (r : Int) (hm0 : b8l m = some r), Fn O "newel/control.Check" [.agg (vM m)] (I r)
@[go_sem] def d2f (x : List (List Literal)) : List AV := [.fs 1 (List.map b03 x)]
@[go_sem] theorem m7e {l : List (List (List Literal))} {n : Nat} {a0 : List (List Literal)} : (List.map d2f l).set n [.fs 1 (List.map b03 a0)] = List.map d2f (l.set n a0) := by rw [List.map_set]; rfl
structure situation_Plant where
 Machine : Machine
 deriving Inhabited, DecidableEq
structure control_plant where
 Plant : situation_Plant
 deriving Inhabited, DecidableEq
def b2a (m : Machine) : control_plant :=
 (control_plant.mk (situation_Plant.mk m))
def c2j (O : Orac) : Prop := ∀ (m : Machine), Fn O "newel/control.of" [.agg (vM m)] (.agg [.fs 1 (List.map eS ((((b2a m).Plant).Machine).Inputs)), .fs 1 (List.map eS ((((b2a m).Plant).Machine).Outputs)), .fs 2 (List.map b0l ((((b2a m).Plant).Machine).Counters)), .fs 2 (List.map b0m ((((b2a m).Plant).Machine).States)), .fs 4 (List.map b0j ((((b2a m).Plant).Machine).Rules))])
def b9o (m : situation_Plant) : Option Int :=
 (shl .i64 1 (List.length m.Machine.Inputs : Int)).bind fun q2 =>
 some q2
def c6a (O : Orac) : Prop := ∀ (m : situation_Plant) (r : Int) (hm0 : b9o m = some r), Fn O "(newel/situation.Plant).All" [.agg (vM m.Machine)] (I r)
structure Place where
 State : Int
 Values : Int × Int
 deriving Inhabited, DecidableEq
def b5v (x : Literal) (holds_9 : Bool) : Option Bool :=
 some (!(b5y holds_9 x.Not))
def b7d (m : situation_Plant) (x : Literal) (p : Place) (input : Int) : Option Bool :=
 if decide (x.Kind = 1) then
  (shr .i64 input x.Number).bind fun q5 =>
  b5v x (decide ((b5x q5 1) = 1))
 else
  if decide (x.Kind = 2) then
   (get [p.Values.1, p.Values.2] x.Number).bind fun x8 =>
   b5v x (decide (x.Value <= x8))
  else
   if decide (x.Kind = 3) then
    b5v x (decide (p.State = x.Number))
   else
    if decide (x.Kind = 4) then
     (get m.Machine.States p.State).bind fun x13 =>
     (shr .i64 x13.Shows x.Number).bind fun q14 =>
     b5v x (decide ((b5x q14 1) = 1))
    else
     b5v x false
def c6f (O : Orac) : Prop := ∀ (m : situation_Plant) (x : Literal) (p : Place) (input : Int) (r : Bool) (hm0 : b7d m x p input = some r), Fn O "(newel/situation.Plant).literal" [.agg (vM m.Machine), .agg [I x.Kind, I x.Number, I x.Value, B x.Not], .agg [I p.State, I p.Values.1, I p.Values.2], I input] (B r)
def b7c (x : Literal) (c0 : situation_Plant) (c1 : Place) (c2 : Int) : Option Bool :=
 (b7d c0 x c1 c2).bind fun y2 =>
 some (!y2)
def c6d (O : Orac) : Prop := ∀ (x : Literal) (c0 : situation_Plant) (c1 : Place) (c2 : Int) (r : Bool) (hm0 : b7c x c0 c1 c2 = some r), Fn O "(newel/situation.Plant).Holds$1$1" [.agg [I x.Kind, I x.Number, I x.Value, B x.Not], .fp (vM c0.Machine) 0, .fp [I c1.State, I c1.Values.1, I c1.Values.2] 0, .fp [I c2] 0] (B r)
def b7b (t_ : List Literal) (c0 : situation_Plant) (c1 : Place) (c2 : Int) : Option Bool :=
 (b60 t_ (fun z3 => b7c z3 c0 c1 c2)).bind fun y4 =>
 some (!y4)
def c6c (O : Orac) : Prop := ∀ (t_ : List Literal) (c0 : situation_Plant) (c1 : Place) (c2 : Int) (r : Bool) (hm0 : b7b t_ c0 c1 c2 = some r), Fn O "(newel/situation.Plant).Holds$1" [.fs 4 (List.map b24 t_), .fp (vM c0.Machine) 0, .fp [I c1.State, I c1.Values.1, I c1.Values.2] 0, .fp [I c2] 0] (B r)
def d0w : Option Int :=
 some (-1)
def d7z (s : List (List Literal)) (f : (List Literal) -> Option Bool) : Int -> Option (Out Int (Unit ⊕ Int))
 | x_8 =>
  if decide (x_8 < (List.length s : Int)) then
   (get s x_8).bind fun x9 =>
   (f x9).bind fun y10 =>
   if y10 then
    some (.br (.inr x_8))
   else
    some (.nx (wr (x_8 + 1)))
  else
   some (.br (.inl ()))
def d0v (s : List (List Literal)) (f : (List Literal) -> Option Bool) : Option Int :=
 (b0w (d7z s f) (0)).bind fun
  | (.inl ()) => d0w
  | (.inr r') => some r'
def c68 (O : Orac) : Prop := ∀ (s : List (List Literal)) (f_n : String) (f_a f_b : List AV) (f : (List Literal) -> Option Bool) (f_z : Frz (.fn f_n f_a f_b)) (f_h : ∀ z0 y, f z0 = some y -> Fn O f_n (f_a ++ [.fs 4 (List.map b24 z0)] ++ f_b) (B y)) (r : Int) (hm0 : d0v s f = some r), Fn O "slices.IndexFunc[newel/api.Cond,newel/api.Term]" [.fs 1 (List.map b03 s), .fn f_n f_a f_b] (I r)
def c51 (s : List (List Literal)) (f : (List Literal) -> Option Bool) : Option Bool :=
 (d0v s f).bind fun y2 =>
 some (decide (0 <= y2))
def c67 (O : Orac) : Prop := ∀ (s : List (List Literal)) (f_n : String) (f_a f_b : List AV) (f : (List Literal) -> Option Bool) (f_z : Frz (.fn f_n f_a f_b)) (f_h : ∀ z0 y, f z0 = some y -> Fn O f_n (f_a ++ [.fs 4 (List.map b24 z0)] ++ f_b) (B y)) (r : Bool) (hm0 : c51 s f = some r), Fn O "slices.ContainsFunc[newel/api.Cond,newel/api.Term]" [.fs 1 (List.map b03 s), .fn f_n f_a f_b] (B r)
def b9p (m : situation_Plant) (c : List (List Literal)) (p : Place) (input : Int) : Option Bool :=
 (c51 c (fun z3 => b7b z3 m p input)).bind fun y4 =>
 some y4
def c6b (O : Orac) : Prop := ∀ (m : situation_Plant) (c : List (List Literal)) (p : Place) (input : Int) (r : Bool) (hm0 : b9p m c p input = some r), Fn O "(newel/situation.Plant).Holds" [.agg (vM m.Machine), .fs 1 (List.map b03 c), .agg [I p.State, I p.Values.1, I p.Values.2], I input] (B r)
def b9u (m : situation_Plant) (s : Set) (p : Place) : Option Place :=
 (get [p.Values.1, p.Values.2] s.Counter).bind fun x2 =>
 if decide (s.Kind = 1) then
  some (Place.mk p.State (b09 s.Counter 0 0 p.Values.1, b09 s.Counter 1 0 p.Values.2))
 else
  if decide (s.Kind = 2) then
   (get m.Machine.Counters s.Counter).bind fun x6 =>
   some (Place.mk p.State (b09 s.Counter 0 (mn (wr (x2 + 1)) x6.Max) p.Values.1, b09 s.Counter 1 (mn (wr (x2 + 1)) x6.Max) p.Values.2))
  else
   if decide (s.Kind = 3) then
    some (Place.mk p.State (b09 s.Counter 0 (mx (wr (x2 - 1)) 0) p.Values.1, b09 s.Counter 1 (mx (wr (x2 - 1)) 0) p.Values.2))
   else
    some (Place.mk p.State (p.Values.1, p.Values.2))
def c6g (O : Orac) : Prop := ∀ (m : situation_Plant) (s : Set) (p : Place) (i_2 : Nat) (h0 : Heap) (ob_p2 : h0.ob i_2 = some (3, [[I p.State, I p.Values.1, I p.Values.2]])) (lt_p2 : i_2 < h0.nx) (r : Place) (hm0 : b9u m s p = some r), b50 O "(newel/situation.Plant).set" [.agg (vM m.Machine), .agg [I s.Kind, I s.Counter], .rp i_2 0 0] h0 (fun v h => v = .tup [] /\ h.ob i_2 = some (3, [[I r.State, I r.Values.1, I r.Values.2]]) /\ (∀ j, j < h0.nx -> ¬j = i_2 -> h.ob j = h0.ob j) /\ h0.nx <= h.nx)
def c2z (p_4_0 : Int) (p_4_1 : Int) (p_4_2 : Int) : Option Place :=
 some (Place.mk p_4_0 (p_4_1, p_4_2))
def c20 (x_15 : Int) : Option (Out Int ((Int × Int × Int))) :=
 some (.nx (wr (x_15 + 1)))
def c2y (x9 : Rule) (p_4_0 : Int) (p_4_1 : Int) (p_4_2 : Int) : Option (Out Int ((Int × Int × Int))) :=
 some (.br (x9.To, p_4_1, p_4_2))
def b9t (m : situation_Plant) (x9 : Rule) : (Int × Int × Int × Int) -> Option (Out (Int × Int × Int × Int) ((Int × Int × Int)))
 | (p_4_0, p_4_1, p_4_2, x_41) =>
  if decide (x_41 < (List.length x9.Sets : Int)) then
   (get x9.Sets x_41).bind fun x25 =>
   (b9u m x25 (Place.mk p_4_0 (p_4_1, p_4_2))).bind fun y27 =>
   some (.nx (y27.State, y27.Values.1, y27.Values.2, wr (x_41 + 1)))
  else
   some (.br (p_4_0, p_4_1, p_4_2))
def c2x (m : situation_Plant) (p : Place) (input : Int) : Int -> Option (Out Int ((Int × Int × Int)))
 | x_15 =>
  if decide (x_15 < (List.length m.Machine.Rules : Int)) then
   (get m.Machine.Rules x_15).bind fun x9 =>
   (if (decide (¬x9.From = (-1))) && (decide (¬x9.From = p.State)) then some true else (b9p m x9.When (Place.mk p.State (p.Values.1, p.Values.2)) input).bind fun y12 =>
   some (!y12)).bind fun c13 =>
   if c13 then
    c20 x_15
   else
    (b0w (b9t m x9) (p.State, p.Values.1, p.Values.2, 0)).bind fun
     | (p_4_0, p_4_1, p_4_2) => c2y x9 p_4_0 p_4_1 p_4_2
  else
   some (.br (p.State, p.Values.1, p.Values.2))
def b8b (m : situation_Plant) (p : Place) (input : Int) : Option Place :=
 (b0w (c2x m p input) (0)).bind fun
  | (p_4_0, p_4_1, p_4_2) => c2z p_4_0 p_4_1 p_4_2
def c2h (O : Orac) : Prop := ∀ (m : situation_Plant) (p : Place) (input : Int) (r : Place) (hm0 : b8b m p input = some r), Fn O "(newel/situation.Plant).Step" [.agg (vM m.Machine), .agg [I p.State, I p.Values.1, I p.Values.2], I input] (.agg [I r.State, I r.Values.1, I r.Values.2])
structure control_walk where
 places : List Place
 from_ : List Int
 by_ : List Int
 next : List (List Int)
 deriving Inhabited, DecidableEq
@[go_sem] def b2w (x : Place) : List AV := [I x.State, I x.Values.1, I x.Values.2]
theorem b8u (x : Place) : ∀ c ∈ b2w x, Frz c := (b0a (b0d _) (b0a (b0d _) (b0a (b0d _) b0o)))
theorem d58 (x : Place) : (b2w x).length = 3 := rfl
@[go_sem] theorem m7i {l : List Place} {n : Nat} {a0 : Int} {a1 : Int} {a2 : Int} : (List.map b2w l).set n [I a0, I a1, I a2] = List.map b2w (l.set n (Place.mk a0 (a1, a2))) := by rw [List.map_set]; rfl
@[go_sem] def d2e (x : List Int) : List AV := [.fs 1 (List.map eI x)]
@[go_sem] theorem m7d {l : List (List Int)} {n : Nat} {a0 : List Int} : (List.map d2e l).set n [.fs 1 (List.map eI a0)] = List.map d2e (l.set n a0) := by rw [List.map_set]; rfl
def c9o : Option Bool := some true
def d08 (O : Orac) : Prop := ∀ (r : Bool) (hm0 : c9o = some r), Fn O "newel/newellaw04.works" [] (B r)
def c4v (o_3 : List (List Literal)) : Option (List (List Literal)) :=
 some o_3
def c09 (c : List (List Literal)) : ((List (List Literal)) × Int) -> Option (Out ((List (List Literal)) × Int) (((List (List Literal)))))
 | (o_3, i_4) =>
  if decide (i_4 < (List.length c : Int)) then
   (get c i_4).bind fun x10 =>
   (ap 32 ([]) x10).bind fun l11 =>
   (ap 24 o_3 ([l11])).bind fun l12 =>
   some (.nx (l12, wr (i_4 + 1)))
  else
   some (.br o_3)
def c08 (c : List (List Literal)) : Option (List (List Literal)) :=
 (b0w (c09 c) ([], 0)).bind fun o_3 =>
 c4v o_3
def c6l (O : Orac) : Prop := ∀ (c : List (List Literal)) (r : List (List Literal)) (hm0 : c08 c = some r), Fn O "newel/newelref04.CopyCond" [.fs 1 (List.map b03 c)] (.fs 1 (List.map b03 r))
def c4w (l5 : List ByteArray) (l6 : List ByteArray) (l7 : List Counter) (l8 : List State) (o_3_4 : List Rule) : Option Machine :=
 some (Machine.mk l5 l6 l7 l8 o_3_4)
def c1a (m : Machine) : ((List Rule) × Int) -> Option (Out ((List Rule) × Int) (((List Rule))))
 | (o_3_4, i_4) =>
  if decide (i_4 < (List.length m.Rules : Int)) then
   (get m.Rules i_4).bind fun x16 =>
   (c08 x16.When).bind fun y18 =>
   (ap 16 ([]) x16.Sets).bind fun l20 =>
   (ap 64 o_3_4 ([(Rule.mk x16.From x16.To y18 l20)])).bind fun l22 =>
   some (.nx (l22, wr (i_4 + 1)))
  else
   some (.br o_3_4)
def c07 (m : Machine) : Option Machine :=
 (ap 16 ([]) m.Inputs).bind fun l5 =>
 (ap 16 ([]) m.Outputs).bind fun l6 =>
 (ap 24 ([]) m.Counters).bind fun l7 =>
 (ap 24 ([]) m.States).bind fun l8 =>
 (b0w (c1a m) ([], 0)).bind fun o_3_4 =>
 c4w l5 l6 l7 l8 o_3_4
def c6k (O : Orac) : Prop := ∀ (m : Machine) (r : Machine) (hm0 : c07 m = some r), Fn O "newel/newelref04.Copy" [.agg (vM m)] (.agg (vM r))
def b9a (m : Machine) : Option Int :=
 (shl .i64 1 (IntKind.wrap .u64 (List.length m.Inputs : Int))).bind fun q2 =>
 some q2
def c2m (O : Orac) : Prop := ∀ (m : Machine) (r : Int) (hm0 : b9a m = some r), Fn O "newel/newelref04.all" [.agg (vM m)] (I r)
def b6v (l : Literal) (is_9 : Bool) : Option Bool :=
 some (!(b5y is_9 l.Not))
def b9c (m : Machine) (p : Place) (input : Int) (l : Literal) : Option Bool :=
 if decide (l.Kind = 1) then
  (shr .i64 input (IntKind.wrap .u64 l.Number)).bind fun q5 =>
  b6v l (decide ((b5x q5 1) = 1))
 else
  if decide (l.Kind = 2) then
   (get [p.Values.1, p.Values.2] l.Number).bind fun x8 =>
   b6v l (decide (l.Value <= x8))
  else
   if decide (l.Kind = 3) then
    b6v l (decide (p.State = l.Number))
   else
    if decide (l.Kind = 4) then
     (get m.States p.State).bind fun x13 =>
     (shr .i64 x13.Shows (IntKind.wrap .u64 l.Number)).bind fun q14 =>
     b6v l (decide ((b5x q14 1) = 1))
    else
     b6v l false
def c6s (O : Orac) : Prop := ∀ (m : Machine) (p : Place) (input : Int) (l : Literal) (r : Bool) (hm0 : b9c m p input l = some r), Fn O "newel/newelref04.literal" [.agg (vM m), .agg [I p.State, I p.Values.1, I p.Values.2], I input, .agg [I l.Kind, I l.Number, I l.Value, B l.Not]] (B r)
def d0c : Option Bool :=
 some false
def c4x (i_9 : Int) : Option (Out Int (Unit ⊕ Bool)) :=
 some (.nx (wr (i_9 + 1)))
def c4y (i_9 : Int) (all_10 : Bool) : Option (Out Int (Unit ⊕ Bool)) :=
 if all_10 then
  some (.br (.inr true))
 else
  c4x i_9
def c1d (m : Machine) (p : Place) (input : Int) (c : List (List Literal)) (i_9 : Int) : (Bool × Int) -> Option (Out (Bool × Int) Bool)
 | (all_10, k_11) =>
  (get c i_9).bind fun x13 =>
  if decide (k_11 < (List.length x13 : Int)) then
   (if all_10 then (get x13 k_11).bind fun x20 =>
   (b9c m p input x20).bind fun y21 =>
   some y21 else some false).bind fun c22 =>
   some (.nx (c22, wr (k_11 + 1)))
  else
   some (.br all_10)
def c1c (m : Machine) (p : Place) (input : Int) (c : List (List Literal)) : Int -> Option (Out Int (Unit ⊕ Bool))
 | i_9 =>
  if decide (i_9 < (List.length c : Int)) then
   (b0w (c1d m p input c i_9) (true, 0)).bind fun all_10 =>
   c4y i_9 all_10
  else
   some (.br (.inl ()))
def c1b (m : Machine) (p : Place) (input : Int) (c : List (List Literal)) : Option Bool :=
 (b0w (c1c m p input c) (0)).bind fun
  | (.inl ()) => d0c
  | (.inr r') => some r'
def c6m (O : Orac) : Prop := ∀ (m : Machine) (p : Place) (input : Int) (c : List (List Literal)) (r : Bool) (hm0 : c1b m p input c = some r), Fn O "newel/newelref04.Holds" [.agg (vM m), .agg [I p.State, I p.Values.1, I p.Values.2], I input, .fs 1 (List.map b03 c)] (B r)
def c42 (p : Place) : Option Place :=
 some (Place.mk p.State (p.Values.1, p.Values.2))
def c43 (i_7 : Int) : Option (Out Int (Unit ⊕ Place)) :=
 some (.nx (wr (i_7 + 1)))
def c41 (x9 : Rule) (q_9_1 : Int) (q_9_2 : Int) : Option (Out Int (Unit ⊕ Place)) :=
 some (.br (.inr (Place.mk x9.To (q_9_1, q_9_2))))
def b7u (k_10 : Int) (q_9_1_1 : Int) (q_9_2_1 : Int) : Option (Out (Int × Int × Int) ((Int × Int))) :=
 some (.nx (q_9_1_1, q_9_2_1, wr (k_10 + 1)))
def c1h (m : Machine) (x9 : Rule) : (Int × Int × Int) -> Option (Out (Int × Int × Int) ((Int × Int)))
 | (q_9_1, q_9_2, k_10) =>
  if decide (k_10 < (List.length x9.Sets : Int)) then
   (get x9.Sets k_10).bind fun x26 =>
   if decide (x26.Kind = 1) then
    (get [q_9_1, q_9_2] x26.Counter).bind fun x29 =>
    b7u k_10 (b09 x26.Counter 0 0 q_9_1) (b09 x26.Counter 1 0 q_9_2)
   else
    if decide (x26.Kind = 2) then
     (get [q_9_1, q_9_2] x26.Counter).bind fun x33 =>
     (get m.Counters x26.Counter).bind fun x34 =>
     b7u k_10 (b09 x26.Counter 0 (mn (wr (x33 + 1)) x34.Max) q_9_1) (b09 x26.Counter 1 (mn (wr (x33 + 1)) x34.Max) q_9_2)
    else
     if decide (x26.Kind = 3) then
      (get [q_9_1, q_9_2] x26.Counter).bind fun x37 =>
      b7u k_10 (b09 x26.Counter 0 (mx (wr (x37 - 1)) 0) q_9_1) (b09 x26.Counter 1 (mx (wr (x37 - 1)) 0) q_9_2)
     else
      b7u k_10 q_9_1 q_9_2
  else
   some (.br (q_9_1, q_9_2))
def c40 (m : Machine) (p : Place) (input : Int) : Int -> Option (Out Int (Unit ⊕ Place))
 | i_7 =>
  if decide (i_7 < (List.length m.Rules : Int)) then
   (get m.Rules i_7).bind fun x9 =>
   (if (decide (0 <= x9.From)) && (decide (¬x9.From = p.State)) then some true else (c1b m p input x9.When).bind fun y12 =>
   some (!y12)).bind fun c13 =>
   if c13 then
    c43 i_7
   else
    (b0w (c1h m x9) (p.Values.1, p.Values.2, 0)).bind fun
     | (q_9_1, q_9_2) => c41 x9 q_9_1 q_9_2
  else
   some (.br (.inl ()))
def b88 (m : Machine) (p : Place) (input : Int) : Option Place :=
 (b0w (c40 m p input) (0)).bind fun
  | (.inl ()) => c42 p
  | (.inr r') => some r'
def c2l (O : Orac) : Prop := ∀ (m : Machine) (p : Place) (input : Int) (r : Place) (hm0 : b88 m p input = some r), Fn O "newel/newelref04.Next" [.agg (vM m), .agg [I p.State, I p.Values.1, I p.Values.2], I input] (.agg [I r.State, I r.Values.1, I r.Values.2])
@[go_sem ↓ high, go_sem high] theorem m69 {k : AV -> Prop} (a b : Place) : @b1w .eql (.flat [.i, .i, .i]) (.agg [I a.State, I a.Values.1, I a.Values.2]) (.agg [I b.State, I b.Values.1, I b.Values.2]) ⟨k⟩ = k (B (decide (a = b))) := d3n rfl rfl (b3c (b3c (b3c c3n))) (by
 obtain ⟨a1, ⟨a2, a3⟩⟩ := a; obtain ⟨b4, ⟨b5, b6⟩⟩ := b
 rw [Bool.eq_iff_iff]; simp only [Bool.and_eq_true, decide_eq_true_eq, and_true]
 constructor
 ·rintro ⟨rfl, rfl, rfl⟩; rfl
 ·intro h; cases h; exact ⟨rfl, rfl, rfl⟩)
@[go_sem ↓ high, go_sem high] theorem d5i {k : AV -> Prop} (a b : Place) : @b1w .neq (.flat [.i, .i, .i]) (.agg [I a.State, I a.Values.1, I a.Values.2]) (.agg [I b.State, I b.Values.1, I b.Values.2]) ⟨k⟩ = k (B (!(decide (a = b)))) := d3w rfl rfl (b3c (b3c (b3c c3n))) (by
 obtain ⟨a1, ⟨a2, a3⟩⟩ := a; obtain ⟨b4, ⟨b5, b6⟩⟩ := b
 rw [Bool.eq_iff_iff]; simp only [Bool.and_eq_true, decide_eq_true_eq, and_true]
 constructor
 ·rintro ⟨rfl, rfl, rfl⟩; rfl
 ·intro h; cases h; exact ⟨rfl, rfl, rfl⟩)
structure r04_graph where
 places : List Place
 back : List Int
 input : List Int
 deriving Inhabited, DecidableEq
def c4d : Option Bool :=
 some true
def c0w (a : List Place) (b : List Place) : Int -> Option (Out Int (Unit ⊕ Bool))
 | i_5 =>
  if decide (i_5 < (List.length a : Int)) then
   (get a i_5).bind fun x11 =>
   (get b i_5).bind fun x12 =>
   if !(decide (x11 = x12)) then
    some (.br (.inr false))
   else
    some (.nx (wr (i_5 + 1)))
  else
   some (.br (.inl ()))
def c0v (a : List Place) (b : List Place) : Option Bool :=
 if decide (¬(List.length a : Int) = (List.length b : Int)) then
  some false
 else
  (b0w (c0w a b) (0)).bind fun
   | (.inl ()) => c4d
   | (.inr r') => some r'
def c6j (O : Orac) : Prop := ∀ (a : List Place) (b : List Place) (r : Bool) (hm0 : c0v a b = some r), Fn O "newel/newellaw04.samePlaces" [.fs 3 (List.map b2w a), .fs 3 (List.map b2w b)] (B r)
structure l04_Conds where
 Assume : List (List Literal)
 Never : List (List Literal)
 deriving Inhabited, DecidableEq
def c2w (m : situation_Plant) (p : Place) : Option Bool :=
 some (b1o p.State 0 (wr ((List.length m.Machine.States : Int) - 1)))
def b9s (x_10 : Int) (x8 : Int) (most_7 : Int) : Option (Out Int (Unit ⊕ Bool)) :=
 if !(b1o x8 0 most_7) then
  some (.br (.inr false))
 else
  some (.nx (wr (x_10 + 1)))
def b9r (m : situation_Plant) (p : Place) : Int -> Option (Out Int (Unit ⊕ Bool))
 | x_10 =>
  if decide (x_10 < 2) then
   (get [p.Values.1, p.Values.2] x_10).bind fun x8 =>
   if decide (x_10 < (List.length m.Machine.Counters : Int)) then
    (get m.Machine.Counters x_10).bind fun x14 =>
    b9s x_10 x8 x14.Max
   else
    b9s x_10 x8 0
  else
   some (.br (.inl ()))
def b9q (m : situation_Plant) (p : Place) : Option Bool :=
 (b0w (b9r m p) (0)).bind fun
  | (.inl ()) => c2w m p
  | (.inr r') => some r'
def c6e (O : Orac) : Prop := ∀ (m : situation_Plant) (p : Place) (r : Bool) (hm0 : b9q m p = some r), Fn O "(newel/situation.Plant).Place" [.agg (vM m.Machine), .agg [I p.State, I p.Values.1, I p.Values.2]] (B r)
def b8a (m : situation_Plant) (n : Int) : Option Bool :=
 (b9o m).bind fun y2 =>
 some (b1o n 0 (wr (y2 - 1)))
def c2g (O : Orac) : Prop := ∀ (m : situation_Plant) (n : Int) (r : Bool) (hm0 : b8a m n = some r), Fn O "(newel/situation.Plant).Input" [.agg (vM m.Machine), I n] (B r)
def b94 (m : Machine) (p : Place) (input : Int) : Option (Place × Int) :=
 (b8l m).bind fun y2 =>
 if decide (¬y2 = 0) then
  some ((Place.mk 0 (0, 0)), y2)
 else
  (b9q (situation_Plant.mk (((b2a m).Plant).Machine)) p).bind fun y8 =>
  (if !y8 then some true else (b8a (situation_Plant.mk (((b2a m).Plant).Machine)) input).bind fun y9 =>
  some (!y9)).bind fun c10 =>
  if c10 then
   some ((Place.mk 0 (0, 0)), 1)
  else
   (b8b (situation_Plant.mk (((b2a m).Plant).Machine)) p input).bind fun y15 =>
   some ((Place.mk y15.State (y15.Values.1, y15.Values.2)), 0)
def c6i (O : Orac) : Prop := ∀ (m : Machine) (p : Place) (input : Int) (r : Place × Int) (hm0 : b94 m p input = some r), Fn O "newel/control.Step" [.agg (vM m), .agg [I p.State, I p.Values.1, I p.Values.2], I input] (.tup [.agg [I r.1.State, I r.1.Values.1, I r.1.Values.2], I r.2])
def c4z : Option Bool :=
 some true
def c1g (p : Place) (i_5 : Int) (most_6 : Int) : Option (Out Int (Unit ⊕ Bool)) :=
 (get [p.Values.1, p.Values.2] i_5).bind fun x12 =>
 if !(b1k x12 0 most_6) then
  some (.br (.inr false))
 else
  some (.nx (wr (i_5 + 1)))
def c1f (m : Machine) (p : Place) : Int -> Option (Out Int (Unit ⊕ Bool))
 | i_5 =>
  if decide (i_5 < 2) then
   if decide (i_5 < (List.length m.Counters : Int)) then
    (get m.Counters i_5).bind fun x16 =>
    c1g p i_5 x16.Max
   else
    c1g p i_5 0
  else
   some (.br (.inl ()))
def c1e (m : Machine) (p : Place) : Option Bool :=
 if !(b1k p.State 0 (wr ((List.length m.States : Int) - 1))) then
  some false
 else
  (b0w (c1f m p) (0)).bind fun
   | (.inl ()) => c4z
   | (.inr r') => some r'
def c6n (O : Orac) : Prop := ∀ (m : Machine) (p : Place) (r : Bool) (hm0 : c1e m p = some r), Fn O "newel/newelref04.IsPlace" [.agg (vM m), .agg [I p.State, I p.Values.1, I p.Values.2]] (B r)
structure l04_Pinned where
 Run : List Int
 Input : Int
 Value : Int
 deriving Inhabited, DecidableEq
def c1l (m : Machine) (p : Place) (input : Int) : Option (Place × Int) :=
 (b87 m).bind fun y2 =>
 if decide (¬y2 = 0) then
  some ((Place.mk 0 (0, 0)), y2)
 else
  (c1e m p).bind fun y8 =>
  (if !y8 then some true else (b9a m).bind fun y9 =>
  some (!(b1k input 0 (wr (y9 - 1))))).bind fun c10 =>
  if c10 then
   some ((Place.mk 0 (0, 0)), 1)
  else
   (b88 m p input).bind fun y15 =>
   some ((Place.mk y15.State (y15.Values.1, y15.Values.2)), 0)
def c6p (O : Orac) : Prop := ∀ (m : Machine) (p : Place) (input : Int) (r : Place × Int) (hm0 : c1l m p input = some r), Fn O "newel/newelref04.Step" [.agg (vM m), .agg [I p.State, I p.Values.1, I p.Values.2], I input] (.tup [.agg [I r.1.State, I r.1.Values.1, I r.1.Values.2], I r.2])
def c7q (l_9 : List Place) : Option ((List Place) × Int) :=
 some (l_9, 0)
def b51 (m : Machine) (inputs : List Int) : (Int × Int × Int × (List Place) × Int) -> Option (Out (Int × Int × Int × (List Place) × Int) (((List Place)) ⊕ (((List Place) × Int))))
 | (p_8_0, p_8_1, p_8_2, l_9, x_24) =>
  if decide (x_24 < (List.length inputs : Int)) then
   (get inputs x_24).bind fun x14 =>
   (b8a (situation_Plant.mk (((b2a m).Plant).Machine)) x14).bind fun y16 =>
   if !y16 then
    some (.br (.inr ([], 1)))
   else
    (b8b (situation_Plant.mk (((b2a m).Plant).Machine)) (Place.mk p_8_0 (p_8_1, p_8_2)) x14).bind fun y20 =>
    (ap 24 l_9 ([(Place.mk y20.State (y20.Values.1, y20.Values.2))])).bind fun l22 =>
    some (.nx (y20.State, y20.Values.1, y20.Values.2, l22, wr (x_24 + 1)))
  else
   some (.br (.inl l_9))
def b93 (m : Machine) (inputs : List Int) : Option ((List Place) × Int) :=
 (b8l m).bind fun y2 =>
 if decide (¬y2 = 0) then
  some ([], y2)
 else
  if decide (200 < (List.length inputs : Int)) then
   some ([], 2)
  else
   (b0w (b51 m inputs) (0, 0, 0, [], 0)).bind fun
    | (.inl l_9) => c7q l_9
    | (.inr r') => some r'
def c6h (O : Orac) : Prop := ∀ (m : Machine) (inputs : List Int) (r : (List Place) × Int) (hm0 : b93 m inputs = some r), Fn O "newel/control.Run" [.agg (vM m), .fs 1 (List.map eI inputs)] (.tup [.fs 3 (List.map b2w r.1), I r.2])
def c44 (out_8 : List Place) : Option ((List Place) × Int) :=
 some (out_8, 0)
def c1k (m : Machine) (inputs : List Int) : ((List Place) × Int × Int × Int × Int) -> Option (Out ((List Place) × Int × Int × Int × Int) (((List Place))))
 | (out_8, p_9_0, p_9_1, p_9_2, i_10) =>
  if decide (i_10 < (List.length inputs : Int)) then
   (get inputs i_10).bind fun x17 =>
   (b88 m (Place.mk p_9_0 (p_9_1, p_9_2)) x17).bind fun y18 =>
   (ap 24 out_8 ([(Place.mk y18.State (y18.Values.1, y18.Values.2))])).bind fun l20 =>
   some (.nx (l20, y18.State, y18.Values.1, y18.Values.2, wr (i_10 + 1)))
  else
   some (.br out_8)
def c45 (m : Machine) (inputs : List Int) : Option ((List Place) × Int) :=
 (b0w (c1k m inputs) ([], 0, 0, 0, 0)).bind fun out_8 =>
 c44 out_8
def c1j (m : Machine) (inputs : List Int) : Int -> Option (Out Int (Unit ⊕ (((List Place) × Int))))
 | i_7 =>
  if decide (i_7 < (List.length inputs : Int)) then
   (get inputs i_7).bind fun x28 =>
   (b9a m).bind fun y29 =>
   if !(b1k x28 0 (wr (y29 - 1))) then
    some (.br (.inr ([], 1)))
   else
    some (.nx (wr (i_7 + 1)))
  else
   some (.br (.inl ()))
def c1i (m : Machine) (inputs : List Int) : Option ((List Place) × Int) :=
 (b87 m).bind fun y2 =>
 if decide (¬y2 = 0) then
  some ([], y2)
 else
  if decide (200 < (List.length inputs : Int)) then
   some ([], 2)
  else
   (b0w (c1j m inputs) (0)).bind fun
    | (.inl ()) => c45 m inputs
    | (.inr r') => some r'
def c6o (O : Orac) : Prop := ∀ (m : Machine) (inputs : List Int) (r : (List Place) × Int) (hm0 : c1i m inputs = some r), Fn O "newel/newelref04.Run" [.agg (vM m), .fs 1 (List.map eI inputs)] (.tup [.fs 3 (List.map b2w r.1), I r.2])
def b81 (m : Machine) (p : Place) (inputs : List Int) (y2 : Machine) (input_8 : Int) : Option Bool :=
 (b94 y2 p input_8).bind fun y6 =>
 (c1l m p input_8).bind fun y8 =>
 if (!(decide ((Place.mk y6.1.State (y6.1.Values.1, y6.1.Values.2)) = (Place.mk y8.1.State (y8.1.Values.1, y8.1.Values.2))))) || (decide (¬y6.2 = y8.2)) then
  some false
 else
  (b93 y2 inputs).bind fun y13 =>
  (c1i m inputs).bind fun y15 =>
  (c0v y13.1 y15.1).bind fun y19 =>
  (if y19 && (decide (y13.2 = y15.2)) then (c9o).bind fun y20 =>
  some y20 else some false).bind fun c21 =>
  some c21
def c0u (m : Machine) (p : Place) (inputs : List Int) : Option Bool :=
 (c07 m).bind fun y2 =>
 if decide (0 < (List.length inputs : Int)) then
  (get inputs 0).bind fun x26 =>
  b81 m p inputs y2 x26
 else
  b81 m p inputs y2 0
def d07 (O : Orac) : Prop := ∀ (m : Machine) (p : Place) (inputs : List Int) (r : Bool) (hm0 : c0u m p inputs = some r), Fn O "newel/newellaw04.ControlSteps" [.agg (vM m), .agg [I p.State, I p.Values.1, I p.Values.2], .fs 1 (List.map eI inputs)] (B r)
structure control_pair where
 a : Place
 b : Place
 deriving Inhabited, DecidableEq
@[go_sem] def d2s (x : control_pair) : List AV := [I x.a.State, I x.a.Values.1, I x.a.Values.2, I x.b.State, I x.b.Values.1, I x.b.Values.2]
@[go_sem] theorem m7m {l : List control_pair} {n : Nat} {a0 : Int} {a1 : Int} {a2 : Int} {a3 : Int} {a4 : Int} {a5 : Int} : (List.map d2s l).set n [I a0, I a1, I a2, I a3, I a4, I a5] = List.map d2s (l.set n (control_pair.mk (Place.mk a0 (a1, a2)) (Place.mk a3 (a4, a5)))) := by rw [List.map_set]; rfl
structure r04_pair where
 a : Place
 b : Place
 deriving Inhabited, DecidableEq
@[go_sem] def d2x (x : r04_pair) : List AV := [I x.a.State, I x.a.Values.1, I x.a.Values.2, I x.b.State, I x.b.Values.1, I x.b.Values.2]
@[go_sem] theorem m7n {l : List r04_pair} {n : Nat} {a0 : Int} {a1 : Int} {a2 : Int} {a3 : Int} {a4 : Int} {a5 : Int} : (List.map d2x l).set n [I a0, I a1, I a2, I a3, I a4, I a5] = List.map d2x (l.set n (r04_pair.mk (Place.mk a0 (a1, a2)) (Place.mk a3 (a4, a5)))) := by rw [List.map_set]; rfl
@[go_sem ↓ high, go_sem high] theorem m7a {k : AV -> Prop} (a b : r04_pair) : @b1w .eql (.flat [.i, .i, .i, .i, .i, .i]) (.agg [I a.a.State, I a.a.Values.1, I a.a.Values.2, I a.b.State, I a.b.Values.1, I a.b.Values.2]) (.agg [I b.a.State, I b.a.Values.1, I b.a.Values.2, I b.b.State, I b.b.Values.1, I b.b.Values.2]) ⟨k⟩ = k (B (decide (a = b))) := d3n rfl rfl (b3c (b3c (b3c (b3c (b3c (b3c c3n)))))) (by
 obtain ⟨⟨a1, ⟨a2, a3⟩⟩, ⟨a4, ⟨a5, a6⟩⟩⟩ := a; obtain ⟨⟨b7, ⟨b8, b9⟩⟩, ⟨b10, ⟨b11, b12⟩⟩⟩ := b
 rw [Bool.eq_iff_iff]; simp only [Bool.and_eq_true, decide_eq_true_eq, and_true]
 constructor
 ·rintro ⟨rfl, rfl, rfl, rfl, rfl, rfl⟩; rfl
 ·intro h; cases h; exact ⟨rfl, rfl, rfl, rfl, rfl, rfl⟩)
@[go_sem ↓ high, go_sem high] theorem m7b {k : AV -> Prop} (a b : r04_pair) : @b1w .neq (.flat [.i, .i, .i, .i, .i, .i]) (.agg [I a.a.State, I a.a.Values.1, I a.a.Values.2, I a.b.State, I a.b.Values.1, I a.b.Values.2]) (.agg [I b.a.State, I b.a.Values.1, I b.a.Values.2, I b.b.State, I b.b.Values.1, I b.b.Values.2]) ⟨k⟩ = k (B (!(decide (a = b)))) := d3w rfl rfl (b3c (b3c (b3c (b3c (b3c (b3c c3n)))))) (by
 obtain ⟨⟨a1, ⟨a2, a3⟩⟩, ⟨a4, ⟨a5, a6⟩⟩⟩ := a; obtain ⟨⟨b7, ⟨b8, b9⟩⟩, ⟨b10, ⟨b11, b12⟩⟩⟩ := b
 rw [Bool.eq_iff_iff]; simp only [Bool.and_eq_true, decide_eq_true_eq, and_true]
 constructor
 ·rintro ⟨rfl, rfl, rfl, rfl, rfl, rfl⟩; rfl
 ·intro h; cases h; exact ⟨rfl, rfl, rfl, rfl, rfl, rfl⟩)
structure l04_Claim where
 Run : List Int
 Places : List Place
 deriving Inhabited, DecidableEq
end
end Go.Nw.KM
