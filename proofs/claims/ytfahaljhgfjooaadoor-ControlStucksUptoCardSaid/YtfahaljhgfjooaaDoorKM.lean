/- Models of functions: printed by gen.py. -/
import Derived.Test.YtfahaljhgfjooaaDoorNwMaps
import Derived.Test.YtfahaljhgfjooaaDoorNwCtlSrc
set_option linter.all false
namespace Go.Nw.KM
open Go.Nw.Ctl
set_option maxHeartbeats 4000000
theorem lA9 {α : Type} {l m : List α} : (l ++ m).length = l.length + m.length := List.length_append
theorem mA9 {α β : Type} {f : α → β} {l m : List α} : List.map f (l ++ m) = List.map f l ++ List.map f m := List.map_append
theorem oF9 {a b : Bool} : (a || b) = false ↔ a = false ∧ b = false := Bool.or_eq_false_iff
theorem nF9 : (¬False) = True := not_false_eq_true
theorem bF9 {α : Type} [BEq α] [LawfulBEq α] {a b : α} : (a == b) = false ↔ a ≠ b := beq_eq_false_iff_ne
theorem sI9 {α : Type} {a b : α} (h : some a = some b) : a = b := Option.some.inj h
variable {O : Orac} [MapsOk O]
def wl_0 : List ByteArray := b5u.map fun s => ⟨s.toArray⟩
@[go_sem] theorem o2n : List.map GC.av b55 = [.fs 1 (List.map eS wl_0)] := by
 simp only [b55, List.map_cons, List.map_nil, GC.av, wl_0, List.map_map]; rfl
noncomputable def b15 (n : Int) (low : Int) (high : Int) : Bool :=
 (decide (low <= n)) && (decide (n <= high))
def c35 (O : Orac) : Prop := ∀ (n : Int) (low : Int) (high : Int), Fn O "newel/newelref04.from" [I n, I low, I high] (B (b15 n low high))
structure Counter where
 Name : ByteArray
 Max : Int
 deriving Inhabited, DecidableEq
structure State where
 Name : ByteArray
 Shows : Int
 deriving Inhabited, DecidableEq
structure Literal where
 Kind : Int
 Number : Int
 Value : Int
 Not : Bool
 deriving Inhabited, DecidableEq
structure Set where
 Kind : Int
 Counter : Int
 deriving Inhabited, DecidableEq
structure Rule where
 From : Int
 To : Int
 When : List (List Literal)
 Sets : List Set
 deriving Inhabited, DecidableEq
structure Machine where
 Inputs : List ByteArray
 Outputs : List ByteArray
 Counters : List Counter
 States : List State
 Rules : List Rule
 deriving Inhabited, DecidableEq
@[go_sem] def b0m (x : Counter) : List AV := [.v (.string x.Name), I x.Max]
theorem b1r (x : Counter) : ∀ c ∈ b0m x, Frz c := (b0a (b0e _) (b0a (b0e _) b0l))
theorem j5i (x : Counter) : (b0m x).length = 2 := rfl
@[go_sem] theorem o3l {l : List Counter} {n : Nat} {a0 : ByteArray} {a1 : Int} : (List.map b0m l).set n [.v (.string a0), I a1] = List.map b0m (l.set n (Counter.mk a0 a1)) := by rw [List.map_set]; rfl
@[go_sem] def b0n (x : State) : List AV := [.v (.string x.Name), I x.Shows]
theorem b1t (x : State) : ∀ c ∈ b0n x, Frz c := (b0a (b0e _) (b0a (b0e _) b0l))
theorem j5n (x : State) : (b0n x).length = 2 := rfl
@[go_sem] theorem o3u {l : List State} {n : Nat} {a0 : ByteArray} {a1 : Int} : (List.map b0n l).set n [.v (.string a0), I a1] = List.map b0n (l.set n (State.mk a0 a1)) := by rw [List.map_set]; rfl
@[go_sem] def b3c (x : Literal) : List AV := [I x.Kind, I x.Number, I x.Value, B x.Not]
theorem c12 (x : Literal) : ∀ c ∈ b3c x, Frz c := (b0a (b0e _) (b0a (b0e _) (b0a (b0e _) (b0a (b0e _) b0l))))
theorem j5k (x : Literal) : (b3c x).length = 4 := rfl
@[go_sem] theorem o3q {l : List Literal} {n : Nat} {a0 : Int} {a1 : Int} {a2 : Int} {a3 : Bool} : (List.map b3c l).set n [I a0, I a1, I a2, B a3] = List.map b3c (l.set n (Literal.mk a0 a1 a2 a3)) := by rw [List.map_set]; rfl
@[go_sem] def b0t (x : List Literal) : List AV := [.fs 4 (List.map b3c x)]
theorem b2l (x : List Literal) : ∀ c ∈ b0t x, Frz c := (b0a (b0c fun a _ => c12 a) b0l)
theorem d9d (x : List Literal) : (b0t x).length = 1 := rfl
@[go_sem] theorem o3o {l : List (List Literal)} {n : Nat} {a0 : List Literal} : (List.map b0t l).set n [.fs 4 (List.map b3c a0)] = List.map b0t (l.set n a0) := by rw [List.map_set]; rfl
@[go_sem] def b2k (x : Set) : List AV := [I x.Kind, I x.Counter]
theorem d0r (x : Set) : ∀ c ∈ b2k x, Frz c := (b0a (b0e _) (b0a (b0e _) b0l))
theorem j5m (x : Set) : (b2k x).length = 2 := rfl
@[go_sem] theorem o3t {l : List Set} {n : Nat} {a0 : Int} {a1 : Int} : (List.map b2k l).set n [I a0, I a1] = List.map b2k (l.set n (Set.mk a0 a1)) := by rw [List.map_set]; rfl
@[go_sem] def b0k (x : Rule) : List AV := [I x.From, I x.To, .fs 1 (List.map b0t x.When), .fs 2 (List.map b2k x.Sets)]
theorem b1s (x : Rule) : ∀ c ∈ b0k x, Frz c := (b0a (b0e _) (b0a (b0e _) (b0a (b0c fun a _ => b2l a) (b0a (b0c fun a _ => d0r a) b0l))))
theorem j5l (x : Rule) : (b0k x).length = 4 := rfl
@[go_sem] theorem o3s {l : List Rule} {n : Nat} {a0 : Int} {a1 : Int} {a2 : List (List Literal)} {a3 : List Set} : (List.map b0k l).set n [I a0, I a1, .fs 1 (List.map b0t a2), .fs 2 (List.map b2k a3)] = List.map b0k (l.set n (Rule.mk a0 a1 a2 a3)) := by rw [List.map_set]; rfl
noncomputable def c65 (l_3_1 : List ByteArray) : Option (List ByteArray) :=
 some l_3_1
noncomputable def c62 (m : Machine) : ((List ByteArray) × Int) -> Option (Out ((List ByteArray) × Int) (((List ByteArray))))
 | (l_3_1, i_5) =>
  if decide (i_5 < (List.length m.States : Int)) then
   (get m.States i_5).bind fun x15 =>
   (ap 16 l_3_1 ([x15.Name])).bind fun l16 =>
   some (.nx (l16, wr (i_5 + 1)))
  else
   some (.br l_3_1)
noncomputable def c64 (m : Machine) (l_3 : List ByteArray) : Option (List ByteArray) :=
 (b0w (c62 m) (l_3, 0)).bind fun l_3_1 =>
 c65 l_3_1
noncomputable def c63 (m : Machine) : ((List ByteArray) × Int) -> Option (Out ((List ByteArray) × Int) (((List ByteArray))))
 | (l_3, i_4) =>
  if decide (i_4 < (List.length m.Counters : Int)) then
   (get m.Counters i_4).bind fun x24 =>
   (ap 16 l_3 ([x24.Name])).bind fun l25 =>
   some (.nx (l25, wr (i_4 + 1)))
  else
   some (.br l_3)
noncomputable def c3c (m : Machine) : Option (List ByteArray) :=
 (ap 16 ([]) m.Inputs).bind fun l3 =>
 (ap 16 l3 m.Outputs).bind fun l4 =>
 (b0w (c63 m) (l4, 0)).bind fun l_3 =>
 c64 m l_3
def c84 (O : Orac) : Prop := ∀ (m : Machine) (r : List ByteArray) (hm0 : c3c m = some r), Fn O "newel/newelref04.names" [.agg [.fs 1 (List.map eS m.Inputs), .fs 1 (List.map eS m.Outputs), .fs 2 (List.map b0m m.Counters), .fs 2 (List.map b0n m.States), .fs 4 (List.map b0k m.Rules)]] (.fs 1 (List.map eS r))
noncomputable def d3e (s : ByteArray) : Option Bool :=
 some (decide (0 < (ByteArray.size s : Int)))
noncomputable def c25 (s : ByteArray) : Int -> Option (Out Int (Unit ⊕ Bool))
 | i_4 =>
  if decide (i_4 < (ByteArray.size s : Int)) then
   (get (b3i s) i_4).bind fun x10 =>
   if (decide (x10 < 97)) || (decide (122 < x10)) then
    some (.br (.inr false))
   else
    some (.nx (wr (i_4 + 1)))
  else
   some (.br (.inl ()))
noncomputable def c6y (s : ByteArray) : Option Bool :=
 (b0w (c25 s) (0)).bind fun
  | (.inl ()) => d3e s
  | (.inr r') => some r'
noncomputable def c26 (s : ByteArray) : Int -> Option (Out Int (Unit ⊕ Bool))
 | i_3 =>
  if decide (i_3 < (List.length wl_0 : Int)) then
   (get wl_0 i_3).bind fun x19 =>
   if decide (s = x19) then
    some (.br (.inr false))
   else
    some (.nx (wr (i_3 + 1)))
  else
   some (.br (.inl ()))
noncomputable def c0d (s : ByteArray) : Option Bool :=
 (b0w (c26 s) (0)).bind fun
  | (.inl ()) => c6y s
  | (.inr r') => some r'
def c8z (O : Orac) : Prop := ∀ (s : ByteArray) (r : Bool) (hm0 : c0d s = some r), Fn O "newel/newelref04.Word" [.v (.string s)] (B r)
noncomputable def d3f : Option Bool :=
 some true
noncomputable def c6z (i_7 : Int) : Option (Out Int (Unit ⊕ Bool)) :=
 some (.nx (wr (i_7 + 1)))
noncomputable def b7g (k_8 : Int) (is_10 : Bool) : Option (Out Int (Unit ⊕ Bool)) :=
 if !is_10 then
  some (.br (.inr false))
 else
  some (.nx (wr (k_8 + 1)))
noncomputable def b8v (m : Machine) (c : List (List Literal)) (inside : Bool) (i_7 : Int) : Int -> Option (Out Int (Unit ⊕ Bool))
 | k_8 =>
  (get c i_7).bind fun x16 =>
  if decide (k_8 < (List.length x16 : Int)) then
   (get x16 k_8).bind fun x21 =>
   if decide (x21.Kind = 1) then
    b7g k_8 ((b15 x21.Number 0 (wr ((List.length m.Inputs : Int) - 1))) && (decide (x21.Value = 0)))
   else
    if decide (x21.Kind = 2) then
     (if (b15 x21.Number 0 (wr ((List.length m.Counters : Int) - 1))) then (get m.Counters x21.Number).bind fun x30 =>
     some (b15 x21.Value 0 x30.Max) else some false).bind fun c31 =>
     b7g k_8 c31
    else
     if decide (x21.Kind = 3) then
      b7g k_8 ((inside && (b15 x21.Number 0 (wr ((List.length m.States : Int) - 1)))) && (decide (x21.Value = 0)))
     else
      if decide (x21.Kind = 4) then
       b7g k_8 ((b15 x21.Number 0 (wr ((List.length m.Outputs : Int) - 1))) && (decide (x21.Value = 0)))
      else
       b7g k_8 false
  else
   some (.br (.inl ()))
noncomputable def c0f (m : Machine) (c : List (List Literal)) (inside : Bool) : Int -> Option (Out Int (Unit ⊕ Bool))
 | i_7 =>
  if decide (i_7 < (List.length c : Int)) then
   (get c i_7).bind fun x11 =>
   if decide (6 < (List.length x11 : Int)) then
    some (.br (.inr false))
   else
    (b0w (b8v m c inside i_7) (0)).bind fun
     | (.inl ()) => c6z i_7
     | (.inr r') => some (.br (.inr r'))
  else
   some (.br (.inl ()))
noncomputable def c0e (m : Machine) (c : List (List Literal)) (inside : Bool) : Option Bool :=
 if decide (6 < (List.length c : Int)) then
  some false
 else
  (b0w (c0f m c inside) (0)).bind fun
   | (.inl ()) => d3f
   | (.inr r') => some r'
def c34 (O : Orac) : Prop := ∀ (m : Machine) (c : List (List Literal)) (inside : Bool) (r : Bool) (hm0 : c0e m c inside = some r), Fn O "newel/newelref04.condition" [.agg [.fs 1 (List.map eS m.Inputs), .fs 1 (List.map eS m.Outputs), .fs 2 (List.map b0m m.Counters), .fs 2 (List.map b0n m.States), .fs 4 (List.map b0k m.Rules)], .fs 1 (List.map b0t c), B inside] (B r)
noncomputable def d3c : Option Int :=
 some 0
noncomputable def c6m (i_8 : Int) : Option (Out Int (Unit ⊕ Int)) :=
 some (.nx (wr (i_8 + 1)))
noncomputable def c2u (m : Machine) (x23 : Rule) : Int -> Option (Out Int (Unit ⊕ Int))
 | k_10 =>
  if decide (k_10 < (List.length x23.Sets : Int)) then
   (get x23.Sets k_10).bind fun x38 =>
   if (!(b15 x38.Kind 1 3)) || (!(b15 x38.Counter 0 (wr ((List.length m.Counters : Int) - 1)))) then
    some (.br (.inr 41))
   else
    some (.nx (wr (k_10 + 1)))
  else
   some (.br (.inl ()))
noncomputable def b8q (m : Machine) : Int -> Option (Out Int (Unit ⊕ Int))
 | i_8 =>
  if decide (i_8 < (List.length m.Rules : Int)) then
   (get m.Rules i_8).bind fun x23 =>
   (if (!(b15 x23.From (-1) (wr ((List.length m.States : Int) - 1)))) || (!(b15 x23.To 0 (wr ((List.length m.States : Int) - 1)))) then some true else (c0e m x23.When false).bind fun y26 =>
   some (!y26)).bind fun c27 =>
   if c27 || (decide (4 < (List.length x23.Sets : Int))) then
    some (.br (.inr 41))
   else
    (b0w (c2u m x23) (0)).bind fun
     | (.inl ()) => c6m i_8
     | (.inr r') => some (.br (.inr r'))
  else
   some (.br (.inl ()))
noncomputable def c6l (m : Machine) : Option Int :=
 (b0w (b8q m) (0)).bind fun
  | (.inl ()) => d3c
  | (.inr r') => some r'
noncomputable def c2t (m : Machine) : Int -> Option (Out Int (Unit ⊕ Int))
 | i_7 =>
  if decide (i_7 < (List.length m.States : Int)) then
   (get m.States i_7).bind fun x49 =>
   (shl .i64 1 (IntKind.wrap .u64 (List.length m.Outputs : Int))).bind fun q50 =>
   if !(b15 x49.Shows 0 (wr (q50 - 1))) then
    some (.br (.inr 41))
   else
    some (.nx (wr (i_7 + 1)))
  else
   some (.br (.inl ()))
noncomputable def c6k (m : Machine) : Option Int :=
 (b0w (c2t m) (0)).bind fun
  | (.inl ()) => c6l m
  | (.inr r') => some r'
noncomputable def c2s (m : Machine) : Int -> Option (Out Int (Unit ⊕ Int))
 | i_6 =>
  if decide (i_6 < (List.length m.Counters : Int)) then
   (get m.Counters i_6).bind fun x58 =>
   if !(b15 x58.Max 1 7) then
    some (.br (.inr 41))
   else
    some (.nx (wr (i_6 + 1)))
  else
   some (.br (.inl ()))
noncomputable def c6j (m : Machine) : Option Int :=
 (b0w (c2s m) (0)).bind fun
  | (.inl ()) => c6k m
  | (.inr r') => some r'
noncomputable def c6n (i_4 : Int) : Option (Out Int (Unit ⊕ Int)) :=
 some (.nx (wr (i_4 + 1)))
noncomputable def b8p (y8 : List ByteArray) (i_4 : Int) : Int -> Option (Out Int (Unit ⊕ Int))
 | k_5 =>
  if decide (k_5 < i_4) then
   (get y8 k_5).bind fun x81 =>
   (get y8 i_4).bind fun x82 =>
   if decide (x81 = x82) then
    some (.br (.inr 41))
   else
    some (.nx (wr (k_5 + 1)))
  else
   some (.br (.inl ()))
noncomputable def b7f (y8 : List ByteArray) : Int -> Option (Out Int (Unit ⊕ Int))
 | i_4 =>
  if decide (i_4 < (List.length y8 : Int)) then
   (get y8 i_4).bind fun x69 =>
   (if decide (8 < (ByteArray.size x69 : Int)) then some true else (c0d x69).bind fun y70 =>
   some (!y70)).bind fun c71 =>
   if c71 then
    some (.br (.inr 41))
   else
    (b0w (b8p y8 i_4) (0)).bind fun
     | (.inl ()) => c6n i_4
     | (.inr r') => some (.br (.inr r'))
  else
   some (.br (.inl ()))
noncomputable def c0b (m : Machine) : Option Int :=
 if ((((decide (4 < (List.length m.Inputs : Int))) || (decide (6 < (List.length m.Outputs : Int)))) || (decide (2 < (List.length m.Counters : Int)))) || (!(b15 (List.length m.States : Int) 1 12))) || (decide (40 < (List.length m.Rules : Int))) then
  some 41
 else
  (c3c m).bind fun y8 =>
  (b0w (b7f y8) (0)).bind fun
   | (.inl ()) => c6j m
   | (.inr r') => some r'
def c32 (O : Orac) : Prop := ∀ (m : Machine) (r : Int) (hm0 : c0b m = some r), Fn O "newel/newelref04.Check" [.agg [.fs 1 (List.map eS m.Inputs), .fs 1 (List.map eS m.Outputs), .fs 2 (List.map b0m m.Counters), .fs 2 (List.map b0n m.States), .fs 4 (List.map b0k m.Rules)]] (I r)
noncomputable def d2o (m : Machine) (places_3 : Int) : Option Bool :=
 some ((decide (3 < (List.length m.Inputs : Int))) || (decide (80 < places_3)))
noncomputable def c2g (m : Machine) : (Int × Int) -> Option (Out (Int × Int) Int)
 | (places_3, i_4) =>
  if decide (i_4 < (List.length m.Counters : Int)) then
   (get m.Counters i_4).bind fun x13 =>
   some (.nx (wr (places_3 * (wr (x13.Max + 1))), wr (i_4 + 1)))
  else
   some (.br places_3)
noncomputable def b8j (m : Machine) : Option Bool :=
 (c0b m).bind fun y2 =>
 if decide (¬y2 = 0) then
  some false
 else
  (b0w (c2g m) ((List.length m.States : Int), 0)).bind fun places_3 =>
  d2o m places_3
def c8r (O : Orac) : Prop := ∀ (m : Machine) (r : Bool) (hm0 : b8j m = some r), Fn O "newel/newellaw04.Wide" [.agg [.fs 1 (List.map eS m.Inputs), .fs 1 (List.map eS m.Outputs), .fs 2 (List.map b0m m.Counters), .fs 2 (List.map b0n m.States), .fs 4 (List.map b0k m.Rules)]] (B r)
noncomputable def b2m (n : Int) (low : Int) (high : Int) : Bool :=
 (decide (low <= n)) && (decide (n <= high))
def c37 (O : Orac) : Prop := ∀ (n : Int) (low : Int) (high : Int), Fn O "newel/situation.within" [I n, I low, I high] (B (b2m n low high))
@[go_sem] def b31 (x : List ByteArray) : List AV := [.fs 1 (List.map eS x)]
theorem c5e (x : List ByteArray) : ∀ c ∈ b31 x, Frz c := (b0a (b0c fun a _ => b00 a) b0l)
theorem d9e (x : List ByteArray) : (b31 x).length = 1 := rfl
@[go_sem] theorem o3p {l : List (List ByteArray)} {n : Nat} {a0 : List ByteArray} : (List.map b31 l).set n [.fs 1 (List.map eS a0)] = List.map b31 (l.set n a0) := by rw [List.map_set]; rfl
def c7t (slices : List (List ByteArray)) : Option (List ByteArray) :=
 if slices.flatten.length * 16 <= 2 ^ 40 /\ slices.length < 2 ^ 40 /\ 0 < slices.flatten.length then some slices.flatten else none
def c9f (O : Orac) : Prop := ∀ (slices : List (List ByteArray)) (r : List ByteArray) (hm0 : c7t slices = some r), FnW O "slices.Concat[[]string,string]" [.fs 1 (List.map b31 slices)] 1 eS r
def c7u (slices : List (List ByteArray)) : Option Unit :=
 if slices.flatten.length = 0 /\ slices.length < 2 ^ 40 then some () else none
def c9g (O : Orac) : Prop := ∀ (slices : List (List ByteArray)) (r : Unit) (hm0 : c7u slices = some r), Fn O "slices.Concat[[]string,string]" [.fs 1 (List.map b31 slices)] (.v (.slice none 0 0))
noncomputable def c7n (l_3_1 : List ByteArray) : Option (List ByteArray) :=
 some l_3_1
noncomputable def c7k (m : Machine) : ((List ByteArray) × Int) -> Option (Out ((List ByteArray) × Int) (((List ByteArray))))
 | (l_3_1, x_30) =>
  if decide (x_30 < (List.length m.States : Int)) then
   (get m.States x_30).bind fun x12 =>
   (ap 16 l_3_1 ([x12.Name])).bind fun l14 =>
   some (.nx (l14, wr (x_30 + 1)))
  else
   some (.br l_3_1)
noncomputable def c7m (m : Machine) (l_3 : List ByteArray) : Option (List ByteArray) :=
 (b0w (c7k m) (l_3, 0)).bind fun l_3_1 =>
 c7n l_3_1
noncomputable def c7l (m : Machine) : ((List ByteArray) × Int) -> Option (Out ((List ByteArray) × Int) (((List ByteArray))))
 | (l_3, x_17) =>
  if decide (x_17 < (List.length m.Counters : Int)) then
   (get m.Counters x_17).bind fun x21 =>
   (ap 16 l_3 ([x21.Name])).bind fun l23 =>
   some (.nx (l23, wr (x_17 + 1)))
  else
   some (.br l_3)
noncomputable def c7j (m : Machine) : Option (List ByteArray) :=
 (c7t ([m.Inputs, m.Outputs])).bind fun y2 =>
 (b0w (c7l m) (y2, 0)).bind fun l_3 =>
 c7m m l_3
def c9d (O : Orac) : Prop := ∀ (m : Machine) (r : List ByteArray) (hm0 : c7j m = some r), Fn O "newel/situation.names" [.agg [.fs 1 (List.map eS m.Inputs), .fs 1 (List.map eS m.Outputs), .fs 2 (List.map b0m m.Counters), .fs 2 (List.map b0n m.States), .fs 4 (List.map b0k m.Rules)]] (.fs 1 (List.map eS r))
noncomputable def c7s (l_3_1 : List ByteArray) : Option (List ByteArray) :=
 some l_3_1
noncomputable def c7p (m : Machine) : ((List ByteArray) × Int) -> Option (Out ((List ByteArray) × Int) (((List ByteArray))))
 | (l_3_1, x_30) =>
  if decide (x_30 < (List.length m.States : Int)) then
   (get m.States x_30).bind fun x12 =>
   (ap 16 l_3_1 ([x12.Name])).bind fun l14 =>
   some (.nx (l14, wr (x_30 + 1)))
  else
   some (.br l_3_1)
noncomputable def c7r (m : Machine) (l_3 : List ByteArray) : Option (List ByteArray) :=
 (b0w (c7p m) (l_3, 0)).bind fun l_3_1 =>
 c7s l_3_1
noncomputable def c7q (m : Machine) : ((List ByteArray) × Int) -> Option (Out ((List ByteArray) × Int) (((List ByteArray))))
 | (l_3, x_17) =>
  if decide (x_17 < (List.length m.Counters : Int)) then
   (get m.Counters x_17).bind fun x21 =>
   (ap 16 l_3 ([x21.Name])).bind fun l23 =>
   some (.nx (l23, wr (x_17 + 1)))
  else
   some (.br l_3)
noncomputable def c7o (m : Machine) : Option (List ByteArray) :=
 (c7u ([m.Inputs, m.Outputs])).bind fun y2 =>
 (b0w (c7q m) ([], 0)).bind fun l_3 =>
 c7r m l_3
def c9e (O : Orac) : Prop := ∀ (m : Machine) (r : List ByteArray) (hm0 : c7o m = some r), Fn O "newel/situation.names" [.agg [.fs 1 (List.map eS m.Inputs), .fs 1 (List.map eS m.Outputs), .fs 2 (List.map b0m m.Counters), .fs 2 (List.map b0n m.States), .fs 4 (List.map b0k m.Rules)]] (.fs 1 (List.map eS r))
noncomputable def c3v (m : Machine) : Option (List ByteArray) :=
 if 0 < m.Inputs.length + m.Outputs.length then c7j m else c7o m
def c9c (O : Orac) : Prop := ∀ (m : Machine) (r : List ByteArray) (hm0 : c3v m = some r), Fn O "newel/situation.names" [.agg [.fs 1 (List.map eS m.Inputs), .fs 1 (List.map eS m.Outputs), .fs 2 (List.map b0m m.Counters), .fs 2 (List.map b0n m.States), .fs 4 (List.map b0k m.Rules)]] (.fs 1 (List.map eS r))
noncomputable def d3u (word : ByteArray) : Option Bool :=
 some (!(decide (word = (ByteArray.mk #[]))))
noncomputable def c3s (word : ByteArray) : Int -> Option (Out Int (Unit ⊕ Bool))
 | x_8 =>
  if decide (x_8 < (List.length (b3i word) : Int)) then
   (get (b3i word) x_8).bind fun x8 =>
   if (decide (x8 < 97)) || (decide (122 < x8)) then
    some (.br (.inr false))
   else
    some (.nx (wr (x_8 + 1)))
  else
   some (.br (.inl ()))
noncomputable def c3r (word : ByteArray) : Option Bool :=
 (b0w (c3s word) (0)).bind fun
  | (.inl ()) => d3u word
  | (.inr r') => some r'
def c88 (O : Orac) : Prop := ∀ (word : ByteArray) (r : Bool) (hm0 : c3r word = some r), Fn O "newel/situation.Plain" [.v (.string word)] (B r)
noncomputable def b5p (x_4 : Bool) : Bool :=
 if x_4 then
  true
 else
  false
noncomputable def b80 (word : ByteArray) : Bool :=
 if decide (word = (ByteArray.mk #[97, 110, 121])) then
  b5p (decide (word = (ByteArray.mk #[97, 110, 121])))
 else
  if decide (word = (ByteArray.mk #[116, 111])) then
   b5p (decide (word = (ByteArray.mk #[116, 111])))
  else
   if decide (word = (ByteArray.mk #[122, 101, 114, 111])) then
    b5p (decide (word = (ByteArray.mk #[122, 101, 114, 111])))
   else
    if decide (word = (ByteArray.mk #[109, 111, 114, 101])) then
     b5p (decide (word = (ByteArray.mk #[109, 111, 114, 101])))
    else
     if decide (word = (ByteArray.mk #[108, 101, 115, 115])) then
      b5p (decide (word = (ByteArray.mk #[108, 101, 115, 115])))
     else
      if decide (word = (ByteArray.mk #[105, 102])) then
       b5p (decide (word = (ByteArray.mk #[105, 102])))
      else
       if decide (word = (ByteArray.mk #[121, 101, 115])) then
        b5p (decide (word = (ByteArray.mk #[121, 101, 115])))
       else
        b5p (decide (word = (ByteArray.mk #[110, 111])))
def c89 (O : Orac) : Prop := ∀ (word : ByteArray), Fn O "newel/situation.Reserved" [.v (.string word)] (B (b80 word))
noncomputable def d3v : Option Bool :=
 some true
noncomputable def c0r (y2 : List ByteArray) : ((List (ByteArray × Int)) × Int) -> Option (Out ((List (ByteArray × Int)) × Int) (Unit ⊕ Bool))
 | (seen_3, x_10) =>
  if decide (x_10 < (List.length y2 : Int)) then
   (get y2 x_10).bind fun x10 =>
   (c3r x10).bind fun y12 =>
   if (((!y12) || (decide (8 < (ByteArray.size x10 : Int)))) || (b80 x10)) || (decide (1 < (b2q (b3p seen_3 x10 (wr ((b2q seen_3 x10 0) + 1))) x10 0))) then
    some (.br (.inr false))
   else
    some (.nx ((b3p seen_3 x10 (wr ((b2q seen_3 x10 0) + 1))), wr (x_10 + 1)))
  else
   some (.br (.inl ()))
noncomputable def c3u (m : Machine) : Option Bool :=
 (c3v m).bind fun y2 =>
 (b0w (c0r y2) (([] : List (ByteArray × Int)), 0)).bind fun
  | (.inl ()) => d3v
  | (.inr r') => some r'
def c9b (O : Orac) : Prop := ∀ (m : Machine) (r : Bool) (hm0 : c3u m = some r), Fn O "newel/situation.named" [.agg [.fs 1 (List.map eS m.Inputs), .fs 1 (List.map eS m.Outputs), .fs 2 (List.map b0m m.Counters), .fs 2 (List.map b0n m.States), .fs 4 (List.map b0k m.Rules)]] (B r)
noncomputable def c3t (m : Machine) (x : Literal) : Option Bool :=
 if decide (x.Kind = 1) then
  some ((b2m x.Number 0 (wr ((List.length m.Inputs : Int) - 1))) && (decide (x.Value = 0)))
 else
  if decide (x.Kind = 2) then
   (if (b2m x.Number 0 (wr ((List.length m.Counters : Int) - 1))) then (get m.Counters x.Number).bind fun x7 =>
   some (b2m x.Value 0 x7.Max) else some false).bind fun c8 =>
   some c8
  else
   if decide (x.Kind = 3) then
    some ((b2m x.Number 0 (wr ((List.length m.States : Int) - 1))) && (decide (x.Value = 0)))
   else
    if decide (x.Kind = 4) then
     some ((b2m x.Number 0 (wr ((List.length m.Outputs : Int) - 1))) && (decide (x.Value = 0)))
    else
     some false
def c9a (O : Orac) : Prop := ∀ (m : Machine) (x : Literal) (r : Bool) (hm0 : c3t m x = some r), Fn O "newel/situation.asks" [.agg [.fs 1 (List.map eS m.Inputs), .fs 1 (List.map eS m.Outputs), .fs 2 (List.map b0m m.Counters), .fs 2 (List.map b0n m.States), .fs 4 (List.map b0k m.Rules)], .agg [I x.Kind, I x.Number, I x.Value, B x.Not]] (B r)
noncomputable def b8y (x : Literal) (c0 : Machine) : Option Bool :=
 (c3t c0 x).bind fun y2 =>
 some (!y2)
def c85 (O : Orac) : Prop := ∀ (x : Literal) (c0 : Machine) (r : Bool) (hm0 : b8y x c0 = some r), Fn O "newel/situation.Asked$1" [.agg [I x.Kind, I x.Number, I x.Value, B x.Not], .fp [.fs 1 (List.map eS c0.Inputs), .fs 1 (List.map eS c0.Outputs), .fs 2 (List.map b0m c0.Counters), .fs 2 (List.map b0n c0.States), .fs 4 (List.map b0k c0.Rules)] 0] (B r)
noncomputable def d3z : Option Int :=
 some (-1)
noncomputable def g09 (s : List Literal) (f : Literal -> Option Bool) : Int -> Option (Out Int (Unit ⊕ Int))
 | x_8 =>
  if decide (x_8 < (List.length s : Int)) then
   (get s x_8).bind fun x9 =>
   (f x9).bind fun y10 =>
   if y10 then
    some (.br (.inr x_8))
   else
    some (.nx (wr (x_8 + 1)))
  else
   some (.br (.inl ()))
noncomputable def d3y (s : List Literal) (f : Literal -> Option Bool) : Option Int :=
 (b0w (g09 s f) (0)).bind fun
  | (.inl ()) => d3z
  | (.inr r') => some r'
def c9j (O : Orac) : Prop := ∀ (s : List Literal) (f_n : String) (f_a f_b : List AV) (f : Literal -> Option Bool) (f_z : Frz (.fn f_n f_a f_b)) (f_h : ∀ z0 y, f z0 = some y -> Fn O f_n (f_a ++ [.agg [I z0.Kind, I z0.Number, I z0.Value, B z0.Not]] ++ f_b) (B y)) (r : Int) (hm0 : d3y s f = some r), Fn O "slices.IndexFunc[newel/api.Term,newel/api.Literal]" [.fs 4 (List.map b3c s), .fn f_n f_a f_b] (I r)
noncomputable def b7l (s : List Literal) (f : Literal -> Option Bool) : Option Bool :=
 (d3y s f).bind fun y2 =>
 some (decide (0 <= y2))
def c0z (O : Orac) : Prop := ∀ (s : List Literal) (f_n : String) (f_a f_b : List AV) (f : Literal -> Option Bool) (f_z : Frz (.fn f_n f_a f_b)) (f_h : ∀ z0 y, f z0 = some y -> Fn O f_n (f_a ++ [.agg [I z0.Kind, I z0.Number, I z0.Value, B z0.Not]] ++ f_b) (B y)) (r : Bool) (hm0 : b7l s f = some r), Fn O "slices.ContainsFunc[newel/api.Term,newel/api.Literal]" [.fs 4 (List.map b3c s), .fn f_n f_a f_b] (B r)
noncomputable def d3s : Option Bool :=
 some true
noncomputable def c3l (m : Machine) (c : List (List Literal)) : Int -> Option (Out Int (Unit ⊕ Bool))
 | x_12 =>
  if decide (x_12 < (List.length c : Int)) then
   (get c x_12).bind fun x10 =>
   (if decide (6 < (List.length x10 : Int)) then some true else (b7l x10 (fun z14 => b8y z14 m)).bind fun y15 =>
   some y15).bind fun c16 =>
   if c16 then
    some (.br (.inr false))
   else
    some (.nx (wr (x_12 + 1)))
  else
   some (.br (.inl ()))
noncomputable def c0q (m : Machine) (c : List (List Literal)) : Option Bool :=
 if decide (6 < (List.length c : Int)) then
  some false
 else
  (b0w (c3l m c) (0)).bind fun
   | (.inl ()) => d3s
   | (.inr r') => some r'
def c36 (O : Orac) : Prop := ∀ (m : Machine) (c : List (List Literal)) (r : Bool) (hm0 : c0q m c = some r), Fn O "newel/situation.Asked" [.agg [.fs 1 (List.map eS m.Inputs), .fs 1 (List.map eS m.Outputs), .fs 2 (List.map b0m m.Counters), .fs 2 (List.map b0n m.States), .fs 4 (List.map b0k m.Rules)], .fs 1 (List.map b0t c)] (B r)
noncomputable def b7k (x : Literal) : Bool :=
 decide (x.Kind = 3)
def c87 (O : Orac) : Prop := ∀ (x : Literal), Fn O "newel/situation.Check$1" [.agg [I x.Kind, I x.Number, I x.Value, B x.Not]] (B (b7k x))
noncomputable def d3t : Option Int :=
 some 0
noncomputable def c7h (x_79 : Int) : Option (Out Int (Unit ⊕ Int)) :=
 some (.nx (wr (x_79 + 1)))
noncomputable def c3p (m : Machine) (x24 : Rule) : Int -> Option (Out Int (Unit ⊕ Int))
 | x_127 =>
  if decide (x_127 < (List.length x24.Sets : Int)) then
   (get x24.Sets x_127).bind fun x41 =>
   if (!(b2m x41.Kind 1 3)) || (!(b2m x41.Counter 0 (wr ((List.length m.Counters : Int) - 1)))) then
    some (.br (.inr 41))
   else
    some (.nx (wr (x_127 + 1)))
  else
   some (.br (.inl ()))
noncomputable def c7i (m : Machine) (x_79 : Int) (x24 : Rule) : Option (Out Int (Unit ⊕ Int)) :=
 (b0w (c3p m x24) (0)).bind fun
  | (.inl ()) => c7h x_79
  | (.inr r') => some (.br (.inr r'))
noncomputable def c3o (x24 : Rule) : Int -> Option (Out Int (Unit ⊕ Int))
 | x_117 =>
  if decide (x_117 < (List.length x24.When : Int)) then
   (get x24.When x_117).bind fun x50 =>
   (b7l x50 (fun z53 => some (b7k z53))).bind fun y54 =>
   if y54 then
    some (.br (.inr 41))
   else
    some (.nx (wr (x_117 + 1)))
  else
   some (.br (.inl ()))
noncomputable def b8z (m : Machine) : Int -> Option (Out Int (Unit ⊕ Int))
 | x_79 =>
  if decide (x_79 < (List.length m.Rules : Int)) then
   (get m.Rules x_79).bind fun x24 =>
   (if (!(b2m x24.From (-1) (wr ((List.length m.States : Int) - 1)))) || (!(b2m x24.To 0 (wr ((List.length m.States : Int) - 1)))) then some true else (c0q m x24.When).bind fun y27 =>
   some (!y27)).bind fun c28 =>
   if c28 || (decide (4 < (List.length x24.Sets : Int))) then
    some (.br (.inr 41))
   else
    (b0w (c3o x24) (0)).bind fun
     | (.inl ()) => c7i m x_79 x24
     | (.inr r') => some (.br (.inr r'))
  else
   some (.br (.inl ()))
noncomputable def c7g (m : Machine) : Option Int :=
 (b0w (b8z m) (0)).bind fun
  | (.inl ()) => d3t
  | (.inr r') => some r'
noncomputable def c3n (m : Machine) : Int -> Option (Out Int (Unit ⊕ Int))
 | x_62 =>
  if decide (x_62 < (List.length m.States : Int)) then
   (get m.States x_62).bind fun x63 =>
   (shl .i64 1 (List.length m.Outputs : Int)).bind fun q65 =>
   if !(b2m x63.Shows 0 (wr (q65 - 1))) then
    some (.br (.inr 41))
   else
    some (.nx (wr (x_62 + 1)))
  else
   some (.br (.inl ()))
noncomputable def c7f (m : Machine) : Option Int :=
 (b0w (c3n m) (0)).bind fun
  | (.inl ()) => c7g m
  | (.inr r') => some r'
noncomputable def c3q (m : Machine) : Int -> Option (Out Int (Unit ⊕ Int))
 | x_50 =>
  if decide (x_50 < (List.length m.Counters : Int)) then
   (get m.Counters x_50).bind fun x73 =>
   if !(b2m x73.Max 1 7) then
    some (.br (.inr 41))
   else
    some (.nx (wr (x_50 + 1)))
  else
   some (.br (.inl ()))
noncomputable def c3m (m : Machine) : Option Int :=
 (if ((((decide (4 < (List.length m.Inputs : Int))) || (decide (6 < (List.length m.Outputs : Int)))) || (decide (2 < (List.length m.Counters : Int)))) || (!(b2m (List.length m.States : Int) 1 12))) || (decide (40 < (List.length m.Rules : Int))) then some true else (c3u m).bind fun y3 =>
 some (!y3)).bind fun c4 =>
 if c4 then
  some 41
 else
  (b0w (c3q m) (0)).bind fun
   | (.inl ()) => c7f m
   | (.inr r') => some r'
def c86 (O : Orac) : Prop := ∀ (m : Machine) (r : Int) (hm0 : c3m m = some r), Fn O "newel/situation.Check" [.agg [.fs 1 (List.map eS m.Inputs), .fs 1 (List.map eS m.Outputs), .fs 2 (List.map b0m m.Counters), .fs 2 (List.map b0n m.States), .fs 4 (List.map b0k m.Rules)]] (I r)
noncomputable def c1m (m : Machine) : Option Int :=
 (c3m m).bind fun y2 =>
 some y2
def c8m (O : Orac) : Prop := ∀ (m : Machine) (r : Int) (hm0 : c1m m = some r), Fn O "newel/control.Check" [.agg [.fs 1 (List.map eS m.Inputs), .fs 1 (List.map eS m.Outputs), .fs 2 (List.map b0m m.Counters), .fs 2 (List.map b0n m.States), .fs 4 (List.map b0k m.Rules)]] (I r)
@[go_sem] def b41 (x : List (List Literal)) : List AV := [.fs 1 (List.map b0t x)]
theorem c5d (x : List (List Literal)) : ∀ c ∈ b41 x, Frz c := (b0a (b0c fun a _ => b2l a) b0l)
theorem d9c (x : List (List Literal)) : (b41 x).length = 1 := rfl
@[go_sem] theorem o3n {l : List (List (List Literal))} {n : Nat} {a0 : List (List Literal)} : (List.map b41 l).set n [.fs 1 (List.map b0t a0)] = List.map b41 (l.set n a0) := by rw [List.map_set]; rfl
noncomputable def c97 : Option Int :=
 some 0
noncomputable def c1p (m : Machine) (conds : List (List (List Literal))) : Int -> Option (Out Int (Unit ⊕ Int))
 | x_15 =>
  if decide (x_15 < (List.length conds : Int)) then
   (get conds x_15).bind fun x12 =>
   (c0q m x12).bind fun y14 =>
   if !y14 then
    some (.br (.inr 42))
   else
    some (.nx (wr (x_15 + 1)))
  else
   some (.br (.inl ()))
noncomputable def c1o (m : Machine) (conds : List (List (List Literal))) : Option Int :=
 (c1m m).bind fun y2 =>
 if decide (¬y2 = 0) then
  some y2
 else
  (b0w (c1p m conds) (0)).bind fun
   | (.inl ()) => c97
   | (.inr r') => some r'
def c8p (O : Orac) : Prop := ∀ (m : Machine) (conds : List (List (List Literal))) (r : Int) (hm0 : c1o m conds = some r), Fn O "newel/control.check" [.agg [.fs 1 (List.map eS m.Inputs), .fs 1 (List.map eS m.Outputs), .fs 2 (List.map b0m m.Counters), .fs 2 (List.map b0n m.States), .fs 4 (List.map b0k m.Rules)], .fs 1 (List.map b41 conds)] (I r)
structure situation_Plant where
 Machine : Machine
 deriving Inhabited, DecidableEq
structure control_plant where
 Plant : situation_Plant
 deriving Inhabited, DecidableEq
noncomputable def b5g (m : Machine) : control_plant :=
 (control_plant.mk (situation_Plant.mk m))
def c8q (O : Orac) : Prop := ∀ (m : Machine), Fn O "newel/control.of" [.agg [.fs 1 (List.map eS m.Inputs), .fs 1 (List.map eS m.Outputs), .fs 2 (List.map b0m m.Counters), .fs 2 (List.map b0n m.States), .fs 4 (List.map b0k m.Rules)]] (.agg [.fs 1 (List.map eS ((((b5g m).Plant).Machine).Inputs)), .fs 1 (List.map eS ((((b5g m).Plant).Machine).Outputs)), .fs 2 (List.map b0m ((((b5g m).Plant).Machine).Counters)), .fs 2 (List.map b0n ((((b5g m).Plant).Machine).States)), .fs 4 (List.map b0k ((((b5g m).Plant).Machine).Rules))])
noncomputable def c1a (m : situation_Plant) : Option Int :=
 (shl .i64 1 (List.length m.Machine.Inputs : Int)).bind fun q2 =>
 some q2
def c8f (O : Orac) : Prop := ∀ (m : situation_Plant) (r : Int) (hm0 : c1a m = some r), Fn O "(newel/situation.Plant).All" [.agg [.fs 1 (List.map eS m.Machine.Inputs), .fs 1 (List.map eS m.Machine.Outputs), .fs 2 (List.map b0m m.Machine.Counters), .fs 2 (List.map b0n m.Machine.States), .fs 4 (List.map b0k m.Machine.Rules)]] (I r)
structure Place where
 State : Int
 Values : Int × Int
 deriving Inhabited, DecidableEq
noncomputable def b6l (x : Literal) (holds_9 : Bool) : Option Bool :=
 some (!(b5r holds_9 x.Not))
noncomputable def b70 (m : situation_Plant) (x : Literal) (p : Place) (input : Int) : Option Bool :=
 if decide (x.Kind = 1) then
  (shr .i64 input x.Number).bind fun q5 =>
  b6l x (decide ((b6o q5 1) = 1))
 else
  if decide (x.Kind = 2) then
   (get [p.Values.1, p.Values.2] x.Number).bind fun x8 =>
   b6l x (decide (x.Value <= x8))
  else
   if decide (x.Kind = 3) then
    b6l x (decide (p.State = x.Number))
   else
    if decide (x.Kind = 4) then
     (get m.Machine.States p.State).bind fun x13 =>
     (shr .i64 x13.Shows x.Number).bind fun q14 =>
     b6l x (decide ((b6o q14 1) = 1))
    else
     b6l x false
def c8k (O : Orac) : Prop := ∀ (m : situation_Plant) (x : Literal) (p : Place) (input : Int) (r : Bool) (hm0 : b70 m x p input = some r), Fn O "(newel/situation.Plant).literal" [.agg [.fs 1 (List.map eS m.Machine.Inputs), .fs 1 (List.map eS m.Machine.Outputs), .fs 2 (List.map b0m m.Machine.Counters), .fs 2 (List.map b0n m.Machine.States), .fs 4 (List.map b0k m.Machine.Rules)], .agg [I x.Kind, I x.Number, I x.Value, B x.Not], .agg [I p.State, I p.Values.1, I p.Values.2], I input] (B r)
noncomputable def b7z (x : Literal) (c0 : situation_Plant) (c1 : Place) (c2 : Int) : Option Bool :=
 (b70 c0 x c1 c2).bind fun y2 =>
 some (!y2)
def c8i (O : Orac) : Prop := ∀ (x : Literal) (c0 : situation_Plant) (c1 : Place) (c2 : Int) (r : Bool) (hm0 : b7z x c0 c1 c2 = some r), Fn O "(newel/situation.Plant).Holds$1$1" [.agg [I x.Kind, I x.Number, I x.Value, B x.Not], .fp [.fs 1 (List.map eS c0.Machine.Inputs), .fs 1 (List.map eS c0.Machine.Outputs), .fs 2 (List.map b0m c0.Machine.Counters), .fs 2 (List.map b0n c0.Machine.States), .fs 4 (List.map b0k c0.Machine.Rules)] 0, .fp [I c1.State, I c1.Values.1, I c1.Values.2] 0, .fp [I c2] 0] (B r)
noncomputable def b7y (t_ : List Literal) (c0 : situation_Plant) (c1 : Place) (c2 : Int) : Option Bool :=
 (b7l t_ (fun z3 => b7z z3 c0 c1 c2)).bind fun y4 =>
 some (!y4)
def c8h (O : Orac) : Prop := ∀ (t_ : List Literal) (c0 : situation_Plant) (c1 : Place) (c2 : Int) (r : Bool) (hm0 : b7y t_ c0 c1 c2 = some r), Fn O "(newel/situation.Plant).Holds$1" [.fs 4 (List.map b3c t_), .fp [.fs 1 (List.map eS c0.Machine.Inputs), .fs 1 (List.map eS c0.Machine.Outputs), .fs 2 (List.map b0m c0.Machine.Counters), .fs 2 (List.map b0n c0.Machine.States), .fs 4 (List.map b0k c0.Machine.Rules)] 0, .fp [I c1.State, I c1.Values.1, I c1.Values.2] 0, .fp [I c2] 0] (B r)
noncomputable def d3x : Option Int :=
 some (-1)
noncomputable def g08 (s : List (List Literal)) (f : (List Literal) -> Option Bool) : Int -> Option (Out Int (Unit ⊕ Int))
 | x_8 =>
  if decide (x_8 < (List.length s : Int)) then
   (get s x_8).bind fun x9 =>
   (f x9).bind fun y10 =>
   if y10 then
    some (.br (.inr x_8))
   else
    some (.nx (wr (x_8 + 1)))
  else
   some (.br (.inl ()))
noncomputable def d3w (s : List (List Literal)) (f : (List Literal) -> Option Bool) : Option Int :=
 (b0w (g08 s f) (0)).bind fun
  | (.inl ()) => d3x
  | (.inr r') => some r'
def c9i (O : Orac) : Prop := ∀ (s : List (List Literal)) (f_n : String) (f_a f_b : List AV) (f : (List Literal) -> Option Bool) (f_z : Frz (.fn f_n f_a f_b)) (f_h : ∀ z0 y, f z0 = some y -> Fn O f_n (f_a ++ [.fs 4 (List.map b3c z0)] ++ f_b) (B y)) (r : Int) (hm0 : d3w s f = some r), Fn O "slices.IndexFunc[newel/api.Cond,newel/api.Term]" [.fs 1 (List.map b0t s), .fn f_n f_a f_b] (I r)
noncomputable def c7v (s : List (List Literal)) (f : (List Literal) -> Option Bool) : Option Bool :=
 (d3w s f).bind fun y2 =>
 some (decide (0 <= y2))
def c9h (O : Orac) : Prop := ∀ (s : List (List Literal)) (f_n : String) (f_a f_b : List AV) (f : (List Literal) -> Option Bool) (f_z : Frz (.fn f_n f_a f_b)) (f_h : ∀ z0 y, f z0 = some y -> Fn O f_n (f_a ++ [.fs 4 (List.map b3c z0)] ++ f_b) (B y)) (r : Bool) (hm0 : c7v s f = some r), Fn O "slices.ContainsFunc[newel/api.Cond,newel/api.Term]" [.fs 1 (List.map b0t s), .fn f_n f_a f_b] (B r)
noncomputable def b7x (m : situation_Plant) (c : List (List Literal)) (p : Place) (input : Int) : Option Bool :=
 (c7v c (fun z3 => b7y z3 m p input)).bind fun y4 =>
 some y4
def c0x (O : Orac) : Prop := ∀ (m : situation_Plant) (c : List (List Literal)) (p : Place) (input : Int) (r : Bool) (hm0 : b7x m c p input = some r), Fn O "(newel/situation.Plant).Holds" [.agg [.fs 1 (List.map eS m.Machine.Inputs), .fs 1 (List.map eS m.Machine.Outputs), .fs 2 (List.map b0m m.Machine.Counters), .fs 2 (List.map b0n m.Machine.States), .fs 4 (List.map b0k m.Machine.Rules)], .fs 1 (List.map b0t c), .agg [I p.State, I p.Values.1, I p.Values.2], I input] (B r)
noncomputable def c1b (m : situation_Plant) (assume : List (List Literal)) (p : Place) (input : Int) : Option Bool :=
 (if decide ((List.length assume : Int) = 0) then some true else (b7x m assume p input).bind fun y3 =>
 some y3).bind fun c4 =>
 some c4
def c8g (O : Orac) : Prop := ∀ (m : situation_Plant) (assume : List (List Literal)) (p : Place) (input : Int) (r : Bool) (hm0 : c1b m assume p input = some r), Fn O "(newel/situation.Plant).Allowed" [.agg [.fs 1 (List.map eS m.Machine.Inputs), .fs 1 (List.map eS m.Machine.Outputs), .fs 2 (List.map b0m m.Machine.Counters), .fs 2 (List.map b0n m.Machine.States), .fs 4 (List.map b0k m.Machine.Rules)], .fs 1 (List.map b0t assume), .agg [I p.State, I p.Values.1, I p.Values.2], I input] (B r)
noncomputable def c1e (m : situation_Plant) (s : Set) (p : Place) : Option Place :=
 (get [p.Values.1, p.Values.2] s.Counter).bind fun x2 =>
 if decide (s.Kind = 1) then
  some (Place.mk p.State (b1k s.Counter 0 0 p.Values.1, b1k s.Counter 1 0 p.Values.2))
 else
  if decide (s.Kind = 2) then
   (get m.Machine.Counters s.Counter).bind fun x6 =>
   some (Place.mk p.State (b1k s.Counter 0 (mn (wr (x2 + 1)) x6.Max) p.Values.1, b1k s.Counter 1 (mn (wr (x2 + 1)) x6.Max) p.Values.2))
  else
   if decide (s.Kind = 3) then
    some (Place.mk p.State (b1k s.Counter 0 (mx (wr (x2 - 1)) 0) p.Values.1, b1k s.Counter 1 (mx (wr (x2 - 1)) 0) p.Values.2))
   else
    some (Place.mk p.State (p.Values.1, p.Values.2))
def c8l (O : Orac) : Prop := ∀ (m : situation_Plant) (s : Set) (p : Place) (i_2 : Nat) (h0 : Heap) (ob_p2 : h0.ob i_2 = some (3, [[I p.State, I p.Values.1, I p.Values.2]])) (lt_p2 : i_2 < h0.nx) (r : Place) (hm0 : c1e m s p = some r), b52 O "(newel/situation.Plant).set" [.agg [.fs 1 (List.map eS m.Machine.Inputs), .fs 1 (List.map eS m.Machine.Outputs), .fs 2 (List.map b0m m.Machine.Counters), .fs 2 (List.map b0n m.Machine.States), .fs 4 (List.map b0k m.Machine.Rules)], .agg [I s.Kind, I s.Counter], .rp i_2 0 0] h0 (fun v h => v = .tup [] /\ h.ob i_2 = some (3, [[I r.State, I r.Values.1, I r.Values.2]]) /\ (∀ j, j < h0.nx -> ¬j = i_2 -> h.ob j = h0.ob j) /\ h0.nx <= h.nx)
noncomputable def c4r (p_4_0 : Int) (p_4_1 : Int) (p_4_2 : Int) : Option Place :=
 some (Place.mk p_4_0 (p_4_1, p_4_2))
noncomputable def c4s (x_15 : Int) : Option (Out Int ((Int × Int × Int))) :=
 some (.nx (wr (x_15 + 1)))
noncomputable def c4q (x9 : Rule) (p_4_0 : Int) (p_4_1 : Int) (p_4_2 : Int) : Option (Out Int ((Int × Int × Int))) :=
 some (.br (x9.To, p_4_1, p_4_2))
noncomputable def c1d (m : situation_Plant) (x9 : Rule) : (Int × Int × Int × Int) -> Option (Out (Int × Int × Int × Int) ((Int × Int × Int)))
 | (p_4_0, p_4_1, p_4_2, x_41) =>
  if decide (x_41 < (List.length x9.Sets : Int)) then
   (get x9.Sets x_41).bind fun x25 =>
   (c1e m x25 (Place.mk p_4_0 (p_4_1, p_4_2))).bind fun y27 =>
   some (.nx (y27.State, y27.Values.1, y27.Values.2, wr (x_41 + 1)))
  else
   some (.br (p_4_0, p_4_1, p_4_2))
noncomputable def c4p (m : situation_Plant) (p : Place) (input : Int) : Int -> Option (Out Int ((Int × Int × Int)))
 | x_15 =>
  if decide (x_15 < (List.length m.Machine.Rules : Int)) then
   (get m.Machine.Rules x_15).bind fun x9 =>
   (if (decide (¬x9.From = (-1))) && (decide (¬x9.From = p.State)) then some true else (b7x m x9.When (Place.mk p.State (p.Values.1, p.Values.2)) input).bind fun y12 =>
   some (!y12)).bind fun c13 =>
   if c13 then
    c4s x_15
   else
    (b0w (c1d m x9) (p.State, p.Values.1, p.Values.2, 0)).bind fun
     | (p_4_0, p_4_1, p_4_2) => c4q x9 p_4_0 p_4_1 p_4_2
  else
   some (.br (p.State, p.Values.1, p.Values.2))
noncomputable def c1c (m : situation_Plant) (p : Place) (input : Int) : Option Place :=
 (b0w (c4p m p input) (0)).bind fun
  | (p_4_0, p_4_1, p_4_2) => c4r p_4_0 p_4_1 p_4_2
def c8j (O : Orac) : Prop := ∀ (m : situation_Plant) (p : Place) (input : Int) (r : Place) (hm0 : c1c m p input = some r), Fn O "(newel/situation.Plant).Step" [.agg [.fs 1 (List.map eS m.Machine.Inputs), .fs 1 (List.map eS m.Machine.Outputs), .fs 2 (List.map b0m m.Machine.Counters), .fs 2 (List.map b0n m.Machine.States), .fs 4 (List.map b0k m.Machine.Rules)], .agg [I p.State, I p.Values.1, I p.Values.2], I input] (.agg [I r.State, I r.Values.1, I r.Values.2])
structure control_walk where
 places : List Place
 from_ : List Int
 by_ : List Int
 next : List (List Int)
 deriving Inhabited, DecidableEq
@[go_sem] def b1y (x : Place) : List AV := [I x.State, I x.Values.1, I x.Values.2]
theorem b4s (x : Place) : ∀ c ∈ b1y x, Frz c := (b0a (b0e _) (b0a (b0e _) (b0a (b0e _) b0l)))
theorem d2p (x : Place) : (b1y x).length = 3 := rfl
@[go_sem] theorem o3r {l : List Place} {n : Nat} {a0 : Int} {a1 : Int} {a2 : Int} : (List.map b1y l).set n [I a0, I a1, I a2] = List.map b1y (l.set n (Place.mk a0 (a1, a2))) := by rw [List.map_set]; rfl
def b4t (x : Place) : List Int := [x.State, x.Values.1, x.Values.2]
theorem d2n : ∀ a b, b3g false (vks b4t a) (vks b4t b) = some (decide (a = b)) := j49 (n := 3) (fun _ => rfl) fun a b h => by
 obtain ⟨a1, ⟨a2, a3⟩⟩ := a; obtain ⟨b4, ⟨b5, b6⟩⟩ := b
 simp only [b4t, List.cons.injEq, and_true] at h
 obtain ⟨rfl, rfl, rfl⟩ := h; rfl
@[go_sem] def b21 (x : List Int) : List AV := [.fs 1 (List.map eI x)]
theorem b8e (x : List Int) : ∀ c ∈ b21 x, Frz c := (b0a (b0c fun a _ => b13 a) b0l)
theorem j5j (x : List Int) : (b21 x).length = 1 := rfl
@[go_sem] theorem o3m {l : List (List Int)} {n : Nat} {a0 : List Int} : (List.map b21 l).set n [.fs 1 (List.map eI a0)] = List.map b21 (l.set n a0) := by rw [List.map_set]; rfl
noncomputable def c4k (w_7_0 : List Place) (w_7_1 : List Int) (w_7_2 : List Int) (w_7_3 : List (List Int)) : Option control_walk :=
 some (control_walk.mk w_7_0 w_7_1 w_7_2 w_7_3)
noncomputable def c4l (at_9 : Int) (w_7_0_1 : List Place) (w_7_1_1 : List Int) (w_7_2_1 : List Int) (w_7_3_1 : List (List Int)) (found_8_1 : List (Place × Int)) : Option (Out ((List Place) × (List Int) × (List Int) × (List (List Int)) × (List (Place × Int)) × Int) (((List Place) × (List Int) × (List Int) × (List (List Int))))) :=
 some (.nx (w_7_0_1, w_7_1_1, w_7_2_1, w_7_3_1, found_8_1, wr (at_9 + 1)))
noncomputable def c4j (w_7_3 : List (List Int)) (at_9 : Int) (w_7_0_1 : List Place) (w_7_1_1 : List Int) (w_7_2_1 : List Int) (found_8_1 : List (Place × Int)) (row_11 : List Int) : Option (Out ((List Place) × (List Int) × (List Int) × (List (List Int)) × (List (Place × Int)) × Int) (((List Place) × (List Int) × (List Int) × (List (List Int))))) :=
 (ap 24 w_7_3 ([row_11])).bind fun l17 =>
 c4l at_9 w_7_0_1 w_7_1_1 w_7_2_1 l17 found_8_1
noncomputable def c08 (x_47 : Int) (w_7_0_2 : List Place) (w_7_1_2 : List Int) (w_7_2_2 : List Int) (found_8_2 : List (Place × Int)) (row_11_1 : List Int) : Option (Out ((List Place) × (List Int) × (List Int) × (List (Place × Int)) × (List Int) × Int) (((List Place) × (List Int) × (List Int) × (List (Place × Int)) × (List Int)))) :=
 some (.nx (w_7_0_2, w_7_1_2, w_7_2_2, found_8_2, row_11_1, wr (x_47 + 1)))
noncomputable def c09 (row_11 : List Int) (x_47 : Int) (w_7_0_2 : List Place) (w_7_1_2 : List Int) (w_7_2_2 : List Int) (found_8_2 : List (Place × Int)) (to_14 : Int) : Option (Out ((List Place) × (List Int) × (List Int) × (List (Place × Int)) × (List Int) × Int) (((List Place) × (List Int) × (List Int) × (List (Place × Int)) × (List Int)))) :=
 (get (List.set row_11 (Int.toNat x_47) (-1)) x_47).bind fun x36 =>
 c08 x_47 w_7_0_2 w_7_1_2 w_7_2_2 found_8_2 (List.set (List.set row_11 (Int.toNat x_47) (-1)) (Int.toNat x_47) to_14)
noncomputable def c07 (m : control_plant) (assume : List (List Literal)) (heard : Int -> Option Int) (at_9 : Int) (x9 : Place) (l13 : List Int) : ((List Place) × (List Int) × (List Int) × (List (Place × Int)) × (List Int) × Int) -> Option (Out ((List Place) × (List Int) × (List Int) × (List (Place × Int)) × (List Int) × Int) (((List Place) × (List Int) × (List Int) × (List (Place × Int)) × (List Int))))
 | (w_7_0_1, w_7_1_1, w_7_2_1, found_8_1, row_11, x_47) =>
  if decide (x_47 < ((List.length l13 : Nat) : Int)) then
   (get row_11 x_47).bind fun x24 =>
   (c1b m.Plant assume (Place.mk x9.State (x9.Values.1, x9.Values.2)) x_47).bind fun y26 =>
   if !y26 then
    c08 x_47 w_7_0_1 w_7_1_1 w_7_2_1 found_8_1 (List.set row_11 (Int.toNat x_47) (-1))
   else
    (heard x_47).bind fun y31 =>
    (c1c m.Plant (Place.mk x9.State (x9.Values.1, x9.Values.2)) y31).bind fun y32 =>
    if !(b6c found_8_1 (Place.mk y32.State (y32.Values.1, y32.Values.2))) then
     (ap 24 w_7_0_1 ([(Place.mk y32.State (y32.Values.1, y32.Values.2))])).bind fun l41 =>
     (ap 8 w_7_1_1 ([at_9])).bind fun l42 =>
     (ap 8 w_7_2_1 ([x_47])).bind fun l43 =>
     c09 row_11 x_47 l41 l42 l43 (b3p found_8_1 (Place.mk y32.State (y32.Values.1, y32.Values.2)) ((List.length w_7_0_1 : Nat) : Int)) ((List.length w_7_0_1 : Nat) : Int)
    else
     c09 row_11 x_47 w_7_0_1 w_7_1_1 w_7_2_1 found_8_1 (b2q found_8_1 (Place.mk y32.State (y32.Values.1, y32.Values.2)) 0)
  else
   some (.br (w_7_0_1, w_7_1_1, w_7_2_1, found_8_1, row_11))
noncomputable def b9b (m : control_plant) (assume : List (List Literal)) (heard : Int -> Option Int) : ((List Place) × (List Int) × (List Int) × (List (List Int)) × (List (Place × Int)) × Int) -> Option (Out ((List Place) × (List Int) × (List Int) × (List (List Int)) × (List (Place × Int)) × Int) (((List Place) × (List Int) × (List Int) × (List (List Int)))))
 | (w_7_0, w_7_1, w_7_2, w_7_3, found_8, at_9) =>
  if decide (at_9 < ((List.length w_7_0 : Nat) : Int)) then
   (get w_7_0 at_9).bind fun x9 =>
   (c1a m.Plant).bind fun y12 =>
   (mks 8 y12 0).bind fun l13 =>
   (b0w (c07 m assume heard at_9 x9 l13) (w_7_0, w_7_1, w_7_2, found_8, l13, 0)).bind fun
    | (w_7_0_1, w_7_1_1, w_7_2_1, found_8_1, row_11) => c4j w_7_3 at_9 w_7_0_1 w_7_1_1 w_7_2_1 found_8_1 row_11
  else
   some (.br (w_7_0, w_7_1, w_7_2, w_7_3))
noncomputable def c06 (m : control_plant) (assume : List (List Literal)) (heard : Int -> Option Int) : Option control_walk :=
 (b0w (b9b m assume heard) ([(Place.mk 0 (0, 0))], [(-1)], [0], [], (b3p ([] : List (Place × Int)) (Place.mk 0 (0, 0)) 0), 0)).bind fun
  | (w_7_0, w_7_1, w_7_2, w_7_3) => c4k w_7_0 w_7_1 w_7_2 w_7_3
def c8c (O : Orac) : Prop := ∀ (m : control_plant) (assume : List (List Literal)) (heard_n : String) (heard_a heard_b : List AV) (heard : Int -> Option Int) (heard_z : Frz (.fn heard_n heard_a heard_b)) (heard_h : ∀ z0 y, heard z0 = some y -> Fn O heard_n (heard_a ++ [I z0] ++ heard_b) (I y)) (r : control_walk) (hm0 : c06 m assume heard = some r), Fn O "(newel/control.plant).explore" [.agg [.fs 1 (List.map eS m.Plant.Machine.Inputs), .fs 1 (List.map eS m.Plant.Machine.Outputs), .fs 2 (List.map b0m m.Plant.Machine.Counters), .fs 2 (List.map b0n m.Plant.Machine.States), .fs 4 (List.map b0k m.Plant.Machine.Rules)], .fs 1 (List.map b0t assume), .fn heard_n heard_a heard_b] (.fp [.fs 3 (List.map b1y r.places), .fs 1 (List.map eI r.from_), .fs 1 (List.map eI r.by_), .fs 1 (List.map b21 r.next)] 0)
noncomputable def b9a (at_ : Int) (c0 : control_plant) (c1 : List (List Literal)) (c2 : control_walk) : Option Bool :=
 (get c2.places at_).bind fun x3 =>
 (b7x c0.Plant c1 x3 0).bind fun y4 =>
 some y4
def c8b (O : Orac) : Prop := ∀ (at_ : Int) (c0 : control_plant) (c1 : List (List Literal)) (c2 : control_walk) (r : Bool) (hm0 : b9a at_ c0 c1 c2 = some r), Fn O "(newel/control.plant).breach$1" [I at_, .fp [.fs 1 (List.map eS c0.Plant.Machine.Inputs), .fs 1 (List.map eS c0.Plant.Machine.Outputs), .fs 2 (List.map b0m c0.Plant.Machine.Counters), .fs 2 (List.map b0n c0.Plant.Machine.States), .fs 4 (List.map b0k c0.Plant.Machine.Rules)] 0, .fp [.fs 1 (List.map b0t c1)] 0, .fp [.fp [.fs 3 (List.map b1y c2.places), .fs 1 (List.map eI c2.from_), .fs 1 (List.map eI c2.by_), .fs 1 (List.map b21 c2.next)] 0] 0] (B r)
noncomputable def c7w (s_1 : List Int) : Option (List Int) :=
 some s_1
noncomputable def c0s : ((List Int) × Int × Int) -> Option (Out ((List Int) × Int × Int) (((List Int))))
 | (s_0, i_2, j_3) =>
  if decide (i_2 < j_3) then
   (get s_0 j_3).bind fun x11 =>
   (get s_0 i_2).bind fun x13 =>
   (get (List.set s_0 (Int.toNat i_2) x11) j_3).bind fun x14 =>
   some (.nx ((List.set (List.set s_0 (Int.toNat i_2) x11) (Int.toNat j_3) x13), wr (i_2 + 1), wr (j_3 - 1)))
  else
   some (.br s_0)
noncomputable def c3x (s : List Int) : Option (List Int) :=
 (b0w (c0s) (s, 0, wr ((List.length s : Int) - 1))).bind fun s_1 =>
 c7w s_1
def c9k (O : Orac) : Prop := ∀ (s : List Int) (v_0 : AV) (h0 : Heap) (ow_p0 : b1o h0 v_0 1 (List.map eI s)) (r : List Int) (hm0 : c3x s = some r), b52 O "slices.Reverse[[]int,int]" [v_0] h0 (fun v h => v = .tup [] /\ b1o h v_0 1 (List.map eI r) /\ (∀ j, j < h0.nx -> b0s v_0 j -> h.ob j = h0.ob j) /\ h0.nx <= h.nx)
noncomputable def c4i (l_5 : List Int) : Option (List Int) :=
 (c3x l_5).bind fun y4 =>
 some y4
noncomputable def b7t (w_ : control_walk) : (Int × (List Int)) -> Option (Out (Int × (List Int)) (((List Int))))
 | (at_1, l_5) =>
  (get w_.from_ at_1).bind fun x7 =>
  if decide (0 <= x7) then
   (get w_.by_ at_1).bind fun x13 =>
   (ap 8 l_5 ([x13])).bind fun l14 =>
   some (.nx (x7, l14))
  else
   some (.br l_5)
noncomputable def b7s (w_ : control_walk) (at_ : Int) : Option (List Int) :=
 (b0w (b7t w_) (at_, [])).bind fun l_5 =>
 c4i l_5
def c79 (O : Orac) : Prop := ∀ (w_ : control_walk) (at_ : Int) (r : List Int) (hm0 : b7s w_ at_ = some r), Fn O "(*newel/control.walk).run" [.fp [.fs 3 (List.map b1y w_.places), .fs 1 (List.map eI w_.from_), .fs 1 (List.map eI w_.by_), .fs 1 (List.map b21 w_.next)] 0, I at_] (.fs 1 (List.map eI r))
noncomputable def c4h : Option ((List Int) × Bool) :=
 some ([], false)
noncomputable def b89 (w_ : control_walk) (wanted : Int -> Option Bool) : Int -> Option (Out Int (Unit ⊕ (((List Int) × Bool))))
 | x_12 =>
  if decide (x_12 < (List.length w_.places : Int)) then
   (wanted x_12).bind fun y8 =>
   if y8 then
    (b7s w_ x_12).bind fun y11 =>
    some (.br (.inr (y11, true)))
   else
    some (.nx (wr (x_12 + 1)))
  else
   some (.br (.inl ()))
noncomputable def c05 (w_ : control_walk) (wanted : Int -> Option Bool) : Option ((List Int) × Bool) :=
 (b0w (b89 w_ wanted) (0)).bind fun
  | (.inl ()) => c4h
  | (.inr r') => some r'
def c78 (O : Orac) : Prop := ∀ (w_ : control_walk) (wanted_n : String) (wanted_a wanted_b : List AV) (wanted : Int -> Option Bool) (wanted_z : Frz (.fn wanted_n wanted_a wanted_b)) (wanted_h : ∀ z0 y, wanted z0 = some y -> Fn O wanted_n (wanted_a ++ [I z0] ++ wanted_b) (B y)) (r : (List Int) × Bool) (hm0 : c05 w_ wanted = some r), Fn O "(*newel/control.walk).first" [.fp [.fs 3 (List.map b1y w_.places), .fs 1 (List.map eI w_.from_), .fs 1 (List.map eI w_.by_), .fs 1 (List.map b21 w_.next)] 0, .fn wanted_n wanted_a wanted_b] (.tup [.fs 1 (List.map eI r.1), B r.2])
noncomputable def b7u (m : control_plant) (assume : List (List Literal)) (never : List (List Literal)) (heard : Int -> Option Int) : Option ((List Int) × Bool) :=
 (c06 m assume heard).bind fun y2 =>
 (c05 y2 (fun z5 => b9a z5 m never y2)).bind fun y6 =>
 some (y6.1, y6.2)
def c8a (O : Orac) : Prop := ∀ (m : control_plant) (assume : List (List Literal)) (never : List (List Literal)) (heard_n : String) (heard_a heard_b : List AV) (heard : Int -> Option Int) (heard_z : Frz (.fn heard_n heard_a heard_b)) (heard_h : ∀ z0 y, heard z0 = some y -> Fn O heard_n (heard_a ++ [I z0] ++ heard_b) (I y)) (r : (List Int) × Bool) (hm0 : b7u m assume never heard = some r), Fn O "(newel/control.plant).breach" [.agg [.fs 1 (List.map eS m.Plant.Machine.Inputs), .fs 1 (List.map eS m.Plant.Machine.Outputs), .fs 2 (List.map b0m m.Plant.Machine.Counters), .fs 2 (List.map b0n m.Plant.Machine.States), .fs 4 (List.map b0k m.Plant.Machine.Rules)], .fs 1 (List.map b0t assume), .fs 1 (List.map b0t never), .fn heard_n heard_a heard_b] (.tup [.fs 1 (List.map eI r.1), B r.2])
noncomputable def c50 : Option Bool :=
 some true
noncomputable def c2i (a : List Int) (b : List Int) : Int -> Option (Out Int (Unit ⊕ Bool))
 | i_5 =>
  if decide (i_5 < (List.length a : Int)) then
   (get a i_5).bind fun x11 =>
   (get b i_5).bind fun x12 =>
   if decide (¬x11 = x12) then
    some (.br (.inr false))
   else
    some (.nx (wr (i_5 + 1)))
  else
   some (.br (.inl ()))
noncomputable def c2h (a : List Int) (b : List Int) : Option Bool :=
 if decide (¬(List.length a : Int) = (List.length b : Int)) then
  some false
 else
  (b0w (c2i a b) (0)).bind fun
   | (.inl ()) => c50
   | (.inr r') => some r'
def c8s (O : Orac) : Prop := ∀ (a : List Int) (b : List Int) (r : Bool) (hm0 : c2h a b = some r), Fn O "newel/newellaw04.sameInts" [.fs 1 (List.map eI a), .fs 1 (List.map eI b)] (B r)
def c51 : Option Bool := some true
def d4b (O : Orac) : Prop := ∀ (r : Bool) (hm0 : c51 = some r), Fn O "newel/newellaw04.works" [] (B r)
noncomputable def c6o (o_3 : List (List Literal)) : Option (List (List Literal)) :=
 some o_3
noncomputable def c2w (c : List (List Literal)) : ((List (List Literal)) × Int) -> Option (Out ((List (List Literal)) × Int) (((List (List Literal)))))
 | (o_3, i_4) =>
  if decide (i_4 < (List.length c : Int)) then
   (get c i_4).bind fun x10 =>
   (ap 32 ([]) x10).bind fun l11 =>
   (ap 24 o_3 ([l11])).bind fun l12 =>
   some (.nx (l12, wr (i_4 + 1)))
  else
   some (.br o_3)
noncomputable def b8r (c : List (List Literal)) : Option (List (List Literal)) :=
 (b0w (c2w c) ([], 0)).bind fun o_3 =>
 c6o o_3
def c33 (O : Orac) : Prop := ∀ (c : List (List Literal)) (r : List (List Literal)) (hm0 : b8r c = some r), Fn O "newel/newelref04.CopyCond" [.fs 1 (List.map b0t c)] (.fs 1 (List.map b0t r))
noncomputable def c6p (l5 : List ByteArray) (l6 : List ByteArray) (l7 : List Counter) (l8 : List State) (o_3_4 : List Rule) : Option Machine :=
 some (Machine.mk l5 l6 l7 l8 o_3_4)
noncomputable def c2x (m : Machine) : ((List Rule) × Int) -> Option (Out ((List Rule) × Int) (((List Rule))))
 | (o_3_4, i_4) =>
  if decide (i_4 < (List.length m.Rules : Int)) then
   (get m.Rules i_4).bind fun x16 =>
   (b8r x16.When).bind fun y18 =>
   (ap 16 ([]) x16.Sets).bind fun l20 =>
   (ap 64 o_3_4 ([(Rule.mk x16.From x16.To y18 l20)])).bind fun l22 =>
   some (.nx (l22, wr (i_4 + 1)))
  else
   some (.br o_3_4)
noncomputable def c2v (m : Machine) : Option Machine :=
 (ap 16 ([]) m.Inputs).bind fun l5 =>
 (ap 16 ([]) m.Outputs).bind fun l6 =>
 (ap 24 ([]) m.Counters).bind fun l7 =>
 (ap 24 ([]) m.States).bind fun l8 =>
 (b0w (c2x m) ([], 0)).bind fun o_3_4 =>
 c6p l5 l6 l7 l8 o_3_4
def c8v (O : Orac) : Prop := ∀ (m : Machine) (r : Machine) (hm0 : c2v m = some r), Fn O "newel/newelref04.Copy" [.agg [.fs 1 (List.map eS m.Inputs), .fs 1 (List.map eS m.Outputs), .fs 2 (List.map b0m m.Counters), .fs 2 (List.map b0n m.States), .fs 4 (List.map b0k m.Rules)]] (.agg [.fs 1 (List.map eS r.Inputs), .fs 1 (List.map eS r.Outputs), .fs 2 (List.map b0m r.Counters), .fs 2 (List.map b0n r.States), .fs 4 (List.map b0k r.Rules)])
noncomputable def d3b : Option Int :=
 some 0
noncomputable def c2r (m : Machine) (l : List (List (List Literal))) : Int -> Option (Out Int (Unit ⊕ Int))
 | i_6 =>
  if decide (i_6 < (List.length l : Int)) then
   (get l i_6).bind fun x13 =>
   (c0e m x13 true).bind fun y14 =>
   if !y14 then
    some (.br (.inr 42))
   else
    some (.nx (wr (i_6 + 1)))
  else
   some (.br (.inl ()))
noncomputable def c2q (m : Machine) (l : List (List (List Literal))) : Option Int :=
 (c0b m).bind fun y2 =>
 if decide (¬y2 = 0) then
  some y2
 else
  (b0w (c2r m l) (0)).bind fun
   | (.inl ()) => d3b
   | (.inr r') => some r'
def c8u (O : Orac) : Prop := ∀ (m : Machine) (l : List (List (List Literal))) (r : Int) (hm0 : c2q m l = some r), Fn O "newel/newelref04.CheckConds" [.agg [.fs 1 (List.map eS m.Inputs), .fs 1 (List.map eS m.Outputs), .fs 2 (List.map b0m m.Counters), .fs 2 (List.map b0n m.States), .fs 4 (List.map b0k m.Rules)], .fs 1 (List.map b41 l)] (I r)
noncomputable def c29 (m : Machine) : Option Int :=
 (shl .i64 1 (IntKind.wrap .u64 (List.length m.Inputs : Int))).bind fun q2 =>
 some q2
def c80 (O : Orac) : Prop := ∀ (m : Machine) (r : Int) (hm0 : c29 m = some r), Fn O "newel/newelref04.all" [.agg [.fs 1 (List.map eS m.Inputs), .fs 1 (List.map eS m.Outputs), .fs 2 (List.map b0m m.Counters), .fs 2 (List.map b0n m.States), .fs 4 (List.map b0k m.Rules)]] (I r)
noncomputable def b7i (l : Literal) (is_9 : Bool) : Option Bool :=
 some (!(b5r is_9 l.Not))
noncomputable def c0j (m : Machine) (p : Place) (input : Int) (l : Literal) : Option Bool :=
 if decide (l.Kind = 1) then
  (shr .i64 input (IntKind.wrap .u64 l.Number)).bind fun q5 =>
  b7i l (decide ((b6o q5 1) = 1))
 else
  if decide (l.Kind = 2) then
   (get [p.Values.1, p.Values.2] l.Number).bind fun x8 =>
   b7i l (decide (l.Value <= x8))
  else
   if decide (l.Kind = 3) then
    b7i l (decide (p.State = l.Number))
   else
    if decide (l.Kind = 4) then
     (get m.States p.State).bind fun x13 =>
     (shr .i64 x13.Shows (IntKind.wrap .u64 l.Number)).bind fun q14 =>
     b7i l (decide ((b6o q14 1) = 1))
    else
     b7i l false
def c83 (O : Orac) : Prop := ∀ (m : Machine) (p : Place) (input : Int) (l : Literal) (r : Bool) (hm0 : c0j m p input l = some r), Fn O "newel/newelref04.literal" [.agg [.fs 1 (List.map eS m.Inputs), .fs 1 (List.map eS m.Outputs), .fs 2 (List.map b0m m.Counters), .fs 2 (List.map b0n m.States), .fs 4 (List.map b0k m.Rules)], .agg [I p.State, I p.Values.1, I p.Values.2], I input, .agg [I l.Kind, I l.Number, I l.Value, B l.Not]] (B r)
noncomputable def d3d : Option Bool :=
 some false
noncomputable def c6q (i_9 : Int) : Option (Out Int (Unit ⊕ Bool)) :=
 some (.nx (wr (i_9 + 1)))
noncomputable def c6r (i_9 : Int) (all_10 : Bool) : Option (Out Int (Unit ⊕ Bool)) :=
 if all_10 then
  some (.br (.inr true))
 else
  c6q i_9
noncomputable def c2z (m : Machine) (p : Place) (input : Int) (c : List (List Literal)) (i_9 : Int) : (Bool × Int) -> Option (Out (Bool × Int) Bool)
 | (all_10, k_11) =>
  (get c i_9).bind fun x13 =>
  if decide (k_11 < (List.length x13 : Int)) then
   (if all_10 then (get x13 k_11).bind fun x20 =>
   (c0j m p input x20).bind fun y21 =>
   some y21 else some false).bind fun c22 =>
   some (.nx (c22, wr (k_11 + 1)))
  else
   some (.br all_10)
noncomputable def c2y (m : Machine) (p : Place) (input : Int) (c : List (List Literal)) : Int -> Option (Out Int (Unit ⊕ Bool))
 | i_9 =>
  if decide (i_9 < (List.length c : Int)) then
   (b0w (c2z m p input c i_9) (true, 0)).bind fun all_10 =>
   c6r i_9 all_10
  else
   some (.br (.inl ()))
noncomputable def b8s (m : Machine) (p : Place) (input : Int) (c : List (List Literal)) : Option Bool :=
 (b0w (c2y m p input c) (0)).bind fun
  | (.inl ()) => d3d
  | (.inr r') => some r'
def c0y (O : Orac) : Prop := ∀ (m : Machine) (p : Place) (input : Int) (c : List (List Literal)) (r : Bool) (hm0 : b8s m p input c = some r), Fn O "newel/newelref04.Holds" [.agg [.fs 1 (List.map eS m.Inputs), .fs 1 (List.map eS m.Outputs), .fs 2 (List.map b0m m.Counters), .fs 2 (List.map b0n m.States), .fs 4 (List.map b0k m.Rules)], .agg [I p.State, I p.Values.1, I p.Values.2], I input, .fs 1 (List.map b0t c)] (B r)
noncomputable def c2p (m : Machine) (p : Place) (input : Int) (assume : List (List Literal)) : Option Bool :=
 (if decide ((List.length assume : Int) = 0) then some true else (b8s m p input assume).bind fun y3 =>
 some y3).bind fun c4 =>
 some c4
def c8t (O : Orac) : Prop := ∀ (m : Machine) (p : Place) (input : Int) (assume : List (List Literal)) (r : Bool) (hm0 : c2p m p input assume = some r), Fn O "newel/newelref04.Allows" [.agg [.fs 1 (List.map eS m.Inputs), .fs 1 (List.map eS m.Outputs), .fs 2 (List.map b0m m.Counters), .fs 2 (List.map b0n m.States), .fs 4 (List.map b0k m.Rules)], .agg [I p.State, I p.Values.1, I p.Values.2], I input, .fs 1 (List.map b0t assume)] (B r)
noncomputable def b49 (x : Int) (input : Int) (value : Int) : Option Int :=
 if decide (input < 0) then
  some x
 else
  (shl .i64 1 (IntKind.wrap .u64 input)).bind fun q4 =>
  if decide (value = 1) then
   some (bor x q4)
  else
   some (d4i x q4)
def c8w (O : Orac) : Prop := ∀ (x : Int) (input : Int) (value : Int) (r : Int) (hm0 : b49 x input value = some r), Fn O "newel/newelref04.Heard" [I x, I input, I value] (I r)
noncomputable def c6u (p : Place) : Option Place :=
 some (Place.mk p.State (p.Values.1, p.Values.2))
noncomputable def c6v (i_7 : Int) : Option (Out Int (Unit ⊕ Place)) :=
 some (.nx (wr (i_7 + 1)))
noncomputable def c6t (x9 : Rule) (q_9_1 : Int) (q_9_2 : Int) : Option (Out Int (Unit ⊕ Place)) :=
 some (.br (.inr (Place.mk x9.To (q_9_1, q_9_2))))
noncomputable def b8t (k_10 : Int) (q_9_1_1 : Int) (q_9_2_1 : Int) : Option (Out (Int × Int × Int) ((Int × Int))) :=
 some (.nx (q_9_1_1, q_9_2_1, wr (k_10 + 1)))
noncomputable def c21 (m : Machine) (x9 : Rule) : (Int × Int × Int) -> Option (Out (Int × Int × Int) ((Int × Int)))
 | (q_9_1, q_9_2, k_10) =>
  if decide (k_10 < (List.length x9.Sets : Int)) then
   (get x9.Sets k_10).bind fun x26 =>
   if decide (x26.Kind = 1) then
    (get [q_9_1, q_9_2] x26.Counter).bind fun x29 =>
    b8t k_10 (b1k x26.Counter 0 0 q_9_1) (b1k x26.Counter 1 0 q_9_2)
   else
    if decide (x26.Kind = 2) then
     (get [q_9_1, q_9_2] x26.Counter).bind fun x33 =>
     (get m.Counters x26.Counter).bind fun x34 =>
     b8t k_10 (b1k x26.Counter 0 (mn (wr (x33 + 1)) x34.Max) q_9_1) (b1k x26.Counter 1 (mn (wr (x33 + 1)) x34.Max) q_9_2)
    else
     if decide (x26.Kind = 3) then
      (get [q_9_1, q_9_2] x26.Counter).bind fun x37 =>
      b8t k_10 (b1k x26.Counter 0 (mx (wr (x37 - 1)) 0) q_9_1) (b1k x26.Counter 1 (mx (wr (x37 - 1)) 0) q_9_2)
     else
      b8t k_10 q_9_1 q_9_2
  else
   some (.br (q_9_1, q_9_2))
noncomputable def c6s (m : Machine) (p : Place) (input : Int) : Int -> Option (Out Int (Unit ⊕ Place))
 | i_7 =>
  if decide (i_7 < (List.length m.Rules : Int)) then
   (get m.Rules i_7).bind fun x9 =>
   (if (decide (0 <= x9.From)) && (decide (¬x9.From = p.State)) then some true else (b8s m p input x9.When).bind fun y12 =>
   some (!y12)).bind fun c13 =>
   if c13 then
    c6v i_7
   else
    (b0w (c21 m x9) (p.Values.1, p.Values.2, 0)).bind fun
     | (q_9_1, q_9_2) => c6t x9 q_9_1 q_9_2
  else
   some (.br (.inl ()))
noncomputable def c20 (m : Machine) (p : Place) (input : Int) : Option Place :=
 (b0w (c6s m p input) (0)).bind fun
  | (.inl ()) => c6u p
  | (.inr r') => some r'
def c8x (O : Orac) : Prop := ∀ (m : Machine) (p : Place) (input : Int) (r : Place) (hm0 : c20 m p input = some r), Fn O "newel/newelref04.Next" [.agg [.fs 1 (List.map eS m.Inputs), .fs 1 (List.map eS m.Outputs), .fs 2 (List.map b0m m.Counters), .fs 2 (List.map b0n m.States), .fs 4 (List.map b0k m.Rules)], .agg [I p.State, I p.Values.1, I p.Values.2], I input] (.agg [I r.State, I r.Values.1, I r.Values.2])
@[go_sem ↓ high, go_sem high] theorem o2p {k : AV -> Prop} (a b : Place) : @b2d .eql (.flat [.i, .i, .i]) (.agg [I a.State, I a.Values.1, I a.Values.2]) (.agg [I b.State, I b.Values.1, I b.Values.2]) ⟨k⟩ = k (B (decide (a = b))) := d6s rfl rfl (b3n (b3n (b3n c48))) (by
 obtain ⟨a1, ⟨a2, a3⟩⟩ := a; obtain ⟨b4, ⟨b5, b6⟩⟩ := b
 rw [Bool.eq_iff_iff]; simp only [Bool.and_eq_true, decide_eq_true_eq, and_true]
 constructor
 ·rintro ⟨rfl, rfl, rfl⟩; rfl
 ·intro h; cases h; exact ⟨rfl, rfl, rfl⟩)
@[go_sem ↓ high, go_sem high] theorem o2s {k : AV -> Prop} (a b : Place) : @b2d .neq (.flat [.i, .i, .i]) (.agg [I a.State, I a.Values.1, I a.Values.2]) (.agg [I b.State, I b.Values.1, I b.Values.2]) ⟨k⟩ = k (B (!(decide (a = b)))) := d61 rfl rfl (b3n (b3n (b3n c48))) (by
 obtain ⟨a1, ⟨a2, a3⟩⟩ := a; obtain ⟨b4, ⟨b5, b6⟩⟩ := b
 rw [Bool.eq_iff_iff]; simp only [Bool.and_eq_true, decide_eq_true_eq, and_true]
 constructor
 ·rintro ⟨rfl, rfl, rfl⟩; rfl
 ·intro h; cases h; exact ⟨rfl, rfl, rfl⟩)
noncomputable def d3g : Option Int :=
 some (-1)
noncomputable def c0i (l : List Place) (p : Place) : Int -> Option (Out Int (Unit ⊕ Int))
 | i_5 =>
  if decide (i_5 < (List.length l : Int)) then
   (get l i_5).bind fun x8 =>
   if decide (x8 = p) then
    some (.br (.inr i_5))
   else
    some (.nx (wr (i_5 + 1)))
  else
   some (.br (.inl ()))
noncomputable def c3b (l : List Place) (p : Place) : Option Int :=
 (b0w (c0i l p) (0)).bind fun
  | (.inl ()) => d3g
  | (.inr r') => some r'
def c82 (O : Orac) : Prop := ∀ (l : List Place) (p : Place) (r : Int) (hm0 : c3b l p = some r), Fn O "newel/newelref04.index" [.fs 3 (List.map b1y l), .agg [I p.State, I p.Values.1, I p.Values.2]] (I r)
structure r04_graph where
 places : List Place
 back : List Int
 input : List Int
 deriving Inhabited, DecidableEq
noncomputable def c60 (g_9_0 : List Place) (g_9_1 : List Int) (g_9_2 : List Int) : Option r04_graph :=
 some (r04_graph.mk g_9_0 g_9_1 g_9_2)
noncomputable def c61 (i_10 : Int) (g_9_0_1 : List Place) (g_9_1_1 : List Int) (g_9_2_1 : List Int) : Option (Out ((List Place) × (List Int) × (List Int) × Int) (((List Place) × (List Int) × (List Int)))) :=
 some (.nx (g_9_0_1, g_9_1_1, g_9_2_1, wr (i_10 + 1)))
noncomputable def c0h (x_11 : Int) (g_9_0_2 : List Place) (g_9_1_2 : List Int) (g_9_2_2 : List Int) : Option (Out ((List Place) × (List Int) × (List Int) × Int) (((List Place) × (List Int) × (List Int)))) :=
 some (.nx (g_9_0_2, g_9_1_2, g_9_2_2, wr (x_11 + 1)))
noncomputable def c3a (m : Machine) (assume : List (List Literal)) (input : Int) (value : Int) (i_10 : Int) : ((List Place) × (List Int) × (List Int) × Int) -> Option (Out ((List Place) × (List Int) × (List Int) × Int) (((List Place) × (List Int) × (List Int))))
 | (g_9_0_1, g_9_1_1, g_9_2_1, x_11) =>
  (c29 m).bind fun y10 =>
  if decide (x_11 < y10) then
   (get g_9_0_1 i_10).bind fun x17 =>
   (c2p m x17 x_11 assume).bind fun y18 =>
   if !y18 then
    c0h x_11 g_9_0_1 g_9_1_1 g_9_2_1
   else
    (b49 x_11 input value).bind fun y23 =>
    (c20 m x17 y23).bind fun y24 =>
    (c3b g_9_0_1 (Place.mk y24.State (y24.Values.1, y24.Values.2))).bind fun y26 =>
    if decide (y26 < 0) then
     (ap 24 g_9_0_1 ([(Place.mk y24.State (y24.Values.1, y24.Values.2))])).bind fun l29 =>
     (ap 8 g_9_1_1 ([i_10])).bind fun l31 =>
     (ap 8 g_9_2_1 ([x_11])).bind fun l33 =>
     c0h x_11 l29 l31 l33
    else
     c0h x_11 g_9_0_1 g_9_1_1 g_9_2_1
  else
   some (.br (g_9_0_1, g_9_1_1, g_9_2_1))
noncomputable def c0g (m : Machine) (assume : List (List Literal)) (input : Int) (value : Int) : ((List Place) × (List Int) × (List Int) × Int) -> Option (Out ((List Place) × (List Int) × (List Int) × Int) (((List Place) × (List Int) × (List Int))))
 | (g_9_0, g_9_1, g_9_2, i_10) =>
  if decide (i_10 < ((List.length g_9_0 : Nat) : Int)) then
   (b0w (c3a m assume input value i_10) (g_9_0, g_9_1, g_9_2, 0)).bind fun
    | (g_9_0_1, g_9_1_1, g_9_2_1) => c61 i_10 g_9_0_1 g_9_1_1 g_9_2_1
  else
   some (.br (g_9_0, g_9_1, g_9_2))
noncomputable def b7h (m : Machine) (assume : List (List Literal)) (input : Int) (value : Int) : Option r04_graph :=
 (b0w (c0g m assume input value) ([(Place.mk 0 (0, 0))], [(-1)], [0], 0)).bind fun
  | (g_9_0, g_9_1, g_9_2) => c60 g_9_0 g_9_1 g_9_2
def c81 (O : Orac) : Prop := ∀ (m : Machine) (assume : List (List Literal)) (input : Int) (value : Int) (r : r04_graph) (hm0 : b7h m assume input value = some r), Fn O "newel/newelref04.explore" [.agg [.fs 1 (List.map eS m.Inputs), .fs 1 (List.map eS m.Outputs), .fs 2 (List.map b0m m.Counters), .fs 2 (List.map b0n m.States), .fs 4 (List.map b0k m.Rules)], .fs 1 (List.map b0t assume), I input, I value] (.agg [.fs 3 (List.map b1y r.places), .fs 1 (List.map eI r.back), .fs 1 (List.map eI r.input)])
structure l04_Conds where
 Assume : List (List Literal)
 Never : List (List Literal)
 deriving Inhabited, DecidableEq
noncomputable def b5s (n : Int) (c0 : Int) (c1 : Int) : Option Int :=
 (shl .i64 1 c0).bind fun q3 =>
 (shl .i64 c1 c0).bind fun q4 =>
 some (bor (d4i n q3) q4)
def c8o (O : Orac) : Prop := ∀ (n : Int) (c0 : Int) (c1 : Int) (r : Int) (hm0 : b5s n c0 c1 = some r), Fn O "newel/control.Stuck$1" [I n, .fp [I c0] 0, .fp [I c1] 0] (I r)
noncomputable def c41 : Option (Int × Int × (List Int) × Bool × Int) :=
 some (0, 0, [], false, 0)
noncomputable def c40 (x_24 : Int) : Option (Out Int (Unit ⊕ ((Int × Int × (List Int) × Bool × Int)))) :=
 some (.nx (wr (x_24 + 1)))
noncomputable def b79 (m : Machine) (assume : List (List Literal)) (never : List (List Literal)) (x_24 : Int) : Int -> Option (Out Int (Unit ⊕ ((Int × Int × (List Int) × Bool × Int))))
 | x_27 =>
  if decide (x_27 < 2) then
   (b7u (b5g m) assume never (fun z18 => b5s z18 x_24 x_27)).bind fun y19 =>
   if y19.2 then
    some (.br (.inr (x_24, x_27, y19.1, true, 0)))
   else
    some (.nx (wr (x_27 + 1)))
  else
   some (.br (.inl ()))
noncomputable def b9i (m : Machine) (assume : List (List Literal)) (never : List (List Literal)) : Int -> Option (Out Int (Unit ⊕ ((Int × Int × (List Int) × Bool × Int))))
 | x_24 =>
  if decide (x_24 < (List.length m.Inputs : Int)) then
   (b0w (b79 m assume never x_24) (0)).bind fun
    | (.inl ()) => c40 x_24
    | (.inr r') => some (.br (.inr r'))
  else
   some (.br (.inl ()))
noncomputable def c1n (m : Machine) (assume : List (List Literal)) (never : List (List Literal)) : Option (Int × Int × (List Int) × Bool × Int) :=
 (c1o m ([assume, never])).bind fun y2 =>
 if decide (¬y2 = 0) then
  some (0, 0, [], false, y2)
 else
  (b0w (b9i m assume never) (0)).bind fun
   | (.inl ()) => c41
   | (.inr r') => some r'
def c8n (O : Orac) : Prop := ∀ (m : Machine) (assume : List (List Literal)) (never : List (List Literal)) (r : Int × Int × (List Int) × Bool × Int) (hm0 : c1n m assume never = some r), Fn O "newel/control.Stuck" [.agg [.fs 1 (List.map eS m.Inputs), .fs 1 (List.map eS m.Outputs), .fs 2 (List.map b0m m.Counters), .fs 2 (List.map b0n m.States), .fs 4 (List.map b0k m.Rules)], .fs 1 (List.map b0t assume), .fs 1 (List.map b0t never)] (.tup [I r.1, I r.2.1, .fs 1 (List.map eI r.2.2.1), B r.2.2.2.1, I r.2.2.2.2])
noncomputable def c4o (out_5 : List Int) : Option (List Int) :=
 some out_5
noncomputable def b7w (g : r04_graph) : (Int × (List Int)) -> Option (Out (Int × (List Int)) (((List Int))))
 | (i_1, out_5) =>
  if decide (0 < i_1) then
   (get g.input i_1).bind fun x9 =>
   (ap 8 ([x9]) out_5).bind fun l10 =>
   (get g.back i_1).bind fun x12 =>
   some (.nx (x12, l10))
  else
   some (.br out_5)
noncomputable def b5c (g : r04_graph) (i : Int) : Option (List Int) :=
 (b0w (b7w g) (i, [])).bind fun out_5 =>
 c4o out_5
def c8e (O : Orac) : Prop := ∀ (g : r04_graph) (i : Int) (r : List Int) (hm0 : b5c g i = some r), Fn O "(newel/newelref04.graph).run" [.agg [.fs 3 (List.map b1y g.places), .fs 1 (List.map eI g.back), .fs 1 (List.map eI g.input)], I i] (.fs 1 (List.map eI r))
noncomputable def c4n : Option ((List Int) × Bool) :=
 some ([], false)
noncomputable def c4m (g : r04_graph) (m : Machine) (never : List (List Literal)) : Int -> Option (Out Int (Unit ⊕ (((List Int) × Bool))))
 | i_8 =>
  if decide (i_8 < (List.length g.places : Int)) then
   (get g.places i_8).bind fun x9 =>
   (b8s m x9 0 never).bind fun y10 =>
   if y10 then
    (b5c g i_8).bind fun y13 =>
    some (.br (.inr (y13, true)))
   else
    some (.nx (wr (i_8 + 1)))
  else
   some (.br (.inl ()))
noncomputable def b7v (g : r04_graph) (m : Machine) (never : List (List Literal)) : Option ((List Int) × Bool) :=
 (b0w (c4m g m never) (0)).bind fun
  | (.inl ()) => c4n
  | (.inr r') => some r'
def c8d (O : Orac) : Prop := ∀ (g : r04_graph) (m : Machine) (never : List (List Literal)) (r : (List Int) × Bool) (hm0 : b7v g m never = some r), Fn O "(newel/newelref04.graph).breach" [.agg [.fs 3 (List.map b1y g.places), .fs 1 (List.map eI g.back), .fs 1 (List.map eI g.input)], .agg [.fs 1 (List.map eS m.Inputs), .fs 1 (List.map eS m.Outputs), .fs 2 (List.map b0m m.Counters), .fs 2 (List.map b0n m.States), .fs 4 (List.map b0k m.Rules)], .fs 1 (List.map b0t never)] (.tup [.fs 1 (List.map eI r.1), B r.2])
noncomputable def c6x : Option (Int × Int × (List Int) × Bool × Int) :=
 some (0, 0, [], false, 0)
noncomputable def c6w (i_12 : Int) : Option (Out Int (Unit ⊕ ((Int × Int × (List Int) × Bool × Int)))) :=
 some (.nx (wr (i_12 + 1)))
noncomputable def b8u (m : Machine) (assume : List (List Literal)) (never : List (List Literal)) (i_12 : Int) : Int -> Option (Out Int (Unit ⊕ ((Int × Int × (List Int) × Bool × Int))))
 | value_13 =>
  if decide (value_13 < 2) then
   (b7h m assume i_12 value_13).bind fun y17 =>
   (b7v y17 m never).bind fun y19 =>
   if y19.2 then
    some (.br (.inr (i_12, value_13, y19.1, true, 0)))
   else
    some (.nx (wr (value_13 + 1)))
  else
   some (.br (.inl ()))
noncomputable def c0c (m : Machine) (assume : List (List Literal)) (never : List (List Literal)) : Int -> Option (Out Int (Unit ⊕ ((Int × Int × (List Int) × Bool × Int))))
 | i_12 =>
  if decide (i_12 < (List.length m.Inputs : Int)) then
   (b0w (b8u m assume never i_12) (0)).bind fun
    | (.inl ()) => c6w i_12
    | (.inr r') => some (.br (.inr r'))
  else
   some (.br (.inl ()))
noncomputable def c23 (m : Machine) (assume : List (List Literal)) (never : List (List Literal)) : Option (Int × Int × (List Int) × Bool × Int) :=
 (c2q m ([assume, never])).bind fun y2 =>
 if decide (¬y2 = 0) then
  some (0, 0, [], false, y2)
 else
  (b0w (c0c m assume never) (0)).bind fun
   | (.inl ()) => c6x
   | (.inr r') => some r'
def c8y (O : Orac) : Prop := ∀ (m : Machine) (assume : List (List Literal)) (never : List (List Literal)) (r : Int × Int × (List Int) × Bool × Int) (hm0 : c23 m assume never = some r), Fn O "newel/newelref04.Stuck" [.agg [.fs 1 (List.map eS m.Inputs), .fs 1 (List.map eS m.Outputs), .fs 2 (List.map b0m m.Counters), .fs 2 (List.map b0n m.States), .fs 4 (List.map b0k m.Rules)], .fs 1 (List.map b0t assume), .fs 1 (List.map b0t never)] (.tup [I r.1, I r.2.1, .fs 1 (List.map eI r.2.2.1), B r.2.2.2.1, I r.2.2.2.2])
noncomputable def c2f (m : Machine) (c : l04_Conds) : Option Bool :=
 (b8j m).bind fun y2 =>
 if y2 then
  (c51).bind fun y6 =>
  some y6
 else
  (c2v m).bind fun y11 =>
  (b8r c.Assume).bind fun y12 =>
  (b8r c.Never).bind fun y13 =>
  (c1n y11 y12 y13).bind fun y14 =>
  (c23 m c.Assume c.Never).bind fun y16 =>
  (if (decide (y14.1 = y16.1)) && (decide (y14.2.1 = y16.2.1)) then (c2h y14.2.2.1 y16.2.2.1).bind fun y21 =>
  some y21 else some false).bind fun c22 =>
  (if (c22 && (b5r y14.2.2.2.1 y16.2.2.2.1)) && (decide (y14.2.2.2.2 = y16.2.2.2.2)) then (c51).bind fun y23 =>
  some y23 else some false).bind fun c24 =>
  some c24
def d4a (O : Orac) : Prop := ∀ (m : Machine) (c : l04_Conds) (r : Bool) (hm0 : c2f m c = some r), Fn O "newel/newellaw04.ControlStucks" [.agg [.fs 1 (List.map eS m.Inputs), .fs 1 (List.map eS m.Outputs), .fs 2 (List.map b0m m.Counters), .fs 2 (List.map b0n m.States), .fs 4 (List.map b0k m.Rules)], .agg [.fs 1 (List.map b0t c.Assume), .fs 1 (List.map b0t c.Never)]] (B r)
structure l04_Pinned where
 Run : List Int
 Input : Int
 Value : Int
 deriving Inhabited, DecidableEq
structure control_pair where
 a : Place
 b : Place
 deriving Inhabited, DecidableEq
@[go_sem] def d5r (x : control_pair) : List AV := [I x.a.State, I x.a.Values.1, I x.a.Values.2, I x.b.State, I x.b.Values.1, I x.b.Values.2]
@[go_sem] theorem o3v {l : List control_pair} {n : Nat} {a0 : Int} {a1 : Int} {a2 : Int} {a3 : Int} {a4 : Int} {a5 : Int} : (List.map d5r l).set n [I a0, I a1, I a2, I a3, I a4, I a5] = List.map d5r (l.set n (control_pair.mk (Place.mk a0 (a1, a2)) (Place.mk a3 (a4, a5)))) := by rw [List.map_set]; rfl
structure r04_pair where
 a : Place
 b : Place
 deriving Inhabited, DecidableEq
@[go_sem] def d5w (x : r04_pair) : List AV := [I x.a.State, I x.a.Values.1, I x.a.Values.2, I x.b.State, I x.b.Values.1, I x.b.Values.2]
@[go_sem] theorem o3w {l : List r04_pair} {n : Nat} {a0 : Int} {a1 : Int} {a2 : Int} {a3 : Int} {a4 : Int} {a5 : Int} : (List.map d5w l).set n [I a0, I a1, I a2, I a3, I a4, I a5] = List.map d5w (l.set n (r04_pair.mk (Place.mk a0 (a1, a2)) (Place.mk a3 (a4, a5)))) := by rw [List.map_set]; rfl
@[go_sem ↓ high, go_sem high] theorem o2q {k : AV -> Prop} (a b : r04_pair) : @b2d .eql (.flat [.i, .i, .i, .i, .i, .i]) (.agg [I a.a.State, I a.a.Values.1, I a.a.Values.2, I a.b.State, I a.b.Values.1, I a.b.Values.2]) (.agg [I b.a.State, I b.a.Values.1, I b.a.Values.2, I b.b.State, I b.b.Values.1, I b.b.Values.2]) ⟨k⟩ = k (B (decide (a = b))) := d6s rfl rfl (b3n (b3n (b3n (b3n (b3n (b3n c48)))))) (by
 obtain ⟨⟨a1, ⟨a2, a3⟩⟩, ⟨a4, ⟨a5, a6⟩⟩⟩ := a; obtain ⟨⟨b7, ⟨b8, b9⟩⟩, ⟨b10, ⟨b11, b12⟩⟩⟩ := b
 rw [Bool.eq_iff_iff]; simp only [Bool.and_eq_true, decide_eq_true_eq, and_true]
 constructor
 ·rintro ⟨rfl, rfl, rfl, rfl, rfl, rfl⟩; rfl
 ·intro h; cases h; exact ⟨rfl, rfl, rfl, rfl, rfl, rfl⟩)
@[go_sem ↓ high, go_sem high] theorem o2t {k : AV -> Prop} (a b : r04_pair) : @b2d .neq (.flat [.i, .i, .i, .i, .i, .i]) (.agg [I a.a.State, I a.a.Values.1, I a.a.Values.2, I a.b.State, I a.b.Values.1, I a.b.Values.2]) (.agg [I b.a.State, I b.a.Values.1, I b.a.Values.2, I b.b.State, I b.b.Values.1, I b.b.Values.2]) ⟨k⟩ = k (B (!(decide (a = b)))) := d61 rfl rfl (b3n (b3n (b3n (b3n (b3n (b3n c48)))))) (by
 obtain ⟨⟨a1, ⟨a2, a3⟩⟩, ⟨a4, ⟨a5, a6⟩⟩⟩ := a; obtain ⟨⟨b7, ⟨b8, b9⟩⟩, ⟨b10, ⟨b11, b12⟩⟩⟩ := b
 rw [Bool.eq_iff_iff]; simp only [Bool.and_eq_true, decide_eq_true_eq, and_true]
 constructor
 ·rintro ⟨rfl, rfl, rfl, rfl, rfl, rfl⟩; rfl
 ·intro h; cases h; exact ⟨rfl, rfl, rfl, rfl, rfl, rfl⟩)
structure l04_Claim where
 Run : List Int
 Places : List Place
 deriving Inhabited, DecidableEq
end Go.Nw.KM
