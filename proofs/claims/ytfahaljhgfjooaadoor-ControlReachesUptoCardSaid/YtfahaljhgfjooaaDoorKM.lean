/- Models of functions: printed by gen.py. -/
import Derived.Test.YtfahaljhgfjooaaDoorNwMaps
import Derived.Test.YtfahaljhgfjooaaDoorNwCtlSrc
set_option linter.all false
namespace Go.Nw.KM
open Go.Nw.Ctl
set_option maxHeartbeats 4000000
theorem lA9 {α : Type} {l m : List α} : (l ++ m).length = l.length + m.length := List.length_append
theorem mA9 {α β : Type} {f : α → β} {l m : List α} : List.map f (l ++ m) = List.map f l ++ List.map f m := List.map_append
theorem oF9 {a b : Bool} : (a || b) = false ↔ a = false ∧ b = false := Bool.or_eq_false_iff
theorem nF9 : (¬False) = True := not_false_eq_true
theorem bF9 {α : Type} [BEq α] [LawfulBEq α] {a b : α} : (a == b) = false ↔ a ≠ b := beq_eq_false_iff_ne
theorem sI9 {α : Type} {a b : α} (h : some a = some b) : a = b := Option.some.inj h
variable {O : Orac} [MapsOk O]
def wl_0 : List ByteArray := b5j.map fun s => ⟨s.toArray⟩
@[go_sem] theorem m9c : List.map GC.av b5s = [.fs 1 (List.map eS wl_0)] := by
 simp only [b5s, List.map_cons, List.map_nil, GC.av, wl_0, List.map_map]; rfl
noncomputable def b1y (n : Int) (low : Int) (high : Int) : Bool :=
 (decide (low <= n)) && (decide (n <= high))
def c3c (O : Orac) : Prop := ∀ (n : Int) (low : Int) (high : Int), Fn O "newel/newelref04.from" [I n, I low, I high] (B (b1y n low high))
structure Counter where
 Name : ByteArray
 Max : Int
 deriving Inhabited, DecidableEq
structure State where
 Name : ByteArray
 Shows : Int
 deriving Inhabited, DecidableEq
structure Literal where
 Kind : Int
 Number : Int
 Value : Int
 Not : Bool
 deriving Inhabited, DecidableEq
structure Set where
 Kind : Int
 Counter : Int
 deriving Inhabited, DecidableEq
structure Rule where
 From : Int
 To : Int
 When : List (List Literal)
 Sets : List Set
 deriving Inhabited, DecidableEq
structure Machine where
 Inputs : List ByteArray
 Outputs : List ByteArray
 Counters : List Counter
 States : List State
 Rules : List Rule
 deriving Inhabited, DecidableEq
@[go_sem] def b0l (x : Counter) : List AV := [.v (.string x.Name), I x.Max]
theorem b1r (x : Counter) : ∀ c ∈ b0l x, Frz c := (b0a (b0d _) (b0a (b0d _) b0o))
theorem j20 (x : Counter) : (b0l x).length = 2 := rfl
@[go_sem] theorem o0c {l : List Counter} {n : Nat} {a0 : ByteArray} {a1 : Int} : (List.map b0l l).set n [.v (.string a0), I a1] = List.map b0l (l.set n (Counter.mk a0 a1)) := by rw [List.map_set]; rfl
@[go_sem] def b0m (x : State) : List AV := [.v (.string x.Name), I x.Shows]
theorem b1t (x : State) : ∀ c ∈ b0m x, Frz c := (b0a (b0d _) (b0a (b0d _) b0o))
theorem j25 (x : State) : (b0m x).length = 2 := rfl
@[go_sem] theorem o0l {l : List State} {n : Nat} {a0 : ByteArray} {a1 : Int} : (List.map b0m l).set n [.v (.string a0), I a1] = List.map b0m (l.set n (State.mk a0 a1)) := by rw [List.map_set]; rfl
@[go_sem] def b27 (x : Literal) : List AV := [I x.Kind, I x.Number, I x.Value, B x.Not]
theorem c00 (x : Literal) : ∀ c ∈ b27 x, Frz c := (b0a (b0d _) (b0a (b0d _) (b0a (b0d _) (b0a (b0d _) b0o))))
theorem j22 (x : Literal) : (b27 x).length = 4 := rfl
@[go_sem] theorem o0h {l : List Literal} {n : Nat} {a0 : Int} {a1 : Int} {a2 : Int} {a3 : Bool} : (List.map b27 l).set n [I a0, I a1, I a2, B a3] = List.map b27 (l.set n (Literal.mk a0 a1 a2 a3)) := by rw [List.map_set]; rfl
@[go_sem] def b0x (x : List Literal) : List AV := [.fs 4 (List.map b27 x)]
theorem b21 (x : List Literal) : ∀ c ∈ b0x x, Frz c := (b0a (b0e fun a _ => c00 a) b0o)
theorem d7k (x : List Literal) : (b0x x).length = 1 := rfl
@[go_sem] theorem o0f {l : List (List Literal)} {n : Nat} {a0 : List Literal} : (List.map b0x l).set n [.fs 4 (List.map b27 a0)] = List.map b0x (l.set n a0) := by rw [List.map_set]; rfl
@[go_sem] def b2j (x : Set) : List AV := [I x.Kind, I x.Counter]
theorem c9a (x : Set) : ∀ c ∈ b2j x, Frz c := (b0a (b0d _) (b0a (b0d _) b0o))
theorem j24 (x : Set) : (b2j x).length = 2 := rfl
@[go_sem] theorem o0k {l : List Set} {n : Nat} {a0 : Int} {a1 : Int} : (List.map b2j l).set n [I a0, I a1] = List.map b2j (l.set n (Set.mk a0 a1)) := by rw [List.map_set]; rfl
@[go_sem] def b0i (x : Rule) : List AV := [I x.From, I x.To, .fs 1 (List.map b0x x.When), .fs 2 (List.map b2j x.Sets)]
theorem b1s (x : Rule) : ∀ c ∈ b0i x, Frz c := (b0a (b0d _) (b0a (b0d _) (b0a (b0e fun a _ => b21 a) (b0a (b0e fun a _ => c9a a) b0o))))
theorem j23 (x : Rule) : (b0i x).length = 4 := rfl
@[go_sem] theorem o0j {l : List Rule} {n : Nat} {a0 : Int} {a1 : Int} {a2 : List (List Literal)} {a3 : List Set} : (List.map b0i l).set n [I a0, I a1, .fs 1 (List.map b0x a2), .fs 2 (List.map b2j a3)] = List.map b0i (l.set n (Rule.mk a0 a1 a2 a3)) := by rw [List.map_set]; rfl
noncomputable def c54 (l_3_1 : List ByteArray) : Option (List ByteArray) :=
 some l_3_1
noncomputable def c51 (m : Machine) : ((List ByteArray) × Int) -> Option (Out ((List ByteArray) × Int) (((List ByteArray))))
 | (l_3_1, i_5) =>
  if decide (i_5 < (List.length m.States : Int)) then
   (get m.States i_5).bind fun x15 =>
   (ap 16 l_3_1 ([x15.Name])).bind fun l16 =>
   some (.nx (l16, wr (i_5 + 1)))
  else
   some (.br l_3_1)
noncomputable def c53 (m : Machine) (l_3 : List ByteArray) : Option (List ByteArray) :=
 (b0z (c51 m) (l_3, 0)).bind fun l_3_1 =>
 c54 l_3_1
noncomputable def c52 (m : Machine) : ((List ByteArray) × Int) -> Option (Out ((List ByteArray) × Int) (((List ByteArray))))
 | (l_3, i_4) =>
  if decide (i_4 < (List.length m.Counters : Int)) then
   (get m.Counters i_4).bind fun x24 =>
   (ap 16 l_3 ([x24.Name])).bind fun l25 =>
   some (.nx (l25, wr (i_4 + 1)))
  else
   some (.br l_3)
noncomputable def c2e (m : Machine) : Option (List ByteArray) :=
 (ap 16 ([]) m.Inputs).bind fun l3 =>
 (ap 16 l3 m.Outputs).bind fun l4 =>
 (b0z (c52 m) (l4, 0)).bind fun l_3 =>
 c53 m l_3
def c7v (O : Orac) : Prop := ∀ (m : Machine) (r : List ByteArray) (hm0 : c2e m = some r), Fn O "newel/newelref04.names" [.agg [.fs 1 (List.map eS m.Inputs), .fs 1 (List.map eS m.Outputs), .fs 2 (List.map b0l m.Counters), .fs 2 (List.map b0m m.States), .fs 4 (List.map b0i m.Rules)]] (.fs 1 (List.map eS r))
noncomputable def d1r (s : ByteArray) : Option Bool :=
 some (decide (0 < (ByteArray.size s : Int)))
noncomputable def c18 (s : ByteArray) : Int -> Option (Out Int (Unit ⊕ Bool))
 | i_4 =>
  if decide (i_4 < (ByteArray.size s : Int)) then
   (get (b3e s) i_4).bind fun x10 =>
   if (decide (x10 < 97)) || (decide (122 < x10)) then
    some (.br (.inr false))
   else
    some (.nx (wr (i_4 + 1)))
  else
   some (.br (.inl ()))
noncomputable def c5x (s : ByteArray) : Option Bool :=
 (b0z (c18 s) (0)).bind fun
  | (.inl ()) => d1r s
  | (.inr r') => some r'
noncomputable def c19 (s : ByteArray) : Int -> Option (Out Int (Unit ⊕ Bool))
 | i_3 =>
  if decide (i_3 < (List.length wl_0 : Int)) then
   (get wl_0 i_3).bind fun x19 =>
   if decide (s = x19) then
    some (.br (.inr false))
   else
    some (.nx (wr (i_3 + 1)))
  else
   some (.br (.inl ()))
noncomputable def b9j (s : ByteArray) : Option Bool :=
 (b0z (c19 s) (0)).bind fun
  | (.inl ()) => c5x s
  | (.inr r') => some r'
def c7q (O : Orac) : Prop := ∀ (s : ByteArray) (r : Bool) (hm0 : b9j s = some r), Fn O "newel/newelref04.Word" [.v (.string s)] (B r)
noncomputable def d1s : Option Bool :=
 some true
noncomputable def c5y (i_7 : Int) : Option (Out Int (Unit ⊕ Bool)) :=
 some (.nx (wr (i_7 + 1)))
noncomputable def b60 (k_8 : Int) (is_10 : Bool) : Option (Out Int (Unit ⊕ Bool)) :=
 if !is_10 then
  some (.br (.inr false))
 else
  some (.nx (wr (k_8 + 1)))
noncomputable def b73 (m : Machine) (c : List (List Literal)) (inside : Bool) (i_7 : Int) : Int -> Option (Out Int (Unit ⊕ Bool))
 | k_8 =>
  (get c i_7).bind fun x16 =>
  if decide (k_8 < (List.length x16 : Int)) then
   (get x16 k_8).bind fun x21 =>
   if decide (x21.Kind = 1) then
    b60 k_8 ((b1y x21.Number 0 (wr ((List.length m.Inputs : Int) - 1))) && (decide (x21.Value = 0)))
   else
    if decide (x21.Kind = 2) then
     (if (b1y x21.Number 0 (wr ((List.length m.Counters : Int) - 1))) then (get m.Counters x21.Number).bind fun x30 =>
     some (b1y x21.Value 0 x30.Max) else some false).bind fun c31 =>
     b60 k_8 c31
    else
     if decide (x21.Kind = 3) then
      b60 k_8 ((inside && (b1y x21.Number 0 (wr ((List.length m.States : Int) - 1)))) && (decide (x21.Value = 0)))
     else
      if decide (x21.Kind = 4) then
       b60 k_8 ((b1y x21.Number 0 (wr ((List.length m.Outputs : Int) - 1))) && (decide (x21.Value = 0)))
      else
       b60 k_8 false
  else
   some (.br (.inl ()))
noncomputable def b9l (m : Machine) (c : List (List Literal)) (inside : Bool) : Int -> Option (Out Int (Unit ⊕ Bool))
 | i_7 =>
  if decide (i_7 < (List.length c : Int)) then
   (get c i_7).bind fun x11 =>
   if decide (6 < (List.length x11 : Int)) then
    some (.br (.inr false))
   else
    (b0z (b73 m c inside i_7) (0)).bind fun
     | (.inl ()) => c5y i_7
     | (.inr r') => some (.br (.inr r'))
  else
   some (.br (.inl ()))
noncomputable def b9k (m : Machine) (c : List (List Literal)) (inside : Bool) : Option Bool :=
 if decide (6 < (List.length c : Int)) then
  some false
 else
  (b0z (b9l m c inside) (0)).bind fun
   | (.inl ()) => d1s
   | (.inr r') => some r'
def c3b (O : Orac) : Prop := ∀ (m : Machine) (c : List (List Literal)) (inside : Bool) (r : Bool) (hm0 : b9k m c inside = some r), Fn O "newel/newelref04.condition" [.agg [.fs 1 (List.map eS m.Inputs), .fs 1 (List.map eS m.Outputs), .fs 2 (List.map b0l m.Counters), .fs 2 (List.map b0m m.States), .fs 4 (List.map b0i m.Rules)], .fs 1 (List.map b0x c), B inside] (B r)
noncomputable def d1p : Option Int :=
 some 0
noncomputable def c5n (i_8 : Int) : Option (Out Int (Unit ⊕ Int)) :=
 some (.nx (wr (i_8 + 1)))
noncomputable def c1x (m : Machine) (x23 : Rule) : Int -> Option (Out Int (Unit ⊕ Int))
 | k_10 =>
  if decide (k_10 < (List.length x23.Sets : Int)) then
   (get x23.Sets k_10).bind fun x38 =>
   if (!(b1y x38.Kind 1 3)) || (!(b1y x38.Counter 0 (wr ((List.length m.Counters : Int) - 1)))) then
    some (.br (.inr 41))
   else
    some (.nx (wr (k_10 + 1)))
  else
   some (.br (.inl ()))
noncomputable def b70 (m : Machine) : Int -> Option (Out Int (Unit ⊕ Int))
 | i_8 =>
  if decide (i_8 < (List.length m.Rules : Int)) then
   (get m.Rules i_8).bind fun x23 =>
   (if (!(b1y x23.From (-1) (wr ((List.length m.States : Int) - 1)))) || (!(b1y x23.To 0 (wr ((List.length m.States : Int) - 1)))) then some true else (b9k m x23.When false).bind fun y26 =>
   some (!y26)).bind fun c27 =>
   if c27 || (decide (4 < (List.length x23.Sets : Int))) then
    some (.br (.inr 41))
   else
    (b0z (c1x m x23) (0)).bind fun
     | (.inl ()) => c5n i_8
     | (.inr r') => some (.br (.inr r'))
  else
   some (.br (.inl ()))
noncomputable def c5m (m : Machine) : Option Int :=
 (b0z (b70 m) (0)).bind fun
  | (.inl ()) => d1p
  | (.inr r') => some r'
noncomputable def c1w (m : Machine) : Int -> Option (Out Int (Unit ⊕ Int))
 | i_7 =>
  if decide (i_7 < (List.length m.States : Int)) then
   (get m.States i_7).bind fun x49 =>
   (shl .i64 1 (IntKind.wrap .u64 (List.length m.Outputs : Int))).bind fun q50 =>
   if !(b1y x49.Shows 0 (wr (q50 - 1))) then
    some (.br (.inr 41))
   else
    some (.nx (wr (i_7 + 1)))
  else
   some (.br (.inl ()))
noncomputable def c5l (m : Machine) : Option Int :=
 (b0z (c1w m) (0)).bind fun
  | (.inl ()) => c5m m
  | (.inr r') => some r'
noncomputable def c1v (m : Machine) : Int -> Option (Out Int (Unit ⊕ Int))
 | i_6 =>
  if decide (i_6 < (List.length m.Counters : Int)) then
   (get m.Counters i_6).bind fun x58 =>
   if !(b1y x58.Max 1 7) then
    some (.br (.inr 41))
   else
    some (.nx (wr (i_6 + 1)))
  else
   some (.br (.inl ()))
noncomputable def c5k (m : Machine) : Option Int :=
 (b0z (c1v m) (0)).bind fun
  | (.inl ()) => c5l m
  | (.inr r') => some r'
noncomputable def c5o (i_4 : Int) : Option (Out Int (Unit ⊕ Int)) :=
 some (.nx (wr (i_4 + 1)))
noncomputable def b7z (y8 : List ByteArray) (i_4 : Int) : Int -> Option (Out Int (Unit ⊕ Int))
 | k_5 =>
  if decide (k_5 < i_4) then
   (get y8 k_5).bind fun x81 =>
   (get y8 i_4).bind fun x82 =>
   if decide (x81 = x82) then
    some (.br (.inr 41))
   else
    some (.nx (wr (k_5 + 1)))
  else
   some (.br (.inl ()))
noncomputable def b6z (y8 : List ByteArray) : Int -> Option (Out Int (Unit ⊕ Int))
 | i_4 =>
  if decide (i_4 < (List.length y8 : Int)) then
   (get y8 i_4).bind fun x69 =>
   (if decide (8 < (ByteArray.size x69 : Int)) then some true else (b9j x69).bind fun y70 =>
   some (!y70)).bind fun c71 =>
   if c71 then
    some (.br (.inr 41))
   else
    (b0z (b7z y8 i_4) (0)).bind fun
     | (.inl ()) => c5o i_4
     | (.inr r') => some (.br (.inr r'))
  else
   some (.br (.inl ()))
noncomputable def b9g (m : Machine) : Option Int :=
 if ((((decide (4 < (List.length m.Inputs : Int))) || (decide (6 < (List.length m.Outputs : Int)))) || (decide (2 < (List.length m.Counters : Int)))) || (!(b1y (List.length m.States : Int) 1 12))) || (decide (40 < (List.length m.Rules : Int))) then
  some 41
 else
  (c2e m).bind fun y8 =>
  (b0z (b6z y8) (0)).bind fun
   | (.inl ()) => c5k m
   | (.inr r') => some r'
def c26 (O : Orac) : Prop := ∀ (m : Machine) (r : Int) (hm0 : b9g m = some r), Fn O "newel/newelref04.Check" [.agg [.fs 1 (List.map eS m.Inputs), .fs 1 (List.map eS m.Outputs), .fs 2 (List.map b0l m.Counters), .fs 2 (List.map b0m m.States), .fs 4 (List.map b0i m.Rules)]] (I r)
noncomputable def d01 (m : Machine) (places_3 : Int) : Option Bool :=
 some ((decide (3 < (List.length m.Inputs : Int))) || (decide (80 < places_3)))
noncomputable def c1g (m : Machine) : (Int × Int) -> Option (Out (Int × Int) Int)
 | (places_3, i_4) =>
  if decide (i_4 < (List.length m.Counters : Int)) then
   (get m.Counters i_4).bind fun x13 =>
   some (.nx (wr (places_3 * (wr (x13.Max + 1))), wr (i_4 + 1)))
  else
   some (.br places_3)
noncomputable def b7u (m : Machine) : Option Bool :=
 (b9g m).bind fun y2 =>
 if decide (¬y2 = 0) then
  some false
 else
  (b0z (c1g m) ((List.length m.States : Int), 0)).bind fun places_3 =>
  d01 m places_3
def c7i (O : Orac) : Prop := ∀ (m : Machine) (r : Bool) (hm0 : b7u m = some r), Fn O "newel/newellaw04.Wide" [.agg [.fs 1 (List.map eS m.Inputs), .fs 1 (List.map eS m.Outputs), .fs 2 (List.map b0l m.Counters), .fs 2 (List.map b0m m.States), .fs 4 (List.map b0i m.Rules)]] (B r)
noncomputable def b2k (n : Int) (low : Int) (high : Int) : Bool :=
 (decide (low <= n)) && (decide (n <= high))
def c3e (O : Orac) : Prop := ∀ (n : Int) (low : Int) (high : Int), Fn O "newel/situation.within" [I n, I low, I high] (B (b2k n low high))
@[go_sem] def b3u (x : List ByteArray) : List AV := [.fs 1 (List.map eS x)]
theorem c4g (x : List ByteArray) : ∀ c ∈ b3u x, Frz c := (b0a (b0e fun a _ => b00 a) b0o)
theorem d7l (x : List ByteArray) : (b3u x).length = 1 := rfl
@[go_sem] theorem o0g {l : List (List ByteArray)} {n : Nat} {a0 : List ByteArray} : (List.map b3u l).set n [.fs 1 (List.map eS a0)] = List.map b3u (l.set n a0) := by rw [List.map_set]; rfl
def c6t (slices : List (List ByteArray)) : Option (List ByteArray) :=
 if slices.flatten.length * 16 <= 2 ^ 40 /\ slices.length < 2 ^ 40 /\ 0 < slices.flatten.length then some slices.flatten else none
def c77 (O : Orac) : Prop := ∀ (slices : List (List ByteArray)) (r : List ByteArray) (hm0 : c6t slices = some r), FnW O "slices.Concat[[]string,string]" [.fs 1 (List.map b3u slices)] 1 eS r
def c6u (slices : List (List ByteArray)) : Option Unit :=
 if slices.flatten.length = 0 /\ slices.length < 2 ^ 40 then some () else none
def c78 (O : Orac) : Prop := ∀ (slices : List (List ByteArray)) (r : Unit) (hm0 : c6u slices = some r), Fn O "slices.Concat[[]string,string]" [.fs 1 (List.map b3u slices)] (.v (.slice none 0 0))
noncomputable def c6n (l_3_1 : List ByteArray) : Option (List ByteArray) :=
 some l_3_1
noncomputable def c6k (m : Machine) : ((List ByteArray) × Int) -> Option (Out ((List ByteArray) × Int) (((List ByteArray))))
 | (l_3_1, x_30) =>
  if decide (x_30 < (List.length m.States : Int)) then
   (get m.States x_30).bind fun x12 =>
   (ap 16 l_3_1 ([x12.Name])).bind fun l14 =>
   some (.nx (l14, wr (x_30 + 1)))
  else
   some (.br l_3_1)
noncomputable def c6m (m : Machine) (l_3 : List ByteArray) : Option (List ByteArray) :=
 (b0z (c6k m) (l_3, 0)).bind fun l_3_1 =>
 c6n l_3_1
noncomputable def c6l (m : Machine) : ((List ByteArray) × Int) -> Option (Out ((List ByteArray) × Int) (((List ByteArray))))
 | (l_3, x_17) =>
  if decide (x_17 < (List.length m.Counters : Int)) then
   (get m.Counters x_17).bind fun x21 =>
   (ap 16 l_3 ([x21.Name])).bind fun l23 =>
   some (.nx (l23, wr (x_17 + 1)))
  else
   some (.br l_3)
noncomputable def c6j (m : Machine) : Option (List ByteArray) :=
 (c6t ([m.Inputs, m.Outputs])).bind fun y2 =>
 (b0z (c6l m) (y2, 0)).bind fun l_3 =>
 c6m m l_3
def c75 (O : Orac) : Prop := ∀ (m : Machine) (r : List ByteArray) (hm0 : c6j m = some r), Fn O "newel/situation.names" [.agg [.fs 1 (List.map eS m.Inputs), .fs 1 (List.map eS m.Outputs), .fs 2 (List.map b0l m.Counters), .fs 2 (List.map b0m m.States), .fs 4 (List.map b0i m.Rules)]] (.fs 1 (List.map eS r))
noncomputable def c6s (l_3_1 : List ByteArray) : Option (List ByteArray) :=
 some l_3_1
noncomputable def c6p (m : Machine) : ((List ByteArray) × Int) -> Option (Out ((List ByteArray) × Int) (((List ByteArray))))
 | (l_3_1, x_30) =>
  if decide (x_30 < (List.length m.States : Int)) then
   (get m.States x_30).bind fun x12 =>
   (ap 16 l_3_1 ([x12.Name])).bind fun l14 =>
   some (.nx (l14, wr (x_30 + 1)))
  else
   some (.br l_3_1)
noncomputable def c6r (m : Machine) (l_3 : List ByteArray) : Option (List ByteArray) :=
 (b0z (c6p m) (l_3, 0)).bind fun l_3_1 =>
 c6s l_3_1
noncomputable def c6q (m : Machine) : ((List ByteArray) × Int) -> Option (Out ((List ByteArray) × Int) (((List ByteArray))))
 | (l_3, x_17) =>
  if decide (x_17 < (List.length m.Counters : Int)) then
   (get m.Counters x_17).bind fun x21 =>
   (ap 16 l_3 ([x21.Name])).bind fun l23 =>
   some (.nx (l23, wr (x_17 + 1)))
  else
   some (.br l_3)
noncomputable def c6o (m : Machine) : Option (List ByteArray) :=
 (c6u ([m.Inputs, m.Outputs])).bind fun y2 =>
 (b0z (c6q m) ([], 0)).bind fun l_3 =>
 c6r m l_3
def c76 (O : Orac) : Prop := ∀ (m : Machine) (r : List ByteArray) (hm0 : c6o m = some r), Fn O "newel/situation.names" [.agg [.fs 1 (List.map eS m.Inputs), .fs 1 (List.map eS m.Outputs), .fs 2 (List.map b0l m.Counters), .fs 2 (List.map b0m m.States), .fs 4 (List.map b0i m.Rules)]] (.fs 1 (List.map eS r))
noncomputable def c2w (m : Machine) : Option (List ByteArray) :=
 if 0 < m.Inputs.length + m.Outputs.length then c6j m else c6o m
def c74 (O : Orac) : Prop := ∀ (m : Machine) (r : List ByteArray) (hm0 : c2w m = some r), Fn O "newel/situation.names" [.agg [.fs 1 (List.map eS m.Inputs), .fs 1 (List.map eS m.Outputs), .fs 2 (List.map b0l m.Counters), .fs 2 (List.map b0m m.States), .fs 4 (List.map b0i m.Rules)]] (.fs 1 (List.map eS r))
noncomputable def d17 (word : ByteArray) : Option Bool :=
 some (!(decide (word = (ByteArray.mk #[]))))
noncomputable def c2t (word : ByteArray) : Int -> Option (Out Int (Unit ⊕ Bool))
 | x_8 =>
  if decide (x_8 < (List.length (b3e word) : Int)) then
   (get (b3e word) x_8).bind fun x8 =>
   if (decide (x8 < 97)) || (decide (122 < x8)) then
    some (.br (.inr false))
   else
    some (.nx (wr (x_8 + 1)))
  else
   some (.br (.inl ()))
noncomputable def c2s (word : ByteArray) : Option Bool :=
 (b0z (c2t word) (0)).bind fun
  | (.inl ()) => d17 word
  | (.inr r') => some r'
def c7z (O : Orac) : Prop := ∀ (word : ByteArray) (r : Bool) (hm0 : c2s word = some r), Fn O "newel/situation.Plain" [.v (.string word)] (B r)
noncomputable def b5d (x_4 : Bool) : Bool :=
 if x_4 then
  true
 else
  false
noncomputable def b79 (word : ByteArray) : Bool :=
 if decide (word = (ByteArray.mk #[97, 110, 121])) then
  b5d (decide (word = (ByteArray.mk #[97, 110, 121])))
 else
  if decide (word = (ByteArray.mk #[116, 111])) then
   b5d (decide (word = (ByteArray.mk #[116, 111])))
  else
   if decide (word = (ByteArray.mk #[122, 101, 114, 111])) then
    b5d (decide (word = (ByteArray.mk #[122, 101, 114, 111])))
   else
    if decide (word = (ByteArray.mk #[109, 111, 114, 101])) then
     b5d (decide (word = (ByteArray.mk #[109, 111, 114, 101])))
    else
     if decide (word = (ByteArray.mk #[108, 101, 115, 115])) then
      b5d (decide (word = (ByteArray.mk #[108, 101, 115, 115])))
     else
      if decide (word = (ByteArray.mk #[105, 102])) then
       b5d (decide (word = (ByteArray.mk #[105, 102])))
      else
       if decide (word = (ByteArray.mk #[121, 101, 115])) then
        b5d (decide (word = (ByteArray.mk #[121, 101, 115])))
       else
        b5d (decide (word = (ByteArray.mk #[110, 111])))
def c70 (O : Orac) : Prop := ∀ (word : ByteArray), Fn O "newel/situation.Reserved" [.v (.string word)] (B (b79 word))
noncomputable def d18 : Option Bool :=
 some true
noncomputable def b9x (y2 : List ByteArray) : ((List (ByteArray × Int)) × Int) -> Option (Out ((List (ByteArray × Int)) × Int) (Unit ⊕ Bool))
 | (seen_3, x_10) =>
  if decide (x_10 < (List.length y2 : Int)) then
   (get y2 x_10).bind fun x10 =>
   (c2s x10).bind fun y12 =>
   if (((!y12) || (decide (8 < (ByteArray.size x10 : Int)))) || (b79 x10)) || (decide (1 < (b2n (b3j seen_3 x10 (wr ((b2n seen_3 x10 0) + 1))) x10 0))) then
    some (.br (.inr false))
   else
    some (.nx ((b3j seen_3 x10 (wr ((b2n seen_3 x10 0) + 1))), wr (x_10 + 1)))
  else
   some (.br (.inl ()))
noncomputable def c2v (m : Machine) : Option Bool :=
 (c2w m).bind fun y2 =>
 (b0z (b9x y2) (([] : List (ByteArray × Int)), 0)).bind fun
  | (.inl ()) => d18
  | (.inr r') => some r'
def c73 (O : Orac) : Prop := ∀ (m : Machine) (r : Bool) (hm0 : c2v m = some r), Fn O "newel/situation.named" [.agg [.fs 1 (List.map eS m.Inputs), .fs 1 (List.map eS m.Outputs), .fs 2 (List.map b0l m.Counters), .fs 2 (List.map b0m m.States), .fs 4 (List.map b0i m.Rules)]] (B r)
noncomputable def c2u (m : Machine) (x : Literal) : Option Bool :=
 if decide (x.Kind = 1) then
  some ((b2k x.Number 0 (wr ((List.length m.Inputs : Int) - 1))) && (decide (x.Value = 0)))
 else
  if decide (x.Kind = 2) then
   (if (b2k x.Number 0 (wr ((List.length m.Counters : Int) - 1))) then (get m.Counters x.Number).bind fun x7 =>
   some (b2k x.Value 0 x7.Max) else some false).bind fun c8 =>
   some c8
  else
   if decide (x.Kind = 3) then
    some ((b2k x.Number 0 (wr ((List.length m.States : Int) - 1))) && (decide (x.Value = 0)))
   else
    if decide (x.Kind = 4) then
     some ((b2k x.Number 0 (wr ((List.length m.Outputs : Int) - 1))) && (decide (x.Value = 0)))
    else
     some false
def c72 (O : Orac) : Prop := ∀ (m : Machine) (x : Literal) (r : Bool) (hm0 : c2u m x = some r), Fn O "newel/situation.asks" [.agg [.fs 1 (List.map eS m.Inputs), .fs 1 (List.map eS m.Outputs), .fs 2 (List.map b0l m.Counters), .fs 2 (List.map b0m m.States), .fs 4 (List.map b0i m.Rules)], .agg [I x.Kind, I x.Number, I x.Value, B x.Not]] (B r)
noncomputable def b77 (x : Literal) (c0 : Machine) : Option Bool :=
 (c2u c0 x).bind fun y2 =>
 some (!y2)
def c7w (O : Orac) : Prop := ∀ (x : Literal) (c0 : Machine) (r : Bool) (hm0 : b77 x c0 = some r), Fn O "newel/situation.Asked$1" [.agg [I x.Kind, I x.Number, I x.Value, B x.Not], .fp [.fs 1 (List.map eS c0.Inputs), .fs 1 (List.map eS c0.Outputs), .fs 2 (List.map b0l c0.Counters), .fs 2 (List.map b0m c0.States), .fs 4 (List.map b0i c0.Rules)] 0] (B r)
noncomputable def d2c : Option Int :=
 some (-1)
noncomputable def d9f (s : List Literal) (f : Literal -> Option Bool) : Int -> Option (Out Int (Unit ⊕ Int))
 | x_8 =>
  if decide (x_8 < (List.length s : Int)) then
   (get s x_8).bind fun x9 =>
   (f x9).bind fun y10 =>
   if y10 then
    some (.br (.inr x_8))
   else
    some (.nx (wr (x_8 + 1)))
  else
   some (.br (.inl ()))
noncomputable def d2b (s : List Literal) (f : Literal -> Option Bool) : Option Int :=
 (b0z (d9f s f) (0)).bind fun
  | (.inl ()) => d2c
  | (.inr r') => some r'
def c8b (O : Orac) : Prop := ∀ (s : List Literal) (f_n : String) (f_a f_b : List AV) (f : Literal -> Option Bool) (f_z : Frz (.fn f_n f_a f_b)) (f_h : ∀ z0 y, f z0 = some y -> Fn O f_n (f_a ++ [.agg [I z0.Kind, I z0.Number, I z0.Value, B z0.Not]] ++ f_b) (B y)) (r : Int) (hm0 : d2b s f = some r), Fn O "slices.IndexFunc[newel/api.Term,newel/api.Literal]" [.fs 4 (List.map b27 s), .fn f_n f_a f_b] (I r)
noncomputable def b65 (s : List Literal) (f : Literal -> Option Bool) : Option Bool :=
 (d2b s f).bind fun y2 =>
 some (decide (0 <= y2))
def b90 (O : Orac) : Prop := ∀ (s : List Literal) (f_n : String) (f_a f_b : List AV) (f : Literal -> Option Bool) (f_z : Frz (.fn f_n f_a f_b)) (f_h : ∀ z0 y, f z0 = some y -> Fn O f_n (f_a ++ [.agg [I z0.Kind, I z0.Number, I z0.Value, B z0.Not]] ++ f_b) (B y)) (r : Bool) (hm0 : b65 s f = some r), Fn O "slices.ContainsFunc[newel/api.Term,newel/api.Literal]" [.fs 4 (List.map b27 s), .fn f_n f_a f_b] (B r)
noncomputable def d15 : Option Bool :=
 some true
noncomputable def c2m (m : Machine) (c : List (List Literal)) : Int -> Option (Out Int (Unit ⊕ Bool))
 | x_12 =>
  if decide (x_12 < (List.length c : Int)) then
   (get c x_12).bind fun x10 =>
   (if decide (6 < (List.length x10 : Int)) then some true else (b65 x10 (fun z14 => b77 z14 m)).bind fun y15 =>
   some y15).bind fun c16 =>
   if c16 then
    some (.br (.inr false))
   else
    some (.nx (wr (x_12 + 1)))
  else
   some (.br (.inl ()))
noncomputable def b9w (m : Machine) (c : List (List Literal)) : Option Bool :=
 if decide (6 < (List.length c : Int)) then
  some false
 else
  (b0z (c2m m c) (0)).bind fun
   | (.inl ()) => d15
   | (.inr r') => some r'
def c3d (O : Orac) : Prop := ∀ (m : Machine) (c : List (List Literal)) (r : Bool) (hm0 : b9w m c = some r), Fn O "newel/situation.Asked" [.agg [.fs 1 (List.map eS m.Inputs), .fs 1 (List.map eS m.Outputs), .fs 2 (List.map b0l m.Counters), .fs 2 (List.map b0m m.States), .fs 4 (List.map b0i m.Rules)], .fs 1 (List.map b0x c)] (B r)
noncomputable def b64 (x : Literal) : Bool :=
 decide (x.Kind = 3)
def c7y (O : Orac) : Prop := ∀ (x : Literal), Fn O "newel/situation.Check$1" [.agg [I x.Kind, I x.Number, I x.Value, B x.Not]] (B (b64 x))
noncomputable def d16 : Option Int :=
 some 0
noncomputable def c6h (x_79 : Int) : Option (Out Int (Unit ⊕ Int)) :=
 some (.nx (wr (x_79 + 1)))
noncomputable def c2q (m : Machine) (x24 : Rule) : Int -> Option (Out Int (Unit ⊕ Int))
 | x_127 =>
  if decide (x_127 < (List.length x24.Sets : Int)) then
   (get x24.Sets x_127).bind fun x41 =>
   if (!(b2k x41.Kind 1 3)) || (!(b2k x41.Counter 0 (wr ((List.length m.Counters : Int) - 1)))) then
    some (.br (.inr 41))
   else
    some (.nx (wr (x_127 + 1)))
  else
   some (.br (.inl ()))
noncomputable def c6i (m : Machine) (x_79 : Int) (x24 : Rule) : Option (Out Int (Unit ⊕ Int)) :=
 (b0z (c2q m x24) (0)).bind fun
  | (.inl ()) => c6h x_79
  | (.inr r') => some (.br (.inr r'))
noncomputable def c2p (x24 : Rule) : Int -> Option (Out Int (Unit ⊕ Int))
 | x_117 =>
  if decide (x_117 < (List.length x24.When : Int)) then
   (get x24.When x_117).bind fun x50 =>
   (b65 x50 (fun z53 => some (b64 z53))).bind fun y54 =>
   if y54 then
    some (.br (.inr 41))
   else
    some (.nx (wr (x_117 + 1)))
  else
   some (.br (.inl ()))
noncomputable def b78 (m : Machine) : Int -> Option (Out Int (Unit ⊕ Int))
 | x_79 =>
  if decide (x_79 < (List.length m.Rules : Int)) then
   (get m.Rules x_79).bind fun x24 =>
   (if (!(b2k x24.From (-1) (wr ((List.length m.States : Int) - 1)))) || (!(b2k x24.To 0 (wr ((List.length m.States : Int) - 1)))) then some true else (b9w m x24.When).bind fun y27 =>
   some (!y27)).bind fun c28 =>
   if c28 || (decide (4 < (List.length x24.Sets : Int))) then
    some (.br (.inr 41))
   else
    (b0z (c2p x24) (0)).bind fun
     | (.inl ()) => c6i m x_79 x24
     | (.inr r') => some (.br (.inr r'))
  else
   some (.br (.inl ()))
noncomputable def c6g (m : Machine) : Option Int :=
 (b0z (b78 m) (0)).bind fun
  | (.inl ()) => d16
  | (.inr r') => some r'
noncomputable def c2o (m : Machine) : Int -> Option (Out Int (Unit ⊕ Int))
 | x_62 =>
  if decide (x_62 < (List.length m.States : Int)) then
   (get m.States x_62).bind fun x63 =>
   (shl .i64 1 (List.length m.Outputs : Int)).bind fun q65 =>
   if !(b2k x63.Shows 0 (wr (q65 - 1))) then
    some (.br (.inr 41))
   else
    some (.nx (wr (x_62 + 1)))
  else
   some (.br (.inl ()))
noncomputable def c6f (m : Machine) : Option Int :=
 (b0z (c2o m) (0)).bind fun
  | (.inl ()) => c6g m
  | (.inr r') => some r'
noncomputable def c2r (m : Machine) : Int -> Option (Out Int (Unit ⊕ Int))
 | x_50 =>
  if decide (x_50 < (List.length m.Counters : Int)) then
   (get m.Counters x_50).bind fun x73 =>
   if !(b2k x73.Max 1 7) then
    some (.br (.inr 41))
   else
    some (.nx (wr (x_50 + 1)))
  else
   some (.br (.inl ()))
noncomputable def c2n (m : Machine) : Option Int :=
 (if ((((decide (4 < (List.length m.Inputs : Int))) || (decide (6 < (List.length m.Outputs : Int)))) || (decide (2 < (List.length m.Counters : Int)))) || (!(b2k (List.length m.States : Int) 1 12))) || (decide (40 < (List.length m.Rules : Int))) then some true else (c2v m).bind fun y3 =>
 some (!y3)).bind fun c4 =>
 if c4 then
  some 41
 else
  (b0z (c2r m) (0)).bind fun
   | (.inl ()) => c6f m
   | (.inr r') => some r'
def c7x (O : Orac) : Prop := ∀ (m : Machine) (r : Int) (hm0 : c2n m = some r), Fn O "newel/situation.Check" [.agg [.fs 1 (List.map eS m.Inputs), .fs 1 (List.map eS m.Outputs), .fs 2 (List.map b0l m.Counters), .fs 2 (List.map b0m m.States), .fs 4 (List.map b0i m.Rules)]] (I r)
noncomputable def c0l (m : Machine) : Option Int :=
 (c2n m).bind fun y2 =>
 some y2
def c7d (O : Orac) : Prop := ∀ (m : Machine) (r : Int) (hm0 : c0l m = some r), Fn O "newel/control.Check" [.agg [.fs 1 (List.map eS m.Inputs), .fs 1 (List.map eS m.Outputs), .fs 2 (List.map b0l m.Counters), .fs 2 (List.map b0m m.States), .fs 4 (List.map b0i m.Rules)]] (I r)
@[go_sem] def b4t (x : List (List Literal)) : List AV := [.fs 1 (List.map b0x x)]
theorem c4f (x : List (List Literal)) : ∀ c ∈ b4t x, Frz c := (b0a (b0e fun a _ => b21 a) b0o)
theorem d7j (x : List (List Literal)) : (b4t x).length = 1 := rfl
@[go_sem] theorem o0e {l : List (List (List Literal))} {n : Nat} {a0 : List (List Literal)} : (List.map b4t l).set n [.fs 1 (List.map b0x a0)] = List.map b4t (l.set n a0) := by rw [List.map_set]; rfl
noncomputable def c8t : Option Int :=
 some 0
noncomputable def c0o (m : Machine) (conds : List (List (List Literal))) : Int -> Option (Out Int (Unit ⊕ Int))
 | x_15 =>
  if decide (x_15 < (List.length conds : Int)) then
   (get conds x_15).bind fun x12 =>
   (b9w m x12).bind fun y14 =>
   if !y14 then
    some (.br (.inr 42))
   else
    some (.nx (wr (x_15 + 1)))
  else
   some (.br (.inl ()))
noncomputable def c0n (m : Machine) (conds : List (List (List Literal))) : Option Int :=
 (c0l m).bind fun y2 =>
 if decide (¬y2 = 0) then
  some y2
 else
  (b0z (c0o m conds) (0)).bind fun
   | (.inl ()) => c8t
   | (.inr r') => some r'
def c7f (O : Orac) : Prop := ∀ (m : Machine) (conds : List (List (List Literal))) (r : Int) (hm0 : c0n m conds = some r), Fn O "newel/control.check" [.agg [.fs 1 (List.map eS m.Inputs), .fs 1 (List.map eS m.Outputs), .fs 2 (List.map b0l m.Counters), .fs 2 (List.map b0m m.States), .fs 4 (List.map b0i m.Rules)], .fs 1 (List.map b4t conds)] (I r)
structure situation_Plant where
 Machine : Machine
 deriving Inhabited, DecidableEq
structure control_plant where
 Plant : situation_Plant
 deriving Inhabited, DecidableEq
noncomputable def b5g (m : Machine) : control_plant :=
 (control_plant.mk (situation_Plant.mk m))
def c7g (O : Orac) : Prop := ∀ (m : Machine), Fn O "newel/control.of" [.agg [.fs 1 (List.map eS m.Inputs), .fs 1 (List.map eS m.Outputs), .fs 2 (List.map b0l m.Counters), .fs 2 (List.map b0m m.States), .fs 4 (List.map b0i m.Rules)]] (.agg [.fs 1 (List.map eS ((((b5g m).Plant).Machine).Inputs)), .fs 1 (List.map eS ((((b5g m).Plant).Machine).Outputs)), .fs 2 (List.map b0l ((((b5g m).Plant).Machine).Counters)), .fs 2 (List.map b0m ((((b5g m).Plant).Machine).States)), .fs 4 (List.map b0i ((((b5g m).Plant).Machine).Rules))])
noncomputable def c0a (m : situation_Plant) : Option Int :=
 (shl .i64 1 (List.length m.Machine.Inputs : Int)).bind fun q2 =>
 some q2
def c66 (O : Orac) : Prop := ∀ (m : situation_Plant) (r : Int) (hm0 : c0a m = some r), Fn O "(newel/situation.Plant).All" [.agg [.fs 1 (List.map eS m.Machine.Inputs), .fs 1 (List.map eS m.Machine.Outputs), .fs 2 (List.map b0l m.Machine.Counters), .fs 2 (List.map b0m m.Machine.States), .fs 4 (List.map b0i m.Machine.Rules)]] (I r)
structure Place where
 State : Int
 Values : Int × Int
 deriving Inhabited, DecidableEq
noncomputable def b59 (x : Literal) (holds_9 : Bool) : Option Bool :=
 some (!(b6d holds_9 x.Not))
noncomputable def b7g (m : situation_Plant) (x : Literal) (p : Place) (input : Int) : Option Bool :=
 if decide (x.Kind = 1) then
  (shr .i64 input x.Number).bind fun q5 =>
  b59 x (decide ((b6c q5 1) = 1))
 else
  if decide (x.Kind = 2) then
   (get [p.Values.1, p.Values.2] x.Number).bind fun x8 =>
   b59 x (decide (x.Value <= x8))
  else
   if decide (x.Kind = 3) then
    b59 x (decide (p.State = x.Number))
   else
    if decide (x.Kind = 4) then
     (get m.Machine.States p.State).bind fun x13 =>
     (shr .i64 x13.Shows x.Number).bind fun q14 =>
     b59 x (decide ((b6c q14 1) = 1))
    else
     b59 x false
def c7b (O : Orac) : Prop := ∀ (m : situation_Plant) (x : Literal) (p : Place) (input : Int) (r : Bool) (hm0 : b7g m x p input = some r), Fn O "(newel/situation.Plant).literal" [.agg [.fs 1 (List.map eS m.Machine.Inputs), .fs 1 (List.map eS m.Machine.Outputs), .fs 2 (List.map b0l m.Machine.Counters), .fs 2 (List.map b0m m.Machine.States), .fs 4 (List.map b0i m.Machine.Rules)], .agg [I x.Kind, I x.Number, I x.Value, B x.Not], .agg [I p.State, I p.Values.1, I p.Values.2], I input] (B r)
noncomputable def b7f (x : Literal) (c0 : situation_Plant) (c1 : Place) (c2 : Int) : Option Bool :=
 (b7g c0 x c1 c2).bind fun y2 =>
 some (!y2)
def c69 (O : Orac) : Prop := ∀ (x : Literal) (c0 : situation_Plant) (c1 : Place) (c2 : Int) (r : Bool) (hm0 : b7f x c0 c1 c2 = some r), Fn O "(newel/situation.Plant).Holds$1$1" [.agg [I x.Kind, I x.Number, I x.Value, B x.Not], .fp [.fs 1 (List.map eS c0.Machine.Inputs), .fs 1 (List.map eS c0.Machine.Outputs), .fs 2 (List.map b0l c0.Machine.Counters), .fs 2 (List.map b0m c0.Machine.States), .fs 4 (List.map b0i c0.Machine.Rules)] 0, .fp [I c1.State, I c1.Values.1, I c1.Values.2] 0, .fp [I c2] 0] (B r)
noncomputable def b7e (t_ : List Literal) (c0 : situation_Plant) (c1 : Place) (c2 : Int) : Option Bool :=
 (b65 t_ (fun z3 => b7f z3 c0 c1 c2)).bind fun y4 =>
 some (!y4)
def c68 (O : Orac) : Prop := ∀ (t_ : List Literal) (c0 : situation_Plant) (c1 : Place) (c2 : Int) (r : Bool) (hm0 : b7e t_ c0 c1 c2 = some r), Fn O "(newel/situation.Plant).Holds$1" [.fs 4 (List.map b27 t_), .fp [.fs 1 (List.map eS c0.Machine.Inputs), .fs 1 (List.map eS c0.Machine.Outputs), .fs 2 (List.map b0l c0.Machine.Counters), .fs 2 (List.map b0m c0.Machine.States), .fs 4 (List.map b0i c0.Machine.Rules)] 0, .fp [I c1.State, I c1.Values.1, I c1.Values.2] 0, .fp [I c2] 0] (B r)
noncomputable def d2a : Option Int :=
 some (-1)
noncomputable def d9e (s : List (List Literal)) (f : (List Literal) -> Option Bool) : Int -> Option (Out Int (Unit ⊕ Int))
 | x_8 =>
  if decide (x_8 < (List.length s : Int)) then
   (get s x_8).bind fun x9 =>
   (f x9).bind fun y10 =>
   if y10 then
    some (.br (.inr x_8))
   else
    some (.nx (wr (x_8 + 1)))
  else
   some (.br (.inl ()))
noncomputable def d19 (s : List (List Literal)) (f : (List Literal) -> Option Bool) : Option Int :=
 (b0z (d9e s f) (0)).bind fun
  | (.inl ()) => d2a
  | (.inr r') => some r'
def c8a (O : Orac) : Prop := ∀ (s : List (List Literal)) (f_n : String) (f_a f_b : List AV) (f : (List Literal) -> Option Bool) (f_z : Frz (.fn f_n f_a f_b)) (f_h : ∀ z0 y, f z0 = some y -> Fn O f_n (f_a ++ [.fs 4 (List.map b27 z0)] ++ f_b) (B y)) (r : Int) (hm0 : d19 s f = some r), Fn O "slices.IndexFunc[newel/api.Cond,newel/api.Term]" [.fs 1 (List.map b0x s), .fn f_n f_a f_b] (I r)
noncomputable def c6v (s : List (List Literal)) (f : (List Literal) -> Option Bool) : Option Bool :=
 (d19 s f).bind fun y2 =>
 some (decide (0 <= y2))
def c79 (O : Orac) : Prop := ∀ (s : List (List Literal)) (f_n : String) (f_a f_b : List AV) (f : (List Literal) -> Option Bool) (f_z : Frz (.fn f_n f_a f_b)) (f_h : ∀ z0 y, f z0 = some y -> Fn O f_n (f_a ++ [.fs 4 (List.map b27 z0)] ++ f_b) (B y)) (r : Bool) (hm0 : c6v s f = some r), Fn O "slices.ContainsFunc[newel/api.Cond,newel/api.Term]" [.fs 1 (List.map b0x s), .fn f_n f_a f_b] (B r)
noncomputable def b8i (m : situation_Plant) (c : List (List Literal)) (p : Place) (input : Int) : Option Bool :=
 (c6v c (fun z3 => b7e z3 m p input)).bind fun y4 =>
 some y4
def c25 (O : Orac) : Prop := ∀ (m : situation_Plant) (c : List (List Literal)) (p : Place) (input : Int) (r : Bool) (hm0 : b8i m c p input = some r), Fn O "(newel/situation.Plant).Holds" [.agg [.fs 1 (List.map eS m.Machine.Inputs), .fs 1 (List.map eS m.Machine.Outputs), .fs 2 (List.map b0l m.Machine.Counters), .fs 2 (List.map b0m m.Machine.States), .fs 4 (List.map b0i m.Machine.Rules)], .fs 1 (List.map b0x c), .agg [I p.State, I p.Values.1, I p.Values.2], I input] (B r)
noncomputable def c0b (m : situation_Plant) (assume : List (List Literal)) (p : Place) (input : Int) : Option Bool :=
 (if decide ((List.length assume : Int) = 0) then some true else (b8i m assume p input).bind fun y3 =>
 some y3).bind fun c4 =>
 some c4
def c67 (O : Orac) : Prop := ∀ (m : situation_Plant) (assume : List (List Literal)) (p : Place) (input : Int) (r : Bool) (hm0 : c0b m assume p input = some r), Fn O "(newel/situation.Plant).Allowed" [.agg [.fs 1 (List.map eS m.Machine.Inputs), .fs 1 (List.map eS m.Machine.Outputs), .fs 2 (List.map b0l m.Machine.Counters), .fs 2 (List.map b0m m.Machine.States), .fs 4 (List.map b0i m.Machine.Rules)], .fs 1 (List.map b0x assume), .agg [I p.State, I p.Values.1, I p.Values.2], I input] (B r)
noncomputable def c0e (m : situation_Plant) (s : Set) (p : Place) : Option Place :=
 (get [p.Values.1, p.Values.2] s.Counter).bind fun x2 =>
 if decide (s.Kind = 1) then
  some (Place.mk p.State (b1i s.Counter 0 0 p.Values.1, b1i s.Counter 1 0 p.Values.2))
 else
  if decide (s.Kind = 2) then
   (get m.Machine.Counters s.Counter).bind fun x6 =>
   some (Place.mk p.State (b1i s.Counter 0 (mn (wr (x2 + 1)) x6.Max) p.Values.1, b1i s.Counter 1 (mn (wr (x2 + 1)) x6.Max) p.Values.2))
  else
   if decide (s.Kind = 3) then
    some (Place.mk p.State (b1i s.Counter 0 (mx (wr (x2 - 1)) 0) p.Values.1, b1i s.Counter 1 (mx (wr (x2 - 1)) 0) p.Values.2))
   else
    some (Place.mk p.State (p.Values.1, p.Values.2))
def c7c (O : Orac) : Prop := ∀ (m : situation_Plant) (s : Set) (p : Place) (i_2 : Nat) (h0 : Heap) (ob_p2 : h0.ob i_2 = some (3, [[I p.State, I p.Values.1, I p.Values.2]])) (lt_p2 : i_2 < h0.nx) (r : Place) (hm0 : c0e m s p = some r), b6f O "(newel/situation.Plant).set" [.agg [.fs 1 (List.map eS m.Machine.Inputs), .fs 1 (List.map eS m.Machine.Outputs), .fs 2 (List.map b0l m.Machine.Counters), .fs 2 (List.map b0m m.Machine.States), .fs 4 (List.map b0i m.Machine.Rules)], .agg [I s.Kind, I s.Counter], .rp i_2 0 0] h0 (fun v h => v = .tup [] /\ h.ob i_2 = some (3, [[I r.State, I r.Values.1, I r.Values.2]]) /\ (∀ j, j < h0.nx -> ¬j = i_2 -> h.ob j = h0.ob j) /\ h0.nx <= h.nx)
noncomputable def c3t (p_4_0 : Int) (p_4_1 : Int) (p_4_2 : Int) : Option Place :=
 some (Place.mk p_4_0 (p_4_1, p_4_2))
noncomputable def c3u (x_15 : Int) : Option (Out Int ((Int × Int × Int))) :=
 some (.nx (wr (x_15 + 1)))
noncomputable def c3s (x9 : Rule) (p_4_0 : Int) (p_4_1 : Int) (p_4_2 : Int) : Option (Out Int ((Int × Int × Int))) :=
 some (.br (x9.To, p_4_1, p_4_2))
noncomputable def c0d (m : situation_Plant) (x9 : Rule) : (Int × Int × Int × Int) -> Option (Out (Int × Int × Int × Int) ((Int × Int × Int)))
 | (p_4_0, p_4_1, p_4_2, x_41) =>
  if decide (x_41 < (List.length x9.Sets : Int)) then
   (get x9.Sets x_41).bind fun x25 =>
   (c0e m x25 (Place.mk p_4_0 (p_4_1, p_4_2))).bind fun y27 =>
   some (.nx (y27.State, y27.Values.1, y27.Values.2, wr (x_41 + 1)))
  else
   some (.br (p_4_0, p_4_1, p_4_2))
noncomputable def c3r (m : situation_Plant) (p : Place) (input : Int) : Int -> Option (Out Int ((Int × Int × Int)))
 | x_15 =>
  if decide (x_15 < (List.length m.Machine.Rules : Int)) then
   (get m.Machine.Rules x_15).bind fun x9 =>
   (if (decide (¬x9.From = (-1))) && (decide (¬x9.From = p.State)) then some true else (b8i m x9.When (Place.mk p.State (p.Values.1, p.Values.2)) input).bind fun y12 =>
   some (!y12)).bind fun c13 =>
   if c13 then
    c3u x_15
   else
    (b0z (c0d m x9) (p.State, p.Values.1, p.Values.2, 0)).bind fun
     | (p_4_0, p_4_1, p_4_2) => c3s x9 p_4_0 p_4_1 p_4_2
  else
   some (.br (p.State, p.Values.1, p.Values.2))
noncomputable def c0c (m : situation_Plant) (p : Place) (input : Int) : Option Place :=
 (b0z (c3r m p input) (0)).bind fun
  | (p_4_0, p_4_1, p_4_2) => c3t p_4_0 p_4_1 p_4_2
def c7a (O : Orac) : Prop := ∀ (m : situation_Plant) (p : Place) (input : Int) (r : Place) (hm0 : c0c m p input = some r), Fn O "(newel/situation.Plant).Step" [.agg [.fs 1 (List.map eS m.Machine.Inputs), .fs 1 (List.map eS m.Machine.Outputs), .fs 2 (List.map b0l m.Machine.Counters), .fs 2 (List.map b0m m.Machine.States), .fs 4 (List.map b0i m.Machine.Rules)], .agg [I p.State, I p.Values.1, I p.Values.2], I input] (.agg [I r.State, I r.Values.1, I r.Values.2])
structure control_walk where
 places : List Place
 from_ : List Int
 by_ : List Int
 next : List (List Int)
 deriving Inhabited, DecidableEq
@[go_sem] def b2a (x : Place) : List AV := [I x.State, I x.Values.1, I x.Values.2]
theorem b4w (x : Place) : ∀ c ∈ b2a x, Frz c := (b0a (b0d _) (b0a (b0d _) (b0a (b0d _) b0o)))
theorem d02 (x : Place) : (b2a x).length = 3 := rfl
@[go_sem] theorem o0i {l : List Place} {n : Nat} {a0 : Int} {a1 : Int} {a2 : Int} : (List.map b2a l).set n [I a0, I a1, I a2] = List.map b2a (l.set n (Place.mk a0 (a1, a2))) := by rw [List.map_set]; rfl
def b4m (x : Place) : List Int := [x.State, x.Values.1, x.Values.2]
theorem d00 : ∀ a b, b3b false (vks b4m a) (vks b4m b) = some (decide (a = b)) := j2r (n := 3) (fun _ => rfl) fun a b h => by
 obtain ⟨a1, ⟨a2, a3⟩⟩ := a; obtain ⟨b4, ⟨b5, b6⟩⟩ := b
 simp only [b4m, List.cons.injEq, and_true] at h
 obtain ⟨rfl, rfl, rfl⟩ := h; rfl
@[go_sem] def b4c (x : List Int) : List AV := [.fs 1 (List.map eI x)]
theorem d4m (x : List Int) : ∀ c ∈ b4c x, Frz c := (b0a (b0e fun a _ => b5i a) b0o)
theorem j21 (x : List Int) : (b4c x).length = 1 := rfl
@[go_sem] theorem o0d {l : List (List Int)} {n : Nat} {a0 : List Int} : (List.map b4c l).set n [.fs 1 (List.map eI a0)] = List.map b4c (l.set n a0) := by rw [List.map_set]; rfl
noncomputable def c3p (w_7_0 : List Place) (w_7_1 : List Int) (w_7_2 : List Int) (w_7_3 : List (List Int)) : Option control_walk :=
 some (control_walk.mk w_7_0 w_7_1 w_7_2 w_7_3)
noncomputable def c3q (at_9 : Int) (w_7_0_1 : List Place) (w_7_1_1 : List Int) (w_7_2_1 : List Int) (w_7_3_1 : List (List Int)) (found_8_1 : List (Place × Int)) : Option (Out ((List Place) × (List Int) × (List Int) × (List (List Int)) × (List (Place × Int)) × Int) (((List Place) × (List Int) × (List Int) × (List (List Int))))) :=
 some (.nx (w_7_0_1, w_7_1_1, w_7_2_1, w_7_3_1, found_8_1, wr (at_9 + 1)))
noncomputable def c3o (w_7_3 : List (List Int)) (at_9 : Int) (w_7_0_1 : List Place) (w_7_1_1 : List Int) (w_7_2_1 : List Int) (found_8_1 : List (Place × Int)) (row_11 : List Int) : Option (Out ((List Place) × (List Int) × (List Int) × (List (List Int)) × (List (Place × Int)) × Int) (((List Place) × (List Int) × (List Int) × (List (List Int))))) :=
 (ap 24 w_7_3 ([row_11])).bind fun l17 =>
 c3q at_9 w_7_0_1 w_7_1_1 w_7_2_1 l17 found_8_1
noncomputable def b98 (x_47 : Int) (w_7_0_2 : List Place) (w_7_1_2 : List Int) (w_7_2_2 : List Int) (found_8_2 : List (Place × Int)) (row_11_1 : List Int) : Option (Out ((List Place) × (List Int) × (List Int) × (List (Place × Int)) × (List Int) × Int) (((List Place) × (List Int) × (List Int) × (List (Place × Int)) × (List Int)))) :=
 some (.nx (w_7_0_2, w_7_1_2, w_7_2_2, found_8_2, row_11_1, wr (x_47 + 1)))
noncomputable def b99 (row_11 : List Int) (x_47 : Int) (w_7_0_2 : List Place) (w_7_1_2 : List Int) (w_7_2_2 : List Int) (found_8_2 : List (Place × Int)) (to_14 : Int) : Option (Out ((List Place) × (List Int) × (List Int) × (List (Place × Int)) × (List Int) × Int) (((List Place) × (List Int) × (List Int) × (List (Place × Int)) × (List Int)))) :=
 (get (List.set row_11 (Int.toNat x_47) (-1)) x_47).bind fun x36 =>
 b98 x_47 w_7_0_2 w_7_1_2 w_7_2_2 found_8_2 (List.set (List.set row_11 (Int.toNat x_47) (-1)) (Int.toNat x_47) to_14)
noncomputable def b97 (m : control_plant) (assume : List (List Literal)) (heard : Int -> Option Int) (at_9 : Int) (x9 : Place) (l13 : List Int) : ((List Place) × (List Int) × (List Int) × (List (Place × Int)) × (List Int) × Int) -> Option (Out ((List Place) × (List Int) × (List Int) × (List (Place × Int)) × (List Int) × Int) (((List Place) × (List Int) × (List Int) × (List (Place × Int)) × (List Int))))
 | (w_7_0_1, w_7_1_1, w_7_2_1, found_8_1, row_11, x_47) =>
  if decide (x_47 < ((List.length l13 : Nat) : Int)) then
   (get row_11 x_47).bind fun x24 =>
   (c0b m.Plant assume (Place.mk x9.State (x9.Values.1, x9.Values.2)) x_47).bind fun y26 =>
   if !y26 then
    b98 x_47 w_7_0_1 w_7_1_1 w_7_2_1 found_8_1 (List.set row_11 (Int.toNat x_47) (-1))
   else
    (heard x_47).bind fun y31 =>
    (c0c m.Plant (Place.mk x9.State (x9.Values.1, x9.Values.2)) y31).bind fun y32 =>
    if !(b5y found_8_1 (Place.mk y32.State (y32.Values.1, y32.Values.2))) then
     (ap 24 w_7_0_1 ([(Place.mk y32.State (y32.Values.1, y32.Values.2))])).bind fun l41 =>
     (ap 8 w_7_1_1 ([at_9])).bind fun l42 =>
     (ap 8 w_7_2_1 ([x_47])).bind fun l43 =>
     b99 row_11 x_47 l41 l42 l43 (b3j found_8_1 (Place.mk y32.State (y32.Values.1, y32.Values.2)) ((List.length w_7_0_1 : Nat) : Int)) ((List.length w_7_0_1 : Nat) : Int)
    else
     b99 row_11 x_47 w_7_0_1 w_7_1_1 w_7_2_1 found_8_1 (b2n found_8_1 (Place.mk y32.State (y32.Values.1, y32.Values.2)) 0)
  else
   some (.br (w_7_0_1, w_7_1_1, w_7_2_1, found_8_1, row_11))
noncomputable def b8h (m : control_plant) (assume : List (List Literal)) (heard : Int -> Option Int) : ((List Place) × (List Int) × (List Int) × (List (List Int)) × (List (Place × Int)) × Int) -> Option (Out ((List Place) × (List Int) × (List Int) × (List (List Int)) × (List (Place × Int)) × Int) (((List Place) × (List Int) × (List Int) × (List (List Int)))))
 | (w_7_0, w_7_1, w_7_2, w_7_3, found_8, at_9) =>
  if decide (at_9 < ((List.length w_7_0 : Nat) : Int)) then
   (get w_7_0 at_9).bind fun x9 =>
   (c0a m.Plant).bind fun y12 =>
   (mks 8 y12 0).bind fun l13 =>
   (b0z (b97 m assume heard at_9 x9 l13) (w_7_0, w_7_1, w_7_2, found_8, l13, 0)).bind fun
    | (w_7_0_1, w_7_1_1, w_7_2_1, found_8_1, row_11) => c3o w_7_3 at_9 w_7_0_1 w_7_1_1 w_7_2_1 found_8_1 row_11
  else
   some (.br (w_7_0, w_7_1, w_7_2, w_7_3))
noncomputable def b96 (m : control_plant) (assume : List (List Literal)) (heard : Int -> Option Int) : Option control_walk :=
 (b0z (b8h m assume heard) ([(Place.mk 0 (0, 0))], [(-1)], [0], [], (b3j ([] : List (Place × Int)) (Place.mk 0 (0, 0)) 0), 0)).bind fun
  | (w_7_0, w_7_1, w_7_2, w_7_3) => c3p w_7_0 w_7_1 w_7_2 w_7_3
def c65 (O : Orac) : Prop := ∀ (m : control_plant) (assume : List (List Literal)) (heard_n : String) (heard_a heard_b : List AV) (heard : Int -> Option Int) (heard_z : Frz (.fn heard_n heard_a heard_b)) (heard_h : ∀ z0 y, heard z0 = some y -> Fn O heard_n (heard_a ++ [I z0] ++ heard_b) (I y)) (r : control_walk) (hm0 : b96 m assume heard = some r), Fn O "(newel/control.plant).explore" [.agg [.fs 1 (List.map eS m.Plant.Machine.Inputs), .fs 1 (List.map eS m.Plant.Machine.Outputs), .fs 2 (List.map b0l m.Plant.Machine.Counters), .fs 2 (List.map b0m m.Plant.Machine.States), .fs 4 (List.map b0i m.Plant.Machine.Rules)], .fs 1 (List.map b0x assume), .fn heard_n heard_a heard_b] (.fp [.fs 3 (List.map b2a r.places), .fs 1 (List.map eI r.from_), .fs 1 (List.map eI r.by_), .fs 1 (List.map b4c r.next)] 0)
noncomputable def b8q (input : Int) : Int :=
 input
def c7h (O : Orac) : Prop := ∀ (input : Int), Fn O "newel/control.same" [I input] (I (b8q input))
def c41 : Option Bool := some true
def d2m (O : Orac) : Prop := ∀ (r : Bool) (hm0 : c41 = some r), Fn O "newel/newellaw04.works" [] (B r)
noncomputable def c5p (o_3 : List (List Literal)) : Option (List (List Literal)) :=
 some o_3
noncomputable def c1z (c : List (List Literal)) : ((List (List Literal)) × Int) -> Option (Out ((List (List Literal)) × Int) (((List (List Literal)))))
 | (o_3, i_4) =>
  if decide (i_4 < (List.length c : Int)) then
   (get c i_4).bind fun x10 =>
   (ap 32 ([]) x10).bind fun l11 =>
   (ap 24 o_3 ([l11])).bind fun l12 =>
   some (.nx (l12, wr (i_4 + 1)))
  else
   some (.br o_3)
noncomputable def b9h (c : List (List Literal)) : Option (List (List Literal)) :=
 (b0z (c1z c) ([], 0)).bind fun o_3 =>
 c5p o_3
def c29 (O : Orac) : Prop := ∀ (c : List (List Literal)) (r : List (List Literal)) (hm0 : b9h c = some r), Fn O "newel/newelref04.CopyCond" [.fs 1 (List.map b0x c)] (.fs 1 (List.map b0x r))
noncomputable def c5q (l5 : List ByteArray) (l6 : List ByteArray) (l7 : List Counter) (l8 : List State) (o_3_4 : List Rule) : Option Machine :=
 some (Machine.mk l5 l6 l7 l8 o_3_4)
noncomputable def c10 (m : Machine) : ((List Rule) × Int) -> Option (Out ((List Rule) × Int) (((List Rule))))
 | (o_3_4, i_4) =>
  if decide (i_4 < (List.length m.Rules : Int)) then
   (get m.Rules i_4).bind fun x16 =>
   (b9h x16.When).bind fun y18 =>
   (ap 16 ([]) x16.Sets).bind fun l20 =>
   (ap 64 o_3_4 ([(Rule.mk x16.From x16.To y18 l20)])).bind fun l22 =>
   some (.nx (l22, wr (i_4 + 1)))
  else
   some (.br o_3_4)
noncomputable def c1y (m : Machine) : Option Machine :=
 (ap 16 ([]) m.Inputs).bind fun l5 =>
 (ap 16 ([]) m.Outputs).bind fun l6 =>
 (ap 24 ([]) m.Counters).bind fun l7 =>
 (ap 24 ([]) m.States).bind fun l8 =>
 (b0z (c10 m) ([], 0)).bind fun o_3_4 =>
 c5q l5 l6 l7 l8 o_3_4
def c7m (O : Orac) : Prop := ∀ (m : Machine) (r : Machine) (hm0 : c1y m = some r), Fn O "newel/newelref04.Copy" [.agg [.fs 1 (List.map eS m.Inputs), .fs 1 (List.map eS m.Outputs), .fs 2 (List.map b0l m.Counters), .fs 2 (List.map b0m m.States), .fs 4 (List.map b0i m.Rules)]] (.agg [.fs 1 (List.map eS r.Inputs), .fs 1 (List.map eS r.Outputs), .fs 2 (List.map b0l r.Counters), .fs 2 (List.map b0m r.States), .fs 4 (List.map b0i r.Rules)])
noncomputable def c0m (m : Machine) (assume : List (List Literal)) : Option ((List Place) × Int) :=
 (c0n m ([assume])).bind fun y2 =>
 if decide (¬y2 = 0) then
  some ([], y2)
 else
  (b96 (b5g m) assume (fun z7 => some (b8q z7))).bind fun y8 =>
  some (y8.places, 0)
def c7e (O : Orac) : Prop := ∀ (m : Machine) (assume : List (List Literal)) (r : (List Place) × Int) (hm0 : c0m m assume = some r), Fn O "newel/control.Reach" [.agg [.fs 1 (List.map eS m.Inputs), .fs 1 (List.map eS m.Outputs), .fs 2 (List.map b0l m.Counters), .fs 2 (List.map b0m m.States), .fs 4 (List.map b0i m.Rules)], .fs 1 (List.map b0x assume)] (.tup [.fs 3 (List.map b2a r.1), I r.2])
noncomputable def d1o : Option Int :=
 some 0
noncomputable def c1u (m : Machine) (l : List (List (List Literal))) : Int -> Option (Out Int (Unit ⊕ Int))
 | i_6 =>
  if decide (i_6 < (List.length l : Int)) then
   (get l i_6).bind fun x13 =>
   (b9k m x13 true).bind fun y14 =>
   if !y14 then
    some (.br (.inr 42))
   else
    some (.nx (wr (i_6 + 1)))
  else
   some (.br (.inl ()))
noncomputable def c1t (m : Machine) (l : List (List (List Literal))) : Option Int :=
 (b9g m).bind fun y2 =>
 if decide (¬y2 = 0) then
  some y2
 else
  (b0z (c1u m l) (0)).bind fun
   | (.inl ()) => d1o
   | (.inr r') => some r'
def c7l (O : Orac) : Prop := ∀ (m : Machine) (l : List (List (List Literal))) (r : Int) (hm0 : c1t m l = some r), Fn O "newel/newelref04.CheckConds" [.agg [.fs 1 (List.map eS m.Inputs), .fs 1 (List.map eS m.Outputs), .fs 2 (List.map b0l m.Counters), .fs 2 (List.map b0m m.States), .fs 4 (List.map b0i m.Rules)], .fs 1 (List.map b4t l)] (I r)
noncomputable def c2a (m : Machine) : Option Int :=
 (shl .i64 1 (IntKind.wrap .u64 (List.length m.Inputs : Int))).bind fun q2 =>
 some q2
def c7r (O : Orac) : Prop := ∀ (m : Machine) (r : Int) (hm0 : c2a m = some r), Fn O "newel/newelref04.all" [.agg [.fs 1 (List.map eS m.Inputs), .fs 1 (List.map eS m.Outputs), .fs 2 (List.map b0l m.Counters), .fs 2 (List.map b0m m.States), .fs 4 (List.map b0i m.Rules)]] (I r)
noncomputable def b62 (l : Literal) (is_9 : Bool) : Option Bool :=
 some (!(b6d is_9 l.Not))
noncomputable def b9p (m : Machine) (p : Place) (input : Int) (l : Literal) : Option Bool :=
 if decide (l.Kind = 1) then
  (shr .i64 input (IntKind.wrap .u64 l.Number)).bind fun q5 =>
  b62 l (decide ((b6c q5 1) = 1))
 else
  if decide (l.Kind = 2) then
   (get [p.Values.1, p.Values.2] l.Number).bind fun x8 =>
   b62 l (decide (l.Value <= x8))
  else
   if decide (l.Kind = 3) then
    b62 l (decide (p.State = l.Number))
   else
    if decide (l.Kind = 4) then
     (get m.States p.State).bind fun x13 =>
     (shr .i64 x13.Shows (IntKind.wrap .u64 l.Number)).bind fun q14 =>
     b62 l (decide ((b6c q14 1) = 1))
    else
     b62 l false
def c7u (O : Orac) : Prop := ∀ (m : Machine) (p : Place) (input : Int) (l : Literal) (r : Bool) (hm0 : b9p m p input l = some r), Fn O "newel/newelref04.literal" [.agg [.fs 1 (List.map eS m.Inputs), .fs 1 (List.map eS m.Outputs), .fs 2 (List.map b0l m.Counters), .fs 2 (List.map b0m m.States), .fs 4 (List.map b0i m.Rules)], .agg [I p.State, I p.Values.1, I p.Values.2], I input, .agg [I l.Kind, I l.Number, I l.Value, B l.Not]] (B r)
noncomputable def d1q : Option Bool :=
 some false
noncomputable def c5r (i_9 : Int) : Option (Out Int (Unit ⊕ Bool)) :=
 some (.nx (wr (i_9 + 1)))
noncomputable def c5s (i_9 : Int) (all_10 : Bool) : Option (Out Int (Unit ⊕ Bool)) :=
 if all_10 then
  some (.br (.inr true))
 else
  c5r i_9
noncomputable def c12 (m : Machine) (p : Place) (input : Int) (c : List (List Literal)) (i_9 : Int) : (Bool × Int) -> Option (Out (Bool × Int) Bool)
 | (all_10, k_11) =>
  (get c i_9).bind fun x13 =>
  if decide (k_11 < (List.length x13 : Int)) then
   (if all_10 then (get x13 k_11).bind fun x20 =>
   (b9p m p input x20).bind fun y21 =>
   some y21 else some false).bind fun c22 =>
   some (.nx (c22, wr (k_11 + 1)))
  else
   some (.br all_10)
noncomputable def c11 (m : Machine) (p : Place) (input : Int) (c : List (List Literal)) : Int -> Option (Out Int (Unit ⊕ Bool))
 | i_9 =>
  if decide (i_9 < (List.length c : Int)) then
   (b0z (c12 m p input c i_9) (true, 0)).bind fun all_10 =>
   c5s i_9 all_10
  else
   some (.br (.inl ()))
noncomputable def b9i (m : Machine) (p : Place) (input : Int) (c : List (List Literal)) : Option Bool :=
 (b0z (c11 m p input c) (0)).bind fun
  | (.inl ()) => d1q
  | (.inr r') => some r'
def c3a (O : Orac) : Prop := ∀ (m : Machine) (p : Place) (input : Int) (c : List (List Literal)) (r : Bool) (hm0 : b9i m p input c = some r), Fn O "newel/newelref04.Holds" [.agg [.fs 1 (List.map eS m.Inputs), .fs 1 (List.map eS m.Outputs), .fs 2 (List.map b0l m.Counters), .fs 2 (List.map b0m m.States), .fs 4 (List.map b0i m.Rules)], .agg [I p.State, I p.Values.1, I p.Values.2], I input, .fs 1 (List.map b0x c)] (B r)
noncomputable def c1s (m : Machine) (p : Place) (input : Int) (assume : List (List Literal)) : Option Bool :=
 (if decide ((List.length assume : Int) = 0) then some true else (b9i m p input assume).bind fun y3 =>
 some y3).bind fun c4 =>
 some c4
def c7k (O : Orac) : Prop := ∀ (m : Machine) (p : Place) (input : Int) (assume : List (List Literal)) (r : Bool) (hm0 : c1s m p input assume = some r), Fn O "newel/newelref04.Allows" [.agg [.fs 1 (List.map eS m.Inputs), .fs 1 (List.map eS m.Outputs), .fs 2 (List.map b0l m.Counters), .fs 2 (List.map b0m m.States), .fs 4 (List.map b0i m.Rules)], .agg [I p.State, I p.Values.1, I p.Values.2], I input, .fs 1 (List.map b0x assume)] (B r)
noncomputable def b71 (x : Int) (input : Int) (value : Int) : Option Int :=
 if decide (input < 0) then
  some x
 else
  (shl .i64 1 (IntKind.wrap .u64 input)).bind fun q4 =>
  if decide (value = 1) then
   some (bor x q4)
  else
   some (g1x x q4)
def c7n (O : Orac) : Prop := ∀ (x : Int) (input : Int) (value : Int) (r : Int) (hm0 : b71 x input value = some r), Fn O "newel/newelref04.Heard" [I x, I input, I value] (I r)
noncomputable def c5v (p : Place) : Option Place :=
 some (Place.mk p.State (p.Values.1, p.Values.2))
noncomputable def c5w (i_7 : Int) : Option (Out Int (Unit ⊕ Place)) :=
 some (.nx (wr (i_7 + 1)))
noncomputable def c5u (x9 : Rule) (q_9_1 : Int) (q_9_2 : Int) : Option (Out Int (Unit ⊕ Place)) :=
 some (.br (.inr (Place.mk x9.To (q_9_1, q_9_2))))
noncomputable def b72 (k_10 : Int) (q_9_1_1 : Int) (q_9_2_1 : Int) : Option (Out (Int × Int × Int) ((Int × Int))) :=
 some (.nx (q_9_1_1, q_9_2_1, wr (k_10 + 1)))
noncomputable def c15 (m : Machine) (x9 : Rule) : (Int × Int × Int) -> Option (Out (Int × Int × Int) ((Int × Int)))
 | (q_9_1, q_9_2, k_10) =>
  if decide (k_10 < (List.length x9.Sets : Int)) then
   (get x9.Sets k_10).bind fun x26 =>
   if decide (x26.Kind = 1) then
    (get [q_9_1, q_9_2] x26.Counter).bind fun x29 =>
    b72 k_10 (b1i x26.Counter 0 0 q_9_1) (b1i x26.Counter 1 0 q_9_2)
   else
    if decide (x26.Kind = 2) then
     (get [q_9_1, q_9_2] x26.Counter).bind fun x33 =>
     (get m.Counters x26.Counter).bind fun x34 =>
     b72 k_10 (b1i x26.Counter 0 (mn (wr (x33 + 1)) x34.Max) q_9_1) (b1i x26.Counter 1 (mn (wr (x33 + 1)) x34.Max) q_9_2)
    else
     if decide (x26.Kind = 3) then
      (get [q_9_1, q_9_2] x26.Counter).bind fun x37 =>
      b72 k_10 (b1i x26.Counter 0 (mx (wr (x37 - 1)) 0) q_9_1) (b1i x26.Counter 1 (mx (wr (x37 - 1)) 0) q_9_2)
     else
      b72 k_10 q_9_1 q_9_2
  else
   some (.br (q_9_1, q_9_2))
noncomputable def c5t (m : Machine) (p : Place) (input : Int) : Int -> Option (Out Int (Unit ⊕ Place))
 | i_7 =>
  if decide (i_7 < (List.length m.Rules : Int)) then
   (get m.Rules i_7).bind fun x9 =>
   (if (decide (0 <= x9.From)) && (decide (¬x9.From = p.State)) then some true else (b9i m p input x9.When).bind fun y12 =>
   some (!y12)).bind fun c13 =>
   if c13 then
    c5w i_7
   else
    (b0z (c15 m x9) (p.Values.1, p.Values.2, 0)).bind fun
     | (q_9_1, q_9_2) => c5u x9 q_9_1 q_9_2
  else
   some (.br (.inl ()))
noncomputable def c14 (m : Machine) (p : Place) (input : Int) : Option Place :=
 (b0z (c5t m p input) (0)).bind fun
  | (.inl ()) => c5v p
  | (.inr r') => some r'
def c7o (O : Orac) : Prop := ∀ (m : Machine) (p : Place) (input : Int) (r : Place) (hm0 : c14 m p input = some r), Fn O "newel/newelref04.Next" [.agg [.fs 1 (List.map eS m.Inputs), .fs 1 (List.map eS m.Outputs), .fs 2 (List.map b0l m.Counters), .fs 2 (List.map b0m m.States), .fs 4 (List.map b0i m.Rules)], .agg [I p.State, I p.Values.1, I p.Values.2], I input] (.agg [I r.State, I r.Values.1, I r.Values.2])
@[go_sem ↓ high, go_sem high] theorem m9e {k : AV -> Prop} (a b : Place) : @b2b .eql (.flat [.i, .i, .i]) (.agg [I a.State, I a.Values.1, I a.Values.2]) (.agg [I b.State, I b.Values.1, I b.Values.2]) ⟨k⟩ = k (B (decide (a = b))) := d43 rfl rfl (b3h (b3h (b3h c4b))) (by
 obtain ⟨a1, ⟨a2, a3⟩⟩ := a; obtain ⟨b4, ⟨b5, b6⟩⟩ := b
 rw [Bool.eq_iff_iff]; simp only [Bool.and_eq_true, decide_eq_true_eq, and_true]
 constructor
 ·rintro ⟨rfl, rfl, rfl⟩; rfl
 ·intro h; cases h; exact ⟨rfl, rfl, rfl⟩)
@[go_sem ↓ high, go_sem high] theorem m9h {k : AV -> Prop} (a b : Place) : @b2b .neq (.flat [.i, .i, .i]) (.agg [I a.State, I a.Values.1, I a.Values.2]) (.agg [I b.State, I b.Values.1, I b.Values.2]) ⟨k⟩ = k (B (!(decide (a = b)))) := d5c rfl rfl (b3h (b3h (b3h c4b))) (by
 obtain ⟨a1, ⟨a2, a3⟩⟩ := a; obtain ⟨b4, ⟨b5, b6⟩⟩ := b
 rw [Bool.eq_iff_iff]; simp only [Bool.and_eq_true, decide_eq_true_eq, and_true]
 constructor
 ·rintro ⟨rfl, rfl, rfl⟩; rfl
 ·intro h; cases h; exact ⟨rfl, rfl, rfl⟩)
noncomputable def d1t : Option Int :=
 some (-1)
noncomputable def b9o (l : List Place) (p : Place) : Int -> Option (Out Int (Unit ⊕ Int))
 | i_5 =>
  if decide (i_5 < (List.length l : Int)) then
   (get l i_5).bind fun x8 =>
   if decide (x8 = p) then
    some (.br (.inr i_5))
   else
    some (.nx (wr (i_5 + 1)))
  else
   some (.br (.inl ()))
noncomputable def c2d (l : List Place) (p : Place) : Option Int :=
 (b0z (b9o l p) (0)).bind fun
  | (.inl ()) => d1t
  | (.inr r') => some r'
def c7t (O : Orac) : Prop := ∀ (l : List Place) (p : Place) (r : Int) (hm0 : c2d l p = some r), Fn O "newel/newelref04.index" [.fs 3 (List.map b2a l), .agg [I p.State, I p.Values.1, I p.Values.2]] (I r)
structure r04_graph where
 places : List Place
 back : List Int
 input : List Int
 deriving Inhabited, DecidableEq
noncomputable def c5z (g_9_0 : List Place) (g_9_1 : List Int) (g_9_2 : List Int) : Option r04_graph :=
 some (r04_graph.mk g_9_0 g_9_1 g_9_2)
noncomputable def c50 (i_10 : Int) (g_9_0_1 : List Place) (g_9_1_1 : List Int) (g_9_2_1 : List Int) : Option (Out ((List Place) × (List Int) × (List Int) × Int) (((List Place) × (List Int) × (List Int)))) :=
 some (.nx (g_9_0_1, g_9_1_1, g_9_2_1, wr (i_10 + 1)))
noncomputable def b9n (x_11 : Int) (g_9_0_2 : List Place) (g_9_1_2 : List Int) (g_9_2_2 : List Int) : Option (Out ((List Place) × (List Int) × (List Int) × Int) (((List Place) × (List Int) × (List Int)))) :=
 some (.nx (g_9_0_2, g_9_1_2, g_9_2_2, wr (x_11 + 1)))
noncomputable def c2c (m : Machine) (assume : List (List Literal)) (input : Int) (value : Int) (i_10 : Int) : ((List Place) × (List Int) × (List Int) × Int) -> Option (Out ((List Place) × (List Int) × (List Int) × Int) (((List Place) × (List Int) × (List Int))))
 | (g_9_0_1, g_9_1_1, g_9_2_1, x_11) =>
  (c2a m).bind fun y10 =>
  if decide (x_11 < y10) then
   (get g_9_0_1 i_10).bind fun x17 =>
   (c1s m x17 x_11 assume).bind fun y18 =>
   if !y18 then
    b9n x_11 g_9_0_1 g_9_1_1 g_9_2_1
   else
    (b71 x_11 input value).bind fun y23 =>
    (c14 m x17 y23).bind fun y24 =>
    (c2d g_9_0_1 (Place.mk y24.State (y24.Values.1, y24.Values.2))).bind fun y26 =>
    if decide (y26 < 0) then
     (ap 24 g_9_0_1 ([(Place.mk y24.State (y24.Values.1, y24.Values.2))])).bind fun l29 =>
     (ap 8 g_9_1_1 ([i_10])).bind fun l31 =>
     (ap 8 g_9_2_1 ([x_11])).bind fun l33 =>
     b9n x_11 l29 l31 l33
    else
     b9n x_11 g_9_0_1 g_9_1_1 g_9_2_1
  else
   some (.br (g_9_0_1, g_9_1_1, g_9_2_1))
noncomputable def b9m (m : Machine) (assume : List (List Literal)) (input : Int) (value : Int) : ((List Place) × (List Int) × (List Int) × Int) -> Option (Out ((List Place) × (List Int) × (List Int) × Int) (((List Place) × (List Int) × (List Int))))
 | (g_9_0, g_9_1, g_9_2, i_10) =>
  if decide (i_10 < ((List.length g_9_0 : Nat) : Int)) then
   (b0z (c2c m assume input value i_10) (g_9_0, g_9_1, g_9_2, 0)).bind fun
    | (g_9_0_1, g_9_1_1, g_9_2_1) => c50 i_10 g_9_0_1 g_9_1_1 g_9_2_1
  else
   some (.br (g_9_0, g_9_1, g_9_2))
noncomputable def c2b (m : Machine) (assume : List (List Literal)) (input : Int) (value : Int) : Option r04_graph :=
 (b0z (b9m m assume input value) ([(Place.mk 0 (0, 0))], [(-1)], [0], 0)).bind fun
  | (g_9_0, g_9_1, g_9_2) => c5z g_9_0 g_9_1 g_9_2
def c7s (O : Orac) : Prop := ∀ (m : Machine) (assume : List (List Literal)) (input : Int) (value : Int) (r : r04_graph) (hm0 : c2b m assume input value = some r), Fn O "newel/newelref04.explore" [.agg [.fs 1 (List.map eS m.Inputs), .fs 1 (List.map eS m.Outputs), .fs 2 (List.map b0l m.Counters), .fs 2 (List.map b0m m.States), .fs 4 (List.map b0i m.Rules)], .fs 1 (List.map b0x assume), I input, I value] (.agg [.fs 3 (List.map b2a r.places), .fs 1 (List.map eI r.back), .fs 1 (List.map eI r.input)])
noncomputable def c17 (m : Machine) (assume : List (List Literal)) : Option ((List Place) × Int) :=
 (c1t m ([assume])).bind fun y2 =>
 if decide (¬y2 = 0) then
  some ([], y2)
 else
  (c2b m assume (-1) 0).bind fun y6 =>
  some (y6.places, 0)
def c7p (O : Orac) : Prop := ∀ (m : Machine) (assume : List (List Literal)) (r : (List Place) × Int) (hm0 : c17 m assume = some r), Fn O "newel/newelref04.Reach" [.agg [.fs 1 (List.map eS m.Inputs), .fs 1 (List.map eS m.Outputs), .fs 2 (List.map b0l m.Counters), .fs 2 (List.map b0m m.States), .fs 4 (List.map b0i m.Rules)], .fs 1 (List.map b0x assume)] (.tup [.fs 3 (List.map b2a r.1), I r.2])
noncomputable def c40 : Option Bool :=
 some true
noncomputable def c1i (a : List Place) (b : List Place) : Int -> Option (Out Int (Unit ⊕ Bool))
 | i_5 =>
  if decide (i_5 < (List.length a : Int)) then
   (get a i_5).bind fun x11 =>
   (get b i_5).bind fun x12 =>
   if !(decide (x11 = x12)) then
    some (.br (.inr false))
   else
    some (.nx (wr (i_5 + 1)))
  else
   some (.br (.inl ()))
noncomputable def c1h (a : List Place) (b : List Place) : Option Bool :=
 if decide (¬(List.length a : Int) = (List.length b : Int)) then
  some false
 else
  (b0z (c1i a b) (0)).bind fun
   | (.inl ()) => c40
   | (.inr r') => some r'
def c7j (O : Orac) : Prop := ∀ (a : List Place) (b : List Place) (r : Bool) (hm0 : c1h a b = some r), Fn O "newel/newellaw04.samePlaces" [.fs 3 (List.map b2a a), .fs 3 (List.map b2a b)] (B r)
structure l04_Conds where
 Assume : List (List Literal)
 Never : List (List Literal)
 deriving Inhabited, DecidableEq
noncomputable def c1f (m : Machine) (c : l04_Conds) : Option Bool :=
 (b7u m).bind fun y2 =>
 if y2 then
  (c41).bind fun y6 =>
  some y6
 else
  (c1y m).bind fun y10 =>
  (b9h c.Assume).bind fun y11 =>
  (c0m y10 y11).bind fun y12 =>
  (c17 m c.Assume).bind fun y14 =>
  (c1h y12.1 y14.1).bind fun y18 =>
  (if y18 && (decide (y12.2 = y14.2)) then (c41).bind fun y19 =>
  some y19 else some false).bind fun c20 =>
  some c20
def d2l (O : Orac) : Prop := ∀ (m : Machine) (c : l04_Conds) (r : Bool) (hm0 : c1f m c = some r), Fn O "newel/newellaw04.ControlReaches" [.agg [.fs 1 (List.map eS m.Inputs), .fs 1 (List.map eS m.Outputs), .fs 2 (List.map b0l m.Counters), .fs 2 (List.map b0m m.States), .fs 4 (List.map b0i m.Rules)], .agg [.fs 1 (List.map b0x c.Assume), .fs 1 (List.map b0x c.Never)]] (B r)
structure l04_Pinned where
 Run : List Int
 Input : Int
 Value : Int
 deriving Inhabited, DecidableEq
structure control_pair where
 a : Place
 b : Place
 deriving Inhabited, DecidableEq
@[go_sem] def d35 (x : control_pair) : List AV := [I x.a.State, I x.a.Values.1, I x.a.Values.2, I x.b.State, I x.b.Values.1, I x.b.Values.2]
@[go_sem] theorem o0m {l : List control_pair} {n : Nat} {a0 : Int} {a1 : Int} {a2 : Int} {a3 : Int} {a4 : Int} {a5 : Int} : (List.map d35 l).set n [I a0, I a1, I a2, I a3, I a4, I a5] = List.map d35 (l.set n (control_pair.mk (Place.mk a0 (a1, a2)) (Place.mk a3 (a4, a5)))) := by rw [List.map_set]; rfl
structure r04_pair where
 a : Place
 b : Place
 deriving Inhabited, DecidableEq
@[go_sem] def d4a (x : r04_pair) : List AV := [I x.a.State, I x.a.Values.1, I x.a.Values.2, I x.b.State, I x.b.Values.1, I x.b.Values.2]
@[go_sem] theorem o0n {l : List r04_pair} {n : Nat} {a0 : Int} {a1 : Int} {a2 : Int} {a3 : Int} {a4 : Int} {a5 : Int} : (List.map d4a l).set n [I a0, I a1, I a2, I a3, I a4, I a5] = List.map d4a (l.set n (r04_pair.mk (Place.mk a0 (a1, a2)) (Place.mk a3 (a4, a5)))) := by rw [List.map_set]; rfl
@[go_sem ↓ high, go_sem high] theorem m9f {k : AV -> Prop} (a b : r04_pair) : @b2b .eql (.flat [.i, .i, .i, .i, .i, .i]) (.agg [I a.a.State, I a.a.Values.1, I a.a.Values.2, I a.b.State, I a.b.Values.1, I a.b.Values.2]) (.agg [I b.a.State, I b.a.Values.1, I b.a.Values.2, I b.b.State, I b.b.Values.1, I b.b.Values.2]) ⟨k⟩ = k (B (decide (a = b))) := d43 rfl rfl (b3h (b3h (b3h (b3h (b3h (b3h c4b)))))) (by
 obtain ⟨⟨a1, ⟨a2, a3⟩⟩, ⟨a4, ⟨a5, a6⟩⟩⟩ := a; obtain ⟨⟨b7, ⟨b8, b9⟩⟩, ⟨b10, ⟨b11, b12⟩⟩⟩ := b
 rw [Bool.eq_iff_iff]; simp only [Bool.and_eq_true, decide_eq_true_eq, and_true]
 constructor
 ·rintro ⟨rfl, rfl, rfl, rfl, rfl, rfl⟩; rfl
 ·intro h; cases h; exact ⟨rfl, rfl, rfl, rfl, rfl, rfl⟩)
@[go_sem ↓ high, go_sem high] theorem m9i {k : AV -> Prop} (a b : r04_pair) : @b2b .neq (.flat [.i, .i, .i, .i, .i, .i]) (.agg [I a.a.State, I a.a.Values.1, I a.a.Values.2, I a.b.State, I a.b.Values.1, I a.b.Values.2]) (.agg [I b.a.State, I b.a.Values.1, I b.a.Values.2, I b.b.State, I b.b.Values.1, I b.b.Values.2]) ⟨k⟩ = k (B (!(decide (a = b)))) := d5c rfl rfl (b3h (b3h (b3h (b3h (b3h (b3h c4b)))))) (by
 obtain ⟨⟨a1, ⟨a2, a3⟩⟩, ⟨a4, ⟨a5, a6⟩⟩⟩ := a; obtain ⟨⟨b7, ⟨b8, b9⟩⟩, ⟨b10, ⟨b11, b12⟩⟩⟩ := b
 rw [Bool.eq_iff_iff]; simp only [Bool.and_eq_true, decide_eq_true_eq, and_true]
 constructor
 ·rintro ⟨rfl, rfl, rfl, rfl, rfl, rfl⟩; rfl
 ·intro h; cases h; exact ⟨rfl, rfl, rfl, rfl, rfl, rfl⟩)
structure l04_Claim where
 Run : List Int
 Places : List Place
 deriving Inhabited, DecidableEq
end Go.Nw.KM
