/- Models of functions: printed by gen.py. -/
import Derived.Test.YtfahaljhgfjooaaDoorNwMaps
import Derived.Test.YtfahaljhgfjooaaDoorNwCtlSrc
set_option linter.all false
namespace Go.Nw.KM
noncomputable section
open Go.Nw.Ctl
set_option maxHeartbeats 4000000
theorem lA9 {α : Type} {l m : List α} : (l ++ m).length = l.length + m.length := List.length_append
theorem mA9 {α β : Type} {f : α → β} {l m : List α} : List.map f (l ++ m) = List.map f l ++ List.map f m := List.map_append
theorem oF9 {a b : Bool} : (a || b) = false ↔ a = false ∧ b = false := Bool.or_eq_false_iff
theorem nF9 : (¬False) = True := not_false_eq_true
theorem bF9 {α : Type} [BEq α] [LawfulBEq α] {a b : α} : (a == b) = false ↔ a ≠ b := beq_eq_false_iff_ne
theorem sI9 {α : Type} {a b : α} (h : some a = some b) : a = b := Option.some.inj h
theorem va9 {p : Prop} (h : p := by first | (simp only [go_sem]; done) | rfl) : p := h
theorem vb9 {p : Prop} (h : p := by simp only [go_sem]) : p := h
theorem vc9 {p : Prop} (h : p := by first | first | assumption | omega | (simp only [nxs] <;> omega)) : p := h
theorem vd9 {p : Prop} (h : p := by first | exact b1w | exact b1y (by first | assumption | omega | (simp only [nxs] <;> omega)) | assumption | exact b1v (by assumption) (by first | assumption | omega | (simp only [nxs] <;> omega))) : p := h
theorem ve9 {p : Prop} (h : p := by first | exact b1w | exact b1y (by first | omega | (simp only [nxs] <;> omega)) | assumption | exact b1v (by assumption) (by first | omega | (simp only [go_sem, nxs] <;> omega))) : p := h
theorem vf9 {p : Prop} (h : p := by omega) : p := h
theorem vg9 {p : Prop} (h : p := by first | rfl | simp only [go_sem, List.length_append, List.map_append]) : p := h
theorem vh9 {p : Prop} (h : p := by simp) : p := h
theorem vi9 {p : Prop} (h : p := by simp; omega) : p := h
variable {O : Orac} [MapsOk O]
def wl_0 : List ByteArray := b50.map fun s => ⟨s.toArray⟩
@[go_sem] theorem o5c : List.map GC.av b6h = [.fs 1 (List.map eS wl_0)] := by
 simp only [b6h, List.map_cons, List.map_nil, GC.av, wl_0, List.map_map]; rfl
def b2b (n : Int) (low : Int) (high : Int) : Bool :=
 (decide (low <= n)) && (decide (n <= high))
def c5r (O : Orac) : Prop := ∀ (n : Int) (low : Int) (high : Int), Fn O "newel/newelref04.from" [I n, I low, I high] (B (b2b n low high))
structure Counter where
 Name : ByteArray
 Max : Int
 deriving Inhabited, DecidableEq
structure State where
 Name : ByteArray
 Shows : Int
 deriving Inhabited, DecidableEq
structure Literal where
 Kind : Int
 Number : Int
 Value : Int
 Not : Bool
 deriving Inhabited, DecidableEq
structure Set where
 Kind : Int
 Counter : Int
 deriving Inhabited, DecidableEq
structure Rule where
 From : Int
 To : Int
 When : List (List Literal)
 Sets : List Set
 deriving Inhabited, DecidableEq
structure Machine where
 Inputs : List ByteArray
 Outputs : List ByteArray
 Counters : List Counter
 States : List State
 Rules : List Rule
 deriving Inhabited, DecidableEq
@[go_sem] def b0o (x : Counter) : List AV := [.v (.string x.Name), I x.Max]
theorem b1q (x : Counter) : ∀ c ∈ b0o x, Frz c := (b0a (b0e _) (b0a (b0e _) b0j))
@[go_sem] theorem o5h {l : List Counter} {n : Nat} {a0 : ByteArray} {a1 : Int} : (List.map b0o l).set n [.v (.string a0), I a1] = List.map b0o (l.set n (Counter.mk a0 a1)) := by rw [List.map_set]; rfl
@[go_sem] def b0p (x : State) : List AV := [.v (.string x.Name), I x.Shows]
theorem b1s (x : State) : ∀ c ∈ b0p x, Frz c := (b0a (b0e _) (b0a (b0e _) b0j))
@[go_sem] theorem o5q {l : List State} {n : Nat} {a0 : ByteArray} {a1 : Int} : (List.map b0p l).set n [.v (.string a0), I a1] = List.map b0p (l.set n (State.mk a0 a1)) := by rw [List.map_set]; rfl
@[go_sem] def b3k (x : Literal) : List AV := [I x.Kind, I x.Number, I x.Value, B x.Not]
theorem c2w (x : Literal) : ∀ c ∈ b3k x, Frz c := (b0a (b0e _) (b0a (b0e _) (b0a (b0e _) (b0a (b0e _) b0j))))
@[go_sem] theorem o5m {l : List Literal} {n : Nat} {a0 : Int} {a1 : Int} {a2 : Int} {a3 : Bool} : (List.map b3k l).set n [I a0, I a1, I a2, B a3] = List.map b3k (l.set n (Literal.mk a0 a1 a2 a3)) := by rw [List.map_set]; rfl
@[go_sem] def b0t (x : List Literal) : List AV := [.fs 4 (List.map b3k x)]
theorem b2j (x : List Literal) : ∀ c ∈ b0t x, Frz c := (b0a (b0c fun a _ => c2w a) b0j)
@[go_sem] theorem o5k {l : List (List Literal)} {n : Nat} {a0 : List Literal} : (List.map b0t l).set n [.fs 4 (List.map b3k a0)] = List.map b0t (l.set n a0) := by rw [List.map_set]; rfl
@[go_sem] def b2o (x : Set) : List AV := [I x.Kind, I x.Counter]
theorem d14 (x : Set) : ∀ c ∈ b2o x, Frz c := (b0a (b0e _) (b0a (b0e _) b0j))
@[go_sem] theorem o5p {l : List Set} {n : Nat} {a0 : Int} {a1 : Int} : (List.map b2o l).set n [I a0, I a1] = List.map b2o (l.set n (Set.mk a0 a1)) := by rw [List.map_set]; rfl
@[go_sem] def b0m (x : Rule) : List AV := [I x.From, I x.To, .fs 1 (List.map b0t x.When), .fs 2 (List.map b2o x.Sets)]
theorem b1r (x : Rule) : ∀ c ∈ b0m x, Frz c := (b0a (b0e _) (b0a (b0e _) (b0a (b0c fun a _ => b2j a) (b0a (b0c fun a _ => d14 a) b0j))))
@[go_sem] theorem o5o {l : List Rule} {n : Nat} {a0 : Int} {a1 : Int} {a2 : List (List Literal)} {a3 : List Set} : (List.map b0m l).set n [I a0, I a1, .fs 1 (List.map b0t a2), .fs 2 (List.map b2o a3)] = List.map b0m (l.set n (Rule.mk a0 a1 a2 a3)) := by rw [List.map_set]; rfl
def c8v (l_3_1 : List ByteArray) : Option (List ByteArray) :=
 some l_3_1
def c8s (m : Machine) : ((List ByteArray) × Int) -> Option (Out ((List ByteArray) × Int) (((List ByteArray))))
 | (l_3_1, i_5) =>
  if decide (i_5 < (List.length m.States : Int)) then
   (get m.States i_5).bind fun x15 =>
   (ap 16 l_3_1 ([x15.Name])).bind fun l16 =>
   some (.nx (l16, wr (i_5 + 1)))
  else
   some (.br l_3_1)
def c8u (m : Machine) (l_3 : List ByteArray) : Option (List ByteArray) :=
 (b0w (c8s m) (l_3, 0)).bind fun l_3_1 =>
 c8v l_3_1
def c8t (m : Machine) : ((List ByteArray) × Int) -> Option (Out ((List ByteArray) × Int) (((List ByteArray))))
 | (l_3, i_4) =>
  if decide (i_4 < (List.length m.Counters : Int)) then
   (get m.Counters i_4).bind fun x24 =>
   (ap 16 l_3 ([x24.Name])).bind fun l25 =>
   some (.nx (l25, wr (i_4 + 1)))
  else
   some (.br l_3)
def c4l (m : Machine) : Option (List ByteArray) :=
 (ap 16 ([]) m.Inputs).bind fun l3 =>
 (ap 16 l3 m.Outputs).bind fun l4 =>
 (b0w (c8t m) (l4, 0)).bind fun l_3 =>
 c8u m l_3
@[go_sem] def vM (m : Machine) : List AV := [.fs 1 (List.map eS m.Inputs), .fs 1 (List.map eS m.Outputs), .fs 2 (List.map b0o m.Counters), .fs 2 (List.map b0p m.States), .fs 4 (List.map b0m m.Rules)]
theorem fM (m : Machine) : Frz (.agg (vM m)) := (.agg _ (b0a (b0c fun a _ => b0z a) (b0a (b0c fun a _ => b0z a) (b0a (b0c fun a _ => b1q a) (b0a (b0c fun a _ => b1s a) (b0a (b0c fun a _ => b1r a) b0j))))))
def d0i (O : Orac) : Prop := ∀ (m : Machine) (r : List ByteArray) (hm0 : c4l m = some r), Fn O "newel/newelref04.names" [.agg (vM m)] (.fs 1 (List.map eS r))
def d4r (s : ByteArray) : Option Bool :=
 some (decide (0 < (ByteArray.size s : Int)))
def c4i (s : ByteArray) : Int -> Option (Out Int (Unit ⊕ Bool))
 | i_4 =>
  if decide (i_4 < (ByteArray.size s : Int)) then
   (get (b3q s) i_4).bind fun x10 =>
   if (decide (x10 < 97)) || (decide (122 < x10)) then
    some (.br (.inr false))
   else
    some (.nx (wr (i_4 + 1)))
  else
   some (.br (.inl ()))
def c8o (s : ByteArray) : Option Bool :=
 (b0w (c4i s) (0)).bind fun
  | (.inl ()) => d4r s
  | (.inr r') => some r'
def c4j (s : ByteArray) : Int -> Option (Out Int (Unit ⊕ Bool))
 | i_3 =>
  if decide (i_3 < (List.length wl_0 : Int)) then
   (get wl_0 i_3).bind fun x19 =>
   if decide (s = x19) then
    some (.br (.inr false))
   else
    some (.nx (wr (i_3 + 1)))
  else
   some (.br (.inl ()))
def c02 (s : ByteArray) : Option Bool :=
 (b0w (c4j s) (0)).bind fun
  | (.inl ()) => c8o s
  | (.inr r') => some r'
def d0g (O : Orac) : Prop := ∀ (s : ByteArray) (r : Bool) (hm0 : c02 s = some r), Fn O "newel/newelref04.Word" [.v (.string s)] (B r)
def d4s : Option Bool :=
 some true
def c8p (i_7 : Int) : Option (Out Int (Unit ⊕ Bool)) :=
 some (.nx (wr (i_7 + 1)))
def b7p (k_8 : Int) (is_10 : Bool) : Option (Out Int (Unit ⊕ Bool)) :=
 if !is_10 then
  some (.br (.inr false))
 else
  some (.nx (wr (k_8 + 1)))
def b8y (m : Machine) (c : List (List Literal)) (inside : Bool) (i_7 : Int) : Int -> Option (Out Int (Unit ⊕ Bool))
 | k_8 =>
  (get c i_7).bind fun x16 =>
  if decide (k_8 < (List.length x16 : Int)) then
   (get x16 k_8).bind fun x21 =>
   if decide (x21.Kind = 1) then
    b7p k_8 ((b2b x21.Number 0 (wr ((List.length m.Inputs : Int) - 1))) && (decide (x21.Value = 0)))
   else
    if decide (x21.Kind = 2) then
     (if (b2b x21.Number 0 (wr ((List.length m.Counters : Int) - 1))) then (get m.Counters x21.Number).bind fun x30 =>
     some (b2b x21.Value 0 x30.Max) else some false).bind fun c31 =>
     b7p k_8 c31
    else
     if decide (x21.Kind = 3) then
      b7p k_8 ((inside && (b2b x21.Number 0 (wr ((List.length m.States : Int) - 1)))) && (decide (x21.Value = 0)))
     else
      if decide (x21.Kind = 4) then
       b7p k_8 ((b2b x21.Number 0 (wr ((List.length m.Outputs : Int) - 1))) && (decide (x21.Value = 0)))
      else
       b7p k_8 false
  else
   some (.br (.inl ()))
def c05 (m : Machine) (c : List (List Literal)) (inside : Bool) : Int -> Option (Out Int (Unit ⊕ Bool))
 | i_7 =>
  if decide (i_7 < (List.length c : Int)) then
   (get c i_7).bind fun x11 =>
   if decide (6 < (List.length x11 : Int)) then
    some (.br (.inr false))
   else
    (b0w (b8y m c inside i_7) (0)).bind fun
     | (.inl ()) => c8p i_7
     | (.inr r') => some (.br (.inr r'))
  else
   some (.br (.inl ()))
def c04 (m : Machine) (c : List (List Literal)) (inside : Bool) : Option Bool :=
 if decide (6 < (List.length c : Int)) then
  some false
 else
  (b0w (c05 m c inside) (0)).bind fun
   | (.inl ()) => d4s
   | (.inr r') => some r'
def c5p (O : Orac) : Prop := ∀ (m : Machine) (c : List (List Literal)) (inside : Bool) (r : Bool) (hm0 : c04 m c inside = some r), Fn O "newel/newelref04.condition" [.agg (vM m), .fs 1 (List.map b0t c), B inside] (B r)
def d4p : Option Int :=
 some 0
def c8a (i_8 : Int) : Option (Out Int (Unit ⊕ Int)) :=
 some (.nx (wr (i_8 + 1)))
def c39 (m : Machine) (x23 : Rule) : Int -> Option (Out Int (Unit ⊕ Int))
 | k_10 =>
  if decide (k_10 < (List.length x23.Sets : Int)) then
   (get x23.Sets k_10).bind fun x38 =>
   if (!(b2b x38.Kind 1 3)) || (!(b2b x38.Counter 0 (wr ((List.length m.Counters : Int) - 1)))) then
    some (.br (.inr 41))
   else
    some (.nx (wr (k_10 + 1)))
  else
   some (.br (.inl ()))
def b8v (m : Machine) : Int -> Option (Out Int (Unit ⊕ Int))
 | i_8 =>
  if decide (i_8 < (List.length m.Rules : Int)) then
   (get m.Rules i_8).bind fun x23 =>
   (if (!(b2b x23.From (-1) (wr ((List.length m.States : Int) - 1)))) || (!(b2b x23.To 0 (wr ((List.length m.States : Int) - 1)))) then some true else (c04 m x23.When false).bind fun y26 =>
   some (!y26)).bind fun c27 =>
   if c27 || (decide (4 < (List.length x23.Sets : Int))) then
    some (.br (.inr 41))
   else
    (b0w (c39 m x23) (0)).bind fun
     | (.inl ()) => c8a i_8
     | (.inr r') => some (.br (.inr r'))
  else
   some (.br (.inl ()))
def c79 (m : Machine) : Option Int :=
 (b0w (b8v m) (0)).bind fun
  | (.inl ()) => d4p
  | (.inr r') => some r'
def r8g (m : Machine) : Int -> Option (Out Int (Unit ⊕ Int))
 | i_7 =>
  if decide (i_7 < (List.length m.States : Int)) then
   (get m.States i_7).bind fun x49 =>
   (shl .i64 1 (IntKind.wrap .u64 (List.length m.Outputs : Int))).bind fun q50 =>
   if !(b2b x49.Shows 0 (wr (q50 - 1))) then
    some (.br (.inr 41))
   else
    some (.nx (wr (i_7 + 1)))
  else
   some (.br (.inl ()))
def c78 (m : Machine) : Option Int :=
 (b0w (r8g m) (0)).bind fun
  | (.inl ()) => c79 m
  | (.inr r') => some r'
def p6x (m : Machine) : Int -> Option (Out Int (Unit ⊕ Int))
 | i_6 =>
  if decide (i_6 < (List.length m.Counters : Int)) then
   (get m.Counters i_6).bind fun x58 =>
   if !(b2b x58.Max 1 7) then
    some (.br (.inr 41))
   else
    some (.nx (wr (i_6 + 1)))
  else
   some (.br (.inl ()))
def c77 (m : Machine) : Option Int :=
 (b0w (p6x m) (0)).bind fun
  | (.inl ()) => c78 m
  | (.inr r') => some r'
def c8b (i_4 : Int) : Option (Out Int (Unit ⊕ Int)) :=
 some (.nx (wr (i_4 + 1)))
def b8u (y8 : List ByteArray) (i_4 : Int) : Int -> Option (Out Int (Unit ⊕ Int))
 | k_5 =>
  if decide (k_5 < i_4) then
   (get y8 k_5).bind fun x81 =>
   (get y8 i_4).bind fun x82 =>
   if decide (x81 = x82) then
    some (.br (.inr 41))
   else
    some (.nx (wr (k_5 + 1)))
  else
   some (.br (.inl ()))
def b7n (y8 : List ByteArray) : Int -> Option (Out Int (Unit ⊕ Int))
 | i_4 =>
  if decide (i_4 < (List.length y8 : Int)) then
   (get y8 i_4).bind fun x69 =>
   (if decide (8 < (ByteArray.size x69 : Int)) then some true else (c02 x69).bind fun y70 =>
   some (!y70)).bind fun c71 =>
   if c71 then
    some (.br (.inr 41))
   else
    (b0w (b8u y8 i_4) (0)).bind fun
     | (.inl ()) => c8b i_4
     | (.inr r') => some (.br (.inr r'))
  else
   some (.br (.inl ()))
def c0u (m : Machine) : Option Int :=
 if ((((decide (4 < (List.length m.Inputs : Int))) || (decide (6 < (List.length m.Outputs : Int)))) || (decide (2 < (List.length m.Counters : Int)))) || (!(b2b (List.length m.States : Int) 1 12))) || (decide (40 < (List.length m.Rules : Int))) then
  some 41
 else
  (c4l m).bind fun y8 =>
  (b0w (b7n y8) (0)).bind fun
   | (.inl ()) => c77 m
   | (.inr r') => some r'
def c5k (O : Orac) : Prop := ∀ (m : Machine) (r : Int) (hm0 : c0u m = some r), Fn O "newel/newelref04.Check" [.agg (vM m)] (I r)
def d31 (m : Machine) (places_3 : Int) : Option Bool :=
 some ((decide (3 < (List.length m.Inputs : Int))) || (decide (80 < places_3)))
def c3s (m : Machine) : (Int × Int) -> Option (Out (Int × Int) Int)
 | (places_3, i_4) =>
  if decide (i_4 < (List.length m.Counters : Int)) then
   (get m.Counters i_4).bind fun x13 =>
   some (.nx (wr (places_3 * (wr (x13.Max + 1))), wr (i_4 + 1)))
  else
   some (.br places_3)
def b8o (m : Machine) : Option Bool :=
 (c0u m).bind fun y2 =>
 if decide (¬y2 = 0) then
  some false
 else
  (b0w (c3s m) ((List.length m.States : Int), 0)).bind fun places_3 =>
  d31 m places_3
def d0a (O : Orac) : Prop := ∀ (m : Machine) (r : Bool) (hm0 : b8o m = some r), Fn O "newel/newellaw04.Wide" [.agg (vM m)] (B r)
def b2q (n : Int) (low : Int) (high : Int) : Bool :=
 (decide (low <= n)) && (decide (n <= high))
def c5u (O : Orac) : Prop := ∀ (n : Int) (low : Int) (high : Int), Fn O "newel/situation.within" [I n, I low, I high] (B (b2q n low high))
@[go_sem] def b4f (x : List ByteArray) : List AV := [.fs 1 (List.map eS x)]
theorem c65 (x : List ByteArray) : ∀ c ∈ b4f x, Frz c := (b0a (b0c fun a _ => b0z a) b0j)
theorem g1e (x : List ByteArray) : (b4f x).length = 1 := rfl
@[go_sem] theorem o5l {l : List (List ByteArray)} {n : Nat} {a0 : List ByteArray} : (List.map b4f l).set n [.fs 1 (List.map eS a0)] = List.map b4f (l.set n a0) := by rw [List.map_set]; rfl
def c9i (slices : List (List ByteArray)) : Option (List ByteArray) :=
 if slices.flatten.length * 16 <= 2 ^ 40 /\ slices.length < 2 ^ 40 /\ 0 < slices.flatten.length then some slices.flatten else none
def d0t (O : Orac) : Prop := ∀ (slices : List (List ByteArray)) (r : List ByteArray) (hm0 : c9i slices = some r), FnW O "slices.Concat[[]string,string]" [.fs 1 (List.map b4f slices)] 1 eS r
def c9j (slices : List (List ByteArray)) : Option Unit :=
 if slices.flatten.length = 0 /\ slices.length < 2 ^ 40 then some () else none
def d0u (O : Orac) : Prop := ∀ (slices : List (List ByteArray)) (r : Unit) (hm0 : c9j slices = some r), Fn O "slices.Concat[[]string,string]" [.fs 1 (List.map b4f slices)] (.v (.slice none 0 0))
def c9c (l_3_1 : List ByteArray) : Option (List ByteArray) :=
 some l_3_1
def c89 (m : Machine) : ((List ByteArray) × Int) -> Option (Out ((List ByteArray) × Int) (((List ByteArray))))
 | (l_3_1, x_30) =>
  if decide (x_30 < (List.length m.States : Int)) then
   (get m.States x_30).bind fun x12 =>
   (ap 16 l_3_1 ([x12.Name])).bind fun l14 =>
   some (.nx (l14, wr (x_30 + 1)))
  else
   some (.br l_3_1)
def c9b (m : Machine) (l_3 : List ByteArray) : Option (List ByteArray) :=
 (b0w (c89 m) (l_3, 0)).bind fun l_3_1 =>
 c9c l_3_1
def c9a (m : Machine) : ((List ByteArray) × Int) -> Option (Out ((List ByteArray) × Int) (((List ByteArray))))
 | (l_3, x_17) =>
  if decide (x_17 < (List.length m.Counters : Int)) then
   (get m.Counters x_17).bind fun x21 =>
   (ap 16 l_3 ([x21.Name])).bind fun l23 =>
   some (.nx (l23, wr (x_17 + 1)))
  else
   some (.br l_3)
def c88 (m : Machine) : Option (List ByteArray) :=
 (c9i ([m.Inputs, m.Outputs])).bind fun y2 =>
 (b0w (c9a m) (y2, 0)).bind fun l_3 =>
 c9b m l_3
def d0r (O : Orac) : Prop := ∀ (m : Machine) (r : List ByteArray) (hm0 : c88 m = some r), Fn O "newel/situation.names" [.agg (vM m)] (.fs 1 (List.map eS r))
def c9h (l_3_1 : List ByteArray) : Option (List ByteArray) :=
 some l_3_1
def c9e (m : Machine) : ((List ByteArray) × Int) -> Option (Out ((List ByteArray) × Int) (((List ByteArray))))
 | (l_3_1, x_30) =>
  if decide (x_30 < (List.length m.States : Int)) then
   (get m.States x_30).bind fun x12 =>
   (ap 16 l_3_1 ([x12.Name])).bind fun l14 =>
   some (.nx (l14, wr (x_30 + 1)))
  else
   some (.br l_3_1)
def c9g (m : Machine) (l_3 : List ByteArray) : Option (List ByteArray) :=
 (b0w (c9e m) (l_3, 0)).bind fun l_3_1 =>
 c9h l_3_1
def c9f (m : Machine) : ((List ByteArray) × Int) -> Option (Out ((List ByteArray) × Int) (((List ByteArray))))
 | (l_3, x_17) =>
  if decide (x_17 < (List.length m.Counters : Int)) then
   (get m.Counters x_17).bind fun x21 =>
   (ap 16 l_3 ([x21.Name])).bind fun l23 =>
   some (.nx (l23, wr (x_17 + 1)))
  else
   some (.br l_3)
def c9d (m : Machine) : Option (List ByteArray) :=
 (c9j ([m.Inputs, m.Outputs])).bind fun y2 =>
 (b0w (c9f m) ([], 0)).bind fun l_3 =>
 c9g m l_3
def d0s (O : Orac) : Prop := ∀ (m : Machine) (r : List ByteArray) (hm0 : c9d m = some r), Fn O "newel/situation.names" [.agg (vM m)] (.fs 1 (List.map eS r))
def c45 (m : Machine) : Option (List ByteArray) :=
 if 0 < m.Inputs.length + m.Outputs.length then c88 m else c9d m
def d0q (O : Orac) : Prop := ∀ (m : Machine) (r : List ByteArray) (hm0 : c45 m = some r), Fn O "newel/situation.names" [.agg (vM m)] (.fs 1 (List.map eS r))
def d48 (word : ByteArray) : Option Bool :=
 some (!(decide (word = (ByteArray.mk #[]))))
def c42 (word : ByteArray) : Int -> Option (Out Int (Unit ⊕ Bool))
 | x_8 =>
  if decide (x_8 < (List.length (b3q word) : Int)) then
   (get (b3q word) x_8).bind fun x8 =>
   if (decide (x8 < 97)) || (decide (122 < x8)) then
    some (.br (.inr false))
   else
    some (.nx (wr (x_8 + 1)))
  else
   some (.br (.inl ()))
def r1j (word : ByteArray) : Option Bool :=
 (b0w (c42 word) (0)).bind fun
  | (.inl ()) => d48 word
  | (.inr r') => some r'
def d0m (O : Orac) : Prop := ∀ (word : ByteArray) (r : Bool) (hm0 : r1j word = some r), Fn O "newel/situation.Plain" [.v (.string word)] (B r)
def b5w (x_4 : Bool) : Bool :=
 if x_4 then
  true
 else
  false
def b84 (word : ByteArray) : Bool :=
 if decide (word = (ByteArray.mk #[97, 110, 121])) then
  b5w (decide (word = (ByteArray.mk #[97, 110, 121])))
 else
  if decide (word = (ByteArray.mk #[116, 111])) then
   b5w (decide (word = (ByteArray.mk #[116, 111])))
  else
   if decide (word = (ByteArray.mk #[122, 101, 114, 111])) then
    b5w (decide (word = (ByteArray.mk #[122, 101, 114, 111])))
   else
    if decide (word = (ByteArray.mk #[109, 111, 114, 101])) then
     b5w (decide (word = (ByteArray.mk #[109, 111, 114, 101])))
    else
     if decide (word = (ByteArray.mk #[108, 101, 115, 115])) then
      b5w (decide (word = (ByteArray.mk #[108, 101, 115, 115])))
     else
      if decide (word = (ByteArray.mk #[105, 102])) then
       b5w (decide (word = (ByteArray.mk #[105, 102])))
      else
       if decide (word = (ByteArray.mk #[121, 101, 115])) then
        b5w (decide (word = (ByteArray.mk #[121, 101, 115])))
       else
        b5w (decide (word = (ByteArray.mk #[110, 111])))
def d0n (O : Orac) : Prop := ∀ (word : ByteArray), Fn O "newel/situation.Reserved" [.v (.string word)] (B (b84 word))
def d49 : Option Bool :=
 some true
def c1i (y2 : List ByteArray) : ((List (ByteArray × Int)) × Int) -> Option (Out ((List (ByteArray × Int)) × Int) (Unit ⊕ Bool))
 | (seen_3, x_10) =>
  if decide (x_10 < (List.length y2 : Int)) then
   (get y2 x_10).bind fun x10 =>
   (r1j x10).bind fun y12 =>
   if (((!y12) || (decide (8 < (ByteArray.size x10 : Int)))) || (b84 x10)) || (decide (1 < (b2w (b3w seen_3 x10 (wr ((b2w seen_3 x10 0) + 1))) x10 0))) then
    some (.br (.inr false))
   else
    some (.nx ((b3w seen_3 x10 (wr ((b2w seen_3 x10 0) + 1))), wr (x_10 + 1)))
  else
   some (.br (.inl ()))
def c44 (m : Machine) : Option Bool :=
 (c45 m).bind fun y2 =>
 (b0w (c1i y2) (([] : List (ByteArray × Int)), 0)).bind fun
  | (.inl ()) => d49
  | (.inr r') => some r'
def d0p (O : Orac) : Prop := ∀ (m : Machine) (r : Bool) (hm0 : c44 m = some r), Fn O "newel/situation.named" [.agg (vM m)] (B r)
def c43 (m : Machine) (x : Literal) : Option Bool :=
 if decide (x.Kind = 1) then
  some ((b2q x.Number 0 (wr ((List.length m.Inputs : Int) - 1))) && (decide (x.Value = 0)))
 else
  if decide (x.Kind = 2) then
   (if (b2q x.Number 0 (wr ((List.length m.Counters : Int) - 1))) then (get m.Counters x.Number).bind fun x7 =>
   some (b2q x.Value 0 x7.Max) else some false).bind fun c8 =>
   some c8
  else
   if decide (x.Kind = 3) then
    some ((b2q x.Number 0 (wr ((List.length m.States : Int) - 1))) && (decide (x.Value = 0)))
   else
    if decide (x.Kind = 4) then
     some ((b2q x.Number 0 (wr ((List.length m.Outputs : Int) - 1))) && (decide (x.Value = 0)))
    else
     some false
def d0o (O : Orac) : Prop := ∀ (m : Machine) (x : Literal) (r : Bool) (hm0 : c43 m x = some r), Fn O "newel/situation.asks" [.agg (vM m), .agg [I x.Kind, I x.Number, I x.Value, B x.Not]] (B r)
def b82 (x : Literal) (c0 : Machine) : Option Bool :=
 (c43 c0 x).bind fun y2 =>
 some (!y2)
def d0j (O : Orac) : Prop := ∀ (x : Literal) (c0 : Machine) (r : Bool) (hm0 : b82 x c0 = some r), Fn O "newel/situation.Asked$1" [.agg [I x.Kind, I x.Number, I x.Value, B x.Not], .fp (vM c0) 0] (B r)
def d5f : Option Int :=
 some (-1)
def g3e (s : List Literal) (f : Literal -> Option Bool) : Int -> Option (Out Int (Unit ⊕ Int))
 | x_8 =>
  if decide (x_8 < (List.length s : Int)) then
   (get s x_8).bind fun x9 =>
   (f x9).bind fun y10 =>
   if y10 then
    some (.br (.inr x_8))
   else
    some (.nx (wr (x_8 + 1)))
  else
   some (.br (.inl ()))
def d5e (s : List Literal) (f : Literal -> Option Bool) : Option Int :=
 (b0w (g3e s f) (0)).bind fun
  | (.inl ()) => d5f
  | (.inr r') => some r'
def d0z (O : Orac) : Prop := ∀ (s : List Literal) (f_n : String) (f_a f_b : List AV) (f : Literal -> Option Bool) (f_z : Frz (.fn f_n f_a f_b)) (f_h : ∀ z0 y, f z0 = some y -> Fn O f_n (f_a ++ [.agg [I z0.Kind, I z0.Number, I z0.Value, B z0.Not]] ++ f_b) (B y)) (r : Int) (hm0 : d5e s f = some r), Fn O "slices.IndexFunc[newel/api.Term,newel/api.Literal]" [.fs 4 (List.map b3k s), .fn f_n f_a f_b] (I r)
def b7t (s : List Literal) (f : Literal -> Option Bool) : Option Bool :=
 (d5e s f).bind fun y2 =>
 some (decide (0 <= y2))
def c1o (O : Orac) : Prop := ∀ (s : List Literal) (f_n : String) (f_a f_b : List AV) (f : Literal -> Option Bool) (f_z : Frz (.fn f_n f_a f_b)) (f_h : ∀ z0 y, f z0 = some y -> Fn O f_n (f_a ++ [.agg [I z0.Kind, I z0.Number, I z0.Value, B z0.Not]] ++ f_b) (B y)) (r : Bool) (hm0 : b7t s f = some r), Fn O "slices.ContainsFunc[newel/api.Term,newel/api.Literal]" [.fs 4 (List.map b3k s), .fn f_n f_a f_b] (B r)
def d46 : Option Bool :=
 some true
def c4u (m : Machine) (c : List (List Literal)) : Int -> Option (Out Int (Unit ⊕ Bool))
 | x_12 =>
  if decide (x_12 < (List.length c : Int)) then
   (get c x_12).bind fun x10 =>
   (if decide (6 < (List.length x10 : Int)) then some true else (b7t x10 (fun z14 => b82 z14 m)).bind fun y15 =>
   some y15).bind fun c16 =>
   if c16 then
    some (.br (.inr false))
   else
    some (.nx (wr (x_12 + 1)))
  else
   some (.br (.inl ()))
def c1h (m : Machine) (c : List (List Literal)) : Option Bool :=
 if decide (6 < (List.length c : Int)) then
  some false
 else
  (b0w (c4u m c) (0)).bind fun
   | (.inl ()) => d46
   | (.inr r') => some r'
def c5t (O : Orac) : Prop := ∀ (m : Machine) (c : List (List Literal)) (r : Bool) (hm0 : c1h m c = some r), Fn O "newel/situation.Asked" [.agg (vM m), .fs 1 (List.map b0t c)] (B r)
def b7s (x : Literal) : Bool :=
 decide (x.Kind = 3)
def d0l (O : Orac) : Prop := ∀ (x : Literal), Fn O "newel/situation.Check$1" [.agg [I x.Kind, I x.Number, I x.Value, B x.Not]] (B (b7s x))
def d47 : Option Int :=
 some 0
def c86 (x_79 : Int) : Option (Out Int (Unit ⊕ Int)) :=
 some (.nx (wr (x_79 + 1)))
def c4y (m : Machine) (x24 : Rule) : Int -> Option (Out Int (Unit ⊕ Int))
 | x_127 =>
  if decide (x_127 < (List.length x24.Sets : Int)) then
   (get x24.Sets x_127).bind fun x41 =>
   if (!(b2q x41.Kind 1 3)) || (!(b2q x41.Counter 0 (wr ((List.length m.Counters : Int) - 1)))) then
    some (.br (.inr 41))
   else
    some (.nx (wr (x_127 + 1)))
  else
   some (.br (.inl ()))
def c87 (m : Machine) (x_79 : Int) (x24 : Rule) : Option (Out Int (Unit ⊕ Int)) :=
 (b0w (c4y m x24) (0)).bind fun
  | (.inl ()) => c86 x_79
  | (.inr r') => some (.br (.inr r'))
def c4x (x24 : Rule) : Int -> Option (Out Int (Unit ⊕ Int))
 | x_117 =>
  if decide (x_117 < (List.length x24.When : Int)) then
   (get x24.When x_117).bind fun x50 =>
   (b7t x50 (fun z53 => some (b7s z53))).bind fun y54 =>
   if y54 then
    some (.br (.inr 41))
   else
    some (.nx (wr (x_117 + 1)))
  else
   some (.br (.inl ()))
def b83 (m : Machine) : Int -> Option (Out Int (Unit ⊕ Int))
 | x_79 =>
  if decide (x_79 < (List.length m.Rules : Int)) then
   (get m.Rules x_79).bind fun x24 =>
   (if (!(b2q x24.From (-1) (wr ((List.length m.States : Int) - 1)))) || (!(b2q x24.To 0 (wr ((List.length m.States : Int) - 1)))) then some true else (c1h m x24.When).bind fun y27 =>
   some (!y27)).bind fun c28 =>
   if c28 || (decide (4 < (List.length x24.Sets : Int))) then
    some (.br (.inr 41))
   else
    (b0w (c4x x24) (0)).bind fun
     | (.inl ()) => c87 m x_79 x24
     | (.inr r') => some (.br (.inr r'))
  else
   some (.br (.inl ()))
def c85 (m : Machine) : Option Int :=
 (b0w (b83 m) (0)).bind fun
  | (.inl ()) => d47
  | (.inr r') => some r'
def c4w (m : Machine) : Int -> Option (Out Int (Unit ⊕ Int))
 | x_62 =>
  if decide (x_62 < (List.length m.States : Int)) then
   (get m.States x_62).bind fun x63 =>
   (shl .i64 1 (List.length m.Outputs : Int)).bind fun q65 =>
   if !(b2q x63.Shows 0 (wr (q65 - 1))) then
    some (.br (.inr 41))
   else
    some (.nx (wr (x_62 + 1)))
  else
   some (.br (.inl ()))
def p84 (m : Machine) : Option Int :=
 (b0w (c4w m) (0)).bind fun
  | (.inl ()) => c85 m
  | (.inr r') => some r'
def c4z (m : Machine) : Int -> Option (Out Int (Unit ⊕ Int))
 | x_50 =>
  if decide (x_50 < (List.length m.Counters : Int)) then
   (get m.Counters x_50).bind fun x73 =>
   if !(b2q x73.Max 1 7) then
    some (.br (.inr 41))
   else
    some (.nx (wr (x_50 + 1)))
  else
   some (.br (.inl ()))
def c4v (m : Machine) : Option Int :=
 (if ((((decide (4 < (List.length m.Inputs : Int))) || (decide (6 < (List.length m.Outputs : Int)))) || (decide (2 < (List.length m.Counters : Int)))) || (!(b2q (List.length m.States : Int) 1 12))) || (decide (40 < (List.length m.Rules : Int))) then some true else (c44 m).bind fun y3 =>
 some (!y3)).bind fun c4 =>
 if c4 then
  some 41
 else
  (b0w (c4z m) (0)).bind fun
   | (.inl ()) => p84 m
   | (.inr r') => some r'
def d0k (O : Orac) : Prop := ∀ (m : Machine) (r : Int) (hm0 : c4v m = some r), Fn O "newel/situation.Check" [.agg (vM m)] (I r)
def c2f (m : Machine) : Option Int :=
 (c4v m).bind fun y2 =>
 some y2
def c96 (O : Orac) : Prop := ∀ (m : Machine) (r : Int) (hm0 : c2f m = some r), Fn O "newel/control.Check" [.agg (vM m)] (I r)
@[go_sem] def b4v (x : List (List Literal)) : List AV := [.fs 1 (List.map b0t x)]
theorem b97 (x : List (List Literal)) : ∀ c ∈ b4v x, Frz c := (b0a (b0c fun a _ => b2j a) b0j)
theorem c7o (x : List (List Literal)) : (b4v x).length = 1 := rfl
@[go_sem] theorem o5j {l : List (List (List Literal))} {n : Nat} {a0 : List (List Literal)} : (List.map b4v l).set n [.fs 1 (List.map b0t a0)] = List.map b4v (l.set n a0) := by rw [List.map_set]; rfl
def d1j : Option Int :=
 some 0
def c2i (m : Machine) (conds : List (List (List Literal))) : Int -> Option (Out Int (Unit ⊕ Int))
 | x_15 =>
  if decide (x_15 < (List.length conds : Int)) then
   (get conds x_15).bind fun x12 =>
   (c1h m x12).bind fun y14 =>
   if !y14 then
    some (.br (.inr 42))
   else
    some (.nx (wr (x_15 + 1)))
  else
   some (.br (.inl ()))
def b9x (m : Machine) (conds : List (List (List Literal))) : Option Int :=
 (c2f m).bind fun y2 =>
 if decide (¬y2 = 0) then
  some y2
 else
  (b0w (c2i m conds) (0)).bind fun
   | (.inl ()) => d1j
   | (.inr r') => some r'
def c5g (O : Orac) : Prop := ∀ (m : Machine) (conds : List (List (List Literal))) (r : Int) (hm0 : b9x m conds = some r), Fn O "newel/control.check" [.agg (vM m), .fs 1 (List.map b4v conds)] (I r)
structure situation_Plant where
 Machine : Machine
 deriving Inhabited, DecidableEq
structure control_plant where
 Plant : situation_Plant
 deriving Inhabited, DecidableEq
def b3h (m : Machine) : control_plant :=
 (control_plant.mk (situation_Plant.mk m))
def c5h (O : Orac) : Prop := ∀ (m : Machine), Fn O "newel/control.of" [.agg (vM m)] (.agg [.fs 1 (List.map eS ((((b3h m).Plant).Machine).Inputs)), .fs 1 (List.map eS ((((b3h m).Plant).Machine).Outputs)), .fs 2 (List.map b0o ((((b3h m).Plant).Machine).Counters)), .fs 2 (List.map b0p ((((b3h m).Plant).Machine).States)), .fs 4 (List.map b0m ((((b3h m).Plant).Machine).Rules))])
def c1y (m : situation_Plant) : Option Int :=
 (shl .i64 1 (List.length m.Machine.Inputs : Int)).bind fun q2 =>
 some q2
def c9y (O : Orac) : Prop := ∀ (m : situation_Plant) (r : Int) (hm0 : c1y m = some r), Fn O "(newel/situation.Plant).All" [.agg (vM m.Machine)] (I r)
structure Place where
 State : Int
 Values : Int × Int
 deriving Inhabited, DecidableEq
def b6w (x : Literal) (holds_9 : Bool) : Option Bool :=
 some (!(b5c holds_9 x.Not))
def b77 (m : situation_Plant) (x : Literal) (p : Place) (input : Int) : Option Bool :=
 if decide (x.Kind = 1) then
  (shr .i64 input x.Number).bind fun q5 =>
  b6w x (decide ((b6y q5 1) = 1))
 else
  if decide (x.Kind = 2) then
   (get [p.Values.1, p.Values.2] x.Number).bind fun x8 =>
   b6w x (decide (x.Value <= x8))
  else
   if decide (x.Kind = 3) then
    b6w x (decide (p.State = x.Number))
   else
    if decide (x.Kind = 4) then
     (get m.Machine.States p.State).bind fun x13 =>
     (shr .i64 x13.Shows x.Number).bind fun q14 =>
     b6w x (decide ((b6y q14 1) = 1))
    else
     b6w x false
def c93 (O : Orac) : Prop := ∀ (m : situation_Plant) (x : Literal) (p : Place) (input : Int) (r : Bool) (hm0 : b77 m x p input = some r), Fn O "(newel/situation.Plant).literal" [.agg (vM m.Machine), .agg [I x.Kind, I x.Number, I x.Value, B x.Not], .agg [I p.State, I p.Values.1, I p.Values.2], I input] (B r)
def b76 (x : Literal) (c0 : situation_Plant) (c1 : Place) (c2 : Int) : Option Bool :=
 (b77 c0 x c1 c2).bind fun y2 =>
 some (!y2)
def c91 (O : Orac) : Prop := ∀ (x : Literal) (c0 : situation_Plant) (c1 : Place) (c2 : Int) (r : Bool) (hm0 : b76 x c0 c1 c2 = some r), Fn O "(newel/situation.Plant).Holds$1$1" [.agg [I x.Kind, I x.Number, I x.Value, B x.Not], .fp (vM c0.Machine) 0, .fp [I c1.State, I c1.Values.1, I c1.Values.2] 0, .fp [I c2] 0] (B r)
def b74 (t_ : List Literal) (c0 : situation_Plant) (c1 : Place) (c2 : Int) : Option Bool :=
 (b7t t_ (fun z3 => b76 z3 c0 c1 c2)).bind fun y4 =>
 some (!y4)
def c90 (O : Orac) : Prop := ∀ (t_ : List Literal) (c0 : situation_Plant) (c1 : Place) (c2 : Int) (r : Bool) (hm0 : b74 t_ c0 c1 c2 = some r), Fn O "(newel/situation.Plant).Holds$1" [.fs 4 (List.map b3k t_), .fp (vM c0.Machine) 0, .fp [I c1.State, I c1.Values.1, I c1.Values.2] 0, .fp [I c2] 0] (B r)
def d5d : Option Int :=
 some (-1)
def g3d (s : List (List Literal)) (f : (List Literal) -> Option Bool) : Int -> Option (Out Int (Unit ⊕ Int))
 | x_8 =>
  if decide (x_8 < (List.length s : Int)) then
   (get s x_8).bind fun x9 =>
   (f x9).bind fun y10 =>
   if y10 then
    some (.br (.inr x_8))
   else
    some (.nx (wr (x_8 + 1)))
  else
   some (.br (.inl ()))
def d5c (s : List (List Literal)) (f : (List Literal) -> Option Bool) : Option Int :=
 (b0w (g3d s f) (0)).bind fun
  | (.inl ()) => d5d
  | (.inr r') => some r'
def d0y (O : Orac) : Prop := ∀ (s : List (List Literal)) (f_n : String) (f_a f_b : List AV) (f : (List Literal) -> Option Bool) (f_z : Frz (.fn f_n f_a f_b)) (f_h : ∀ z0 y, f z0 = some y -> Fn O f_n (f_a ++ [.fs 4 (List.map b3k z0)] ++ f_b) (B y)) (r : Int) (hm0 : d5c s f = some r), Fn O "slices.IndexFunc[newel/api.Cond,newel/api.Term]" [.fs 1 (List.map b0t s), .fn f_n f_a f_b] (I r)
def c9k (s : List (List Literal)) (f : (List Literal) -> Option Bool) : Option Bool :=
 (d5c s f).bind fun y2 =>
 some (decide (0 <= y2))
def d0w (O : Orac) : Prop := ∀ (s : List (List Literal)) (f_n : String) (f_a f_b : List AV) (f : (List Literal) -> Option Bool) (f_z : Frz (.fn f_n f_a f_b)) (f_h : ∀ z0 y, f z0 = some y -> Fn O f_n (f_a ++ [.fs 4 (List.map b3k z0)] ++ f_b) (B y)) (r : Bool) (hm0 : c9k s f = some r), Fn O "slices.ContainsFunc[newel/api.Cond,newel/api.Term]" [.fs 1 (List.map b0t s), .fn f_n f_a f_b] (B r)
def b6v (m : situation_Plant) (c : List (List Literal)) (p : Place) (input : Int) : Option Bool :=
 (c9k c (fun z3 => b74 z3 m p input)).bind fun y4 =>
 some y4
def b89 (O : Orac) : Prop := ∀ (m : situation_Plant) (c : List (List Literal)) (p : Place) (input : Int) (r : Bool) (hm0 : b6v m c p input = some r), Fn O "(newel/situation.Plant).Holds" [.agg (vM m.Machine), .fs 1 (List.map b0t c), .agg [I p.State, I p.Values.1, I p.Values.2], I input] (B r)
def c1z (m : situation_Plant) (assume : List (List Literal)) (p : Place) (input : Int) : Option Bool :=
 (if decide ((List.length assume : Int) = 0) then some true else (b6v m assume p input).bind fun y3 =>
 some y3).bind fun c4 =>
 some c4
def c9z (O : Orac) : Prop := ∀ (m : situation_Plant) (assume : List (List Literal)) (p : Place) (input : Int) (r : Bool) (hm0 : c1z m assume p input = some r), Fn O "(newel/situation.Plant).Allowed" [.agg (vM m.Machine), .fs 1 (List.map b0t assume), .agg [I p.State, I p.Values.1, I p.Values.2], I input] (B r)
def r1b (m : situation_Plant) (s : Set) (p : Place) : Option Place :=
 (get [p.Values.1, p.Values.2] s.Counter).bind fun x2 =>
 if decide (s.Kind = 1) then
  some (Place.mk p.State (b1n s.Counter 0 0 p.Values.1, b1n s.Counter 1 0 p.Values.2))
 else
  if decide (s.Kind = 2) then
   (get m.Machine.Counters s.Counter).bind fun x6 =>
   some (Place.mk p.State (b1n s.Counter 0 (mn (wr (x2 + 1)) x6.Max) p.Values.1, b1n s.Counter 1 (mn (wr (x2 + 1)) x6.Max) p.Values.2))
  else
   if decide (s.Kind = 3) then
    some (Place.mk p.State (b1n s.Counter 0 (mx (wr (x2 - 1)) 0) p.Values.1, b1n s.Counter 1 (mx (wr (x2 - 1)) 0) p.Values.2))
   else
    some (Place.mk p.State (p.Values.1, p.Values.2))
def c94 (O : Orac) : Prop := ∀ (m : situation_Plant) (s : Set) (p : Place) (i_2 : Nat) (h0 : Heap) (ob_p2 : h0.ob i_2 = some (3, [[I p.State, I p.Values.1, I p.Values.2]])) (lt_p2 : i_2 < h0.nx) (r : Place) (hm0 : r1b m s p = some r), b6e O "(newel/situation.Plant).set" [.agg (vM m.Machine), .agg [I s.Kind, I s.Counter], .rp i_2 0 0] h0 (fun v h => v = .tup [] /\ h.ob i_2 = some (3, [[I r.State, I r.Values.1, I r.Values.2]]) /\ (∀ j, j < h0.nx -> ¬j = i_2 -> h.ob j = h0.ob j) /\ h0.nx <= h.nx)
def c6h (p_4_0 : Int) (p_4_1 : Int) (p_4_2 : Int) : Option Place :=
 some (Place.mk p_4_0 (p_4_1, p_4_2))
def c6i (x_15 : Int) : Option (Out Int ((Int × Int × Int))) :=
 some (.nx (wr (x_15 + 1)))
def c6g (x9 : Rule) (p_4_0 : Int) (p_4_1 : Int) (p_4_2 : Int) : Option (Out Int ((Int × Int × Int))) :=
 some (.br (x9.To, p_4_1, p_4_2))
def c11 (m : situation_Plant) (x9 : Rule) : (Int × Int × Int × Int) -> Option (Out (Int × Int × Int × Int) ((Int × Int × Int)))
 | (p_4_0, p_4_1, p_4_2, x_41) =>
  if decide (x_41 < (List.length x9.Sets : Int)) then
   (get x9.Sets x_41).bind fun x25 =>
   (r1b m x25 (Place.mk p_4_0 (p_4_1, p_4_2))).bind fun y27 =>
   some (.nx (y27.State, y27.Values.1, y27.Values.2, wr (x_41 + 1)))
  else
   some (.br (p_4_0, p_4_1, p_4_2))
def c6f (m : situation_Plant) (p : Place) (input : Int) : Int -> Option (Out Int ((Int × Int × Int)))
 | x_15 =>
  if decide (x_15 < (List.length m.Machine.Rules : Int)) then
   (get m.Machine.Rules x_15).bind fun x9 =>
   (if (decide (¬x9.From = (-1))) && (decide (¬x9.From = p.State)) then some true else (b6v m x9.When (Place.mk p.State (p.Values.1, p.Values.2)) input).bind fun y12 =>
   some (!y12)).bind fun c13 =>
   if c13 then
    c6i x_15
   else
    (b0w (c11 m x9) (p.State, p.Values.1, p.Values.2, 0)).bind fun
     | (p_4_0, p_4_1, p_4_2) => c6g x9 p_4_0 p_4_1 p_4_2
  else
   some (.br (p.State, p.Values.1, p.Values.2))
def r7y (m : situation_Plant) (p : Place) (input : Int) : Option Place :=
 (b0w (c6f m p input) (0)).bind fun
  | (p_4_0, p_4_1, p_4_2) => c6h p_4_0 p_4_1 p_4_2
def c92 (O : Orac) : Prop := ∀ (m : situation_Plant) (p : Place) (input : Int) (r : Place) (hm0 : r7y m p input = some r), Fn O "(newel/situation.Plant).Step" [.agg (vM m.Machine), .agg [I p.State, I p.Values.1, I p.Values.2], I input] (.agg [I r.State, I r.Values.1, I r.Values.2])
structure control_walk where
 places : List Place
 from_ : List Int
 by_ : List Int
 next : List (List Int)
 deriving Inhabited, DecidableEq
@[go_sem] def b1g (x : Place) : List AV := [I x.State, I x.Values.1, I x.Values.2]
theorem b44 (x : Place) : ∀ c ∈ b1g x, Frz c := (b0a (b0e _) (b0a (b0e _) (b0a (b0e _) b0j)))
theorem d32 (x : Place) : (b1g x).length = 3 := rfl
@[go_sem] theorem o5n {l : List Place} {n : Nat} {a0 : Int} {a1 : Int} {a2 : Int} : (List.map b1g l).set n [I a0, I a1, I a2] = List.map b1g (l.set n (Place.mk a0 (a1, a2))) := by rw [List.map_set]; rfl
def b47 (x : Place) : List Int := [x.State, x.Values.1, x.Values.2]
theorem d30 : ∀ a b, b3o false (vks b47 a) (vks b47 b) = some (decide (a = b)) := j7d (n := 3) (fun _ => rfl) fun a b h => by
 obtain ⟨a1, ⟨a2, a3⟩⟩ := a; obtain ⟨b4, ⟨b5, b6⟩⟩ := b
 simp only [b47, List.cons.injEq, and_true] at h
 obtain ⟨rfl, rfl, rfl⟩ := h; rfl
@[go_sem] def b2f (x : List Int) : List AV := [.fs 1 (List.map eI x)]
theorem b8i (x : List Int) : ∀ c ∈ b2f x, Frz c := (b0a (b0c fun a _ => b1t a) b0j)
theorem j7n (x : List Int) : (b2f x).length = 1 := rfl
@[go_sem] theorem o5i {l : List (List Int)} {n : Nat} {a0 : List Int} : (List.map b2f l).set n [.fs 1 (List.map eI a0)] = List.map b2f (l.set n a0) := by rw [List.map_set]; rfl
def c6a (w_7_0 : List Place) (w_7_1 : List Int) (w_7_2 : List Int) (w_7_3 : List (List Int)) : Option control_walk :=
 some (control_walk.mk w_7_0 w_7_1 w_7_2 w_7_3)
def c6b (at_9 : Int) (w_7_0_1 : List Place) (w_7_1_1 : List Int) (w_7_2_1 : List Int) (w_7_3_1 : List (List Int)) (found_8_1 : List (Place × Int)) : Option (Out ((List Place) × (List Int) × (List Int) × (List (List Int)) × (List (Place × Int)) × Int) (((List Place) × (List Int) × (List Int) × (List (List Int))))) :=
 some (.nx (w_7_0_1, w_7_1_1, w_7_2_1, w_7_3_1, found_8_1, wr (at_9 + 1)))
def c59 (w_7_3 : List (List Int)) (at_9 : Int) (w_7_0_1 : List Place) (w_7_1_1 : List Int) (w_7_2_1 : List Int) (found_8_1 : List (Place × Int)) (row_11 : List Int) : Option (Out ((List Place) × (List Int) × (List Int) × (List (List Int)) × (List (Place × Int)) × Int) (((List Place) × (List Int) × (List Int) × (List (List Int))))) :=
 (ap 24 w_7_3 ([row_11])).bind fun l17 =>
 c6b at_9 w_7_0_1 w_7_1_1 w_7_2_1 l17 found_8_1
def c1v (x_47 : Int) (w_7_0_2 : List Place) (w_7_1_2 : List Int) (w_7_2_2 : List Int) (found_8_2 : List (Place × Int)) (row_11_1 : List Int) : Option (Out ((List Place) × (List Int) × (List Int) × (List (Place × Int)) × (List Int) × Int) (((List Place) × (List Int) × (List Int) × (List (Place × Int)) × (List Int)))) :=
 some (.nx (w_7_0_2, w_7_1_2, w_7_2_2, found_8_2, row_11_1, wr (x_47 + 1)))
def c1w (row_11 : List Int) (x_47 : Int) (w_7_0_2 : List Place) (w_7_1_2 : List Int) (w_7_2_2 : List Int) (found_8_2 : List (Place × Int)) (to_14 : Int) : Option (Out ((List Place) × (List Int) × (List Int) × (List (Place × Int)) × (List Int) × Int) (((List Place) × (List Int) × (List Int) × (List (Place × Int)) × (List Int)))) :=
 (get (List.set row_11 (Int.toNat x_47) (-1)) x_47).bind fun x36 =>
 c1v x_47 w_7_0_2 w_7_1_2 w_7_2_2 found_8_2 (List.set (List.set row_11 (Int.toNat x_47) (-1)) (Int.toNat x_47) to_14)
def c1u (m : control_plant) (assume : List (List Literal)) (heard : Int -> Option Int) (at_9 : Int) (x9 : Place) (l13 : List Int) : ((List Place) × (List Int) × (List Int) × (List (Place × Int)) × (List Int) × Int) -> Option (Out ((List Place) × (List Int) × (List Int) × (List (Place × Int)) × (List Int) × Int) (((List Place) × (List Int) × (List Int) × (List (Place × Int)) × (List Int))))
 | (w_7_0_1, w_7_1_1, w_7_2_1, found_8_1, row_11, x_47) =>
  if decide (x_47 < ((List.length l13 : Nat) : Int)) then
   (get row_11 x_47).bind fun x24 =>
   (c1z m.Plant assume (Place.mk x9.State (x9.Values.1, x9.Values.2)) x_47).bind fun y26 =>
   if !y26 then
    c1v x_47 w_7_0_1 w_7_1_1 w_7_2_1 found_8_1 (List.set row_11 (Int.toNat x_47) (-1))
   else
    (heard x_47).bind fun y31 =>
    (r7y m.Plant (Place.mk x9.State (x9.Values.1, x9.Values.2)) y31).bind fun y32 =>
    if !(b6m found_8_1 (Place.mk y32.State (y32.Values.1, y32.Values.2))) then
     (ap 24 w_7_0_1 ([(Place.mk y32.State (y32.Values.1, y32.Values.2))])).bind fun l41 =>
     (ap 8 w_7_1_1 ([at_9])).bind fun l42 =>
     (ap 8 w_7_2_1 ([x_47])).bind fun l43 =>
     c1w row_11 x_47 l41 l42 l43 (b3w found_8_1 (Place.mk y32.State (y32.Values.1, y32.Values.2)) ((List.length w_7_0_1 : Nat) : Int)) ((List.length w_7_0_1 : Nat) : Int)
    else
     c1w row_11 x_47 w_7_0_1 w_7_1_1 w_7_2_1 found_8_1 (b2w found_8_1 (Place.mk y32.State (y32.Values.1, y32.Values.2)) 0)
  else
   some (.br (w_7_0_1, w_7_1_1, w_7_2_1, found_8_1, row_11))
def b9i (m : control_plant) (assume : List (List Literal)) (heard : Int -> Option Int) : ((List Place) × (List Int) × (List Int) × (List (List Int)) × (List (Place × Int)) × Int) -> Option (Out ((List Place) × (List Int) × (List Int) × (List (List Int)) × (List (Place × Int)) × Int) (((List Place) × (List Int) × (List Int) × (List (List Int)))))
 | (w_7_0, w_7_1, w_7_2, w_7_3, found_8, at_9) =>
  if decide (at_9 < ((List.length w_7_0 : Nat) : Int)) then
   (get w_7_0 at_9).bind fun x9 =>
   (c1y m.Plant).bind fun y12 =>
   (mks 8 y12 0).bind fun l13 =>
   (b0w (c1u m assume heard at_9 x9 l13) (w_7_0, w_7_1, w_7_2, found_8, l13, 0)).bind fun
    | (w_7_0_1, w_7_1_1, w_7_2_1, found_8_1, row_11) => c59 w_7_3 at_9 w_7_0_1 w_7_1_1 w_7_2_1 found_8_1 row_11
  else
   some (.br (w_7_0, w_7_1, w_7_2, w_7_3))
def b9h (m : control_plant) (assume : List (List Literal)) (heard : Int -> Option Int) : Option control_walk :=
 (b0w (b9i m assume heard) ([(Place.mk 0 (0, 0))], [(-1)], [0], [], (b3w ([] : List (Place × Int)) (Place.mk 0 (0, 0)) 0), 0)).bind fun
  | (w_7_0, w_7_1, w_7_2, w_7_3) => c6a w_7_0 w_7_1 w_7_2 w_7_3
def c5e (O : Orac) : Prop := ∀ (m : control_plant) (assume : List (List Literal)) (heard_n : String) (heard_a heard_b : List AV) (heard : Int -> Option Int) (heard_z : Frz (.fn heard_n heard_a heard_b)) (heard_h : ∀ z0 y, heard z0 = some y -> Fn O heard_n (heard_a ++ [I z0] ++ heard_b) (I y)) (r : control_walk) (hm0 : b9h m assume heard = some r), Fn O "(newel/control.plant).explore" [.agg (vM m.Plant.Machine), .fs 1 (List.map b0t assume), .fn heard_n heard_a heard_b] (.fp [.fs 3 (List.map b1g r.places), .fs 1 (List.map eI r.from_), .fs 1 (List.map eI r.by_), .fs 1 (List.map b2f r.next)] 0)
def b9g (at_ : Int) (c0 : control_plant) (c1 : List (List Literal)) (c2 : control_walk) : Option Bool :=
 (get c2.places at_).bind fun x3 =>
 (b6v c0.Plant c1 x3 0).bind fun y4 =>
 some y4
def c9w (O : Orac) : Prop := ∀ (at_ : Int) (c0 : control_plant) (c1 : List (List Literal)) (c2 : control_walk) (r : Bool) (hm0 : b9g at_ c0 c1 c2 = some r), Fn O "(newel/control.plant).breach$1" [I at_, .fp (vM c0.Plant.Machine) 0, .fp [.fs 1 (List.map b0t c1)] 0, .fp [.fp [.fs 3 (List.map b1g c2.places), .fs 1 (List.map eI c2.from_), .fs 1 (List.map eI c2.by_), .fs 1 (List.map b2f c2.next)] 0] 0] (B r)
def c9l (s_1 : List Int) : Option (List Int) :=
 some s_1
def c1j : ((List Int) × Int × Int) -> Option (Out ((List Int) × Int × Int) (((List Int))))
 | (s_0, i_2, j_3) =>
  if decide (i_2 < j_3) then
   (get s_0 j_3).bind fun x11 =>
   (get s_0 i_2).bind fun x13 =>
   (get (List.set s_0 (Int.toNat i_2) x11) j_3).bind fun x14 =>
   some (.nx ((List.set (List.set s_0 (Int.toNat i_2) x11) (Int.toNat j_3) x13), wr (i_2 + 1), wr (j_3 - 1)))
  else
   some (.br s_0)
def c48 (s : List Int) : Option (List Int) :=
 (b0w (c1j) (s, 0, wr ((List.length s : Int) - 1))).bind fun s_1 =>
 c9l s_1
def d00 (O : Orac) : Prop := ∀ (s : List Int) (v_0 : AV) (h0 : Heap) (ow_p0 : b2a h0 v_0 1 (List.map eI s)) (r : List Int) (hm0 : c48 s = some r), b6e O "slices.Reverse[[]int,int]" [v_0] h0 (fun v h => v = .tup [] /\ b2a h v_0 1 (List.map eI r) /\ (∀ j, j < h0.nx -> b07 v_0 j -> h.ob j = h0.ob j) /\ h0.nx <= h.nx)
def c57 (l_5 : List Int) : Option (List Int) :=
 (c48 l_5).bind fun y4 =>
 some y4
def b72 (w_ : control_walk) : (Int × (List Int)) -> Option (Out (Int × (List Int)) (((List Int))))
 | (at_1, l_5) =>
  (get w_.from_ at_1).bind fun x7 =>
  if decide (0 <= x7) then
   (get w_.by_ at_1).bind fun x13 =>
   (ap 8 l_5 ([x13])).bind fun l14 =>
   some (.nx (x7, l14))
  else
   some (.br l_5)
def b71 (w_ : control_walk) (at_ : Int) : Option (List Int) :=
 (b0w (b72 w_) (at_, [])).bind fun l_5 =>
 c57 l_5
def c9u (O : Orac) : Prop := ∀ (w_ : control_walk) (at_ : Int) (r : List Int) (hm0 : b71 w_ at_ = some r), Fn O "(*newel/control.walk).run" [.fp [.fs 3 (List.map b1g w_.places), .fs 1 (List.map eI w_.from_), .fs 1 (List.map eI w_.by_), .fs 1 (List.map b2f w_.next)] 0, I at_] (.fs 1 (List.map eI r))
def c56 : Option ((List Int) × Bool) :=
 some ([], false)
def b9f (w_ : control_walk) (wanted : Int -> Option Bool) : Int -> Option (Out Int (Unit ⊕ (((List Int) × Bool))))
 | x_12 =>
  if decide (x_12 < (List.length w_.places : Int)) then
   (wanted x_12).bind fun y8 =>
   if y8 then
    (b71 w_ x_12).bind fun y11 =>
    some (.br (.inr (y11, true)))
   else
    some (.nx (wr (x_12 + 1)))
  else
   some (.br (.inl ()))
def b9e (w_ : control_walk) (wanted : Int -> Option Bool) : Option ((List Int) × Bool) :=
 (b0w (b9f w_ wanted) (0)).bind fun
  | (.inl ()) => c56
  | (.inr r') => some r'
def c5d (O : Orac) : Prop := ∀ (w_ : control_walk) (wanted_n : String) (wanted_a wanted_b : List AV) (wanted : Int -> Option Bool) (wanted_z : Frz (.fn wanted_n wanted_a wanted_b)) (wanted_h : ∀ z0 y, wanted z0 = some y -> Fn O wanted_n (wanted_a ++ [I z0] ++ wanted_b) (B y)) (r : (List Int) × Bool) (hm0 : b9e w_ wanted = some r), Fn O "(*newel/control.walk).first" [.fp [.fs 3 (List.map b1g w_.places), .fs 1 (List.map eI w_.from_), .fs 1 (List.map eI w_.by_), .fs 1 (List.map b2f w_.next)] 0, .fn wanted_n wanted_a wanted_b] (.tup [.fs 1 (List.map eI r.1), B r.2])
def c1t (m : control_plant) (assume : List (List Literal)) (never : List (List Literal)) (heard : Int -> Option Int) : Option ((List Int) × Bool) :=
 (b9h m assume heard).bind fun y2 =>
 (b9e y2 (fun z5 => b9g z5 m never y2)).bind fun y6 =>
 some (y6.1, y6.2)
def c9v (O : Orac) : Prop := ∀ (m : control_plant) (assume : List (List Literal)) (never : List (List Literal)) (heard_n : String) (heard_a heard_b : List AV) (heard : Int -> Option Int) (heard_z : Frz (.fn heard_n heard_a heard_b)) (heard_h : ∀ z0 y, heard z0 = some y -> Fn O heard_n (heard_a ++ [I z0] ++ heard_b) (I y)) (r : (List Int) × Bool) (hm0 : c1t m assume never heard = some r), Fn O "(newel/control.plant).breach" [.agg (vM m.Plant.Machine), .fs 1 (List.map b0t assume), .fs 1 (List.map b0t never), .fn heard_n heard_a heard_b] (.tup [.fs 1 (List.map eI r.1), B r.2])
def c7n : Option Bool := some true
def d5r (O : Orac) : Prop := ∀ (r : Bool) (hm0 : c7n = some r), Fn O "newel/newellaw04.works" [] (B r)
def d4o : Option Int :=
 some 0
def p5t (m : Machine) (l : List (List (List Literal))) : Int -> Option (Out Int (Unit ⊕ Int))
 | i_6 =>
  if decide (i_6 < (List.length l : Int)) then
   (get l i_6).bind fun x13 =>
   (c04 m x13 true).bind fun y14 =>
   if !y14 then
    some (.br (.inr 42))
   else
    some (.nx (wr (i_6 + 1)))
  else
   some (.br (.inl ()))
def c0v (m : Machine) (l : List (List (List Literal))) : Option Int :=
 (c0u m).bind fun y2 =>
 if decide (¬y2 = 0) then
  some y2
 else
  (b0w (p5t m l) (0)).bind fun
   | (.inl ()) => d4o
   | (.inr r') => some r'
def c5l (O : Orac) : Prop := ∀ (m : Machine) (l : List (List (List Literal))) (r : Int) (hm0 : c0v m l = some r), Fn O "newel/newelref04.CheckConds" [.agg (vM m), .fs 1 (List.map b4v l)] (I r)
def c03 (m : Machine) : Option Int :=
 (shl .i64 1 (IntKind.wrap .u64 (List.length m.Inputs : Int))).bind fun q2 =>
 some q2
def b7q (l : Literal) (is_9 : Bool) : Option Bool :=
 some (!(b5c is_9 l.Not))
def c1a (m : Machine) (p : Place) (input : Int) (l : Literal) : Option Bool :=
 if decide (l.Kind = 1) then
  (shr .i64 input (IntKind.wrap .u64 l.Number)).bind fun q5 =>
  b7q l (decide ((b6y q5 1) = 1))
 else
  if decide (l.Kind = 2) then
   (get [p.Values.1, p.Values.2] l.Number).bind fun x8 =>
   b7q l (decide (l.Value <= x8))
  else
   if decide (l.Kind = 3) then
    b7q l (decide (p.State = l.Number))
   else
    if decide (l.Kind = 4) then
     (get m.States p.State).bind fun x13 =>
     (shr .i64 x13.Shows (IntKind.wrap .u64 l.Number)).bind fun q14 =>
     b7q l (decide ((b6y q14 1) = 1))
    else
     b7q l false
def d0h (O : Orac) : Prop := ∀ (m : Machine) (p : Place) (input : Int) (l : Literal) (r : Bool) (hm0 : c1a m p input l = some r), Fn O "newel/newelref04.literal" [.agg (vM m), .agg [I p.State, I p.Values.1, I p.Values.2], I input, .agg [I l.Kind, I l.Number, I l.Value, B l.Not]] (B r)
def d4q : Option Bool :=
 some false
def c8e (i_9 : Int) : Option (Out Int (Unit ⊕ Bool)) :=
 some (.nx (wr (i_9 + 1)))
def c8f (i_9 : Int) (all_10 : Bool) : Option (Out Int (Unit ⊕ Bool)) :=
 if all_10 then
  some (.br (.inr true))
 else
  c8e i_9
def c4e (m : Machine) (p : Place) (input : Int) (c : List (List Literal)) (i_9 : Int) : (Bool × Int) -> Option (Out (Bool × Int) Bool)
 | (all_10, k_11) =>
  (get c i_9).bind fun x13 =>
  if decide (k_11 < (List.length x13 : Int)) then
   (if all_10 then (get x13 k_11).bind fun x20 =>
   (c1a m p input x20).bind fun y21 =>
   some y21 else some false).bind fun c22 =>
   some (.nx (c22, wr (k_11 + 1)))
  else
   some (.br all_10)
def c4d (m : Machine) (p : Place) (input : Int) (c : List (List Literal)) : Int -> Option (Out Int (Unit ⊕ Bool))
 | i_9 =>
  if decide (i_9 < (List.length c : Int)) then
   (b0w (c4e m p input c i_9) (true, 0)).bind fun all_10 =>
   c8f i_9 all_10
  else
   some (.br (.inl ()))
def b7o (m : Machine) (p : Place) (input : Int) (c : List (List Literal)) : Option Bool :=
 (b0w (c4d m p input c) (0)).bind fun
  | (.inl ()) => d4q
  | (.inr r') => some r'
def b9a (O : Orac) : Prop := ∀ (m : Machine) (p : Place) (input : Int) (c : List (List Literal)) (r : Bool) (hm0 : b7o m p input c = some r), Fn O "newel/newelref04.Holds" [.agg (vM m), .agg [I p.State, I p.Values.1, I p.Values.2], I input, .fs 1 (List.map b0t c)] (B r)
def c0t (m : Machine) (p : Place) (input : Int) (assume : List (List Literal)) : Option Bool :=
 (if decide ((List.length assume : Int) = 0) then some true else (b7o m p input assume).bind fun y3 =>
 some y3).bind fun c4 =>
 some c4
def c5j (O : Orac) : Prop := ∀ (m : Machine) (p : Place) (input : Int) (assume : List (List Literal)) (r : Bool) (hm0 : c0t m p input assume = some r), Fn O "newel/newelref04.Allows" [.agg (vM m), .agg [I p.State, I p.Values.1, I p.Values.2], I input, .fs 1 (List.map b0t assume)] (B r)
def b6a (x : Int) (input : Int) (value : Int) : Option Int :=
 if decide (input < 0) then
  some x
 else
  (shl .i64 1 (IntKind.wrap .u64 input)).bind fun q4 =>
  if decide (value = 1) then
   some (bor x q4)
  else
   some (g6a x q4)
def d0e (O : Orac) : Prop := ∀ (x : Int) (input : Int) (value : Int) (r : Int) (hm0 : b6a x input value = some r), Fn O "newel/newelref04.Heard" [I x, I input, I value] (I r)
def c8i (p : Place) : Option Place :=
 some (Place.mk p.State (p.Values.1, p.Values.2))
def c8j (i_7 : Int) : Option (Out Int (Unit ⊕ Place)) :=
 some (.nx (wr (i_7 + 1)))
def c8h (x9 : Rule) (q_9_1 : Int) (q_9_2 : Int) : Option (Out Int (Unit ⊕ Place)) :=
 some (.br (.inr (Place.mk x9.To (q_9_1, q_9_2))))
def b8x (k_10 : Int) (q_9_1_1 : Int) (q_9_2_1 : Int) : Option (Out (Int × Int × Int) ((Int × Int))) :=
 some (.nx (q_9_1_1, q_9_2_1, wr (k_10 + 1)))
def c4f (m : Machine) (x9 : Rule) : (Int × Int × Int) -> Option (Out (Int × Int × Int) ((Int × Int)))
 | (q_9_1, q_9_2, k_10) =>
  if decide (k_10 < (List.length x9.Sets : Int)) then
   (get x9.Sets k_10).bind fun x26 =>
   if decide (x26.Kind = 1) then
    (get [q_9_1, q_9_2] x26.Counter).bind fun x29 =>
    b8x k_10 (b1n x26.Counter 0 0 q_9_1) (b1n x26.Counter 1 0 q_9_2)
   else
    if decide (x26.Kind = 2) then
     (get [q_9_1, q_9_2] x26.Counter).bind fun x33 =>
     (get m.Counters x26.Counter).bind fun x34 =>
     b8x k_10 (b1n x26.Counter 0 (mn (wr (x33 + 1)) x34.Max) q_9_1) (b1n x26.Counter 1 (mn (wr (x33 + 1)) x34.Max) q_9_2)
    else
     if decide (x26.Kind = 3) then
      (get [q_9_1, q_9_2] x26.Counter).bind fun x37 =>
      b8x k_10 (b1n x26.Counter 0 (mx (wr (x37 - 1)) 0) q_9_1) (b1n x26.Counter 1 (mx (wr (x37 - 1)) 0) q_9_2)
     else
      b8x k_10 q_9_1 q_9_2
  else
   some (.br (q_9_1, q_9_2))
def c8g (m : Machine) (p : Place) (input : Int) : Int -> Option (Out Int (Unit ⊕ Place))
 | i_7 =>
  if decide (i_7 < (List.length m.Rules : Int)) then
   (get m.Rules i_7).bind fun x9 =>
   (if (decide (0 <= x9.From)) && (decide (¬x9.From = p.State)) then some true else (b7o m p input x9.When).bind fun y12 =>
   some (!y12)).bind fun c13 =>
   if c13 then
    c8j i_7
   else
    (b0w (c4f m x9) (p.Values.1, p.Values.2, 0)).bind fun
     | (q_9_1, q_9_2) => c8h x9 q_9_1 q_9_2
  else
   some (.br (.inl ()))
def c0w (m : Machine) (p : Place) (input : Int) : Option Place :=
 (b0w (c8g m p input) (0)).bind fun
  | (.inl ()) => c8i p
  | (.inr r') => some r'
@[go_sem ↓ high, go_sem high] theorem o5d {k : AV -> Prop} (a b : Place) : @b2g .eql (.flat [.i, .i, .i]) (.agg [I a.State, I a.Values.1, I a.Values.2]) (.agg [I b.State, I b.Values.1, I b.Values.2]) ⟨k⟩ = k (B (decide (a = b))) := d8r rfl rfl (b3u (b3u (b3u c61))) (by
 obtain ⟨a1, ⟨a2, a3⟩⟩ := a; obtain ⟨b4, ⟨b5, b6⟩⟩ := b
 rw [Bool.eq_iff_iff]; simp only [Bool.and_eq_true, decide_eq_true_eq, and_true]
 constructor
 ·rintro ⟨rfl, rfl, rfl⟩; rfl
 ·intro h; cases h; exact ⟨rfl, rfl, rfl⟩)
@[go_sem ↓ high, go_sem high] theorem o5f {k : AV -> Prop} (a b : Place) : @b2g .neq (.flat [.i, .i, .i]) (.agg [I a.State, I a.Values.1, I a.Values.2]) (.agg [I b.State, I b.Values.1, I b.Values.2]) ⟨k⟩ = k (B (!(decide (a = b)))) := d80 rfl rfl (b3u (b3u (b3u c61))) (by
 obtain ⟨a1, ⟨a2, a3⟩⟩ := a; obtain ⟨b4, ⟨b5, b6⟩⟩ := b
 rw [Bool.eq_iff_iff]; simp only [Bool.and_eq_true, decide_eq_true_eq, and_true]
 constructor
 ·rintro ⟨rfl, rfl, rfl⟩; rfl
 ·intro h; cases h; exact ⟨rfl, rfl, rfl⟩)
def d4t : Option Int :=
 some (-1)
def c09 (l : List Place) (p : Place) : Int -> Option (Out Int (Unit ⊕ Int))
 | i_5 =>
  if decide (i_5 < (List.length l : Int)) then
   (get l i_5).bind fun x8 =>
   if decide (x8 = p) then
    some (.br (.inr i_5))
   else
    some (.nx (wr (i_5 + 1)))
  else
   some (.br (.inl ()))
def c08 (l : List Place) (p : Place) : Option Int :=
 (b0w (c09 l p) (0)).bind fun
  | (.inl ()) => d4t
  | (.inr r') => some r'
structure r04_graph where
 places : List Place
 back : List Int
 input : List Int
 deriving Inhabited, DecidableEq
def c8q (g_9_0 : List Place) (g_9_1 : List Int) (g_9_2 : List Int) : Option r04_graph :=
 some (r04_graph.mk g_9_0 g_9_1 g_9_2)
def c8r (i_10 : Int) (g_9_0_1 : List Place) (g_9_1_1 : List Int) (g_9_2_1 : List Int) : Option (Out ((List Place) × (List Int) × (List Int) × Int) (((List Place) × (List Int) × (List Int)))) :=
 some (.nx (g_9_0_1, g_9_1_1, g_9_2_1, wr (i_10 + 1)))
def c07 (x_11 : Int) (g_9_0_2 : List Place) (g_9_1_2 : List Int) (g_9_2_2 : List Int) : Option (Out ((List Place) × (List Int) × (List Int) × Int) (((List Place) × (List Int) × (List Int)))) :=
 some (.nx (g_9_0_2, g_9_1_2, g_9_2_2, wr (x_11 + 1)))
def c4k (m : Machine) (assume : List (List Literal)) (input : Int) (value : Int) (i_10 : Int) : ((List Place) × (List Int) × (List Int) × Int) -> Option (Out ((List Place) × (List Int) × (List Int) × Int) (((List Place) × (List Int) × (List Int))))
 | (g_9_0_1, g_9_1_1, g_9_2_1, x_11) =>
  (c03 m).bind fun y10 =>
  if decide (x_11 < y10) then
   (get g_9_0_1 i_10).bind fun x17 =>
   (c0t m x17 x_11 assume).bind fun y18 =>
   if !y18 then
    c07 x_11 g_9_0_1 g_9_1_1 g_9_2_1
   else
    (b6a x_11 input value).bind fun y23 =>
    (c0w m x17 y23).bind fun y24 =>
    (c08 g_9_0_1 (Place.mk y24.State (y24.Values.1, y24.Values.2))).bind fun y26 =>
    if decide (y26 < 0) then
     (ap 24 g_9_0_1 ([(Place.mk y24.State (y24.Values.1, y24.Values.2))])).bind fun l29 =>
     (ap 8 g_9_1_1 ([i_10])).bind fun l31 =>
     (ap 8 g_9_2_1 ([x_11])).bind fun l33 =>
     c07 x_11 l29 l31 l33
    else
     c07 x_11 g_9_0_1 g_9_1_1 g_9_2_1
  else
   some (.br (g_9_0_1, g_9_1_1, g_9_2_1))
def c06 (m : Machine) (assume : List (List Literal)) (input : Int) (value : Int) : ((List Place) × (List Int) × (List Int) × Int) -> Option (Out ((List Place) × (List Int) × (List Int) × Int) (((List Place) × (List Int) × (List Int))))
 | (g_9_0, g_9_1, g_9_2, i_10) =>
  if decide (i_10 < ((List.length g_9_0 : Nat) : Int)) then
   (b0w (c4k m assume input value i_10) (g_9_0, g_9_1, g_9_2, 0)).bind fun
    | (g_9_0_1, g_9_1_1, g_9_2_1) => c8r i_10 g_9_0_1 g_9_1_1 g_9_2_1
  else
   some (.br (g_9_0, g_9_1, g_9_2))
def b8z (m : Machine) (assume : List (List Literal)) (input : Int) (value : Int) : Option r04_graph :=
 (b0w (c06 m assume input value) ([(Place.mk 0 (0, 0))], [(-1)], [0], 0)).bind fun
  | (g_9_0, g_9_1, g_9_2) => c8q g_9_0 g_9_1 g_9_2
structure l04_Conds where
 Assume : List (List Literal)
 Never : List (List Literal)
 deriving Inhabited, DecidableEq
def b15 (n : Int) (c0 : Int) (c1 : Int) : Option Int :=
 (shl .i64 1 c0).bind fun q3 =>
 (shl .i64 c1 c0).bind fun q4 =>
 some (bor (g6a n q3) q4)
def o5x (O : Orac) : Prop := ∀ (n : Int) (c0 : Int) (c1 : Int) (r : Int) (hm0 : b15 n c0 c1 = some r), Fn O "newel/control.Stuck$1" [I n, .fp [I c0] 0, .fp [I c1] 0] (I r)
def c58 : Option (Int × Int × (List Int) × Bool × Int) :=
 some (0, 0, [], false, 0)
def c41 (x_24 : Int) : Option (Out Int (Unit ⊕ ((Int × Int × (List Int) × Bool × Int)))) :=
 some (.nx (wr (x_24 + 1)))
def b19 (m : Machine) (assume : List (List Literal)) (never : List (List Literal)) (x_24 : Int) : Int -> Option (Out Int (Unit ⊕ ((Int × Int × (List Int) × Bool × Int))))
 | x_27 =>
  if decide (x_27 < 2) then
   (c1t (b3h m) assume never (fun z18 => b15 z18 x_24 x_27)).bind fun y19 =>
   if y19.2 then
    some (.br (.inr (x_24, x_27, y19.1, true, 0)))
   else
    some (.nx (wr (x_27 + 1)))
  else
   some (.br (.inl ()))
def b25 (m : Machine) (assume : List (List Literal)) (never : List (List Literal)) : Int -> Option (Out Int (Unit ⊕ ((Int × Int × (List Int) × Bool × Int))))
 | x_24 =>
  if decide (x_24 < (List.length m.Inputs : Int)) then
   (b0w (b19 m assume never x_24) (0)).bind fun
    | (.inl ()) => c41 x_24
    | (.inr r') => some (.br (.inr r'))
  else
   some (.br (.inl ()))
def b35 (m : Machine) (assume : List (List Literal)) (never : List (List Literal)) : Option (Int × Int × (List Int) × Bool × Int) :=
 (b9x m ([assume, never])).bind fun y2 =>
 if decide (¬y2 = 0) then
  some (0, 0, [], false, y2)
 else
  (b0w (b25 m assume never) (0)).bind fun
   | (.inl ()) => c58
   | (.inr r') => some r'
def o5w (O : Orac) : Prop := ∀ (m : Machine) (assume : List (List Literal)) (never : List (List Literal)) (r : Int × Int × (List Int) × Bool × Int) (hm0 : b35 m assume never = some r), Fn O "newel/control.Stuck" [.agg (vM m), .fs 1 (List.map b0t assume), .fs 1 (List.map b0t never)] (.tup [I r.1, I r.2.1, .fs 1 (List.map eI r.2.2.1), B r.2.2.2.1, I r.2.2.2.2])
def c6e (out_5 : List Int) : Option (List Int) :=
 some out_5
def b73 (g : r04_graph) : (Int × (List Int)) -> Option (Out (Int × (List Int)) (((List Int))))
 | (i_1, out_5) =>
  if decide (0 < i_1) then
   (get g.input i_1).bind fun x9 =>
   (ap 8 ([x9]) out_5).bind fun l10 =>
   (get g.back i_1).bind fun x12 =>
   some (.nx (x12, l10))
  else
   some (.br out_5)
def b4c (g : r04_graph) (i : Int) : Option (List Int) :=
 (b0w (b73 g) (i, [])).bind fun out_5 =>
 c6e out_5
def c6d : Option ((List Int) × Bool) :=
 some ([], false)
def c6c (g : r04_graph) (m : Machine) (never : List (List Literal)) : Int -> Option (Out Int (Unit ⊕ (((List Int) × Bool))))
 | i_8 =>
  if decide (i_8 < (List.length g.places : Int)) then
   (get g.places i_8).bind fun x9 =>
   (b7o m x9 0 never).bind fun y10 =>
   if y10 then
    (b4c g i_8).bind fun y13 =>
    some (.br (.inr (y13, true)))
   else
    some (.nx (wr (i_8 + 1)))
  else
   some (.br (.inl ()))
def c1x (g : r04_graph) (m : Machine) (never : List (List Literal)) : Option ((List Int) × Bool) :=
 (b0w (c6c g m never) (0)).bind fun
  | (.inl ()) => c6d
  | (.inr r') => some r'
def o5v : Option (Int × Int × (List Int) × Bool × Int) :=
 some (0, 0, [], false, 0)
def o5u (i_12 : Int) : Option (Out Int (Unit ⊕ ((Int × Int × (List Int) × Bool × Int)))) :=
 some (.nx (wr (i_12 + 1)))
def b24 (m : Machine) (assume : List (List Literal)) (never : List (List Literal)) (i_12 : Int) : Int -> Option (Out Int (Unit ⊕ ((Int × Int × (List Int) × Bool × Int))))
 | value_13 =>
  if decide (value_13 < 2) then
   (b8z m assume i_12 value_13).bind fun y17 =>
   (c1x y17 m never).bind fun y19 =>
   if y19.2 then
    some (.br (.inr (i_12, value_13, y19.1, true, 0)))
   else
    some (.nx (wr (value_13 + 1)))
  else
   some (.br (.inl ()))
def b30 (m : Machine) (assume : List (List Literal)) (never : List (List Literal)) : Int -> Option (Out Int (Unit ⊕ ((Int × Int × (List Int) × Bool × Int))))
 | i_12 =>
  if decide (i_12 < (List.length m.Inputs : Int)) then
   (b0w (b24 m assume never i_12) (0)).bind fun
    | (.inl ()) => o5u i_12
    | (.inr r') => some (.br (.inr r'))
  else
   some (.br (.inl ()))
def c38 (m : Machine) (assume : List (List Literal)) (never : List (List Literal)) : Option (Int × Int × (List Int) × Bool × Int) :=
 (c0v m ([assume, never])).bind fun y2 =>
 if decide (¬y2 = 0) then
  some (0, 0, [], false, y2)
 else
  (b0w (b30 m assume never) (0)).bind fun
   | (.inl ()) => o5v
   | (.inr r') => some r'
def o73 (m : situation_Plant) (p : Place) : Option Bool :=
 some (b2q p.State 0 (wr ((List.length m.Machine.States : Int) - 1)))
def o7u (x_10 : Int) (x8 : Int) (most_7 : Int) : Option (Out Int (Unit ⊕ Bool)) :=
 if !(b2q x8 0 most_7) then
  some (.br (.inr false))
 else
  some (.nx (wr (x_10 + 1)))
def o7t (m : situation_Plant) (p : Place) : Int -> Option (Out Int (Unit ⊕ Bool))
 | x_10 =>
  if decide (x_10 < 2) then
   (get [p.Values.1, p.Values.2] x_10).bind fun x8 =>
   if decide (x_10 < (List.length m.Machine.Counters : Int)) then
    (get m.Machine.Counters x_10).bind fun x14 =>
    o7u x_10 x8 x14.Max
   else
    o7u x_10 x8 0
  else
   some (.br (.inl ()))
def o7s (m : situation_Plant) (p : Place) : Option Bool :=
 (b0w (o7t m p) (0)).bind fun
  | (.inl ()) => o73 m p
  | (.inr r') => some r'
def o8b (O : Orac) : Prop := ∀ (m : situation_Plant) (p : Place) (r : Bool) (hm0 : o7s m p = some r), Fn O "(newel/situation.Plant).Place" [.agg (vM m.Machine), .agg [I p.State, I p.Values.1, I p.Values.2]] (B r)
def p2c (m : situation_Plant) (n : Int) : Option Bool :=
 (c1y m).bind fun y2 =>
 some (b2q n 0 (wr (y2 - 1)))
def p2o (O : Orac) : Prop := ∀ (m : situation_Plant) (n : Int) (r : Bool) (hm0 : p2c m n = some r), Fn O "(newel/situation.Plant).Input" [.agg (vM m.Machine), I n] (B r)
def p2f (m : Machine) (p : Place) (input : Int) : Option (Place × Int) :=
 (c2f m).bind fun y2 =>
 if decide (¬y2 = 0) then
  some ((Place.mk 0 (0, 0)), y2)
 else
  (o7s (situation_Plant.mk (((b3h m).Plant).Machine)) p).bind fun y8 =>
  (if !y8 then some true else (p2c (situation_Plant.mk (((b3h m).Plant).Machine)) input).bind fun y9 =>
  some (!y9)).bind fun c10 =>
  if c10 then
   some ((Place.mk 0 (0, 0)), 1)
  else
   (r7y (situation_Plant.mk (((b3h m).Plant).Machine)) p input).bind fun y15 =>
   some ((Place.mk y15.State (y15.Values.1, y15.Values.2)), 0)
def p2q (O : Orac) : Prop := ∀ (m : Machine) (p : Place) (input : Int) (r : Place × Int) (hm0 : p2f m p input = some r), Fn O "newel/control.Step" [.agg (vM m), .agg [I p.State, I p.Values.1, I p.Values.2], I input] (.tup [.agg [I r.1.State, I r.1.Values.1, I r.1.Values.2], I r.2])
def o77 : Option Bool :=
 some true
def o70 (p : Place) (i_5 : Int) (most_6 : Int) : Option (Out Int (Unit ⊕ Bool)) :=
 (get [p.Values.1, p.Values.2] i_5).bind fun x12 =>
 if !(b2b x12 0 most_6) then
  some (.br (.inr false))
 else
  some (.nx (wr (i_5 + 1)))
def o7z (m : Machine) (p : Place) : Int -> Option (Out Int (Unit ⊕ Bool))
 | i_5 =>
  if decide (i_5 < 2) then
   if decide (i_5 < (List.length m.Counters : Int)) then
    (get m.Counters i_5).bind fun x16 =>
    o70 p i_5 x16.Max
   else
    o70 p i_5 0
  else
   some (.br (.inl ()))
def o7y (m : Machine) (p : Place) : Option Bool :=
 if !(b2b p.State 0 (wr ((List.length m.States : Int) - 1))) then
  some false
 else
  (b0w (o7z m p) (0)).bind fun
   | (.inl ()) => o77
   | (.inr r') => some r'
def o8d (O : Orac) : Prop := ∀ (m : Machine) (p : Place) (r : Bool) (hm0 : o7y m p = some r), Fn O "newel/newelref04.IsPlace" [.agg (vM m), .agg [I p.State, I p.Values.1, I p.Values.2]] (B r)
def p2l (out_12 : List Place) : Option ((List Place) × Bool) :=
 some (out_12, true)
def p19 (m : Machine) (inputs : List Int) (assume : List (List Literal)) (input : Int) (value : Int) : ((List Place) × Int) -> Option (Out ((List Place) × Int) (((List Place)) ⊕ (((List Place) × Bool))))
 | (out_12, i_13) =>
  if decide (i_13 < (List.length inputs : Int)) then
   (get out_12 i_13).bind fun x8 =>
   (get inputs i_13).bind fun x14 =>
   (if decide (x14 < 0) then some true else (shl .i64 1 (IntKind.wrap .u64 (List.length m.Inputs : Int))).bind fun q15 =>
   some (decide (q15 <= x14))).bind fun c16 =>
   (if c16 then some true else (c0t m (Place.mk x8.State (x8.Values.1, x8.Values.2)) x14 assume).bind fun y17 =>
   some (!y17)).bind fun c18 =>
   if c18 then
    some (.br (.inr ([], false)))
   else
    (b6a x14 input value).bind fun y25 =>
    (p2f m (Place.mk x8.State (x8.Values.1, x8.Values.2)) y25).bind fun y26 =>
    (if decide (¬y26.2 = 0) then some true else (o7y m (Place.mk y26.1.State (y26.1.Values.1, y26.1.Values.2))).bind fun y29 =>
    some (!y29)).bind fun c30 =>
    if c30 then
     some (.br (.inr ([], false)))
    else
     (ap 24 out_12 ([(Place.mk y26.1.State (y26.1.Values.1, y26.1.Values.2))])).bind fun l35 =>
     some (.nx (l35, wr (i_13 + 1)))
  else
   some (.br (.inl out_12))
def p16 (m : Machine) (inputs : List Int) (assume : List (List Literal)) (input : Int) (value : Int) : Option ((List Place) × Bool) :=
 (b0w (p19 m inputs assume input value) ([(Place.mk 0 (0, 0))], 0)).bind fun
  | (.inl out_12) => p2l out_12
  | (.inr r') => some r'
def p2r (O : Orac) : Prop := ∀ (m : Machine) (inputs : List Int) (assume : List (List Literal)) (input : Int) (value : Int) (r : (List Place) × Bool) (hm0 : p16 m inputs assume input value = some r), Fn O "newel/newellaw04.played" [.agg (vM m), .fs 1 (List.map eI inputs), .fs 1 (List.map b0t assume), I input, I value] (.tup [.fs 3 (List.map b1g r.1), B r.2])
structure l04_Pinned where
 Run : List Int
 Input : Int
 Value : Int
 deriving Inhabited, DecidableEq
def p5v : Option Bool :=
 (c7n).bind fun y50 =>
 some y50
def l11 (m : Machine) (c : l04_Conds) (y46 : (List Place) × Bool) : Int -> Option (Out Int (Unit ⊕ Bool))
 | i_16 =>
  if y46.2 && (decide (i_16 < (List.length y46.1 : Int))) then
   (get y46.1 i_16).bind fun x58 =>
   (b7o m x58 0 c.Never).bind fun y59 =>
   if y59 then
    some (.br (.inr false))
   else
    some (.nx (wr (i_16 + 1)))
  else
   some (.br (.inl ()))
def l12 (m : Machine) (c : l04_Conds) (x : l04_Pinned) : Option Bool :=
 (b8o m).bind fun y4 =>
 (if y4 then some true else (c0v m ([c.Assume, c.Never])).bind fun y5 =>
 some (decide (¬y5 = 0))).bind fun c6 =>
 if c6 || (decide (60 < (List.length x.Run : Int))) then
  (c7n).bind fun y12 =>
  some y12
 else
  (b35 m c.Assume c.Never).bind fun y14 =>
  if decide (¬y14.2.2.2.2 = 0) then
   some false
  else
   if y14.2.2.2.1 then
    if (((decide (y14.1 < 0)) || (decide ((List.length m.Inputs : Int) <= y14.1))) || (decide (y14.2.1 < 0))) || (decide (1 < y14.2.1)) then
     some false
    else
     (p16 m y14.2.2.1 c.Assume y14.1 y14.2.1).bind fun y25 =>
     (if y25.2 then (get y25.1 (wr ((List.length y25.1 : Int) - 1))).bind fun x31 =>
     (b7o m x31 0 c.Never).bind fun y32 =>
     some y32 else some false).bind fun c33 =>
     (if c33 then (c7n).bind fun y34 =>
     some y34 else some false).bind fun c35 =>
     some c35
   else
    if (((decide (x.Input < 0)) || (decide ((List.length m.Inputs : Int) <= x.Input))) || (decide (x.Value < 0))) || (decide (1 < x.Value)) then
     (c7n).bind fun y44 =>
     some y44
    else
     (p16 m x.Run c.Assume x.Input x.Value).bind fun y46 =>
     (b0w (l11 m c y46) (0)).bind fun
      | (.inl ()) => p5v
      | (.inr r') => some r'
def p5x (O : Orac) : Prop := ∀ (m : Machine) (c : l04_Conds) (x : l04_Pinned) (r : Bool) (hm0 : l12 m c x = some r), Fn O "newel/newellaw04.ControlStays" [.agg (vM m), .agg [.fs 1 (List.map b0t c.Assume), .fs 1 (List.map b0t c.Never)], .agg [.fs 1 (List.map eI x.Run), I x.Input, I x.Value]] (B r)
def p3f (m : Machine) (p : Place) (input : Int) : Option (Place × Int) :=
 (c0u m).bind fun y2 =>
 if decide (¬y2 = 0) then
  some ((Place.mk 0 (0, 0)), y2)
 else
  (o7y m p).bind fun y8 =>
  (if !y8 then some true else (c03 m).bind fun y9 =>
  some (!(b2b input 0 (wr (y9 - 1))))).bind fun c10 =>
  if c10 then
   some ((Place.mk 0 (0, 0)), 1)
  else
   (c0w m p input).bind fun y15 =>
   some ((Place.mk y15.State (y15.Values.1, y15.Values.2)), 0)
structure control_pair where
 a : Place
 b : Place
 deriving Inhabited, DecidableEq
@[go_sem] def d7o (x : control_pair) : List AV := [I x.a.State, I x.a.Values.1, I x.a.Values.2, I x.b.State, I x.b.Values.1, I x.b.Values.2]
@[go_sem] theorem o5r {l : List control_pair} {n : Nat} {a0 : Int} {a1 : Int} {a2 : Int} {a3 : Int} {a4 : Int} {a5 : Int} : (List.map d7o l).set n [I a0, I a1, I a2, I a3, I a4, I a5] = List.map d7o (l.set n (control_pair.mk (Place.mk a0 (a1, a2)) (Place.mk a3 (a4, a5)))) := by rw [List.map_set]; rfl
structure r04_pair where
 a : Place
 b : Place
 deriving Inhabited, DecidableEq
@[go_sem] def d7t (x : r04_pair) : List AV := [I x.a.State, I x.a.Values.1, I x.a.Values.2, I x.b.State, I x.b.Values.1, I x.b.Values.2]
@[go_sem] theorem o5s {l : List r04_pair} {n : Nat} {a0 : Int} {a1 : Int} {a2 : Int} {a3 : Int} {a4 : Int} {a5 : Int} : (List.map d7t l).set n [I a0, I a1, I a2, I a3, I a4, I a5] = List.map d7t (l.set n (r04_pair.mk (Place.mk a0 (a1, a2)) (Place.mk a3 (a4, a5)))) := by rw [List.map_set]; rfl
@[go_sem ↓ high, go_sem high] theorem o5e {k : AV -> Prop} (a b : r04_pair) : @b2g .eql (.flat [.i, .i, .i, .i, .i, .i]) (.agg [I a.a.State, I a.a.Values.1, I a.a.Values.2, I a.b.State, I a.b.Values.1, I a.b.Values.2]) (.agg [I b.a.State, I b.a.Values.1, I b.a.Values.2, I b.b.State, I b.b.Values.1, I b.b.Values.2]) ⟨k⟩ = k (B (decide (a = b))) := d8r rfl rfl (b3u (b3u (b3u (b3u (b3u (b3u c61)))))) (by
 obtain ⟨⟨a1, ⟨a2, a3⟩⟩, ⟨a4, ⟨a5, a6⟩⟩⟩ := a; obtain ⟨⟨b7, ⟨b8, b9⟩⟩, ⟨b10, ⟨b11, b12⟩⟩⟩ := b
 rw [Bool.eq_iff_iff]; simp only [Bool.and_eq_true, decide_eq_true_eq, and_true]
 constructor
 ·rintro ⟨rfl, rfl, rfl, rfl, rfl, rfl⟩; rfl
 ·intro h; cases h; exact ⟨rfl, rfl, rfl, rfl, rfl, rfl⟩)
@[go_sem ↓ high, go_sem high] theorem o5g {k : AV -> Prop} (a b : r04_pair) : @b2g .neq (.flat [.i, .i, .i, .i, .i, .i]) (.agg [I a.a.State, I a.a.Values.1, I a.a.Values.2, I a.b.State, I a.b.Values.1, I a.b.Values.2]) (.agg [I b.a.State, I b.a.Values.1, I b.a.Values.2, I b.b.State, I b.b.Values.1, I b.b.Values.2]) ⟨k⟩ = k (B (!(decide (a = b)))) := d80 rfl rfl (b3u (b3u (b3u (b3u (b3u (b3u c61)))))) (by
 obtain ⟨⟨a1, ⟨a2, a3⟩⟩, ⟨a4, ⟨a5, a6⟩⟩⟩ := a; obtain ⟨⟨b7, ⟨b8, b9⟩⟩, ⟨b10, ⟨b11, b12⟩⟩⟩ := b
 rw [Bool.eq_iff_iff]; simp only [Bool.and_eq_true, decide_eq_true_eq, and_true]
 constructor
 ·rintro ⟨rfl, rfl, rfl, rfl, rfl, rfl⟩; rfl
 ·intro h; cases h; exact ⟨rfl, rfl, rfl, rfl, rfl, rfl⟩)
structure l04_Claim where
 Run : List Int
 Places : List Place
 deriving Inhabited, DecidableEq
end
end Go.Nw.KM
