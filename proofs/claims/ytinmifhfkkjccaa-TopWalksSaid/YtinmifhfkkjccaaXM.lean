/- Models of functions: printed by gen.py. -/
import Derived.Test.YtinmifhfkkjccaaNwMaps
import Derived.Test.YtinmifhfkkjccaaNwOwnM
import Derived.Test.YtinmifhfkkjccaaNwTp3Src
set_option linter.all false
namespace Go.Nw.XM
noncomputable section
open Go.Nw.Tp3
set_option maxHeartbeats 4000000
theorem lA9 {α : Type} {l m : List α} : (l ++ m).length = l.length + m.length := List.length_append
theorem mA9 {α β : Type} {f : α → β} {l m : List α} : List.map f (l ++ m) = List.map f l ++ List.map f m := List.map_append
theorem oF9 {a b : Bool} : (a || b) = false ↔ a = false ∧ b = false := Bool.or_eq_false_iff
theorem nF9 : (¬False) = True := not_false_eq_true
theorem bF9 {α : Type} [BEq α] [LawfulBEq α] {a b : α} : (a == b) = false ↔ a ≠ b := beq_eq_false_iff_ne
theorem sI9 {α : Type} {a b : α} (h : some a = some b) : a = b := Option.some.inj h
theorem va9 {p : Prop} (h : p := by first | (simp only [go_sem, List.length_append, List.map_append]; done) | rfl) : p := h
theorem vb9 {p : Prop} (h : p := by first | exact b1w | exact b1y (by first | assumption | omega | (simp only [nxs] <;> omega)) | assumption | exact b1v (by assumption) (by first | assumption | omega | (simp only [nxs] <;> omega))) : p := h
theorem vc9 {p : Prop} (h : p := by simp only [go_sem, List.length_append, List.map_append]) : p := h
theorem vd9 {p : Prop} (h : p := by first | first | assumption | omega | (simp only [nxs] <;> omega)) : p := h
theorem ve9 {p : Prop} (h : p := by first | exact b1w | exact b1y (by first | omega | (simp only [nxs] <;> omega)) | assumption | exact b1v (by assumption) (by first | omega | (simp only [go_sem, nxs] <;> omega))) : p := h
theorem vf9 {p : Prop} (h : p := by first | rfl | simp only [go_sem, List.length_append, List.map_append]) : p := h
theorem vg9 {p : Prop} (h : p := by simp only [go_sem]) : p := h
variable {O : Orac} [MapsOk O]
structure Brake where
 Force : Int
 Delay : Int
 deriving Inhabited, DecidableEq
structure Escalator where
 Up : Bool
 Empty : Int
 Pull : Int
 Drag : Int
 Motor : Int
 Brakes : List Brake
 deriving Inhabited, DecidableEq
@[go_sem] def J1g (x : Brake) : List AV := [I x.Force, I x.Delay]
@[go_sem] theorem J7i {l : List Brake} {n : Nat} {a0 : Int} {a1 : Int} : (List.map J1g l).set n [I a0, I a1] = List.map J1g (l.set n (Brake.mk a0 a1)) := by rw [List.map_set]; rfl
structure Span where
 Low : Int
 High : Int
 deriving Inhabited, DecidableEq
structure Stop where
 Speed : Int
 Loads : Span
 Fail : Int
 deriving Inhabited, DecidableEq
structure drive_motion where
 e : Escalator
 s : Stop
 speed : Int
 time : Int
 deriving Inhabited, DecidableEq
structure drive_stopped where
 way : Int
 loads : List Int
 rests : Bool
 deriving Inhabited, DecidableEq
def x28 : Option Bool := some true
def x87 (O : Orac) : Prop := ∀ (r : Bool) (hm0 : x28 = some r), Fn O "newel/neweltop.measures" [] (B r)
structure Counter where
 Name : ByteArray
 Max : Int
 deriving Inhabited, DecidableEq
structure State where
 Name : ByteArray
 Shows : Int
 deriving Inhabited, DecidableEq
structure Literal where
 Kind : Int
 Number : Int
 Value : Int
 Not : Bool
 deriving Inhabited, DecidableEq
structure Set where
 Kind : Int
 Counter : Int
 deriving Inhabited, DecidableEq
structure Rule where
 From : Int
 To : Int
 When : List (List Literal)
 Sets : List Set
 deriving Inhabited, DecidableEq
structure Machine where
 Inputs : List ByteArray
 Outputs : List ByteArray
 Counters : List Counter
 States : List State
 Rules : List Rule
 deriving Inhabited, DecidableEq
@[go_sem] def b2o (x : Set) : List AV := [I x.Kind, I x.Counter]
theorem d14 (x : Set) : ∀ c ∈ b2o x, Frz c := (b0a (b0e _) (b0a (b0e _) b0j))
@[go_sem] theorem o5p {l : List Set} {n : Nat} {a0 : Int} {a1 : Int} : (List.map b2o l).set n [I a0, I a1] = List.map b2o (l.set n (Set.mk a0 a1)) := by rw [List.map_set]; rfl
@[go_sem] def b3k (x : Literal) : List AV := [I x.Kind, I x.Number, I x.Value, B x.Not]
theorem c2w (x : Literal) : ∀ c ∈ b3k x, Frz c := (b0a (b0e _) (b0a (b0e _) (b0a (b0e _) (b0a (b0e _) b0j))))
theorem j7o (x : Literal) : (b3k x).length = 4 := rfl
@[go_sem] theorem o5m {l : List Literal} {n : Nat} {a0 : Int} {a1 : Int} {a2 : Int} {a3 : Bool} : (List.map b3k l).set n [I a0, I a1, I a2, B a3] = List.map b3k (l.set n (Literal.mk a0 a1 a2 a3)) := by rw [List.map_set]; rfl
@[go_sem] def b0t (x : List Literal) : List AV := [.fs 4 (List.map b3k x)]
theorem b2j (x : List Literal) : ∀ c ∈ b0t x, Frz c := (b0a (b0c fun a _ => c2w a) b0j)
theorem g1d (x : List Literal) : (b0t x).length = 1 := rfl
@[go_sem] theorem o5k {l : List (List Literal)} {n : Nat} {a0 : List Literal} : (List.map b0t l).set n [.fs 4 (List.map b3k a0)] = List.map b0t (l.set n a0) := by rw [List.map_set]; rfl
@[go_sem] def b0m (x : Rule) : List AV := [I x.From, I x.To, .fs 1 (List.map b0t x.When), .fs 2 (List.map b2o x.Sets)]
theorem b1r (x : Rule) : ∀ c ∈ b0m x, Frz c := (b0a (b0e _) (b0a (b0e _) (b0a (b0c fun a _ => b2j a) (b0a (b0c fun a _ => d14 a) b0j))))
theorem j7p (x : Rule) : (b0m x).length = 4 := rfl
@[go_sem] theorem o5o {l : List Rule} {n : Nat} {a0 : Int} {a1 : Int} {a2 : List (List Literal)} {a3 : List Set} : (List.map b0m l).set n [I a0, I a1, .fs 1 (List.map b0t a2), .fs 2 (List.map b2o a3)] = List.map b0m (l.set n (Rule.mk a0 a1 a2 a3)) := by rw [List.map_set]; rfl
@[go_sem] def b0p (x : State) : List AV := [.v (.string x.Name), I x.Shows]
theorem b1s (x : State) : ∀ c ∈ b0p x, Frz c := (b0a (b0e _) (b0a (b0e _) b0j))
theorem j7r (x : State) : (b0p x).length = 2 := rfl
@[go_sem] theorem o5q {l : List State} {n : Nat} {a0 : ByteArray} {a1 : Int} : (List.map b0p l).set n [.v (.string a0), I a1] = List.map b0p (l.set n (State.mk a0 a1)) := by rw [List.map_set]; rfl
@[go_sem] def b0o (x : Counter) : List AV := [.v (.string x.Name), I x.Max]
theorem b1q (x : Counter) : ∀ c ∈ b0o x, Frz c := (b0a (b0e _) (b0a (b0e _) b0j))
@[go_sem] theorem o5h {l : List Counter} {n : Nat} {a0 : ByteArray} {a1 : Int} : (List.map b0o l).set n [.v (.string a0), I a1] = List.map b0o (l.set n (Counter.mk a0 a1)) := by rw [List.map_set]; rfl
def b2q (n : Int) (low : Int) (high : Int) : Bool :=
 (decide (low <= n)) && (decide (n <= high))
def c5u (O : Orac) : Prop := ∀ (n : Int) (low : Int) (high : Int), Fn O "newel/situation.within" [I n, I low, I high] (B (b2q n low high))
@[go_sem] def b4f (x : List ByteArray) : List AV := [.fs 1 (List.map eS x)]
theorem c65 (x : List ByteArray) : ∀ c ∈ b4f x, Frz c := (b0a (b0c fun a _ => b0z a) b0j)
theorem g1e (x : List ByteArray) : (b4f x).length = 1 := rfl
@[go_sem] theorem o5l {l : List (List ByteArray)} {n : Nat} {a0 : List ByteArray} : (List.map b4f l).set n [.fs 1 (List.map eS a0)] = List.map b4f (l.set n a0) := by rw [List.map_set]; rfl
def c9i (slices : List (List ByteArray)) : Option (List ByteArray) :=
 if slices.flatten.length * 16 <= 2 ^ 40 /\ slices.length < 2 ^ 40 /\ 0 < slices.flatten.length then some slices.flatten else none
def d0t (O : Orac) : Prop := ∀ (slices : List (List ByteArray)) (r : List ByteArray) (hm0 : c9i slices = some r), FnW O "slices.Concat[[]string,string]" [.fs 1 (List.map b4f slices)] 1 eS r
def c9j (slices : List (List ByteArray)) : Option Unit :=
 if slices.flatten.length = 0 /\ slices.length < 2 ^ 40 then some () else none
def d0u (O : Orac) : Prop := ∀ (slices : List (List ByteArray)) (r : Unit) (hm0 : c9j slices = some r), Fn O "slices.Concat[[]string,string]" [.fs 1 (List.map b4f slices)] (.v (.slice none 0 0))
def c9c (l_3_1 : List ByteArray) : Option (List ByteArray) :=
 some l_3_1
def c89 (m : Machine) : ((List ByteArray) × Int) -> Option (Out ((List ByteArray) × Int) (((List ByteArray))))
 | (l_3_1, x_30) =>
  if decide (x_30 < (List.length m.States : Int)) then
   (get m.States x_30).bind fun x12 =>
   (ap 16 l_3_1 ([x12.Name])).bind fun l14 =>
   some (.nx (l14, wr (x_30 + 1)))
  else
   some (.br l_3_1)
def c9b (m : Machine) (l_3 : List ByteArray) : Option (List ByteArray) :=
 (b0w (c89 m) (l_3, 0)).bind fun l_3_1 =>
 c9c l_3_1
def c9a (m : Machine) : ((List ByteArray) × Int) -> Option (Out ((List ByteArray) × Int) (((List ByteArray))))
 | (l_3, x_17) =>
  if decide (x_17 < (List.length m.Counters : Int)) then
   (get m.Counters x_17).bind fun x21 =>
   (ap 16 l_3 ([x21.Name])).bind fun l23 =>
   some (.nx (l23, wr (x_17 + 1)))
  else
   some (.br l_3)
def c88 (m : Machine) : Option (List ByteArray) :=
 (c9i ([m.Inputs, m.Outputs])).bind fun y2 =>
 (b0w (c9a m) (y2, 0)).bind fun l_3 =>
 c9b m l_3
@[go_sem] def vM (m : Machine) : List AV := [.fs 1 (List.map eS m.Inputs), .fs 1 (List.map eS m.Outputs), .fs 2 (List.map b0o m.Counters), .fs 2 (List.map b0p m.States), .fs 4 (List.map b0m m.Rules)]
theorem fM (m : Machine) : Frz (.agg (vM m)) := (.agg _ (b0a (b0c fun a _ => b0z a) (b0a (b0c fun a _ => b0z a) (b0a (b0c fun a _ => b1q a) (b0a (b0c fun a _ => b1s a) (b0a (b0c fun a _ => b1r a) b0j))))))
def d0r (O : Orac) : Prop := ∀ (m : Machine) (r : List ByteArray) (hm0 : c88 m = some r), Fn O "newel/situation.names" [.agg (vM m)] (.fs 1 (List.map eS r))
def c9h (l_3_1 : List ByteArray) : Option (List ByteArray) :=
 some l_3_1
def c9e (m : Machine) : ((List ByteArray) × Int) -> Option (Out ((List ByteArray) × Int) (((List ByteArray))))
 | (l_3_1, x_30) =>
  if decide (x_30 < (List.length m.States : Int)) then
   (get m.States x_30).bind fun x12 =>
   (ap 16 l_3_1 ([x12.Name])).bind fun l14 =>
   some (.nx (l14, wr (x_30 + 1)))
  else
   some (.br l_3_1)
def c9g (m : Machine) (l_3 : List ByteArray) : Option (List ByteArray) :=
 (b0w (c9e m) (l_3, 0)).bind fun l_3_1 =>
 c9h l_3_1
def c9f (m : Machine) : ((List ByteArray) × Int) -> Option (Out ((List ByteArray) × Int) (((List ByteArray))))
 | (l_3, x_17) =>
  if decide (x_17 < (List.length m.Counters : Int)) then
   (get m.Counters x_17).bind fun x21 =>
   (ap 16 l_3 ([x21.Name])).bind fun l23 =>
   some (.nx (l23, wr (x_17 + 1)))
  else
   some (.br l_3)
def c9d (m : Machine) : Option (List ByteArray) :=
 (c9j ([m.Inputs, m.Outputs])).bind fun y2 =>
 (b0w (c9f m) ([], 0)).bind fun l_3 =>
 c9g m l_3
def d0s (O : Orac) : Prop := ∀ (m : Machine) (r : List ByteArray) (hm0 : c9d m = some r), Fn O "newel/situation.names" [.agg (vM m)] (.fs 1 (List.map eS r))
def c45 (m : Machine) : Option (List ByteArray) :=
 if 0 < m.Inputs.length + m.Outputs.length then c88 m else c9d m
def d0q (O : Orac) : Prop := ∀ (m : Machine) (r : List ByteArray) (hm0 : c45 m = some r), Fn O "newel/situation.names" [.agg (vM m)] (.fs 1 (List.map eS r))
def d48 (word : ByteArray) : Option Bool :=
 some (!(decide (word = (ByteArray.mk #[]))))
def c42 (word : ByteArray) : Int -> Option (Out Int (Unit ⊕ Bool))
 | x_8 =>
  if decide (x_8 < (List.length (b3q word) : Int)) then
   (get (b3q word) x_8).bind fun x8 =>
   if (decide (x8 < 97)) || (decide (122 < x8)) then
    some (.br (.inr false))
   else
    some (.nx (wr (x_8 + 1)))
  else
   some (.br (.inl ()))
def r1j (word : ByteArray) : Option Bool :=
 (b0w (c42 word) (0)).bind fun
  | (.inl ()) => d48 word
  | (.inr r') => some r'
def d0m (O : Orac) : Prop := ∀ (word : ByteArray) (r : Bool) (hm0 : r1j word = some r), Fn O "newel/situation.Plain" [.v (.string word)] (B r)
def b5w (x_4 : Bool) : Bool :=
 if x_4 then
  true
 else
  false
def b84 (word : ByteArray) : Bool :=
 if decide (word = (ByteArray.mk #[97, 110, 121])) then
  b5w (decide (word = (ByteArray.mk #[97, 110, 121])))
 else
  if decide (word = (ByteArray.mk #[116, 111])) then
   b5w (decide (word = (ByteArray.mk #[116, 111])))
  else
   if decide (word = (ByteArray.mk #[122, 101, 114, 111])) then
    b5w (decide (word = (ByteArray.mk #[122, 101, 114, 111])))
   else
    if decide (word = (ByteArray.mk #[109, 111, 114, 101])) then
     b5w (decide (word = (ByteArray.mk #[109, 111, 114, 101])))
    else
     if decide (word = (ByteArray.mk #[108, 101, 115, 115])) then
      b5w (decide (word = (ByteArray.mk #[108, 101, 115, 115])))
     else
      if decide (word = (ByteArray.mk #[105, 102])) then
       b5w (decide (word = (ByteArray.mk #[105, 102])))
      else
       if decide (word = (ByteArray.mk #[121, 101, 115])) then
        b5w (decide (word = (ByteArray.mk #[121, 101, 115])))
       else
        b5w (decide (word = (ByteArray.mk #[110, 111])))
def d0n (O : Orac) : Prop := ∀ (word : ByteArray), Fn O "newel/situation.Reserved" [.v (.string word)] (B (b84 word))
def d49 : Option Bool :=
 some true
def c1i (y2 : List ByteArray) : ((List (ByteArray × Int)) × Int) -> Option (Out ((List (ByteArray × Int)) × Int) (Unit ⊕ Bool))
 | (seen_3, x_10) =>
  if decide (x_10 < (List.length y2 : Int)) then
   (get y2 x_10).bind fun x10 =>
   (r1j x10).bind fun y12 =>
   if (((!y12) || (decide (8 < (ByteArray.size x10 : Int)))) || (b84 x10)) || (decide (1 < (b2w (b3w seen_3 x10 (wr ((b2w seen_3 x10 0) + 1))) x10 0))) then
    some (.br (.inr false))
   else
    some (.nx ((b3w seen_3 x10 (wr ((b2w seen_3 x10 0) + 1))), wr (x_10 + 1)))
  else
   some (.br (.inl ()))
def c44 (m : Machine) : Option Bool :=
 (c45 m).bind fun y2 =>
 (b0w (c1i y2) (([] : List (ByteArray × Int)), 0)).bind fun
  | (.inl ()) => d49
  | (.inr r') => some r'
def d0p (O : Orac) : Prop := ∀ (m : Machine) (r : Bool) (hm0 : c44 m = some r), Fn O "newel/situation.named" [.agg (vM m)] (B r)
def c43 (m : Machine) (x : Literal) : Option Bool :=
 if decide (x.Kind = 1) then
  some ((b2q x.Number 0 (wr ((List.length m.Inputs : Int) - 1))) && (decide (x.Value = 0)))
 else
  if decide (x.Kind = 2) then
   (if (b2q x.Number 0 (wr ((List.length m.Counters : Int) - 1))) then (get m.Counters x.Number).bind fun x7 =>
   some (b2q x.Value 0 x7.Max) else some false).bind fun c8 =>
   some c8
  else
   if decide (x.Kind = 3) then
    some ((b2q x.Number 0 (wr ((List.length m.States : Int) - 1))) && (decide (x.Value = 0)))
   else
    if decide (x.Kind = 4) then
     some ((b2q x.Number 0 (wr ((List.length m.Outputs : Int) - 1))) && (decide (x.Value = 0)))
    else
     some false
def d0o (O : Orac) : Prop := ∀ (m : Machine) (x : Literal) (r : Bool) (hm0 : c43 m x = some r), Fn O "newel/situation.asks" [.agg (vM m), .agg [I x.Kind, I x.Number, I x.Value, B x.Not]] (B r)
def b82 (x : Literal) (c0 : Machine) : Option Bool :=
 (c43 c0 x).bind fun y2 =>
 some (!y2)
def d0j (O : Orac) : Prop := ∀ (x : Literal) (c0 : Machine) (r : Bool) (hm0 : b82 x c0 = some r), Fn O "newel/situation.Asked$1" [.agg [I x.Kind, I x.Number, I x.Value, B x.Not], .fp (vM c0) 0] (B r)
def d5f : Option Int :=
 some (-1)
def g3e (s : List Literal) (f : Literal -> Option Bool) : Int -> Option (Out Int (Unit ⊕ Int))
 | x_8 =>
  if decide (x_8 < (List.length s : Int)) then
   (get s x_8).bind fun x9 =>
   (f x9).bind fun y10 =>
   if y10 then
    some (.br (.inr x_8))
   else
    some (.nx (wr (x_8 + 1)))
  else
   some (.br (.inl ()))
def d5e (s : List Literal) (f : Literal -> Option Bool) : Option Int :=
 (b0w (g3e s f) (0)).bind fun
  | (.inl ()) => d5f
  | (.inr r') => some r'
def d0z (O : Orac) : Prop := ∀ (s : List Literal) (f_n : String) (f_a f_b : List AV) (f : Literal -> Option Bool) (f_z : Frz (.fn f_n f_a f_b)) (f_h : ∀ z0 y, f z0 = some y -> Fn O f_n (f_a ++ [.agg [I z0.Kind, I z0.Number, I z0.Value, B z0.Not]] ++ f_b) (B y)) (r : Int) (hm0 : d5e s f = some r), Fn O "slices.IndexFunc[newel/api.Term,newel/api.Literal]" [.fs 4 (List.map b3k s), .fn f_n f_a f_b] (I r)
def b7t (s : List Literal) (f : Literal -> Option Bool) : Option Bool :=
 (d5e s f).bind fun y2 =>
 some (decide (0 <= y2))
def c1o (O : Orac) : Prop := ∀ (s : List Literal) (f_n : String) (f_a f_b : List AV) (f : Literal -> Option Bool) (f_z : Frz (.fn f_n f_a f_b)) (f_h : ∀ z0 y, f z0 = some y -> Fn O f_n (f_a ++ [.agg [I z0.Kind, I z0.Number, I z0.Value, B z0.Not]] ++ f_b) (B y)) (r : Bool) (hm0 : b7t s f = some r), Fn O "slices.ContainsFunc[newel/api.Term,newel/api.Literal]" [.fs 4 (List.map b3k s), .fn f_n f_a f_b] (B r)
def d46 : Option Bool :=
 some true
def c4u (m : Machine) (c : List (List Literal)) : Int -> Option (Out Int (Unit ⊕ Bool))
 | x_12 =>
  if decide (x_12 < (List.length c : Int)) then
   (get c x_12).bind fun x10 =>
   (if decide (6 < (List.length x10 : Int)) then some true else (b7t x10 (fun z14 => b82 z14 m)).bind fun y15 =>
   some y15).bind fun c16 =>
   if c16 then
    some (.br (.inr false))
   else
    some (.nx (wr (x_12 + 1)))
  else
   some (.br (.inl ()))
def c1h (m : Machine) (c : List (List Literal)) : Option Bool :=
 if decide (6 < (List.length c : Int)) then
  some false
 else
  (b0w (c4u m c) (0)).bind fun
   | (.inl ()) => d46
   | (.inr r') => some r'
def c5t (O : Orac) : Prop := ∀ (m : Machine) (c : List (List Literal)) (r : Bool) (hm0 : c1h m c = some r), Fn O "newel/situation.Asked" [.agg (vM m), .fs 1 (List.map b0t c)] (B r)
def b7s (x : Literal) : Bool :=
 decide (x.Kind = 3)
def d0l (O : Orac) : Prop := ∀ (x : Literal), Fn O "newel/situation.Check$1" [.agg [I x.Kind, I x.Number, I x.Value, B x.Not]] (B (b7s x))
def d47 : Option Int :=
 some 0
def c86 (x_79 : Int) : Option (Out Int (Unit ⊕ Int)) :=
 some (.nx (wr (x_79 + 1)))
def c4y (m : Machine) (x24 : Rule) : Int -> Option (Out Int (Unit ⊕ Int))
 | x_127 =>
  if decide (x_127 < (List.length x24.Sets : Int)) then
   (get x24.Sets x_127).bind fun x41 =>
   if (!(b2q x41.Kind 1 3)) || (!(b2q x41.Counter 0 (wr ((List.length m.Counters : Int) - 1)))) then
    some (.br (.inr 41))
   else
    some (.nx (wr (x_127 + 1)))
  else
   some (.br (.inl ()))
def c87 (m : Machine) (x_79 : Int) (x24 : Rule) : Option (Out Int (Unit ⊕ Int)) :=
 (b0w (c4y m x24) (0)).bind fun
  | (.inl ()) => c86 x_79
  | (.inr r') => some (.br (.inr r'))
def c4x (x24 : Rule) : Int -> Option (Out Int (Unit ⊕ Int))
 | x_117 =>
  if decide (x_117 < (List.length x24.When : Int)) then
   (get x24.When x_117).bind fun x50 =>
   (b7t x50 (fun z53 => some (b7s z53))).bind fun y54 =>
   if y54 then
    some (.br (.inr 41))
   else
    some (.nx (wr (x_117 + 1)))
  else
   some (.br (.inl ()))
def b83 (m : Machine) : Int -> Option (Out Int (Unit ⊕ Int))
 | x_79 =>
  if decide (x_79 < (List.length m.Rules : Int)) then
   (get m.Rules x_79).bind fun x24 =>
   (if (!(b2q x24.From (-1) (wr ((List.length m.States : Int) - 1)))) || (!(b2q x24.To 0 (wr ((List.length m.States : Int) - 1)))) then some true else (c1h m x24.When).bind fun y27 =>
   some (!y27)).bind fun c28 =>
   if c28 || (decide (4 < (List.length x24.Sets : Int))) then
    some (.br (.inr 41))
   else
    (b0w (c4x x24) (0)).bind fun
     | (.inl ()) => c87 m x_79 x24
     | (.inr r') => some (.br (.inr r'))
  else
   some (.br (.inl ()))
def c85 (m : Machine) : Option Int :=
 (b0w (b83 m) (0)).bind fun
  | (.inl ()) => d47
  | (.inr r') => some r'
def c4w (m : Machine) : Int -> Option (Out Int (Unit ⊕ Int))
 | x_62 =>
  if decide (x_62 < (List.length m.States : Int)) then
   (get m.States x_62).bind fun x63 =>
   (shl .i64 1 (List.length m.Outputs : Int)).bind fun q65 =>
   if !(b2q x63.Shows 0 (wr (q65 - 1))) then
    some (.br (.inr 41))
   else
    some (.nx (wr (x_62 + 1)))
  else
   some (.br (.inl ()))
def p84 (m : Machine) : Option Int :=
 (b0w (c4w m) (0)).bind fun
  | (.inl ()) => c85 m
  | (.inr r') => some r'
def c4z (m : Machine) : Int -> Option (Out Int (Unit ⊕ Int))
 | x_50 =>
  if decide (x_50 < (List.length m.Counters : Int)) then
   (get m.Counters x_50).bind fun x73 =>
   if !(b2q x73.Max 1 7) then
    some (.br (.inr 41))
   else
    some (.nx (wr (x_50 + 1)))
  else
   some (.br (.inl ()))
def c4v (m : Machine) : Option Int :=
 (if ((((decide (4 < (List.length m.Inputs : Int))) || (decide (6 < (List.length m.Outputs : Int)))) || (decide (2 < (List.length m.Counters : Int)))) || (!(b2q (List.length m.States : Int) 1 12))) || (decide (40 < (List.length m.Rules : Int))) then some true else (c44 m).bind fun y3 =>
 some (!y3)).bind fun c4 =>
 if c4 then
  some 41
 else
  (b0w (c4z m) (0)).bind fun
   | (.inl ()) => p84 m
   | (.inr r') => some r'
def d0k (O : Orac) : Prop := ∀ (m : Machine) (r : Int) (hm0 : c4v m = some r), Fn O "newel/situation.Check" [.agg (vM m)] (I r)
def c2f (m : Machine) : Option Int :=
 (c4v m).bind fun y2 =>
 some y2
def c96 (O : Orac) : Prop := ∀ (m : Machine) (r : Int) (hm0 : c2f m = some r), Fn O "newel/control.Check" [.agg (vM m)] (I r)
structure situation_Plant where
 Machine : Machine
 deriving Inhabited, DecidableEq
structure control_plant where
 Plant : situation_Plant
 deriving Inhabited, DecidableEq
def b3h (m : Machine) : control_plant :=
 (control_plant.mk (situation_Plant.mk m))
def c5h (O : Orac) : Prop := ∀ (m : Machine), Fn O "newel/control.of" [.agg (vM m)] (.agg [.fs 1 (List.map eS ((((b3h m).Plant).Machine).Inputs)), .fs 1 (List.map eS ((((b3h m).Plant).Machine).Outputs)), .fs 2 (List.map b0o ((((b3h m).Plant).Machine).Counters)), .fs 2 (List.map b0p ((((b3h m).Plant).Machine).States)), .fs 4 (List.map b0m ((((b3h m).Plant).Machine).Rules))])
def c1y (m : situation_Plant) : Option Int :=
 (shl .i64 1 (List.length m.Machine.Inputs : Int)).bind fun q2 =>
 some q2
def c9y (O : Orac) : Prop := ∀ (m : situation_Plant) (r : Int) (hm0 : c1y m = some r), Fn O "(newel/situation.Plant).All" [.agg (vM m.Machine)] (I r)
structure Place where
 State : Int
 Values : Int × Int
 deriving Inhabited, DecidableEq
def b6w (x : Literal) (holds_9 : Bool) : Option Bool :=
 some (!(b5c holds_9 x.Not))
def b77 (m : situation_Plant) (x : Literal) (p : Place) (input : Int) : Option Bool :=
 if decide (x.Kind = 1) then
  (shr .i64 input x.Number).bind fun q5 =>
  b6w x (decide ((b6y q5 1) = 1))
 else
  if decide (x.Kind = 2) then
   (get [p.Values.1, p.Values.2] x.Number).bind fun x8 =>
   b6w x (decide (x.Value <= x8))
  else
   if decide (x.Kind = 3) then
    b6w x (decide (p.State = x.Number))
   else
    if decide (x.Kind = 4) then
     (get m.Machine.States p.State).bind fun x13 =>
     (shr .i64 x13.Shows x.Number).bind fun q14 =>
     b6w x (decide ((b6y q14 1) = 1))
    else
     b6w x false
def c93 (O : Orac) : Prop := ∀ (m : situation_Plant) (x : Literal) (p : Place) (input : Int) (r : Bool) (hm0 : b77 m x p input = some r), Fn O "(newel/situation.Plant).literal" [.agg (vM m.Machine), .agg [I x.Kind, I x.Number, I x.Value, B x.Not], .agg [I p.State, I p.Values.1, I p.Values.2], I input] (B r)
def b76 (x : Literal) (c0 : situation_Plant) (c1 : Place) (c2 : Int) : Option Bool :=
 (b77 c0 x c1 c2).bind fun y2 =>
 some (!y2)
def c91 (O : Orac) : Prop := ∀ (x : Literal) (c0 : situation_Plant) (c1 : Place) (c2 : Int) (r : Bool) (hm0 : b76 x c0 c1 c2 = some r), Fn O "(newel/situation.Plant).Holds$1$1" [.agg [I x.Kind, I x.Number, I x.Value, B x.Not], .fp (vM c0.Machine) 0, .fp [I c1.State, I c1.Values.1, I c1.Values.2] 0, .fp [I c2] 0] (B r)
def b74 (t_ : List Literal) (c0 : situation_Plant) (c1 : Place) (c2 : Int) : Option Bool :=
 (b7t t_ (fun z3 => b76 z3 c0 c1 c2)).bind fun y4 =>
 some (!y4)
def c90 (O : Orac) : Prop := ∀ (t_ : List Literal) (c0 : situation_Plant) (c1 : Place) (c2 : Int) (r : Bool) (hm0 : b74 t_ c0 c1 c2 = some r), Fn O "(newel/situation.Plant).Holds$1" [.fs 4 (List.map b3k t_), .fp (vM c0.Machine) 0, .fp [I c1.State, I c1.Values.1, I c1.Values.2] 0, .fp [I c2] 0] (B r)
def d5d : Option Int :=
 some (-1)
def g3d (s : List (List Literal)) (f : (List Literal) -> Option Bool) : Int -> Option (Out Int (Unit ⊕ Int))
 | x_8 =>
  if decide (x_8 < (List.length s : Int)) then
   (get s x_8).bind fun x9 =>
   (f x9).bind fun y10 =>
   if y10 then
    some (.br (.inr x_8))
   else
    some (.nx (wr (x_8 + 1)))
  else
   some (.br (.inl ()))
def d5c (s : List (List Literal)) (f : (List Literal) -> Option Bool) : Option Int :=
 (b0w (g3d s f) (0)).bind fun
  | (.inl ()) => d5d
  | (.inr r') => some r'
def d0y (O : Orac) : Prop := ∀ (s : List (List Literal)) (f_n : String) (f_a f_b : List AV) (f : (List Literal) -> Option Bool) (f_z : Frz (.fn f_n f_a f_b)) (f_h : ∀ z0 y, f z0 = some y -> Fn O f_n (f_a ++ [.fs 4 (List.map b3k z0)] ++ f_b) (B y)) (r : Int) (hm0 : d5c s f = some r), Fn O "slices.IndexFunc[newel/api.Cond,newel/api.Term]" [.fs 1 (List.map b0t s), .fn f_n f_a f_b] (I r)
def c9k (s : List (List Literal)) (f : (List Literal) -> Option Bool) : Option Bool :=
 (d5c s f).bind fun y2 =>
 some (decide (0 <= y2))
def d0w (O : Orac) : Prop := ∀ (s : List (List Literal)) (f_n : String) (f_a f_b : List AV) (f : (List Literal) -> Option Bool) (f_z : Frz (.fn f_n f_a f_b)) (f_h : ∀ z0 y, f z0 = some y -> Fn O f_n (f_a ++ [.fs 4 (List.map b3k z0)] ++ f_b) (B y)) (r : Bool) (hm0 : c9k s f = some r), Fn O "slices.ContainsFunc[newel/api.Cond,newel/api.Term]" [.fs 1 (List.map b0t s), .fn f_n f_a f_b] (B r)
def b6v (m : situation_Plant) (c : List (List Literal)) (p : Place) (input : Int) : Option Bool :=
 (c9k c (fun z3 => b74 z3 m p input)).bind fun y4 =>
 some y4
def b89 (O : Orac) : Prop := ∀ (m : situation_Plant) (c : List (List Literal)) (p : Place) (input : Int) (r : Bool) (hm0 : b6v m c p input = some r), Fn O "(newel/situation.Plant).Holds" [.agg (vM m.Machine), .fs 1 (List.map b0t c), .agg [I p.State, I p.Values.1, I p.Values.2], I input] (B r)
def r1b (m : situation_Plant) (s : Set) (p : Place) : Option Place :=
 (get [p.Values.1, p.Values.2] s.Counter).bind fun x2 =>
 if decide (s.Kind = 1) then
  some (Place.mk p.State (b1n s.Counter 0 0 p.Values.1, b1n s.Counter 1 0 p.Values.2))
 else
  if decide (s.Kind = 2) then
   (get m.Machine.Counters s.Counter).bind fun x6 =>
   some (Place.mk p.State (b1n s.Counter 0 (mn (wr (x2 + 1)) x6.Max) p.Values.1, b1n s.Counter 1 (mn (wr (x2 + 1)) x6.Max) p.Values.2))
  else
   if decide (s.Kind = 3) then
    some (Place.mk p.State (b1n s.Counter 0 (mx (wr (x2 - 1)) 0) p.Values.1, b1n s.Counter 1 (mx (wr (x2 - 1)) 0) p.Values.2))
   else
    some (Place.mk p.State (p.Values.1, p.Values.2))
def c94 (O : Orac) : Prop := ∀ (m : situation_Plant) (s : Set) (p : Place) (i_2 : Nat) (h0 : Heap) (ob_p2 : h0.ob i_2 = some (3, [[I p.State, I p.Values.1, I p.Values.2]])) (lt_p2 : i_2 < h0.nx) (r : Place) (hm0 : r1b m s p = some r), b6e O "(newel/situation.Plant).set" [.agg (vM m.Machine), .agg [I s.Kind, I s.Counter], .rp i_2 0 0] h0 (fun v h => v = .tup [] /\ h.ob i_2 = some (3, [[I r.State, I r.Values.1, I r.Values.2]]) /\ (∀ j, j < h0.nx -> ¬j = i_2 -> h.ob j = h0.ob j) /\ h0.nx <= h.nx)
def c6h (p_4_0 : Int) (p_4_1 : Int) (p_4_2 : Int) : Option Place :=
 some (Place.mk p_4_0 (p_4_1, p_4_2))
def c6i (x_15 : Int) : Option (Out Int ((Int × Int × Int))) :=
 some (.nx (wr (x_15 + 1)))
def c6g (x9 : Rule) (p_4_0 : Int) (p_4_1 : Int) (p_4_2 : Int) : Option (Out Int ((Int × Int × Int))) :=
 some (.br (x9.To, p_4_1, p_4_2))
def c11 (m : situation_Plant) (x9 : Rule) : (Int × Int × Int × Int) -> Option (Out (Int × Int × Int × Int) ((Int × Int × Int)))
 | (p_4_0, p_4_1, p_4_2, x_41) =>
  if decide (x_41 < (List.length x9.Sets : Int)) then
   (get x9.Sets x_41).bind fun x25 =>
   (r1b m x25 (Place.mk p_4_0 (p_4_1, p_4_2))).bind fun y27 =>
   some (.nx (y27.State, y27.Values.1, y27.Values.2, wr (x_41 + 1)))
  else
   some (.br (p_4_0, p_4_1, p_4_2))
def c6f (m : situation_Plant) (p : Place) (input : Int) : Int -> Option (Out Int ((Int × Int × Int)))
 | x_15 =>
  if decide (x_15 < (List.length m.Machine.Rules : Int)) then
   (get m.Machine.Rules x_15).bind fun x9 =>
   (if (decide (¬x9.From = (-1))) && (decide (¬x9.From = p.State)) then some true else (b6v m x9.When (Place.mk p.State (p.Values.1, p.Values.2)) input).bind fun y12 =>
   some (!y12)).bind fun c13 =>
   if c13 then
    c6i x_15
   else
    (b0w (c11 m x9) (p.State, p.Values.1, p.Values.2, 0)).bind fun
     | (p_4_0, p_4_1, p_4_2) => c6g x9 p_4_0 p_4_1 p_4_2
  else
   some (.br (p.State, p.Values.1, p.Values.2))
def r7y (m : situation_Plant) (p : Place) (input : Int) : Option Place :=
 (b0w (c6f m p input) (0)).bind fun
  | (p_4_0, p_4_1, p_4_2) => c6h p_4_0 p_4_1 p_4_2
def c92 (O : Orac) : Prop := ∀ (m : situation_Plant) (p : Place) (input : Int) (r : Place) (hm0 : r7y m p input = some r), Fn O "(newel/situation.Plant).Step" [.agg (vM m.Machine), .agg [I p.State, I p.Values.1, I p.Values.2], I input] (.agg [I r.State, I r.Values.1, I r.Values.2])
@[go_sem] def b1g (x : Place) : List AV := [I x.State, I x.Values.1, I x.Values.2]
theorem x46 (x : Place) : ∀ c ∈ b1g x, Frz c := (b0a (b0e _) (b0a (b0e _) (b0a (b0e _) b0j)))
theorem d32 (x : Place) : (b1g x).length = 3 := rfl
@[go_sem] theorem o5n {l : List Place} {n : Nat} {a0 : Int} {a1 : Int} {a2 : Int} : (List.map b1g l).set n [I a0, I a1, I a2] = List.map b1g (l.set n (Place.mk a0 (a1, a2))) := by rw [List.map_set]; rfl
@[go_sem] def b4v (x : List (List Literal)) : List AV := [.fs 1 (List.map b0t x)]
theorem b97 (x : List (List Literal)) : ∀ c ∈ b4v x, Frz c := (b0a (b0c fun a _ => b2j a) b0j)
theorem c7o (x : List (List Literal)) : (b4v x).length = 1 := rfl
@[go_sem] theorem o5j {l : List (List (List Literal))} {n : Nat} {a0 : List (List Literal)} : (List.map b4v l).set n [.fs 1 (List.map b0t a0)] = List.map b4v (l.set n a0) := by rw [List.map_set]; rfl
def d1j : Option Int :=
 some 0
def c2i (m : Machine) (conds : List (List (List Literal))) : Int -> Option (Out Int (Unit ⊕ Int))
 | x_15 =>
  if decide (x_15 < (List.length conds : Int)) then
   (get conds x_15).bind fun x12 =>
   (c1h m x12).bind fun y14 =>
   if !y14 then
    some (.br (.inr 42))
   else
    some (.nx (wr (x_15 + 1)))
  else
   some (.br (.inl ()))
def b9x (m : Machine) (conds : List (List (List Literal))) : Option Int :=
 (c2f m).bind fun y2 =>
 if decide (¬y2 = 0) then
  some y2
 else
  (b0w (c2i m conds) (0)).bind fun
   | (.inl ()) => d1j
   | (.inr r') => some r'
def c5g (O : Orac) : Prop := ∀ (m : Machine) (conds : List (List (List Literal))) (r : Int) (hm0 : b9x m conds = some r), Fn O "newel/control.check" [.agg (vM m), .fs 1 (List.map b4v conds)] (I r)
def c1z (m : situation_Plant) (assume : List (List Literal)) (p : Place) (input : Int) : Option Bool :=
 (if decide ((List.length assume : Int) = 0) then some true else (b6v m assume p input).bind fun y3 =>
 some y3).bind fun c4 =>
 some c4
def c9z (O : Orac) : Prop := ∀ (m : situation_Plant) (assume : List (List Literal)) (p : Place) (input : Int) (r : Bool) (hm0 : c1z m assume p input = some r), Fn O "(newel/situation.Plant).Allowed" [.agg (vM m.Machine), .fs 1 (List.map b0t assume), .agg [I p.State, I p.Values.1, I p.Values.2], I input] (B r)
structure control_walk where
 places : List Place
 from_ : List Int
 by_ : List Int
 next : List (List Int)
 deriving Inhabited, DecidableEq
def x23 (x : Place) : List Int := [x.State, x.Values.1, x.Values.2]
theorem d30 : ∀ a b, b3o false (vks x23 a) (vks x23 b) = some (decide (a = b)) := j7d (n := 3) (fun _ => rfl) fun a b h => by
 obtain ⟨a1, ⟨a2, a3⟩⟩ := a; obtain ⟨b4, ⟨b5, b6⟩⟩ := b
 simp only [x23, List.cons.injEq, and_true] at h
 obtain ⟨rfl, rfl, rfl⟩ := h; rfl
@[go_sem] def b2f (x : List Int) : List AV := [.fs 1 (List.map eI x)]
theorem b8i (x : List Int) : ∀ c ∈ b2f x, Frz c := (b0a (b0c fun a _ => b1t a) b0j)
theorem j7n (x : List Int) : (b2f x).length = 1 := rfl
@[go_sem] theorem o5i {l : List (List Int)} {n : Nat} {a0 : List Int} : (List.map b2f l).set n [.fs 1 (List.map eI a0)] = List.map b2f (l.set n a0) := by rw [List.map_set]; rfl
def c6a (w_7_0 : List Place) (w_7_1 : List Int) (w_7_2 : List Int) (w_7_3 : List (List Int)) : Option control_walk :=
 some (control_walk.mk w_7_0 w_7_1 w_7_2 w_7_3)
def c6b (at_9 : Int) (w_7_0_1 : List Place) (w_7_1_1 : List Int) (w_7_2_1 : List Int) (w_7_3_1 : List (List Int)) (found_8_1 : List (Place × Int)) : Option (Out ((List Place) × (List Int) × (List Int) × (List (List Int)) × (List (Place × Int)) × Int) (((List Place) × (List Int) × (List Int) × (List (List Int))))) :=
 some (.nx (w_7_0_1, w_7_1_1, w_7_2_1, w_7_3_1, found_8_1, wr (at_9 + 1)))
def c59 (w_7_3 : List (List Int)) (at_9 : Int) (w_7_0_1 : List Place) (w_7_1_1 : List Int) (w_7_2_1 : List Int) (found_8_1 : List (Place × Int)) (row_11 : List Int) : Option (Out ((List Place) × (List Int) × (List Int) × (List (List Int)) × (List (Place × Int)) × Int) (((List Place) × (List Int) × (List Int) × (List (List Int))))) :=
 (ap 24 w_7_3 ([row_11])).bind fun l17 =>
 c6b at_9 w_7_0_1 w_7_1_1 w_7_2_1 l17 found_8_1
def c1v (x_47 : Int) (w_7_0_2 : List Place) (w_7_1_2 : List Int) (w_7_2_2 : List Int) (found_8_2 : List (Place × Int)) (row_11_1 : List Int) : Option (Out ((List Place) × (List Int) × (List Int) × (List (Place × Int)) × (List Int) × Int) (((List Place) × (List Int) × (List Int) × (List (Place × Int)) × (List Int)))) :=
 some (.nx (w_7_0_2, w_7_1_2, w_7_2_2, found_8_2, row_11_1, wr (x_47 + 1)))
def c1w (row_11 : List Int) (x_47 : Int) (w_7_0_2 : List Place) (w_7_1_2 : List Int) (w_7_2_2 : List Int) (found_8_2 : List (Place × Int)) (to_14 : Int) : Option (Out ((List Place) × (List Int) × (List Int) × (List (Place × Int)) × (List Int) × Int) (((List Place) × (List Int) × (List Int) × (List (Place × Int)) × (List Int)))) :=
 (get (List.set row_11 (Int.toNat x_47) (-1)) x_47).bind fun x36 =>
 c1v x_47 w_7_0_2 w_7_1_2 w_7_2_2 found_8_2 (List.set (List.set row_11 (Int.toNat x_47) (-1)) (Int.toNat x_47) to_14)
def c1u (m : control_plant) (assume : List (List Literal)) (heard : Int -> Option Int) (at_9 : Int) (x9 : Place) (l13 : List Int) : ((List Place) × (List Int) × (List Int) × (List (Place × Int)) × (List Int) × Int) -> Option (Out ((List Place) × (List Int) × (List Int) × (List (Place × Int)) × (List Int) × Int) (((List Place) × (List Int) × (List Int) × (List (Place × Int)) × (List Int))))
 | (w_7_0_1, w_7_1_1, w_7_2_1, found_8_1, row_11, x_47) =>
  if decide (x_47 < ((List.length l13 : Nat) : Int)) then
   (get row_11 x_47).bind fun x24 =>
   (c1z m.Plant assume (Place.mk x9.State (x9.Values.1, x9.Values.2)) x_47).bind fun y26 =>
   if !y26 then
    c1v x_47 w_7_0_1 w_7_1_1 w_7_2_1 found_8_1 (List.set row_11 (Int.toNat x_47) (-1))
   else
    (heard x_47).bind fun y31 =>
    (r7y m.Plant (Place.mk x9.State (x9.Values.1, x9.Values.2)) y31).bind fun y32 =>
    if !(b6m found_8_1 (Place.mk y32.State (y32.Values.1, y32.Values.2))) then
     (ap 24 w_7_0_1 ([(Place.mk y32.State (y32.Values.1, y32.Values.2))])).bind fun l41 =>
     (ap 8 w_7_1_1 ([at_9])).bind fun l42 =>
     (ap 8 w_7_2_1 ([x_47])).bind fun l43 =>
     c1w row_11 x_47 l41 l42 l43 (b3w found_8_1 (Place.mk y32.State (y32.Values.1, y32.Values.2)) ((List.length w_7_0_1 : Nat) : Int)) ((List.length w_7_0_1 : Nat) : Int)
    else
     c1w row_11 x_47 w_7_0_1 w_7_1_1 w_7_2_1 found_8_1 (b2w found_8_1 (Place.mk y32.State (y32.Values.1, y32.Values.2)) 0)
  else
   some (.br (w_7_0_1, w_7_1_1, w_7_2_1, found_8_1, row_11))
def b9i (m : control_plant) (assume : List (List Literal)) (heard : Int -> Option Int) : ((List Place) × (List Int) × (List Int) × (List (List Int)) × (List (Place × Int)) × Int) -> Option (Out ((List Place) × (List Int) × (List Int) × (List (List Int)) × (List (Place × Int)) × Int) (((List Place) × (List Int) × (List Int) × (List (List Int)))))
 | (w_7_0, w_7_1, w_7_2, w_7_3, found_8, at_9) =>
  if decide (at_9 < ((List.length w_7_0 : Nat) : Int)) then
   (get w_7_0 at_9).bind fun x9 =>
   (c1y m.Plant).bind fun y12 =>
   (mks 8 y12 0).bind fun l13 =>
   (b0w (c1u m assume heard at_9 x9 l13) (w_7_0, w_7_1, w_7_2, found_8, l13, 0)).bind fun
    | (w_7_0_1, w_7_1_1, w_7_2_1, found_8_1, row_11) => c59 w_7_3 at_9 w_7_0_1 w_7_1_1 w_7_2_1 found_8_1 row_11
  else
   some (.br (w_7_0, w_7_1, w_7_2, w_7_3))
def b9h (m : control_plant) (assume : List (List Literal)) (heard : Int -> Option Int) : Option control_walk :=
 (b0w (b9i m assume heard) ([(Place.mk 0 (0, 0))], [(-1)], [0], [], (b3w ([] : List (Place × Int)) (Place.mk 0 (0, 0)) 0), 0)).bind fun
  | (w_7_0, w_7_1, w_7_2, w_7_3) => c6a w_7_0 w_7_1 w_7_2 w_7_3
def c5e (O : Orac) : Prop := ∀ (m : control_plant) (assume : List (List Literal)) (heard_n : String) (heard_a heard_b : List AV) (heard : Int -> Option Int) (heard_z : Frz (.fn heard_n heard_a heard_b)) (heard_h : ∀ z0 y, heard z0 = some y -> Fn O heard_n (heard_a ++ [I z0] ++ heard_b) (I y)) (r : control_walk) (hm0 : b9h m assume heard = some r), Fn O "(newel/control.plant).explore" [.agg (vM m.Plant.Machine), .fs 1 (List.map b0t assume), .fn heard_n heard_a heard_b] (.fp [.fs 3 (List.map b1g r.places), .fs 1 (List.map eI r.from_), .fs 1 (List.map eI r.by_), .fs 1 (List.map b2f r.next)] 0)
def b9g (at_ : Int) (c0 : control_plant) (c1 : List (List Literal)) (c2 : control_walk) : Option Bool :=
 (get c2.places at_).bind fun x3 =>
 (b6v c0.Plant c1 x3 0).bind fun y4 =>
 some y4
def c9w (O : Orac) : Prop := ∀ (at_ : Int) (c0 : control_plant) (c1 : List (List Literal)) (c2 : control_walk) (r : Bool) (hm0 : b9g at_ c0 c1 c2 = some r), Fn O "(newel/control.plant).breach$1" [I at_, .fp (vM c0.Plant.Machine) 0, .fp [.fs 1 (List.map b0t c1)] 0, .fp [.fp [.fs 3 (List.map b1g c2.places), .fs 1 (List.map eI c2.from_), .fs 1 (List.map eI c2.by_), .fs 1 (List.map b2f c2.next)] 0] 0] (B r)
def c9l (s_1 : List Int) : Option (List Int) :=
 some s_1
def c1j : ((List Int) × Int × Int) -> Option (Out ((List Int) × Int × Int) (((List Int))))
 | (s_0, i_2, j_3) =>
  if decide (i_2 < j_3) then
   (get s_0 j_3).bind fun x11 =>
   (get s_0 i_2).bind fun x13 =>
   (get (List.set s_0 (Int.toNat i_2) x11) j_3).bind fun x14 =>
   some (.nx ((List.set (List.set s_0 (Int.toNat i_2) x11) (Int.toNat j_3) x13), wr (i_2 + 1), wr (j_3 - 1)))
  else
   some (.br s_0)
def H9x (s : List Int) : Option (List Int) :=
 (b0w (c1j) (s, 0, wr ((List.length s : Int) - 1))).bind fun s_1 =>
 c9l s_1
def d00 (O : Orac) : Prop := ∀ (s : List Int) (v_0 : AV) (h0 : Heap) (ow_p0 : b2a h0 v_0 1 (List.map eI s)) (r : List Int) (hm0 : H9x s = some r), b6e O "slices.Reverse[[]int,int]" [v_0] h0 (fun v h => v = .tup [] /\ b2a h v_0 1 (List.map eI r) /\ (∀ j, j < h0.nx -> b07 v_0 j -> h.ob j = h0.ob j) /\ h0.nx <= h.nx)
def c57 (l_5 : List Int) : Option (List Int) :=
 (H9x l_5).bind fun y4 =>
 some y4
def b72 (w_ : control_walk) : (Int × (List Int)) -> Option (Out (Int × (List Int)) (((List Int))))
 | (at_1, l_5) =>
  (get w_.from_ at_1).bind fun x7 =>
  if decide (0 <= x7) then
   (get w_.by_ at_1).bind fun x13 =>
   (ap 8 l_5 ([x13])).bind fun l14 =>
   some (.nx (x7, l14))
  else
   some (.br l_5)
def b71 (w_ : control_walk) (at_ : Int) : Option (List Int) :=
 (b0w (b72 w_) (at_, [])).bind fun l_5 =>
 c57 l_5
def c9u (O : Orac) : Prop := ∀ (w_ : control_walk) (at_ : Int) (r : List Int) (hm0 : b71 w_ at_ = some r), Fn O "(*newel/control.walk).run" [.fp [.fs 3 (List.map b1g w_.places), .fs 1 (List.map eI w_.from_), .fs 1 (List.map eI w_.by_), .fs 1 (List.map b2f w_.next)] 0, I at_] (.fs 1 (List.map eI r))
def c56 : Option ((List Int) × Bool) :=
 some ([], false)
def b9f (w_ : control_walk) (wanted : Int -> Option Bool) : Int -> Option (Out Int (Unit ⊕ (((List Int) × Bool))))
 | x_12 =>
  if decide (x_12 < (List.length w_.places : Int)) then
   (wanted x_12).bind fun y8 =>
   if y8 then
    (b71 w_ x_12).bind fun y11 =>
    some (.br (.inr (y11, true)))
   else
    some (.nx (wr (x_12 + 1)))
  else
   some (.br (.inl ()))
def b9e (w_ : control_walk) (wanted : Int -> Option Bool) : Option ((List Int) × Bool) :=
 (b0w (b9f w_ wanted) (0)).bind fun
  | (.inl ()) => c56
  | (.inr r') => some r'
def c5d (O : Orac) : Prop := ∀ (w_ : control_walk) (wanted_n : String) (wanted_a wanted_b : List AV) (wanted : Int -> Option Bool) (wanted_z : Frz (.fn wanted_n wanted_a wanted_b)) (wanted_h : ∀ z0 y, wanted z0 = some y -> Fn O wanted_n (wanted_a ++ [I z0] ++ wanted_b) (B y)) (r : (List Int) × Bool) (hm0 : b9e w_ wanted = some r), Fn O "(*newel/control.walk).first" [.fp [.fs 3 (List.map b1g w_.places), .fs 1 (List.map eI w_.from_), .fs 1 (List.map eI w_.by_), .fs 1 (List.map b2f w_.next)] 0, .fn wanted_n wanted_a wanted_b] (.tup [.fs 1 (List.map eI r.1), B r.2])
def c1t (m : control_plant) (assume : List (List Literal)) (never : List (List Literal)) (heard : Int -> Option Int) : Option ((List Int) × Bool) :=
 (b9h m assume heard).bind fun y2 =>
 (b9e y2 (fun z5 => b9g z5 m never y2)).bind fun y6 =>
 some (y6.1, y6.2)
def c9v (O : Orac) : Prop := ∀ (m : control_plant) (assume : List (List Literal)) (never : List (List Literal)) (heard_n : String) (heard_a heard_b : List AV) (heard : Int -> Option Int) (heard_z : Frz (.fn heard_n heard_a heard_b)) (heard_h : ∀ z0 y, heard z0 = some y -> Fn O heard_n (heard_a ++ [I z0] ++ heard_b) (I y)) (r : (List Int) × Bool) (hm0 : c1t m assume never heard = some r), Fn O "(newel/control.plant).breach" [.agg (vM m.Plant.Machine), .fs 1 (List.map b0t assume), .fs 1 (List.map b0t never), .fn heard_n heard_a heard_b] (.tup [.fs 1 (List.map eI r.1), B r.2])
def b6f (input : Int) : Int :=
 input
def c5i (O : Orac) : Prop := ∀ (input : Int), Fn O "newel/control.same" [I input] (I (b6f input))
def c2e (m : Machine) (assume : List (List Literal)) (never : List (List Literal)) : Option ((List Int) × Bool × Int) :=
 (b9x m ([assume, never])).bind fun y2 =>
 if decide (¬y2 = 0) then
  some ([], false, y2)
 else
  (c1t (b3h m) assume never (fun z7 => some (b6f z7))).bind fun y8 =>
  some (y8.1, y8.2, 0)
def c95 (O : Orac) : Prop := ∀ (m : Machine) (assume : List (List Literal)) (never : List (List Literal)) (r : (List Int) × Bool × Int) (hm0 : c2e m assume never = some r), Fn O "newel/control.Breach" [.agg (vM m), .fs 1 (List.map b0t assume), .fs 1 (List.map b0t never)] (.tup [.fs 1 (List.map eI r.1), B r.2.1, I r.2.2])
def b40 (n : Int) (low : Int) (high : Int) : Bool :=
 (decide (low <= n)) && (decide (n <= high))
def B91 (O : Orac) : Prop := ∀ (n : Int) (low : Int) (high : Int), Fn O "newel/newelref08.from" [I n, I low, I high] (B (b40 n low high))
def C0o : Option Bool :=
 some false
def B8w (l : List Int) (n : Int) : Int -> Option (Out Int (Unit ⊕ Bool))
 | i_5 =>
  if decide (i_5 < (List.length l : Int)) then
   (get l i_5).bind fun x8 =>
   if decide (x8 = n) then
    some (.br (.inr true))
   else
    some (.nx (wr (i_5 + 1)))
  else
   some (.br (.inl ()))
def B9g (l : List Int) (n : Int) : Option Bool :=
 (b0w (B8w l n) (0)).bind fun
  | (.inl ()) => C0o
  | (.inr r') => some r'
def B92 (O : Orac) : Prop := ∀ (l : List Int) (n : Int) (r : Bool) (hm0 : B9g l n = some r), Fn O "newel/newelref08.has" [.fs 1 (List.map eI l), I n] (B r)
structure Passage where
 A : Int
 B : Int
 Kind : Int
 Ticks : Int
 Wide : Int
 Machine : Int
 Still : Int
 deriving Inhabited, DecidableEq
structure Station where
 Places : Int
 Passages : List Passage
 Exits : List Int
 deriving Inhabited, DecidableEq
@[go_sem] def z9o (x : Passage) : List AV := [I x.A, I x.B, I x.Kind, I x.Ticks, I x.Wide, I x.Machine, I x.Still]
theorem c82 (x : Passage) : ∀ c ∈ z9o x, Frz c := (b0a (b0e _) (b0a (b0e _) (b0a (b0e _) (b0a (b0e _) (b0a (b0e _) (b0a (b0e _) (b0a (b0e _) b0j)))))))
theorem H94 (x : Passage) : (z9o x).length = 7 := rfl
@[go_sem] theorem B8b {l : List Passage} {n : Nat} {a0 : Int} {a1 : Int} {a2 : Int} {a3 : Int} {a4 : Int} {a5 : Int} {a6 : Int} : (List.map z9o l).set n [I a0, I a1, I a2, I a3, I a4, I a5, I a6] = List.map z9o (l.set n (Passage.mk a0 a1 a2 a3 a4 a5 a6)) := by rw [List.map_set]; rfl
def C0n : Option Int :=
 some 0
def B8v (s : Station) : Int -> Option (Out Int (Unit ⊕ Int))
 | i_6 =>
  if decide (i_6 < (List.length s.Exits : Int)) then
   (get s.Exits i_6).bind fun x16 =>
   (if !(b40 x16 0 (wr (s.Places - 1))) then some true else (if decide (0 < i_6) then (get s.Exits (wr (i_6 - 1))).bind fun x17 =>
   some (decide (x16 <= x17)) else some false).bind fun c18 =>
   some c18).bind fun c19 =>
   if c19 then
    some (.br (.inr 80))
   else
    some (.nx (wr (i_6 + 1)))
  else
   some (.br (.inl ()))
def B9f (s : Station) : Option Int :=
 (b0w (B8v s) (0)).bind fun
  | (.inl ()) => C0n
  | (.inr r') => some r'
def B9e (i_4 : Int) (machines_3_1 : List Int) : Option (Out ((List Int) × Int) (Unit ⊕ Int)) :=
 some (.nx (machines_3_1, wr (i_4 + 1)))
def B8f (i_4 : Int) (x30 : Passage) (machines_3_1 : List Int) : Option (Out ((List Int) × Int) (Unit ⊕ Int)) :=
 if decide (x30.Kind = 3) then
  if !(b40 x30.Still 1 20) then
   some (.br (.inr 80))
  else
   B9e i_4 machines_3_1
 else
  if decide (¬x30.Still = 0) then
   some (.br (.inr 80))
  else
   B9e i_4 machines_3_1
def B9d (s : Station) : ((List Int) × Int) -> Option (Out ((List Int) × Int) (Unit ⊕ Int))
 | (machines_3, i_4) =>
  if decide (i_4 < (List.length s.Passages : Int)) then
   (get s.Passages i_4).bind fun x30 =>
   if (((((!(b40 x30.A 0 (wr (s.Places - 1)))) || (!(b40 x30.B 0 (wr (s.Places - 1))))) || (decide (x30.A = x30.B))) || (!(b40 x30.Ticks 1 20))) || (!(b40 x30.Wide 1 50))) || (!(b40 x30.Kind 1 5)) then
    some (.br (.inr 80))
   else
    if (decide (x30.Kind = 3)) || (decide (x30.Kind = 4)) then
     (if !(b40 x30.Machine 0 11) then some true else (B9g machines_3 x30.Machine).bind fun y47 =>
     some y47).bind fun c48 =>
     if c48 then
      some (.br (.inr 80))
     else
      (ap 8 machines_3 ([x30.Machine])).bind fun l53 =>
      B8f i_4 x30 l53
    else
     if decide (¬x30.Machine = (-1)) then
      some (.br (.inr 80))
     else
      B8f i_4 x30 machines_3
  else
   some (.br (.inl ()))
def B9c (s : Station) : Option Int :=
 if (!(b40 s.Places 1 10)) || (decide (24 < (List.length s.Passages : Int))) then
  some 80
 else
  (b0w (B9d s) ([], 0)).bind fun
   | (.inl ()) => B9f s
   | (.inr r') => some r'
def B90 (O : Orac) : Prop := ∀ (s : Station) (r : Int) (hm0 : B9c s = some r), Fn O "newel/newelref08.Check" [.agg [I s.Places, .fs 7 (List.map z9o s.Passages), .fs 1 (List.map eI s.Exits)]] (I r)
def H9s (s : Station) : Option Station :=
 (ap 56 ([]) s.Passages).bind fun l3 =>
 (ap 8 ([]) s.Exits).bind fun l4 =>
 some (Station.mk s.Places l3 l4)
def J0k (O : Orac) : Prop := ∀ (s : Station) (r : Station) (hm0 : H9s s = some r), FnW2 O "newel/newelref08.Copy" [.agg [I s.Places, .fs 7 (List.map z9o s.Passages), .fs 1 (List.map eI s.Exits)]] (I r.Places) 7 z9o r.Passages 1 eI r.Exits
def l57 : List ByteArray :=
 [(ByteArray.mk #[105, 97]), (ByteArray.mk #[105, 98]), (ByteArray.mk #[105, 99]), (ByteArray.mk #[105, 100])]
def J0i (O : Orac) : Prop := ∀ (_ : Unit), Fn O "newel/neweltop.four" [] (.fs 1 (List.map eS (l57)))
def x19 (kind : ByteArray) (n : Int) : Option ByteArray :=
 (cat kind (chr (IntKind.wrap .i32 (wr (97 + n))))).bind fun q2 =>
 some q2
def J0j (O : Orac) : Prop := ∀ (kind : ByteArray) (n : Int) (r : ByteArray) (hm0 : x19 kind n = some r), Fn O "newel/neweltop.letter" [.v (.string kind), I n] (.v (.string r))
def H83 (p : Passage) (place : Int) : Int :=
 if decide (p.A = place) then
  p.B
 else
  if decide (p.B = place) then
   p.A
  else
   (-1)
def J0m (O : Orac) : Prop := ∀ (p : Passage) (place : Int), Fn O "newel/newelref08.Other" [.agg [I p.A, I p.B, I p.Kind, I p.Ticks, I p.Wide, I p.Machine, I p.Still], I place] (I (H83 p place))
def J0c (out : Int) (machine : Int) : Option Bool :=
 (shr .i64 out (IntKind.wrap .u64 machine)).bind fun q2 =>
 some (decide ((b6y q2 1) = 1))
def J0o (O : Orac) : Prop := ∀ (out : Int) (machine : Int) (r : Bool) (hm0 : J0c out machine = some r), Fn O "newel/newelref08.isOut" [I out, I machine] (B r)
def H9v (p : Passage) (out : Int) (help : Bool) : Option Bool :=
 (if decide (p.Kind = 1) then some true else (if decide (p.Kind = 4) then (J0c out p.Machine).bind fun y4 =>
 some (!y4) else some false).bind fun c5 =>
 some c5).bind fun c6 =>
 some (c6 || ((decide (p.Kind = 5)) && help))
def J0n (O : Orac) : Prop := ∀ (p : Passage) (out : Int) (help : Bool) (r : Bool) (hm0 : H9v p out help = some r), Fn O "newel/newelref08.free" [.agg [I p.A, I p.B, I p.Kind, I p.Ticks, I p.Wide, I p.Machine, I p.Still], I out, B help] (B r)
def J0b (b : Int) (a_3 : Int) (ticks_14 : Int) : Option (Int × Bool) :=
 some (ticks_14, decide (a_3 = b))
def H9u (s : Station) (out : Int) (help : Bool) (way : List Int) : (Int × Int × Int) -> Option (Out (Int × Int × Int) ((Int × Int) ⊕ ((Int × Bool))))
 | (a_3, ticks_14, i_15) =>
  if decide (i_15 < (List.length way : Int)) then
   (get way i_15).bind fun x8 =>
   if !(b40 x8 0 (wr ((List.length s.Passages : Int) - 1))) then
    some (.br (.inr (0, false)))
   else
    (get s.Passages x8).bind fun x12 =>
    (if decide ((H83 x12 a_3) < 0) then some true else (H9v x12 out help).bind fun y15 =>
    some (!y15)).bind fun c16 =>
    if c16 then
     some (.br (.inr (0, false)))
    else
     some (.nx ((H83 x12 a_3), wr (ticks_14 + x12.Ticks), wr (i_15 + 1)))
  else
   some (.br (.inl (a_3, ticks_14)))
def H9t (s : Station) (out : Int) (help : Bool) (a : Int) (b : Int) (way : List Int) : Option (Int × Bool) :=
 (b0w (H9u s out help way) (a, 0, 0)).bind fun
  | (.inl (a_3, ticks_14)) => J0b b a_3 ticks_14
  | (.inr r') => some r'
def J0l (O : Orac) : Prop := ∀ (s : Station) (out : Int) (help : Bool) (a : Int) (b : Int) (way : List Int) (r : Int × Bool) (hm0 : H9t s out help a b way = some r), Fn O "newel/newelref08.Free" [.agg [I s.Places, .fs 7 (List.map z9o s.Passages), .fs 1 (List.map eI s.Exits)], I out, B help, I a, I b, .fs 1 (List.map eI way)] (.tup [I r.1, B r.2])
def c20 (place : Int) (from_ : Int) : Int :=
 if decide (place = from_) then
  0
 else
  if decide (place = 0) then
   from_
  else
   place
def J0h (O : Orac) : Prop := ∀ (place : Int) (from_ : Int), Fn O "newel/neweltop.first" [I place, I from_] (I (c20 place from_))
def H99 (t_3 : List Literal) : Option (List (List Literal)) :=
 some ([t_3])
def H9q (n : Int) : ((List Literal) × Int) -> Option (Out ((List Literal) × Int) (((List Literal))))
 | (t_3, i_4) =>
  if decide (i_4 < 4) then
   (shr .i64 n (IntKind.wrap .u64 i_4)).bind fun q9 =>
   (ap 32 t_3 ([(Literal.mk 1 i_4 0 (decide ((b6y q9 1) = 0)))])).bind fun l10 =>
   some (.nx (l10, wr (i_4 + 1)))
  else
   some (.br t_3)
def H9h (n : Int) : Option (List (List Literal)) :=
 (b0w (H9q n) ([], 0)).bind fun t_3 =>
 H99 t_3
def J0g (O : Orac) : Prop := ∀ (n : Int) (r : List (List Literal)) (hm0 : H9h n = some r), Fn O "newel/neweltop.bits" [I n] (.fs 1 (List.map b0t r))
def b53 (n : Int) (low : Int) (high : Int) : Bool :=
 (decide (low <= n)) && (decide (n <= high))
def B8j (O : Orac) : Prop := ∀ (n : Int) (low : Int) (high : Int), Fn O "newel/ways.within" [I n, I low, I high] (B (b53 n low high))
def B81 (p : Passage) (x_40 : Bool) : Bool :=
 if x_40 then
  (decide (p.Machine = (-1))) && (decide (p.Still = 0))
 else
  if decide (p.Kind = 3) then
   (b53 p.Machine 0 11) && (b53 p.Still 1 20)
  else
   if decide (p.Kind = 4) then
    (b53 p.Machine 0 11) && (decide (p.Still = 0))
   else
    false
def B80 (p : Passage) (places : Int) : Bool :=
 if ((((!(b53 p.A 0 (wr (places - 1)))) || (!(b53 p.B 0 (wr (places - 1))))) || (decide (p.A = p.B))) || (!(b53 p.Ticks 1 20))) || (!(b53 p.Wide 1 50)) then
  false
 else
  if decide (p.Kind = 1) then
   B81 p (decide (p.Kind = 1))
  else
   if decide (p.Kind = 2) then
    B81 p (decide (p.Kind = 2))
   else
    B81 p (decide (p.Kind = 5))
def B96 (O : Orac) : Prop := ∀ (p : Passage) (places : Int), Fn O "newel/ways.passage" [.agg [I p.A, I p.B, I p.Kind, I p.Ticks, I p.Wide, I p.Machine, I p.Still], I places] (B (B80 p places))
def C0u : Option Int :=
 some 0
def B9k (s : Station) : (Int × Int) -> Option (Out (Int × Int) (Unit ⊕ Int))
 | (last_6, x_51) =>
  if decide (x_51 < (List.length s.Exits : Int)) then
   (get s.Exits x_51).bind fun x13 =>
   if !(b53 x13 (wr (last_6 + 1)) (wr (s.Places - 1))) then
    some (.br (.inr 80))
   else
    some (.nx (x13, wr (x_51 + 1)))
  else
   some (.br (.inl ()))
def B9l (s : Station) : Option Int :=
 (b0w (B9k s) ((-1), 0)).bind fun
  | (.inl ()) => C0u
  | (.inr r') => some r'
def B9j (s : Station) : ((List (Int × Int)) × Int) -> Option (Out ((List (Int × Int)) × Int) (Unit ⊕ Int))
 | (machines_3, x_23) =>
  if decide (x_23 < (List.length s.Passages : Int)) then
   (get s.Passages x_23).bind fun x22 =>
   if !(B80 x22 s.Places) then
    some (.br (.inr 80))
   else
    if (decide (0 <= x22.Machine)) && (decide (1 < (b2w (b3w machines_3 x22.Machine (wr ((b2w machines_3 x22.Machine 0) + 1))) x22.Machine 0))) then
     some (.br (.inr 80))
    else
     some (.nx ((b3w machines_3 x22.Machine (wr ((b2w machines_3 x22.Machine 0) + 1))), wr (x_23 + 1)))
  else
   some (.br (.inl ()))
def B9i (s : Station) : Option Int :=
 if (!(b53 s.Places 1 10)) || (decide (24 < (List.length s.Passages : Int))) then
  some 80
 else
  (b0w (B9j s) (([] : List (Int × Int)), 0)).bind fun
   | (.inl ()) => B9l s
   | (.inr r') => some r'
def B94 (O : Orac) : Prop := ∀ (s : Station) (r : Int) (hm0 : B9i s = some r), Fn O "newel/ways.Check" [.agg [I s.Places, .fs 7 (List.map z9o s.Passages), .fs 1 (List.map eI s.Exits)]] (I r)
def C0w : Option Bool :=
 some true
def B9p (s : Station) (l : List Int) : Int -> Option (Out Int (Unit ⊕ Bool))
 | x_9 =>
  if decide (x_9 < (List.length l : Int)) then
   (get l x_9).bind fun x8 =>
   if !(b53 x8 0 (wr (s.Places - 1))) then
    some (.br (.inr false))
   else
    some (.nx (wr (x_9 + 1)))
  else
   some (.br (.inl ()))
def B9o (s : Station) (l : List Int) : Option Bool :=
 (b0w (B9p s l) (0)).bind fun
  | (.inl ()) => C0w
  | (.inr r') => some r'
def B97 (O : Orac) : Prop := ∀ (s : Station) (l : List Int) (r : Bool) (hm0 : B9o s l = some r), Fn O "newel/ways.place" [.agg [I s.Places, .fs 7 (List.map z9o s.Passages), .fs 1 (List.map eI s.Exits)], .fs 1 (List.map eI l)] (B r)
def B8z (s : Station) (out : Int) (places : List Int) : Option Int :=
 (B9i s).bind fun y2 =>
 if decide (¬y2 = 0) then
  some y2
 else
  (if !(b53 out 0 4095) then some true else (B9o s places).bind fun y7 =>
  some (!y7)).bind fun c8 =>
  if c8 then
   some 1
  else
   some 0
def B9s (O : Orac) : Prop := ∀ (s : Station) (out : Int) (places : List Int) (r : Int) (hm0 : B8z s out places = some r), Fn O "newel/ways.asked" [.agg [I s.Places, .fs 7 (List.map z9o s.Passages), .fs 1 (List.map eI s.Exits)], I out, .fs 1 (List.map eI places)] (I r)
structure ways_level where
 Station : Station
 out : Int
 help : Bool
 deriving Inhabited, DecidableEq
def x81 (s : ways_level) (p : Passage) (from_ : Int) : Option Int :=
 (if decide (p.Kind = 1) then some true else (if decide (p.Kind = 4) then (shr .i64 s.out p.Machine).bind fun q4 =>
 some (decide ((b6y q4 1) = 0)) else some false).bind fun c5 =>
 some c5).bind fun c6 =>
 if !(c6 || ((decide (p.Kind = 5)) && s.help)) then
  some (-1)
 else
  if decide (p.A = from_) then
   some p.B
  else
   if decide (p.B = from_) then
    some p.A
   else
    some (-1)
def B9z (O : Orac) : Prop := ∀ (s : ways_level) (p : Passage) (from_ : Int) (r : Int) (hm0 : x81 s p from_ = some r), Fn O "(newel/ways.level).other" [.agg [I s.Station.Places, .fs 7 (List.map z9o s.Station.Passages), .fs 1 (List.map eI s.Station.Exits), I s.out, B s.help], .agg [I p.A, I p.B, I p.Kind, I p.Ticks, I p.Wide, I p.Machine, I p.Still], I from_] (I r)
def B99 (ticks_5_1 : List Int) : Option (List Int) :=
 some ticks_5_1
def B98 (ticks_5_2 : List Int) (more_7_1 : Bool) : Option (Out ((List Int) × Bool) (((List Int)))) :=
 some (.nx (ticks_5_2, more_7_1))
def B83 (x_33 : Int) (ticks_5_3 : List Int) (more_7_2 : Bool) : Option (Out ((List Int) × Bool × Int) (((List Int) × Bool))) :=
 some (.nx (ticks_5_3, more_7_2, wr (x_33 + 1)))
def x52 (x_40 : Int) (ticks_5_4 : List Int) (more_7_3 : Bool) : Option (Out ((List Int) × Bool × Int) (((List Int) × Bool))) :=
 some (.nx (ticks_5_4, more_7_3, wr (x_40 + 1)))
def x18 (s : ways_level) (x_33 : Int) : ((List Int) × Bool × Int) -> Option (Out ((List Int) × Bool × Int) (((List Int) × Bool)))
 | (ticks_5_3, more_7_2, x_40) =>
  if decide (x_40 < (List.length s.Station.Passages : Int)) then
   (get s.Station.Passages x_40).bind fun x25 =>
   (x81 s x25 x_33).bind fun y27 =>
   (if decide (y27 < 0) then some true else (get ticks_5_3 y27).bind fun x30 =>
   some (decide (x30 < 0))).bind fun c31 =>
   if c31 then
    x52 x_40 ticks_5_3 more_7_2
   else
    (get ticks_5_3 y27).bind fun x36 =>
    (get ticks_5_3 x_33).bind fun x38 =>
    if (decide (x38 < 0)) || (decide ((wr (x36 + x25.Ticks)) < x38)) then
     x52 x_40 (List.set ticks_5_3 (Int.toNat x_33) (wr (x36 + x25.Ticks))) true
    else
     x52 x_40 ticks_5_3 more_7_2
  else
   some (.br (ticks_5_3, more_7_2))
def H86 (s : ways_level) : ((List Int) × Bool × Int) -> Option (Out ((List Int) × Bool × Int) (((List Int) × Bool)))
 | (ticks_5_2, more_7_1, x_33) =>
  if decide (x_33 < s.Station.Places) then
   (b0w (x18 s x_33) (ticks_5_2, more_7_1, 0)).bind fun
    | (ticks_5_3, more_7_2) => B83 x_33 ticks_5_3 more_7_2
  else
   some (.br (ticks_5_2, more_7_1))
def x45 (s : ways_level) : ((List Int) × Bool) -> Option (Out ((List Int) × Bool) (((List Int))))
 | (ticks_5_1, more_7) =>
  if more_7 then
   (b0w (H86 s) (ticks_5_1, false, 0)).bind fun
    | (ticks_5_2, more_7_1) => B98 ticks_5_2 more_7_1
  else
   some (.br ticks_5_1)
def B84 (s : ways_level) (to_ : Int) (ticks_5 : List Int) : Option (List Int) :=
 (get ticks_5 to_).bind fun x6 =>
 (b0w (x45 s) ((List.set ticks_5 (Int.toNat to_) 0), true)).bind fun ticks_5_1 =>
 B99 ticks_5_1
def B8l (l2 : List Int) : ((List Int) × Int) -> Option (Out ((List Int) × Int) (((List Int))))
 | (ticks_5, x_19) =>
  if decide (x_19 < ((List.length l2 : Nat) : Int)) then
   (get ticks_5 x_19).bind fun x49 =>
   some (.nx ((List.set ticks_5 (Int.toNat x_19) (-1)), wr (x_19 + 1)))
  else
   some (.br ticks_5)
def B8k (s : ways_level) (to_ : Int) : Option (List Int) :=
 (mks 8 s.Station.Places 0).bind fun l2 =>
 (b0w (B8l l2) (l2, 0)).bind fun ticks_5 =>
 B84 s to_ ticks_5
def B9y (O : Orac) : Prop := ∀ (s : ways_level) (to_ : Int) (r : List Int) (hm0 : B8k s to_ = some r), Fn O "(newel/ways.level).far" [.agg [I s.Station.Places, .fs 7 (List.map z9o s.Station.Passages), .fs 1 (List.map eI s.Station.Exits), I s.out, B s.help], I to_] (.fs 1 (List.map eI r))
def J0e (from_ : Int) (y6 : List Int) (way_11 : List Int) : Option (Int × (List Int) × Int) :=
 (get y6 from_).bind fun x14 =>
 some (x14, way_11, 0)
def J0f (way_11_1 : List Int) (at_15_1 : Int) : Option (Out ((List Int) × Int) (((List Int)))) :=
 some (.nx (way_11_1, at_15_1))
def H9k (s : Station) (out : Int) (help : Bool) (y6 : List Int) (way_11 : List Int) : (Int × Int) -> Option (Out (Int × Int) (((List Int) × Int)))
 | (at_15_1, x_47) =>
  if decide (x_47 < (List.length s.Passages : Int)) then
   (get s.Passages x_47).bind fun x25 =>
   (x81 (ways_level.mk s out help) x25 at_15_1).bind fun y27 =>
   (if decide (0 <= y27) then (get y6 y27).bind fun x33 =>
   some (decide (0 <= x33)) else some false).bind fun c34 =>
   (if c34 then (get y6 y27).bind fun x35 =>
   (get y6 at_15_1).bind fun x36 =>
   some (decide ((wr (x35 + x25.Ticks)) = x36)) else some false).bind fun c37 =>
   if c37 then
    (ap 8 way_11 ([x_47])).bind fun l42 =>
    some (.br (l42, y27))
   else
    some (.nx (at_15_1, wr (x_47 + 1)))
  else
   some (.br (way_11, at_15_1))
def H9a (s : Station) (out : Int) (help : Bool) (to_ : Int) (y6 : List Int) : ((List Int) × Int) -> Option (Out ((List Int) × Int) (((List Int))))
 | (way_11, at_15) =>
  if decide (¬at_15 = to_) then
   (b0w (H9k s out help y6 way_11) (at_15, 0)).bind fun
    | (way_11_1, at_15_1) => J0f way_11_1 at_15_1
  else
   some (.br way_11)
def H9j (s : Station) (out : Int) (help : Bool) (from_ : Int) (to_ : Int) : Option (Int × (List Int) × Int) :=
 (B8z s out ([from_, to_])).bind fun y2 =>
 if decide (¬y2 = 0) then
  some (0, [], y2)
 else
  (B8k (ways_level.mk s out help) to_).bind fun y6 =>
  (get y6 from_).bind fun x8 =>
  if decide (x8 < 0) then
   some (0, [], 3)
  else
   (b0w (H9a s out help to_ y6) ([], from_)).bind fun way_11 =>
   J0e from_ y6 way_11
def J0p (O : Orac) : Prop := ∀ (s : Station) (out : Int) (help : Bool) (from_ : Int) (to_ : Int) (r : Int × (List Int) × Int) (hm0 : H9j s out help from_ to_ = some r), Fn O "newel/ways.Way" [.agg [I s.Places, .fs 7 (List.map z9o s.Passages), .fs 1 (List.map eI s.Exits)], I out, B help, I from_, I to_] (.tup [I r.1, .fs 1 (List.map eI r.2.1), I r.2.2])
structure l08_Trip where
 Out : Int
 Help : Bool
 From : Int
 To : Int
 deriving Inhabited, DecidableEq
def H98 : Option Bool :=
 (x28).bind fun y36 =>
 some y36
def H9e (y21 : Int × (List Int) × Int) (y23 : (List Int) × Bool × Int) : Int -> Option (Out Int (Unit ⊕ Bool))
 | i_20 =>
  if decide (i_20 < (List.length y23.1 : Int)) then
   (get y23.1 i_20).bind fun x43 =>
   (get y21.2.1 i_20).bind fun x44 =>
   if decide (¬x43 = x44) then
    some (.br (.inr false))
   else
    some (.nx (wr (i_20 + 1)))
  else
   some (.br (.inl ()))
def H97 (x : l08_Trip) (y15 : Station) (m_6_3 : List State) (t_5_1 : List Passage) (m_6_4 : List Rule) : Option Bool :=
 (H9j (Station.mk y15.Places t_5_1 y15.Exits) x.Out x.Help x.From x.To).bind fun y21 =>
 (c2e (Machine.mk l57 ([]) ([]) m_6_3 m_6_4) ([]) ([[(Literal.mk 3 (c20 x.To x.From) 0 false)]])).bind fun y23 =>
 if ((((decide (¬y23.2.2 = 0)) || ((decide (¬y21.2.2 = 0)) && (decide (¬y21.2.2 = 3)))) || (!(b5c y23.2.1 (decide (y21.2.2 = 0))))) || (decide (¬(List.length y23.1 : Int) = (List.length y21.2.1 : Int)))) || (decide (¬y21.1 = (List.length y21.2.1 : Int))) then
  some false
 else
  (b0w (H9e y21 y23) (0)).bind fun
   | (.inl ()) => H98
   | (.inr r') => some r'
def H9g (i_8 : Int) (t_5_1_1 : List Passage) (m_6_4_1 : List Rule) : Option (Out ((List Passage) × (List Rule) × Int) (((List Passage) × (List Rule)))) :=
 some (.nx (t_5_1_1, m_6_4_1, wr (i_8 + 1)))
def H9d (x : l08_Trip) (y15 : Station) : ((List Passage) × (List Rule) × Int) -> Option (Out ((List Passage) × (List Rule) × Int) (((List Passage) × (List Rule))))
 | (t_5_1, m_6_4, i_8) =>
  if decide (i_8 < ((List.length t_5_1 : Nat) : Int)) then
   (get t_5_1 i_8).bind fun x53 =>
   (get (List.set t_5_1 (Int.toNat i_8) (Passage.mk x53.A x53.B x53.Kind 1 x53.Wide x53.Machine x53.Still)) i_8).bind fun x55 =>
   (H9t (Station.mk y15.Places (List.set t_5_1 (Int.toNat i_8) (Passage.mk x53.A x53.B x53.Kind 1 x53.Wide x53.Machine x53.Still)) y15.Exits) x.Out x.Help x55.A x55.B ([i_8])).bind fun y57 =>
   if !y57.2 then
    H9g i_8 (List.set t_5_1 (Int.toNat i_8) (Passage.mk x53.A x53.B x53.Kind 1 x53.Wide x53.Machine x53.Still)) m_6_4
   else
    (H9h i_8).bind fun y63 =>
    (H9h i_8).bind fun y64 =>
    (ap 64 m_6_4 ([(Rule.mk (c20 x55.A x.From) (c20 x55.B x.From) y63 ([])), (Rule.mk (c20 x55.B x.From) (c20 x55.A x.From) y64 ([]))])).bind fun l65 =>
    H9g i_8 (List.set t_5_1 (Int.toNat i_8) (Passage.mk x53.A x53.B x53.Kind 1 x53.Wide x53.Machine x53.Still)) l65
  else
   some (.br (t_5_1, m_6_4))
def H96 (x : l08_Trip) (y15 : Station) (m_6_3 : List State) : Option Bool :=
 (b0w (H9d x y15) (y15.Passages, [], 0)).bind fun
  | (t_5_1, m_6_4) => H97 x y15 m_6_3 t_5_1 m_6_4
def H9f (s : Station) : ((List State) × Int) -> Option (Out ((List State) × Int) (((List State))))
 | (m_6_3, i_7) =>
  if decide (i_7 < s.Places) then
   (x19 (ByteArray.mk #[112]) i_7).bind fun y73 =>
   (ap 24 m_6_3 ([(State.mk y73 0)])).bind fun l74 =>
   some (.nx (l74, wr (i_7 + 1)))
  else
   some (.br m_6_3)
def H9p (s : Station) (x : l08_Trip) : Option Bool :=
 (B9c s).bind fun y2 =>
 if (((((((decide (¬y2 = 0)) || (decide (16 < (List.length s.Passages : Int)))) || (decide (x.Out < 0))) || (decide (4096 <= x.Out))) || (decide (x.From < 0))) || (decide (s.Places <= x.From))) || (decide (x.To < 0))) || (decide (s.Places <= x.To)) then
  (x28).bind fun y13 =>
  some y13
 else
  (H9s s).bind fun y15 =>
  (b0w (H9f s) ([], 0)).bind fun m_6_3 =>
  H96 x y15 m_6_3
def J1e (O : Orac) : Prop := ∀ (s : Station) (x : l08_Trip) (r : Bool) (hm0 : H9p s x = some r), Fn O "newel/neweltop.TopWalks" [.agg [I s.Places, .fs 7 (List.map z9o s.Passages), .fs 1 (List.map eI s.Exits)], .agg [I x.Out, B x.Help, I x.From, I x.To]] (B r)
end
end Go.Nw.XM
