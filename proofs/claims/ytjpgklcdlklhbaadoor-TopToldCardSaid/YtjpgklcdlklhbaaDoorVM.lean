/- Models of functions: printed by gen.py. -/
import Derived.Test.YtjpgklcdlklhbaaDoorNwIxK
import Derived.Test.YtjpgklcdlklhbaaDoorNwMaps
import Derived.Test.YtjpgklcdlklhbaaDoorNwTp4Src
set_option linter.all false
namespace Go.Nw.VM
noncomputable section
open Go.Nw.Tp4
set_option maxHeartbeats 4000000
theorem lA9 {α : Type} {l m : List α} : (l ++ m).length = l.length + m.length := List.length_append
theorem mA9 {α β : Type} {f : α → β} {l m : List α} : List.map f (l ++ m) = List.map f l ++ List.map f m := List.map_append
theorem oF9 {a b : Bool} : (a || b) = false ↔ a = false ∧ b = false := Bool.or_eq_false_iff
theorem nF9 : (¬False) = True := not_false_eq_true
theorem bF9 {α : Type} [BEq α] [LawfulBEq α] {a b : α} : (a == b) = false ↔ a ≠ b := beq_eq_false_iff_ne
theorem sI9 {α : Type} {a b : α} (h : some a = some b) : a = b := Option.some.inj h
theorem va9 {p : Prop} (h : p := by first | (simp only [go_sem, List.length_append, List.map_append]; done) | rfl) : p := h
theorem vb9 {p : Prop} (h : p := by simp only [go_sem, List.length_append, List.map_append]) : p := h
theorem vc9 {p : Prop} (h : p := by omega) : p := h
theorem vd9 {p : Prop} (h : p := by first | exact b1w | exact b1y (by first | omega | (simp only [nxs] <;> omega)) | assumption | exact b1v (by assumption) (by first | omega | (simp only [go_sem, nxs] <;> omega))) : p := h
theorem ve9 {p : Prop} (h : p := by first | exact b1w | exact b1y (by first | assumption | omega | (simp only [nxs] <;> omega)) | assumption | exact b1v (by assumption) (by first | assumption | omega | (simp only [nxs] <;> omega))) : p := h
theorem vf9 {p : Prop} (h : p := by first | first | assumption | omega | (simp only [nxs] <;> omega)) : p := h
theorem vg9 {p : Prop} (h : p := by simp only [go_sem]) : p := h
theorem vh9 {p : Prop} (h : p := by first | rfl | simp only [go_sem, List.length_append, List.map_append]) : p := h
variable {O : Orac} [MapsOk O]
def b17 (n : Int) (low : Int) (high : Int) : Bool :=
 (decide (low <= n)) && (decide (n <= high))
def x79 (O : Orac) : Prop := ∀ (n : Int) (low : Int) (high : Int), Fn O "newel/newelref03.within" [I n, I low, I high] (B (b17 n low high))
structure Wire where
 Kind : Int
 Of : List Int
 deriving Inhabited, DecidableEq
structure Circuit where
 Hazards : Int
 Switches : List Int
 Wires : List Wire
 deriving Inhabited, DecidableEq
@[go_sem] def b11 (x : Wire) : List AV := [I x.Kind, .fs 1 (List.map eI x.Of)]
theorem b27 (x : Wire) : ∀ c ∈ b11 x, Frz c := (b0a (b0e _) (b0a (b0c fun a _ => b1t a) b0j))
@[go_sem] theorem B8d {l : List Wire} {n : Nat} {a0 : Int} {a1 : List Int} : (List.map b11 l).set n [I a0, .fs 1 (List.map eI a1)] = List.map b11 (l.set n (Wire.mk a0 a1)) := by rw [List.map_set]; rfl
def z85 : Option Int :=
 some 0
def z5m (used_4 : List Int) : Int -> Option (Out Int (Unit ⊕ Int))
 | i_9 =>
  if decide (i_9 < ((List.length used_4 : Nat) : Int)) then
   (get used_4 i_9).bind fun x18 =>
   if decide (¬x18 = 1) then
    some (.br (.inr 30))
   else
    some (.nx (wr (i_9 + 1)))
  else
   some (.br (.inl ()))
def z5n (used_4 : List Int) : Option Int :=
 (b0w (z5m used_4) (1)).bind fun
  | (.inl ()) => z85
  | (.inr r') => some r'
def x50 (i_5 : Int) (used_4_1 : List Int) : Option (Out ((List Int) × Int) (((List Int)) ⊕ Int)) :=
 some (.nx (used_4_1, wr (i_5 + 1)))
def x38 (c : Circuit) (x27 : Wire) : ((List Int) × Int × Int) -> Option (Out ((List Int) × Int × Int) (((List Int)) ⊕ Int))
 | (used_4_1, last_7, k_8) =>
  if decide (k_8 < (List.length x27.Of : Int)) then
   (get x27.Of k_8).bind fun x45 =>
   if !(b17 x45 (wr (last_7 + 1)) (wr ((List.length c.Wires : Int) - 1))) then
    some (.br (.inr 30))
   else
    (get used_4_1 x45).bind fun x49 =>
    some (.nx ((List.set used_4_1 (Int.toNat x45) (wr (x49 + 1))), x45, wr (k_8 + 1)))
  else
   some (.br (.inl used_4_1))
def x58 (c : Circuit) (used_4 : List Int) (i_5 : Int) (x27 : Wire) (x_83 : Bool) : Option (Out ((List Int) × Int) (((List Int)) ⊕ Int)) :=
 if x_83 then
  if !(b17 (List.length x27.Of : Int) 1 8) then
   some (.br (.inr 30))
  else
   (b0w (x38 c x27) (used_4, i_5, 0)).bind fun
    | (.inl used_4_1) => x50 i_5 used_4_1
    | (.inr r') => some (.br (.inr r'))
 else
  some (.br (.inr 30))
def z5l (c : Circuit) : ((List Int) × Int) -> Option (Out ((List Int) × Int) (((List Int)) ⊕ Int))
 | (used_4, i_5) =>
  if decide (i_5 < (List.length c.Wires : Int)) then
   (get c.Wires i_5).bind fun x27 =>
   if decide (x27.Kind = 1) then
    (if decide (¬(List.length x27.Of : Int) = 1) then some true else (get x27.Of 0).bind fun x31 =>
    some (!(b17 x31 0 (wr ((List.length c.Switches : Int) - 1))))).bind fun c32 =>
    if c32 then
     some (.br (.inr 30))
    else
     x50 i_5 used_4
   else
    if decide (x27.Kind = 2) then
     x58 c used_4 i_5 x27 (decide (x27.Kind = 2))
    else
     x58 c used_4 i_5 x27 (decide (x27.Kind = 3))
  else
   some (.br (.inl used_4))
def z6o (c : Circuit) : Option Int :=
 (mks 8 (List.length c.Wires : Int) 0).bind fun l8 =>
 (b0w (z5l c) (l8, 0)).bind fun
  | (.inl used_4) => z5n used_4
  | (.inr r') => some r'
def x41 (c : Circuit) : Int -> Option (Out Int (Unit ⊕ Int))
 | i_3 =>
  if decide (i_3 < (List.length c.Switches : Int)) then
   (get c.Switches i_3).bind fun x59 =>
   (shl .i64 1 (IntKind.wrap .u64 c.Hazards)).bind fun q60 =>
   if !(b17 x59 0 (wr (q60 - 1))) then
    some (.br (.inr 30))
   else
    some (.nx (wr (i_3 + 1)))
  else
   some (.br (.inl ()))
def c27 (c : Circuit) : Option Int :=
 if ((!(b17 c.Hazards 1 8)) || (!(b17 (List.length c.Switches : Int) 1 12))) || (!(b17 (List.length c.Wires : Int) 1 24)) then
  some 30
 else
  (b0w (x41 c) (0)).bind fun
   | (.inl ()) => z6o c
   | (.inr r') => some r'
def z7n (O : Orac) : Prop := ∀ (c : Circuit) (r : Int) (hm0 : c27 c = some r), Fn O "newel/newelref03.Check" [.agg [I c.Hazards, .fs 1 (List.map eI c.Switches), .fs 2 (List.map b11 c.Wires)]] (I r)
def x63 (c : Circuit) (n : Int) : Option Bool :=
 (shl .i64 1 (IntKind.wrap .u64 c.Hazards)).bind fun q2 =>
 some (b17 n 0 (wr (q2 - 1)))
def z7p (O : Orac) : Prop := ∀ (c : Circuit) (n : Int) (r : Bool) (hm0 : x63 c n = some r), Fn O "newel/newelref03.Hazards" [.agg [I c.Hazards, .fs 1 (List.map eI c.Switches), .fs 2 (List.map b11 c.Wires)], I n] (B r)
structure Trial where
 Hazards : Int
 Wire : Int
 deriving Inhabited, DecidableEq
@[go_sem] def b18 (x : Trial) : List AV := [I x.Hazards, I x.Wire]
theorem z56 (x : Trial) : ∀ c ∈ b18 x, Frz c := (b0a (b0e _) (b0a (b0e _) b0j))
@[go_sem] theorem B8c {l : List Trial} {n : Nat} {a0 : Int} {a1 : Int} : (List.map b18 l).set n [I a0, I a1] = List.map b18 (l.set n (Trial.mk a0 a1)) := by rw [List.map_set]; rfl
def z84 : Option Int :=
 some 0
def z5k (c : Circuit) (l : List Trial) : Int -> Option (Out Int (Unit ⊕ Int))
 | i_5 =>
  if decide (i_5 < (List.length l : Int)) then
   (get l i_5).bind fun x15 =>
   (x63 c x15.Hazards).bind fun y16 =>
   if (!y16) || (!(b17 x15.Wire 0 (wr ((List.length c.Wires : Int) - 1)))) then
    some (.br (.inr 31))
   else
    some (.nx (wr (i_5 + 1)))
  else
   some (.br (.inl ()))
def c31 (c : Circuit) (l : List Trial) : Option Int :=
 (c27 c).bind fun y2 =>
 if decide (¬y2 = 0) then
  some 30
 else
  if decide (12 < (List.length l : Int)) then
   some 2
  else
   (b0w (z5k c l) (0)).bind fun
    | (.inl ()) => z84
    | (.inr r') => some r'
def z7o (O : Orac) : Prop := ∀ (c : Circuit) (l : List Trial) (r : Int) (hm0 : c31 c l = some r), Fn O "newel/newelref03.CheckTrials" [.agg [I c.Hazards, .fs 1 (List.map eI c.Switches), .fs 2 (List.map b11 c.Wires)], .fs 2 (List.map b18 l)] (I r)
def z6t : Option Int :=
 some (-1)
def z6s (s : List Bool) (v : Bool) : Int -> Option (Out Int (Unit ⊕ Int))
 | x_8 =>
  if decide (x_8 < (List.length s : Int)) then
   (get s x_8).bind fun x8 =>
   if b5c v x8 then
    some (.br (.inr x_8))
   else
    some (.nx (wr (x_8 + 1)))
  else
   some (.br (.inl ()))
def z6r (s : List Bool) (v : Bool) : Option Int :=
 (b0w (z6s s v) (0)).bind fun
  | (.inl ()) => z6t
  | (.inr r') => some r'
def z7s (O : Orac) : Prop := ∀ (s : List Bool) (v : Bool) (r : Int) (hm0 : z6r s v = some r), Fn O "slices.Index[[]bool,bool]" [.fs 1 (List.map eB s), B v] (I r)
def z5p (s : List Bool) (v : Bool) : Option Bool :=
 (z6r s v).bind fun y2 =>
 some (decide (0 <= y2))
def z7r (O : Orac) : Prop := ∀ (s : List Bool) (v : Bool) (r : Bool) (hm0 : z5p s v = some r), Fn O "slices.Contains[[]bool,bool]" [.fs 1 (List.map eB s), B v] (B r)
def s25 (n : Int) (many : Int) : Option Bool :=
 (if decide (0 <= n) then (shl .i64 1 many).bind fun q3 =>
 some (decide (n < q3)) else some false).bind fun c4 =>
 some c4
def z5t (O : Orac) : Prop := ∀ (n : Int) (many : Int) (r : Bool) (hm0 : s25 n many = some r), Fn O "newel/circuit.isSet" [I n, I many] (B r)
def s48 (n : Int) (c0 : Circuit) : Option Bool :=
 (s25 n c0.Hazards).bind fun y2 =>
 some (!y2)
def z63 (O : Orac) : Prop := ∀ (n : Int) (c0 : Circuit) (r : Bool) (hm0 : s48 n c0 = some r), Fn O "newel/circuit.Check$1" [I n, .fp [I c0.Hazards, .fs 1 (List.map eI c0.Switches), .fs 2 (List.map b11 c0.Wires)] 0] (B r)
def d5b : Option Int :=
 some (-1)
def g3c (s : List Int) (f : Int -> Option Bool) : Int -> Option (Out Int (Unit ⊕ Int))
 | x_8 =>
  if decide (x_8 < (List.length s : Int)) then
   (get s x_8).bind fun x9 =>
   (f x9).bind fun y10 =>
   if y10 then
    some (.br (.inr x_8))
   else
    some (.nx (wr (x_8 + 1)))
  else
   some (.br (.inl ()))
def d5a (s : List Int) (f : Int -> Option Bool) : Option Int :=
 (b0w (g3c s f) (0)).bind fun
  | (.inl ()) => d5b
  | (.inr r') => some r'
def d0x (O : Orac) : Prop := ∀ (s : List Int) (f_n : String) (f_a f_b : List AV) (f : Int -> Option Bool) (f_z : Frz (.fn f_n f_a f_b)) (f_h : ∀ z0 y, f z0 = some y -> Fn O f_n (f_a ++ [I z0] ++ f_b) (B y)) (r : Int) (hm0 : d5a s f = some r), Fn O "slices.IndexFunc[[]int,int]" [.fs 1 (List.map eI s), .fn f_n f_a f_b] (I r)
def b45 (s : List Int) (f : Int -> Option Bool) : Option Bool :=
 (d5a s f).bind fun y2 =>
 some (decide (0 <= y2))
def d0v (O : Orac) : Prop := ∀ (s : List Int) (f_n : String) (f_a f_b : List AV) (f : Int -> Option Bool) (f_z : Frz (.fn f_n f_a f_b)) (f_h : ∀ z0 y, f z0 = some y -> Fn O f_n (f_a ++ [I z0] ++ f_b) (B y)) (r : Bool) (hm0 : b45 s f = some r), Fn O "slices.ContainsFunc[[]int,int]" [.fs 1 (List.map eI s), .fn f_n f_a f_b] (B r)
def z7w : Option Bool :=
 some true
def y39 (l : List Int) (high : Int) : (Int × Int) -> Option (Out (Int × Int) (Unit ⊕ Bool))
 | (low_1, x_11) =>
  if decide (x_11 < (List.length l : Int)) then
   (get l x_11).bind fun x8 =>
   if (decide (x8 < low_1)) || (decide (high <= x8)) then
    some (.br (.inr false))
   else
    some (.nx (wr (x8 + 1), wr (x_11 + 1)))
  else
   some (.br (.inl ()))
def s77 (l : List Int) (low : Int) (high : Int) : Option Bool :=
 (b0w (y39 l high) (low, 0)).bind fun
  | (.inl ()) => z7w
  | (.inr r') => some r'
def z66 (O : Orac) : Prop := ∀ (l : List Int) (low : Int) (high : Int) (r : Bool) (hm0 : s77 l low high = some r), Fn O "newel/circuit.ascending" [.fs 1 (List.map eI l), I low, I high] (B r)
def s49 (n : Int) : Bool :=
 decide (¬n = 1)
def z64 (O : Orac) : Prop := ∀ (n : Int), Fn O "newel/circuit.Check$2" [I n] (B (s49 n))
def y38 (held_4 : List Int) : Option Int :=
 (get held_4 0).bind fun x28 =>
 (if decide (¬x28 = 0) then some true else (sub held_4 1 (List.length held_4 : Int)).bind fun l29 =>
 (b45 l29 (fun z30 => some (s49 z30))).bind fun y31 =>
 some y31).bind fun c32 =>
 if c32 then
  some 30
 else
  some 0
def s61 (x_53 : Int) (held_4_1 : List Int) : Option (Out ((List Int) × Int) (((List Int)) ⊕ Int)) :=
 some (.nx (held_4_1, wr (x_53 + 1)))
def s60 (x42 : Wire) : ((List Int) × Int) -> Option (Out ((List Int) × Int) (((List Int))))
 | (held_4_1, x_102) =>
  if decide (x_102 < (List.length x42.Of : Int)) then
   (get x42.Of x_102).bind fun x66 =>
   (get held_4_1 x66).bind fun x68 =>
   some (.nx ((List.set held_4_1 (Int.toNat x66) (wr (x68 + 1))), wr (x_102 + 1)))
  else
   some (.br held_4_1)
def s62 (c : Circuit) (held_4 : List Int) (x_53 : Int) (x42 : Wire) (x_75 : Bool) : Option (Out ((List Int) × Int) (((List Int)) ⊕ Int)) :=
 if x_75 then
  (if (decide ((List.length x42.Of : Int) < 1)) || (decide (8 < (List.length x42.Of : Int))) then some true else (s77 x42.Of (wr (x_53 + 1)) (List.length c.Wires : Int)).bind fun y55 =>
  some (!y55)).bind fun c56 =>
  if c56 then
   some (.br (.inr 30))
  else
   (b0w (s60 x42) (held_4, 0)).bind fun held_4_1 =>
   s61 x_53 held_4_1
 else
  some (.br (.inr 30))
def y34 (c : Circuit) : ((List Int) × Int) -> Option (Out ((List Int) × Int) (((List Int)) ⊕ Int))
 | (held_4, x_53) =>
  if decide (x_53 < (List.length c.Wires : Int)) then
   (get c.Wires x_53).bind fun x42 =>
   if decide (x42.Kind = 1) then
    (if decide (¬(List.length x42.Of : Int) = 1) then some true else (s77 x42.Of 0 (List.length c.Switches : Int)).bind fun y46 =>
    some (!y46)).bind fun c47 =>
    if c47 then
     some (.br (.inr 30))
    else
     s61 x_53 held_4
   else
    if decide (x42.Kind = 2) then
     s62 c held_4 x_53 x42 (decide (x42.Kind = 2))
    else
     s62 c held_4 x_53 x42 (decide (x42.Kind = 3))
  else
   some (.br (.inl held_4))
def b68 (c : Circuit) : Option Int :=
 (z5p ([(decide (1 <= c.Hazards)) && (decide (c.Hazards <= 8)), (decide (1 <= (List.length c.Switches : Int))) && (decide ((List.length c.Switches : Int) <= 12)), (decide (1 <= (List.length c.Wires : Int))) && (decide ((List.length c.Wires : Int) <= 24))]) false).bind fun y12 =>
 (if y12 then some true else (b45 c.Switches (fun z13 => s48 z13 c)).bind fun y14 =>
 some y14).bind fun c15 =>
 if c15 then
  some 30
 else
  (mks 8 (List.length c.Wires : Int) 0).bind fun l20 =>
  (b0w (y34 c) (l20, 0)).bind fun
   | (.inl held_4) => y38 held_4
   | (.inr r') => some r'
def z62 (O : Orac) : Prop := ∀ (c : Circuit) (r : Int) (hm0 : b68 c = some r), Fn O "newel/circuit.Check" [.agg [I c.Hazards, .fs 1 (List.map eI c.Switches), .fs 2 (List.map b11 c.Wires)]] (I r)
structure circuit_state where
 c : Circuit
 hazards : Int
 closed : Int
 open_ : Int
 deriving Inhabited, DecidableEq
def z50 (s : circuit_state) (sw : Int) : Option Bool :=
 (shr .i64 s.open_ sw).bind fun q6 =>
 (if decide ((b6y q6 1) = 0) then (shr .i64 s.closed sw).bind fun q7 =>
 (if decide ((b6y q7 1) = 1) then some true else (get s.c.Switches sw).bind fun x8 =>
 some (decide ((b6y x8 s.hazards) = 0))).bind fun c9 =>
 some c9 else some false).bind fun c10 =>
 some c10
def z6y (O : Orac) : Prop := ∀ (s : circuit_state) (sw : Int) (r : Bool) (hm0 : z50 s sw = some r), Fn O "(newel/circuit.state).conducts" [.agg [I s.c.Hazards, .fs 1 (List.map eI s.c.Switches), .fs 2 (List.map b11 s.c.Wires), I s.hazards, I s.closed, I s.open_], I sw] (B r)
def s41 (self__circuit_state__wire : circuit_state -> Int -> Option Bool) (k : Int) (c0 : circuit_state) : Option Bool :=
 (self__circuit_state__wire c0 k).bind fun y2 =>
 some (!y2)
def z60 (O : Orac) : Prop := ∀ (self__circuit_state__wire : circuit_state -> Int -> Option Bool) (self__circuit_state__wire_h : ∀ z0 z1 y, self__circuit_state__wire z0 z1 = some y -> Fn O "(newel/circuit.state).wire" [.agg [I z0.c.Hazards, .fs 1 (List.map eI z0.c.Switches), .fs 2 (List.map b11 z0.c.Wires), I z0.hazards, I z0.closed, I z0.open_], I z1] (B y)) (k : Int) (c0 : circuit_state) (r : Bool) (hm0 : s41 self__circuit_state__wire k c0 = some r), Fn O "(newel/circuit.state).wire$1" [I k, .fp [I c0.c.Hazards, .fs 1 (List.map eI c0.c.Switches), .fs 2 (List.map b11 c0.c.Wires), I c0.hazards, I c0.closed, I c0.open_] 0] (B r)
def y21 (self__circuit_state__wire : circuit_state -> Int -> Option Bool) (s : circuit_state) (i : Int) : Option Bool :=
 (get s.c.Wires i).bind fun x2 =>
 if decide (x2.Kind = 1) then
  (get x2.Of 0).bind fun x7 =>
  (z50 s x7).bind fun y8 =>
  some y8
 else
  if decide (x2.Kind = 3) then
   (b45 x2.Of (fun z12 => self__circuit_state__wire s z12)).bind fun y13 =>
   some y13
  else
   (b45 x2.Of (fun z16 => s41 self__circuit_state__wire z16 s)).bind fun y17 =>
   some (!y17)
def z61 (O : Orac) : Prop := ∀ (self__circuit_state__wire : circuit_state -> Int -> Option Bool) (self__circuit_state__wire_h : ∀ z0 z1 y, self__circuit_state__wire z0 z1 = some y -> Fn O "(newel/circuit.state).wire" [.agg [I z0.c.Hazards, .fs 1 (List.map eI z0.c.Switches), .fs 2 (List.map b11 z0.c.Wires), I z0.hazards, I z0.closed, I z0.open_], I z1] (B y)) (s : circuit_state) (i : Int) (r : Bool) (hm0 : y21 self__circuit_state__wire s i = some r), Fn O "(newel/circuit.state).wire" [.agg [I s.c.Hazards, .fs 1 (List.map eI s.c.Switches), .fs 2 (List.map b11 s.c.Wires), I s.hazards, I s.closed, I s.open_], I i] (B r)
def b43 : Nat -> circuit_state -> Int -> Option Bool
 | 0 => fun _ _ => none
 | n + 1 => fun s i => y21 (b43 n) s i
def z6z (O : Orac) : Prop := ∀ (n : Nat) (s : circuit_state) (i : Int) (r : Bool) (hm0 : b43 n s i = some r), Fn O "(newel/circuit.state).wire" [.agg [I s.c.Hazards, .fs 1 (List.map eI s.c.Switches), .fs 2 (List.map b11 s.c.Wires), I s.hazards, I s.closed, I s.open_], I i] (B r)
def c46 : Option Bool := some true
def x87 (O : Orac) : Prop := ∀ (r : Bool) (hm0 : c46 = some r), Fn O "newel/neweltop.measures" [] (B r)
def z7x : Option Int :=
 some 0
def y54 (c : Circuit) (l : List Trial) : Int -> Option (Out Int (Unit ⊕ Int))
 | x_18 =>
  if decide (x_18 < (List.length l : Int)) then
   (get l x_18).bind fun x14 =>
   (s25 x14.Hazards c.Hazards).bind fun y16 =>
   if ((!y16) || (decide (x14.Wire < 0))) || (decide ((List.length c.Wires : Int) <= x14.Wire)) then
    some (.br (.inr 31))
   else
    some (.nx (wr (x_18 + 1)))
  else
   some (.br (.inl ()))
def y53 (c : Circuit) (l : List Trial) : Option Int :=
 (b68 c).bind fun y2 =>
 if decide (¬y2 = 0) then
  some y2
 else
  if decide (12 < (List.length l : Int)) then
   some 2
  else
   (b0w (y54 c l) (0)).bind fun
    | (.inl ()) => z7x
    | (.inr r') => some r'
def z67 (O : Orac) : Prop := ∀ (c : Circuit) (l : List Trial) (r : Int) (hm0 : y53 c l = some r), Fn O "newel/circuit.check" [.agg [I c.Hazards, .fs 1 (List.map eI c.Switches), .fs 2 (List.map b11 c.Wires)], .fs 2 (List.map b18 l)] (I r)
def z25 (c : Circuit) (t_ : Trial) (closed : Int) : Option Bool :=
 (b43 1000 (circuit_state.mk c t_.Hazards closed 0) t_.Wire).bind fun y4 =>
 (if y4 then (b43 1000 (circuit_state.mk c t_.Hazards 0 0) t_.Wire).bind fun y5 =>
 some (!y5) else some false).bind fun c6 =>
 some c6
def z7a (O : Orac) : Prop := ∀ (c : Circuit) (t_ : Trial) (closed : Int) (r : Bool) (hm0 : z25 c t_ closed = some r), Fn O "newel/circuit.shows" [.agg [I c.Hazards, .fs 1 (List.map eI c.Switches), .fs 2 (List.map b11 c.Wires)], .agg [I t_.Hazards, I t_.Wire], I closed] (B r)
def z7z (set_4 : Int) : Option Int :=
 some set_4
def z14 (x_9 : Int) (set_4_1 : Int) : Option (Out (Int × Int) Int) :=
 some (.nx (set_4_1, wr (x_9 + 1)))
def y71 (c : Circuit) (t_ : Trial) : (Int × Int) -> Option (Out (Int × Int) Int)
 | (set_4, x_9) =>
  if decide (x_9 < (List.length c.Switches : Int)) then
   (shl .i64 1 x_9).bind fun q10 =>
   (z25 c t_ q10).bind fun y11 =>
   if y11 then
    z14 x_9 (bor set_4 q10)
   else
    z14 x_9 set_4
  else
   some (.br set_4)
def y70 (c : Circuit) (t_ : Trial) : Option Int :=
 (b0w (y71 c t_) (0, 0)).bind fun set_4 =>
 z7z set_4
def z69 (O : Orac) : Prop := ∀ (c : Circuit) (t_ : Trial) (r : Int) (hm0 : y70 c t_ = some r), Fn O "newel/circuit.shown" [.agg [I c.Hazards, .fs 1 (List.map eI c.Switches), .fs 2 (List.map b11 c.Wires)], .agg [I t_.Hazards, I t_.Wire]] (I r)
def z6i (x : Int) : Option Int :=
 if decide (x = 0) then
  some 64
 else
  (shr .u64 (IntKind.wrap .u64 ((d05 .u64 x (IntKind.wrap .u64 (0 - x))) * 285870213051353865)) 58).bind fun q5 =>
  (get u3d q5).bind fun x6 =>
  some (IntKind.wrap .i64 x6)
def z7m (O : Orac) : Prop := ∀ (x : Int) (r : Int) (hm0 : z6i x = some r), Fn O "math/bits.TrailingZeros64" [.v (.int .u64 x)] (I r)
def x30 (x : Int) : Option Int :=
 (z6i x).bind fun y3 =>
 some y3
def z5w (O : Orac) : Prop := ∀ (x : Int) (r : Int) (hm0 : x30 x = some r), Fn O "math/bits.TrailingZeros" [.v (.int .u64 x)] (I r)
def z7y (out_2 : List Int) : Option (List Int) :=
 some out_2
def z9m : (Int × (List Int)) -> Option (Out (Int × (List Int)) (((List Int))))
 | (set_0, out_2) =>
  if decide (¬set_0 = 0) then
   (x30 (IntKind.wrap .u64 set_0)).bind fun y9 =>
   (ap 8 out_2 ([y9])).bind fun l10 =>
   some (.nx (b6y set_0 (wr (set_0 - 1)), l10))
  else
   some (.br out_2)
def z53 (set : Int) : Option (List Int) :=
 (b0w (z9m) (set, [])).bind fun out_2 =>
 z7y out_2
def z68 (O : Orac) : Prop := ∀ (set : Int) (r : List Int) (hm0 : z53 set = some r), Fn O "newel/circuit.elements" [I set] (.fs 1 (List.map eI r))
def s66 (c : Circuit) (l : List Trial) (trial : Int) : Option ((List Int) × Int) :=
 (y53 c l).bind fun y2 =>
 if decide (¬y2 = 0) then
  some ([], y2)
 else
  if (decide (trial < 0)) || (decide ((List.length l : Int) <= trial)) then
   some ([], 1)
  else
   (get l trial).bind fun x11 =>
   (y70 c x11).bind fun y12 =>
   (z53 y12).bind fun y13 =>
   some (y13, 0)
def z65 (O : Orac) : Prop := ∀ (c : Circuit) (l : List Trial) (trial : Int) (r : (List Int) × Int) (hm0 : s66 c l trial = some r), Fn O "newel/circuit.Shows" [.agg [I c.Hazards, .fs 1 (List.map eI c.Switches), .fs 2 (List.map b11 c.Wires)], .fs 2 (List.map b18 l), I trial] (.tup [.fs 1 (List.map eI r.1), I r.2])
def c19 (n : Int) (low : Int) (high : Int) : Bool :=
 (decide (low <= n)) && (decide (n <= high))
def u1j (O : Orac) : Prop := ∀ (n : Int) (low : Int) (high : Int), Fn O "newel/faults.within" [I n, I low, I high] (B (c19 n low high))
structure Plant where
 Parts : Int
 Alarms : List (List Int)
 deriving Inhabited, DecidableEq
@[go_sem] def b2f (x : List Int) : List AV := [.fs 1 (List.map eI x)]
theorem b8i (x : List Int) : ∀ c ∈ b2f x, Frz c := (b0a (b0c fun a _ => b1t a) b0j)
theorem j7n (x : List Int) : (b2f x).length = 1 := rfl
@[go_sem] theorem o5i {l : List (List Int)} {n : Nat} {a0 : List Int} : (List.map b2f l).set n [.fs 1 (List.map eI a0)] = List.map b2f (l.set n a0) := by rw [List.map_set]; rfl
def z55 (p : Plant) (seen : List Bool) : Option Int :=
 if decide (¬(List.length seen : Int) = (List.length p.Alarms : Int)) then
  some 1
 else
  some 0
def z54 (x_23 : Int) : Option (Out Int (Unit ⊕ Int)) :=
 some (.nx (wr (x_23 + 1)))
def x21 (p : Plant) (x14 : List Int) : (Int × Int) -> Option (Out (Int × Int) (Unit ⊕ Int))
 | (last_7, x_29) =>
  if decide (x_29 < (List.length x14 : Int)) then
   (get x14 x_29).bind fun x20 =>
   if !(c19 x20 (wr (last_7 + 1)) (wr (p.Parts - 1))) then
    some (.br (.inr 101))
   else
    some (.nx (x20, wr (x_29 + 1)))
  else
   some (.br (.inl ()))
def z5b (p : Plant) : Int -> Option (Out Int (Unit ⊕ Int))
 | x_23 =>
  if decide (x_23 < (List.length p.Alarms : Int)) then
   (get p.Alarms x_23).bind fun x14 =>
   (b0w (x21 p x14) ((-1), 0)).bind fun
    | (.inl ()) => z54 x_23
    | (.inr r') => some (.br (.inr r'))
  else
   some (.br (.inl ()))
def z5a (p : Plant) (seen : List Bool) : Option Int :=
 if (!(c19 p.Parts 0 10)) || (decide (10 < (List.length p.Alarms : Int))) then
  some 101
 else
  (b0w (z5b p) (0)).bind fun
   | (.inl ()) => z55 p seen
   | (.inr r') => some r'
def z7i (O : Orac) : Prop := ∀ (p : Plant) (seen : List Bool) (r : Int) (hm0 : z5a p seen = some r), Fn O "newel/faults.plant" [.agg [I p.Parts, .fs 1 (List.map b2f p.Alarms)], .fs 1 (List.map eB seen)] (I r)
def c28 (part : Int) (c0 : Int) : Option Bool :=
 (shr .i64 c0 part).bind fun q2 =>
 some (decide ((b6y q2 1) = 1))
def z7f (O : Orac) : Prop := ∀ (part : Int) (c0 : Int) (r : Bool) (hm0 : c28 part c0 = some r), Fn O "newel/faults.explained$1" [I part, .fp [I c0] 0] (B r)
def z73 (set_7 : Int) : Option Int :=
 some set_7
def x12 (x_15 : Int) (set_7_1 : Int) : Option (Out (Int × Int) Int) :=
 some (.nx (set_7_1, wr (x_15 + 1)))
def z49 (p : Plant) (seen : List Bool) (broken : Int) : (Int × Int) -> Option (Out (Int × Int) Int)
 | (set_7, x_15) =>
  if decide (x_15 < (List.length p.Alarms : Int)) then
   (get p.Alarms x_15).bind fun x9 =>
   (b45 x9 (fun z12 => c28 z12 broken)).bind fun y13 =>
   (get seen x_15).bind fun x15 =>
   if !(b5c y13 x15) then
    (shl .i64 1 (wr (p.Parts + x_15))).bind fun q18 =>
    x12 x_15 (bor set_7 q18)
   else
    x12 x_15 set_7
  else
   some (.br set_7)
def z27 (p : Plant) (seen : List Bool) (broken : Int) : Option Int :=
 (b0w (z49 p seen broken) (broken, 0)).bind fun set_7 =>
 z73 set_7
def z7e (O : Orac) : Prop := ∀ (p : Plant) (seen : List Bool) (broken : Int) (r : Int) (hm0 : z27 p seen broken = some r), Fn O "newel/faults.explained" [.agg [I p.Parts, .fs 1 (List.map b2f p.Alarms)], .fs 1 (List.map eB seen), I broken] (I r)
def z6h (x : Int) : Option Int :=
 (shr .u64 x 1).bind fun q2 =>
 (shr .u64 (IntKind.wrap .u64 ((d05 .u64 q2 6148914691236517205) + (d05 .u64 x 6148914691236517205))) 2).bind fun q4 =>
 (shr .u64 (IntKind.wrap .u64 ((d05 .u64 q4 3689348814741910323) + (d05 .u64 (IntKind.wrap .u64 ((d05 .u64 q2 6148914691236517205) + (d05 .u64 x 6148914691236517205))) 3689348814741910323))) 4).bind fun q6 =>
 (shr .u64 (d05 .u64 (IntKind.wrap .u64 (q6 + (IntKind.wrap .u64 ((d05 .u64 q4 3689348814741910323) + (d05 .u64 (IntKind.wrap .u64 ((d05 .u64 q2 6148914691236517205) + (d05 .u64 x 6148914691236517205))) 3689348814741910323))))) 1085102592571150095) 8).bind fun q8 =>
 (shr .u64 (IntKind.wrap .u64 ((d05 .u64 (IntKind.wrap .u64 (q6 + (IntKind.wrap .u64 ((d05 .u64 q4 3689348814741910323) + (d05 .u64 (IntKind.wrap .u64 ((d05 .u64 q2 6148914691236517205) + (d05 .u64 x 6148914691236517205))) 3689348814741910323))))) 1085102592571150095) + q8)) 16).bind fun q10 =>
 (shr .u64 (IntKind.wrap .u64 ((IntKind.wrap .u64 ((d05 .u64 (IntKind.wrap .u64 (q6 + (IntKind.wrap .u64 ((d05 .u64 q4 3689348814741910323) + (d05 .u64 (IntKind.wrap .u64 ((d05 .u64 q2 6148914691236517205) + (d05 .u64 x 6148914691236517205))) 3689348814741910323))))) 1085102592571150095) + q8)) + q10)) 32).bind fun q12 =>
 some (b6y (IntKind.wrap .i64 (IntKind.wrap .u64 ((IntKind.wrap .u64 ((IntKind.wrap .u64 ((d05 .u64 (IntKind.wrap .u64 (q6 + (IntKind.wrap .u64 ((d05 .u64 q4 3689348814741910323) + (d05 .u64 (IntKind.wrap .u64 ((d05 .u64 q2 6148914691236517205) + (d05 .u64 x 6148914691236517205))) 3689348814741910323))))) 1085102592571150095) + q8)) + q10)) + q12))) 127)
def z7l (O : Orac) : Prop := ∀ (x : Int) (r : Int) (hm0 : z6h x = some r), Fn O "math/bits.OnesCount64" [.v (.int .u64 x)] (I r)
def l13 (x : Int) : Option Int :=
 (z6h x).bind fun y3 =>
 some y3
def z7k (O : Orac) : Prop := ∀ (x : Int) (r : Int) (hm0 : l13 x = some r), Fn O "math/bits.OnesCount" [.v (.int .u64 x)] (I r)
def z6g (x_0_2 : Int) (n_2_2 : Int) : Option Int :=
 (get (b3q (ByteArray.mk #[0, 1, 2, 2, 3, 3, 3, 3, 4, 4, 4, 4, 4, 4, 4, 4, 5, 5, 5, 5, 5, 5, 5, 5, 5, 5, 5, 5, 5, 5, 5, 5, 6, 6, 6, 6, 6, 6, 6, 6, 6, 6, 6, 6, 6, 6, 6, 6, 6, 6, 6, 6, 6, 6, 6, 6, 6, 6, 6, 6, 6, 6, 6, 6, 7, 7, 7, 7, 7, 7, 7, 7, 7, 7, 7, 7, 7, 7, 7, 7, 7, 7, 7, 7, 7, 7, 7, 7, 7, 7, 7, 7, 7, 7, 7, 7, 7, 7, 7, 7, 7, 7, 7, 7, 7, 7, 7, 7, 7, 7, 7, 7, 7, 7, 7, 7, 7, 7, 7, 7, 7, 7, 7, 7, 7, 7, 7, 7, 8, 8, 8, 8, 8, 8, 8, 8, 8, 8, 8, 8, 8, 8, 8, 8, 8, 8, 8, 8, 8, 8, 8, 8, 8, 8, 8, 8, 8, 8, 8, 8, 8, 8, 8, 8, 8, 8, 8, 8, 8, 8, 8, 8, 8, 8, 8, 8, 8, 8, 8, 8, 8, 8, 8, 8, 8, 8, 8, 8, 8, 8, 8, 8, 8, 8, 8, 8, 8, 8, 8, 8, 8, 8, 8, 8, 8, 8, 8, 8, 8, 8, 8, 8, 8, 8, 8, 8, 8, 8, 8, 8, 8, 8, 8, 8, 8, 8, 8, 8, 8, 8, 8, 8, 8, 8, 8, 8, 8, 8, 8, 8, 8, 8, 8, 8, 8, 8, 8, 8, 8, 8, 8, 8, 8, 8, 8, 8])) (IntKind.wrap .u8 x_0_2)).bind fun x8 =>
 some (wr (n_2_2 + (IntKind.wrap .i64 x8)))
def z6f (x_0_1 : Int) (n_2_1 : Int) : Option Int :=
 if decide (256 <= x_0_1) then
  (shr .u64 x_0_1 8).bind fun q11 =>
  z6g q11 (wr (n_2_1 + 8))
 else
  z6g x_0_1 n_2_1
def z6e (x_0 : Int) (n_2 : Int) : Option Int :=
 if decide (65536 <= x_0) then
  (shr .u64 x_0 16).bind fun q14 =>
  z6f q14 (wr (n_2 + 16))
 else
  z6f x_0 n_2
def z81 (x : Int) : Option Int :=
 if decide (4294967296 <= x) then
  (shr .u64 x 32).bind fun q17 =>
  z6e q17 32
 else
  z6e x 0
def z7j (O : Orac) : Prop := ∀ (x : Int) (r : Int) (hm0 : z81 x = some r), Fn O "math/bits.Len64" [.v (.int .u64 x)] (I r)
def z6d (x : Int) : Option Int :=
 (z81 x).bind fun y3 =>
 some y3
def z5v (O : Orac) : Prop := ∀ (x : Int) (r : Int) (hm0 : z6d x = some r), Fn O "math/bits.Len" [.v (.int .u64 x)] (I r)
def z6u (data_1 : List Int) : Option (List Int) :=
 some data_1
def z6v (i_8 : Int) (data_0_1 : List Int) : Option (Out ((List Int) × Int) (((List Int)))) :=
 some (.nx (data_0_1, wr (i_8 + 1)))
def s37 (a : Int) (cmp : Int -> Int -> Option Int) : ((List Int) × Int) -> Option (Out ((List Int) × Int) (((List Int))))
 | (data_0_1, j_9) =>
  (if decide (a < j_9) then (get data_0_1 j_9).bind fun x13 =>
  (get data_0_1 (wr (j_9 - 1))).bind fun x14 =>
  (cmp x13 x14).bind fun y15 =>
  some (decide (y15 < 0)) else some false).bind fun c16 =>
  if c16 then
   (get data_0_1 (wr (j_9 - 1))).bind fun x24 =>
   (get data_0_1 j_9).bind fun x25 =>
   (get (List.set data_0_1 (Int.toNat j_9) x24) (wr (j_9 - 1))).bind fun x26 =>
   some (.nx ((List.set (List.set data_0_1 (Int.toNat j_9) x24) (Int.toNat (wr (j_9 - 1))) x25), wr (j_9 - 1)))
  else
   some (.br data_0_1)
def z5r (a : Int) (b : Int) (cmp : Int -> Int -> Option Int) : ((List Int) × Int) -> Option (Out ((List Int) × Int) (((List Int))))
 | (data_0, i_8) =>
  if decide (i_8 < b) then
   (b0w (s37 a cmp) (data_0, i_8)).bind fun data_0_1 =>
   z6v i_8 data_0_1
  else
   some (.br data_0)
def x73 (data : List Int) (a : Int) (b : Int) (cmp : Int -> Int -> Option Int) : Option (List Int) :=
 (b0w (z5r a b cmp) (data, wr (a + 1))).bind fun data_1 =>
 z6u data_1
def x80 (O : Orac) : Prop := ∀ (data : List Int) (i_0 : Nat) (a : Int) (b : Int) (cmp_n : String) (cmp_a cmp_b : List AV) (cmp : Int -> Int -> Option Int) (cmp_z : Frz (.fn cmp_n cmp_a cmp_b)) (cmp_h : ∀ z0 z1 y, cmp z0 z1 = some y -> Fn O cmp_n (cmp_a ++ [I z0, I z1] ++ cmp_b) (I y)) (h0 : Heap) (ob_p0 : h0.ob i_0 = some (1, List.map eI data)) (lt_p0 : i_0 < h0.nx) (r : List Int) (hm0 : x73 data a b cmp = some r), b6e O "slices.insertionSortCmpFunc[int]" [.rs i_0 0 (List.length data), I a, I b, .fn cmp_n cmp_a cmp_b] h0 (fun v h => v = .tup [] /\ h.ob i_0 = some (1, List.map eI r) /\ List.length r = List.length data /\ (∀ j, j < h0.nx -> ¬j = i_0 -> h.ob j = h0.ob j) /\ h0.nx <= h.nx)
def z5q (x : List Int) (cmp : Int -> Int -> Option Int) : Option (List Int) :=
 if 0 < x.length /\ x.length <= 12 then x73 x 0 (x.length : Int) cmp else none
def z5x (O : Orac) : Prop := ∀ (x : List Int) (v_0 : AV) (cmp_n : String) (cmp_a cmp_b : List AV) (cmp : Int -> Int -> Option Int) (cmp_z : Frz (.fn cmp_n cmp_a cmp_b)) (cmp_h : ∀ z0 z1 y, cmp z0 z1 = some y -> Fn O cmp_n (cmp_a ++ [I z0, I z1] ++ cmp_b) (I y)) (h0 : Heap) (ow_p0 : b2a h0 v_0 1 (List.map eI x)) (r : List Int) (hm0 : z5q x cmp = some r), b6e O "slices.SortFunc[[]int,int]" [v_0, .fn cmp_n cmp_a cmp_b] h0 (fun v h => v = .tup [] /\ b2a h v_0 1 (List.map eI r) /\ (∀ j, j < h0.nx -> b07 v_0 j -> h.ob j = h0.ob j) /\ h0.nx <= h.nx)
def z74 (l_3 : List Int) : Option (List Int) :=
 some l_3
def x19 : (Int × (List Int)) -> Option (Out (Int × (List Int)) (((List Int))))
 | (set_0, l_3) =>
  if decide (¬set_0 = 0) then
   (x30 (IntKind.wrap .u64 set_0)).bind fun y9 =>
   (ap 8 l_3 ([y9])).bind fun l10 =>
   some (.nx (b6y set_0 (wr (set_0 - 1)), l10))
  else
   some (.br l_3)
def s30 (set : Int) : Option (List Int) :=
 (b0w (x19) (set, [])).bind fun l_3 =>
 z74 l_3
def z5u (O : Orac) : Prop := ∀ (set : Int) (r : List Int) (hm0 : s30 set = some r), Fn O "newel/faults.members" [I set] (.fs 1 (List.map eI r))
def s26 (x : Int) : Bool :=
 decide (¬x = x)
def z7c (O : Orac) : Prop := ∀ (x : Int), Fn O "cmp.isNaN[int]" [I x] (B (s26 x))
def c12 (x : Int) (y : Int) : Int :=
 if (s26 x) then
  if (s26 y) then
   0
  else
   (-1)
 else
  if (s26 y) then
   1
  else
   if decide (x < y) then
    (-1)
   else
    if decide (y < x) then
     1
    else
     0
def z7b (O : Orac) : Prop := ∀ (x : Int) (y : Int), Fn O "cmp.Compare[int]" [I x, I y] (I (c12 x y))
def z5o (s1_ : List Int) (s2_ : List Int) : Option Int :=
 if decide ((List.length s1_ : Int) < (List.length s2_ : Int)) then
  some (-1)
 else
  some 0
def l16 (s1_ : List Int) (s2_ : List Int) : Int -> Option (Out Int (Unit ⊕ Int))
 | x_11 =>
  if decide (x_11 < (List.length s1_ : Int)) then
   (get s1_ x_11).bind fun x10 =>
   if decide ((List.length s2_ : Int) <= x_11) then
    some (.br (.inr 1))
   else
    (get s2_ x_11).bind fun x14 =>
    if decide (¬(c12 x10 x14) = 0) then
     some (.br (.inr (c12 x10 x14)))
    else
     some (.nx (wr (x_11 + 1)))
  else
   some (.br (.inl ()))
def x69 (s1_ : List Int) (s2_ : List Int) : Option Int :=
 (b0w (l16 s1_ s2_) (0)).bind fun
  | (.inl ()) => z5o s1_ s2_
  | (.inr r') => some r'
def z7q (O : Orac) : Prop := ∀ (s1_ : List Int) (s2_ : List Int) (r : Int) (hm0 : x69 s1_ s2_ = some r), Fn O "slices.Compare[[]int,int]" [.fs 1 (List.map eI s1_), .fs 1 (List.map eI s2_)] (I r)
def c71 (a : Int) (b : Int) : Option Int :=
 (s30 a).bind fun y4 =>
 (s30 b).bind fun y5 =>
 (x69 y4 y5).bind fun y6 =>
 some y6
def z7h (O : Orac) : Prop := ∀ (a : Int) (b : Int) (r : Int) (hm0 : c71 a b = some r), Fn O "newel/faults.fewest$1" [I a, I b] (I r)
def x17 (p : Plant) (seen : List Bool) (q10 : Int) : ((List Int) × Int) -> Option (Out ((List Int) × Int) (List Int))
 | (l, i) =>
  if decide (i < q10) then
   (z27 p seen i).bind fun s =>
   match l with
   | [] => some (.nx ([s], wr (i + 1)))
   | x :: xs =>
    (l13 (IntKind.wrap .u64 s)).bind fun c1 =>
    (l13 (IntKind.wrap .u64 x)).bind fun c2 =>
    if decide (c1 < c2) then some (.nx ([s], wr (i + 1)))
    else if decide (c1 = c2) then (ap 8 (x :: xs) [s]).bind fun l2 => some (.nx (l2, wr (i + 1)))
    else some (.nx (x :: xs, wr (i + 1)))
  else some (.br l)
def x16 (p : Plant) (seen : List Bool) : Option (List Int) :=
 (shl .i64 1 p.Parts).bind fun q10 =>
 (b0w (x17 p seen q10) ([], 0)).bind fun l =>
 z5q l (fun z0 z1 => c71 z0 z1)
def z7g (O : Orac) : Prop := ∀ (p : Plant) (seen : List Bool) (r : List Int) (hm0 : x16 p seen = some r), Fn O "newel/faults.fewest" [.agg [I p.Parts, .fs 1 (List.map b2f p.Alarms)], .fs 1 (List.map eB seen)] (.fs 1 (List.map eI r))
def z72 (l_7 : List (List Int)) : Option ((List (List Int)) × Int) :=
 some (l_7, 0)
def z26 (y6 : List Int) : ((List (List Int)) × Int) -> Option (Out ((List (List Int)) × Int) (((List (List Int)))))
 | (l_7, x_20) =>
  if decide (x_20 < (List.length y6 : Int)) then
   (get y6 x_20).bind fun x14 =>
   (s30 x14).bind fun y17 =>
   (ap 24 l_7 ([y17])).bind fun l18 =>
   some (.nx (l18, wr (x_20 + 1)))
  else
   some (.br l_7)
def s94 (p : Plant) (seen : List Bool) : Option ((List (List Int)) × Int) :=
 (z5a p seen).bind fun y2 =>
 if decide (¬y2 = 0) then
  some ([], y2)
 else
  (x16 p seen).bind fun y6 =>
  (b0w (z26 y6) ([], 0)).bind fun l_7 =>
  z72 l_7
def z7d (O : Orac) : Prop := ∀ (p : Plant) (seen : List Bool) (r : (List (List Int)) × Int) (hm0 : s94 p seen = some r), Fn O "newel/faults.All" [.agg [I p.Parts, .fs 1 (List.map b2f p.Alarms)], .fs 1 (List.map eB seen)] (.tup [.fs 1 (List.map b2f r.1), I r.2])
def s35 (some_9 : Bool) (found_17 : Bool) : Option Bool :=
 (if b5c found_17 some_9 then (c46).bind fun y25 =>
 some y25 else some false).bind fun c26 =>
 some c26
def l14 (sw : Int) (some_9 : Bool) (y17 : (List (List Int)) × Int) : (Bool × Int) -> Option (Out (Bool × Int) (Bool ⊕ Bool))
 | (found_17, i_18) =>
  if decide (i_18 < (List.length y17.1 : Int)) then
   (if some_9 then (get y17.1 i_18).bind fun x37 =>
   some (decide (¬(List.length x37 : Int) = 1)) else some false).bind fun c38 =>
   (if c38 then some true else (if !some_9 then (get y17.1 i_18).bind fun x39 =>
   some (decide (¬(List.length x39 : Int) = 0)) else some false).bind fun c40 =>
   some c40).bind fun c41 =>
   if c41 then
    some (.br (.inr false))
   else
    (if found_17 then some true else (if some_9 then (get y17.1 i_18).bind fun x52 =>
    (get x52 0).bind fun x53 =>
    some (decide (x53 = sw)) else some false).bind fun c54 =>
    some c54).bind fun c55 =>
    some (.nx (c55, wr (i_18 + 1)))
  else
   some (.br (.inl found_17))
def z5h (c : Circuit) (sw : Int) (p_7_1 : List (List Int)) (seen_8 : List Bool) (some_9 : Bool) : Option Bool :=
 (s94 (Plant.mk (List.length c.Switches : Int) p_7_1) seen_8).bind fun y17 =>
 if (decide (¬y17.2 = 0)) || (decide ((List.length y17.1 : Int) = 0)) then
  some false
 else
  (b0w (l14 sw some_9 y17) (false, 0)).bind fun
   | (.inl found_17) => s35 some_9 found_17
   | (.inr r') => some r'
def z6k (i_10 : Int) (p_7_1_1 : List (List Int)) (seen_8_1 : List Bool) (some_9_1 : Bool) : Option (Out ((List (List Int)) × (List Bool) × Bool × Int) (((List (List Int)) × (List Bool) × Bool) ⊕ Bool)) :=
 some (.nx (p_7_1_1, seen_8_1, some_9_1, wr (i_10 + 1)))
def z6l (p_7_1 : List (List Int)) (seen_8 : List Bool) (some_9 : Bool) (i_10 : Int) (y65 : (List Int) × Int) (on_13 : Bool) : Option (Out ((List (List Int)) × (List Bool) × Bool × Int) (((List (List Int)) × (List Bool) × Bool) ⊕ Bool)) :=
 (ap 24 p_7_1 ([y65.1])).bind fun l71 =>
 (ap 1 seen_8 ([on_13])).bind fun l73 =>
 z6k i_10 l71 l73 (some_9 || on_13)
def x32 (sw : Int) (y65 : (List Int) × Int) : (Bool × Int) -> Option (Out (Bool × Int) Bool)
 | (on_13, k_14) =>
  if decide (k_14 < (List.length y65.1 : Int)) then
   (if on_13 then some true else (get y65.1 k_14).bind fun x81 =>
   some (decide (x81 = sw))).bind fun c82 =>
   some (.nx (c82, wr (k_14 + 1)))
  else
   some (.br on_13)
def z5g (c : Circuit) (l : List Trial) (sw : Int) : ((List (List Int)) × (List Bool) × Bool × Int) -> Option (Out ((List (List Int)) × (List Bool) × Bool × Int) (((List (List Int)) × (List Bool) × Bool) ⊕ Bool))
 | (p_7_1, seen_8, some_9, i_10) =>
  if decide (i_10 < (List.length l : Int)) then
   (s66 c l i_10).bind fun y65 =>
   if decide (¬y65.2 = 0) then
    some (.br (.inr false))
   else
    (b0w (x32 sw y65) (false, 0)).bind fun on_13 =>
    z6l p_7_1 seen_8 some_9 i_10 y65 on_13
  else
   some (.br (.inl (p_7_1, seen_8, some_9)))
def z5f (c : Circuit) (l : List Trial) (sw : Int) : Option Bool :=
 (if decide (24 < (List.length c.Wires : Int)) then some true else (c31 c l).bind fun y3 =>
 some (decide (¬y3 = 0))).bind fun c4 =>
 if (((c4 || (decide (sw < 0))) || (decide ((List.length c.Switches : Int) <= sw))) || (decide (10 < (List.length c.Switches : Int)))) || (decide (10 < (List.length l : Int))) then
  (c46).bind fun y13 =>
  some y13
 else
  (b0w (z5g c l sw) ([], [], false, 0)).bind fun
   | (.inl (p_7_1, seen_8, some_9)) => z5h c sw p_7_1 seen_8 some_9
   | (.inr r') => some r'
def z9c (O : Orac) : Prop := ∀ (c : Circuit) (l : List Trial) (sw : Int) (r : Bool) (hm0 : z5f c l sw = some r), Fn O "newel/neweltop.TopTold" [.agg [I c.Hazards, .fs 1 (List.map eI c.Switches), .fs 2 (List.map b11 c.Wires)], .fs 2 (List.map b18 l), I sw] (B r)
structure Passage where
 A : Int
 B : Int
 Kind : Int
 Ticks : Int
 Wide : Int
 Machine : Int
 Still : Int
 deriving Inhabited, DecidableEq
structure Station where
 Places : Int
 Passages : List Passage
 Exits : List Int
 deriving Inhabited, DecidableEq
@[go_sem] def z9o (x : Passage) : List AV := [I x.A, I x.B, I x.Kind, I x.Ticks, I x.Wide, I x.Machine, I x.Still]
@[go_sem] theorem B8b {l : List Passage} {n : Nat} {a0 : Int} {a1 : Int} {a2 : Int} {a3 : Int} {a4 : Int} {a5 : Int} {a6 : Int} : (List.map z9o l).set n [I a0, I a1, I a2, I a3, I a4, I a5, I a6] = List.map z9o (l.set n (Passage.mk a0 a1 a2 a3 a4 a5 a6)) := by rw [List.map_set]; rfl
structure ways_level where
 Station : Station
 out : Int
 help : Bool
 deriving Inhabited, DecidableEq
structure neweltop_Missed where
 Lift : Int
 Pairs : List (Int × Int)
 deriving Inhabited, DecidableEq
@[go_sem] def z9n (x : Int × Int) : List AV := [I x.1, I x.2]
@[go_sem] theorem B8a {l : List (Int × Int)} {n : Nat} {a0 : Int} {a1 : Int} : (List.map z9n l).set n [I a0, I a1] = List.map z9n (l.set n (a0, a1)) := by rw [List.map_set]; rfl
end
end Go.Nw.VM
