/- Models of functions: printed by gen.py. -/
import Derived.Test.YtmlhjobmpjpmnaaNwOwn
import Derived.Test.YtmlhjobmpjpmnaaNwCircSrc
set_option linter.all false
set_option linter.unusedVariables false
set_option linter.unusedSimpArgs false
set_option linter.unusedSectionVars false
namespace Go.Nw.CM
open Go.Nw.Circ
set_option linter.unusedSimpArgs false
set_option linter.unusedVariables false
variable {O : Orac}

structure Wire where
  Kind : Int
  Of : List Int
  deriving Inhabited, DecidableEq

structure Circuit where
  Hazards : Int
  Switches : List Int
  Wires : List Wire
  deriving Inhabited, DecidableEq

@[go_sem] def eWire (x : Wire) : List AV := [I x.Kind, .fs 1 (List.map eI x.Of)]
theorem fz_eWire (x : Wire) : ∀ c ∈ eWire x, Frz c := (fz_cons (frz_v _) (fz_cons (frz_fs fun a _ => fz_eI a) fz_nil))
theorem ln_eWire (x : Wire) : (eWire x).length = 2 := rfl
@[go_sem] theorem set_eWire {l : List Wire} {n : Nat} {a0 : Int} {a1 : List Int} : (List.map eWire l).set n [I a0, .fs 1 (List.map eI a1)] = List.map eWire (l.set n (Wire.mk a0 a1)) := by rw [List.map_set]; rfl
/- newel/newellaw03.Far -/
noncomputable def l03_Far_j5 : Option Bool :=
  some false
noncomputable def l03_Far_L8 (c : Circuit) : Int → Option (Out Int (Unit ⊕ Bool))
  | i_3 =>
    if decide (i_3 < (List.length c.Wires : Int)) then
      (get c.Wires i_3).bind fun x11 =>
      if decide (40 < (List.length x11.Of : Int)) then
        some (.br (.inr true))
      else
        some (.nx (wr (i_3 + 1)))
    else
      some (.br (.inl ()))
noncomputable def l03_Far (c : Circuit) : Option Bool :=
  if (decide (20 < (List.length c.Switches : Int))) || (decide (40 < (List.length c.Wires : Int))) then
    some true
  else
    (loopM (l03_Far_L8 c) (0)).bind fun
      | (.inl ()) => l03_Far_j5
      | (.inr r') => some r'
def C_l03_Far (O : Orac) : Prop := ∀ (c : Circuit) (r : Bool) (hm0 : l03_Far c = some r), Fn O "newel/newellaw03.Far" [.agg [I c.Hazards, .fs 1 (List.map eI c.Switches), .fs 2 (List.map eWire c.Wires)]] (B r)

structure Rota where
  Nights : List (List Int)
  Gap : Int
  deriving Inhabited, DecidableEq

@[go_sem] def eL_I (x : List Int) : List AV := [.fs 1 (List.map eI x)]
theorem fz_eL_I (x : List Int) : ∀ c ∈ eL_I x, Frz c := (fz_cons (frz_fs fun a _ => fz_eI a) fz_nil)
theorem ln_eL_I (x : List Int) : (eL_I x).length = 1 := rfl
@[go_sem] theorem set_eL_I {l : List (List Int)} {n : Nat} {a0 : List Int} : (List.map eL_I l).set n [.fs 1 (List.map eI a0)] = List.map eL_I (l.set n a0) := by rw [List.map_set]; rfl
/- newel/newellaw03.farRota -/
noncomputable def l03_farRota_j4 : Option Bool :=
  some false
noncomputable def l03_farRota_L8 (r_ : Rota) : Int → Option (Out Int (Unit ⊕ Bool))
  | i_3 =>
    if decide (i_3 < (List.length r_.Nights : Int)) then
      (get r_.Nights i_3).bind fun x10 =>
      if decide (20 < (List.length x10 : Int)) then
        some (.br (.inr true))
      else
        some (.nx (wr (i_3 + 1)))
    else
      some (.br (.inl ()))
noncomputable def l03_farRota (r_ : Rota) : Option Bool :=
  if decide (80 < (List.length r_.Nights : Int)) then
    some true
  else
    (loopM (l03_farRota_L8 r_) (0)).bind fun
      | (.inl ()) => l03_farRota_j4
      | (.inr r') => some r'
def C_l03_farRota (O : Orac) : Prop := ∀ (r_ : Rota) (r : Bool) (hm0 : l03_farRota r_ = some r), Fn O "newel/newellaw03.farRota" [.agg [.fs 1 (List.map eL_I r_.Nights), I r_.Gap]] (B r)

structure Trial where
  Hazards : Int
  Wire : Int
  deriving Inhabited, DecidableEq

@[go_sem] def eTrial (x : Trial) : List AV := [I x.Hazards, I x.Wire]
theorem fz_eTrial (x : Trial) : ∀ c ∈ eTrial x, Frz c := (fz_cons (frz_v _) (fz_cons (frz_v _) fz_nil))
theorem ln_eTrial (x : Trial) : (eTrial x).length = 2 := rfl
@[go_sem] theorem set_eTrial {l : List Trial} {n : Nat} {a0 : Int} {a1 : Int} : (List.map eTrial l).set n [I a0, I a1] = List.map eTrial (l.set n (Trial.mk a0 a1)) := by rw [List.map_set]; rfl
/- newel/newellaw03.Example -/
noncomputable def l03_Example : Circuit × (List Trial) :=
  ((Circuit.mk 2 ([1, 1, 2, 2]) ([(Wire.mk 2 ([1, 2, 3, 4])), (Wire.mk 1 ([0])), (Wire.mk 1 ([1])), (Wire.mk 1 ([2])), (Wire.mk 1 ([3]))])), [(Trial.mk 1 1), (Trial.mk 1 2), (Trial.mk 2 3), (Trial.mk 2 4)])
def C_l03_Example (O : Orac) : Prop := ∀ (_ : Unit), Fn O "newel/newellaw03.Example" [] (.tup [.agg [I (((l03_Example).1).Hazards), .fs 1 (List.map eI (((l03_Example).1).Switches)), .fs 2 (List.map eWire (((l03_Example).1).Wires))], .fs 2 (List.map eTrial ((l03_Example).2))])

/- slices.Index[[]bool,bool] -/
noncomputable def slices_Index___bool_bool__j2 : Option Int :=
  some (-1)
noncomputable def slices_Index___bool_bool__L7 (s : List Bool) (v : Bool) : Int → Option (Out Int (Unit ⊕ Int))
  | x_8 =>
    if decide (x_8 < (List.length s : Int)) then
      (get s x_8).bind fun x8 =>
      if beqB v x8 then
        some (.br (.inr x_8))
      else
        some (.nx (wr (x_8 + 1)))
    else
      some (.br (.inl ()))
noncomputable def slices_Index___bool_bool_ (s : List Bool) (v : Bool) : Option Int :=
  (loopM (slices_Index___bool_bool__L7 s v) (0)).bind fun
    | (.inl ()) => slices_Index___bool_bool__j2
    | (.inr r') => some r'
def C_slices_Index___bool_bool_ (O : Orac) : Prop := ∀ (s : List Bool) (v : Bool) (r : Int) (hm0 : slices_Index___bool_bool_ s v = some r), Fn O "slices.Index[[]bool,bool]" [.fs 1 (List.map eB s), B v] (I r)

/- slices.Contains[[]bool,bool] -/
noncomputable def slices_Contains___bool_bool_ (s : List Bool) (v : Bool) : Option Bool :=
  (slices_Index___bool_bool_ s v).bind fun y2 =>
  some (decide (0 ≤ y2))
def C_slices_Contains___bool_bool_ (O : Orac) : Prop := ∀ (s : List Bool) (v : Bool) (r : Bool) (hm0 : slices_Contains___bool_bool_ s v = some r), Fn O "slices.Contains[[]bool,bool]" [.fs 1 (List.map eB s), B v] (B r)

/- newel/circuit.isSet -/
noncomputable def circuit_isSet (n : Int) (many : Int) : Option Bool :=
  (if decide (0 ≤ n) then (shl .i64 1 many).bind fun q3 =>
  some (decide (n < q3)) else some false).bind fun c4 =>
  some c4
def C_circuit_isSet (O : Orac) : Prop := ∀ (n : Int) (many : Int) (r : Bool) (hm0 : circuit_isSet n many = some r), Fn O "newel/circuit.isSet" [I n, I many] (B r)

/- newel/circuit.Check$1 -/
noncomputable def circuit_CheckD1 (n : Int) (c0 : Circuit) : Option Bool :=
  (circuit_isSet n c0.Hazards).bind fun y2 =>
  some (!y2)
def C_circuit_CheckD1 (O : Orac) : Prop := ∀ (n : Int) (c0 : Circuit) (r : Bool) (hm0 : circuit_CheckD1 n c0 = some r), Fn O "newel/circuit.Check$1" [I n, .fp [I c0.Hazards, .fs 1 (List.map eI c0.Switches), .fs 2 (List.map eWire c0.Wires)] 0] (B r)

/- slices.IndexFunc[[]int,int] -/
noncomputable def slices_IndexFunc___int_int__j2 : Option Int :=
  some (-1)
noncomputable def slices_IndexFunc___int_int__L7 (s : List Int) (f : Int → Option Bool) : Int → Option (Out Int (Unit ⊕ Int))
  | x_8 =>
    if decide (x_8 < (List.length s : Int)) then
      (get s x_8).bind fun x9 =>
      (f x9).bind fun y10 =>
      if y10 then
        some (.br (.inr x_8))
      else
        some (.nx (wr (x_8 + 1)))
    else
      some (.br (.inl ()))
noncomputable def slices_IndexFunc___int_int_ (s : List Int) (f : Int → Option Bool) : Option Int :=
  (loopM (slices_IndexFunc___int_int__L7 s f) (0)).bind fun
    | (.inl ()) => slices_IndexFunc___int_int__j2
    | (.inr r') => some r'
def C_slices_IndexFunc___int_int_ (O : Orac) : Prop := ∀ (s : List Int) (f_n : String) (f_a f_b : List AV) (f : Int → Option Bool) (f_z : Frz (.fn f_n f_a f_b)) (f_h : ∀ z0 y, f z0 = some y → Fn O f_n (f_a ++ [I z0] ++ f_b) (B y)) (r : Int) (hm0 : slices_IndexFunc___int_int_ s f = some r), Fn O "slices.IndexFunc[[]int,int]" [.fs 1 (List.map eI s), .fn f_n f_a f_b] (I r)

/- slices.ContainsFunc[[]int,int] -/
noncomputable def slices_ContainsFunc___int_int_ (s : List Int) (f : Int → Option Bool) : Option Bool :=
  (slices_IndexFunc___int_int_ s f).bind fun y2 =>
  some (decide (0 ≤ y2))
def C_slices_ContainsFunc___int_int_ (O : Orac) : Prop := ∀ (s : List Int) (f_n : String) (f_a f_b : List AV) (f : Int → Option Bool) (f_z : Frz (.fn f_n f_a f_b)) (f_h : ∀ z0 y, f z0 = some y → Fn O f_n (f_a ++ [I z0] ++ f_b) (B y)) (r : Bool) (hm0 : slices_ContainsFunc___int_int_ s f = some r), Fn O "slices.ContainsFunc[[]int,int]" [.fs 1 (List.map eI s), .fn f_n f_a f_b] (B r)

/- newel/circuit.ascending -/
noncomputable def circuit_ascending_j2 : Option Bool :=
  some true
noncomputable def circuit_ascending_L8 (l : List Int) (high : Int) : (Int × Int) → Option (Out (Int × Int) (Unit ⊕ Bool))
  | (low_1, x_11) =>
    if decide (x_11 < (List.length l : Int)) then
      (get l x_11).bind fun x8 =>
      if (decide (x8 < low_1)) || (decide (high ≤ x8)) then
        some (.br (.inr false))
      else
        some (.nx (wr (x8 + 1), wr (x_11 + 1)))
    else
      some (.br (.inl ()))
noncomputable def circuit_ascending (l : List Int) (low : Int) (high : Int) : Option Bool :=
  (loopM (circuit_ascending_L8 l high) (low, 0)).bind fun
    | (.inl ()) => circuit_ascending_j2
    | (.inr r') => some r'
def C_circuit_ascending (O : Orac) : Prop := ∀ (l : List Int) (low : Int) (high : Int) (r : Bool) (hm0 : circuit_ascending l low high = some r), Fn O "newel/circuit.ascending" [.fs 1 (List.map eI l), I low, I high] (B r)

/- newel/circuit.Check$2 -/
noncomputable def circuit_CheckD2 (n : Int) : Bool :=
  decide (¬n = 1)
def C_circuit_CheckD2 (O : Orac) : Prop := ∀ (n : Int), Fn O "newel/circuit.Check$2" [I n] (B (circuit_CheckD2 n))

/- newel/circuit.Check -/
noncomputable def circuit_Check_j22 (held_4 : List Int) : Option Int :=
  (get held_4 0).bind fun x28 =>
  (if decide (¬x28 = 0) then some true else (sub held_4 1 (List.length held_4 : Int)).bind fun l29 =>
  (slices_ContainsFunc___int_int_ l29 (fun z30 => some (circuit_CheckD2 z30))).bind fun y31 =>
  some y31).bind fun c32 =>
  if c32 then
    some 30
  else
    some 0
noncomputable def circuit_Check_j40 (x_53 : Int) (held_4_1 : List Int) : Option (Out ((List Int) × Int) (((List Int)) ⊕ Int)) :=
  some (.nx (held_4_1, wr (x_53 + 1)))
noncomputable def circuit_Check_L21 (x42 : Wire) : ((List Int) × Int) → Option (Out ((List Int) × Int) (((List Int))))
  | (held_4_1, x_102) =>
    if decide (x_102 < (List.length x42.Of : Int)) then
      (get x42.Of x_102).bind fun x66 =>
      (get held_4_1 x66).bind fun x68 =>
      some (.nx ((List.set held_4_1 (Int.toNat x66) (wr (x68 + 1))), wr (x_102 + 1)))
    else
      some (.br held_4_1)
noncomputable def circuit_Check_j51 (c : Circuit) (held_4 : List Int) (x_53 : Int) (x42 : Wire) (x_75 : Bool) : Option (Out ((List Int) × Int) (((List Int)) ⊕ Int)) :=
  if x_75 then
    (if (decide ((List.length x42.Of : Int) < 1)) || (decide (8 < (List.length x42.Of : Int))) then some true else (circuit_ascending x42.Of (wr (x_53 + 1)) (List.length c.Wires : Int)).bind fun y55 =>
    some (!y55)).bind fun c56 =>
    if c56 then
      some (.br (.inr 30))
    else
      (loopM (circuit_Check_L21 x42) (held_4, 0)).bind fun held_4_1 =>
      circuit_Check_j40 x_53 held_4_1
  else
    some (.br (.inr 30))
noncomputable def circuit_Check_L24 (c : Circuit) : ((List Int) × Int) → Option (Out ((List Int) × Int) (((List Int)) ⊕ Int))
  | (held_4, x_53) =>
    if decide (x_53 < (List.length c.Wires : Int)) then
      (get c.Wires x_53).bind fun x42 =>
      if decide (x42.Kind = 1) then
        (if decide (¬(List.length x42.Of : Int) = 1) then some true else (circuit_ascending x42.Of 0 (List.length c.Switches : Int)).bind fun y46 =>
        some (!y46)).bind fun c47 =>
        if c47 then
          some (.br (.inr 30))
        else
          circuit_Check_j40 x_53 held_4
      else
        if decide (x42.Kind = 2) then
          circuit_Check_j51 c held_4 x_53 x42 (decide (x42.Kind = 2))
        else
          circuit_Check_j51 c held_4 x_53 x42 (decide (x42.Kind = 3))
    else
      some (.br (.inl held_4))
noncomputable def circuit_Check (c : Circuit) : Option Int :=
  (slices_Contains___bool_bool_ ([(decide (1 ≤ c.Hazards)) && (decide (c.Hazards ≤ 8)), (decide (1 ≤ (List.length c.Switches : Int))) && (decide ((List.length c.Switches : Int) ≤ 12)), (decide (1 ≤ (List.length c.Wires : Int))) && (decide ((List.length c.Wires : Int) ≤ 24))]) false).bind fun y12 =>
  (if y12 then some true else (slices_ContainsFunc___int_int_ c.Switches (fun z13 => circuit_CheckD1 z13 c)).bind fun y14 =>
  some y14).bind fun c15 =>
  if c15 then
    some 30
  else
    (mks 8 (List.length c.Wires : Int) 0).bind fun l20 =>
    (loopM (circuit_Check_L24 c) (l20, 0)).bind fun
      | (.inl held_4) => circuit_Check_j22 held_4
      | (.inr r') => some r'
def C_circuit_Check (O : Orac) : Prop := ∀ (c : Circuit) (r : Int) (hm0 : circuit_Check c = some r), Fn O "newel/circuit.Check" [.agg [I c.Hazards, .fs 1 (List.map eI c.Switches), .fs 2 (List.map eWire c.Wires)]] (I r)

structure circuit_state where
  c : Circuit
  hazards : Int
  closed : Int
  open_ : Int
  deriving Inhabited, DecidableEq

/- (newel/circuit.state).conducts -/
noncomputable def _circuit_state__conducts (s : circuit_state) (sw : Int) : Option Bool :=
  (shr .i64 s.open_ sw).bind fun q6 =>
  (if decide ((band q6 1) = 0) then (shr .i64 s.closed sw).bind fun q7 =>
  (if decide ((band q7 1) = 1) then some true else (get s.c.Switches sw).bind fun x8 =>
  some (decide ((band x8 s.hazards) = 0))).bind fun c9 =>
  some c9 else some false).bind fun c10 =>
  some c10
def C__circuit_state__conducts (O : Orac) : Prop := ∀ (s : circuit_state) (sw : Int) (r : Bool) (hm0 : _circuit_state__conducts s sw = some r), Fn O "(newel/circuit.state).conducts" [.agg [I s.c.Hazards, .fs 1 (List.map eI s.c.Switches), .fs 2 (List.map eWire s.c.Wires), I s.hazards, I s.closed, I s.open_], I sw] (B r)

/- (newel/circuit.state).wire$1 -/
noncomputable def _circuit_state__wireD1 (self__circuit_state__wire : circuit_state → Int → Option Bool) (k : Int) (c0 : circuit_state) : Option Bool :=
  (self__circuit_state__wire c0 k).bind fun y2 =>
  some (!y2)
def C__circuit_state__wireD1 (O : Orac) : Prop := ∀ (self__circuit_state__wire : circuit_state → Int → Option Bool) (self__circuit_state__wire_h : ∀ z0 z1 y, self__circuit_state__wire z0 z1 = some y → Fn O "(newel/circuit.state).wire" [.agg [I z0.c.Hazards, .fs 1 (List.map eI z0.c.Switches), .fs 2 (List.map eWire z0.c.Wires), I z0.hazards, I z0.closed, I z0.open_], I z1] (B y)) (k : Int) (c0 : circuit_state) (r : Bool) (hm0 : _circuit_state__wireD1 self__circuit_state__wire k c0 = some r), Fn O "(newel/circuit.state).wire$1" [I k, .fp [I c0.c.Hazards, .fs 1 (List.map eI c0.c.Switches), .fs 2 (List.map eWire c0.c.Wires), I c0.hazards, I c0.closed, I c0.open_] 0] (B r)

/- (newel/circuit.state).wire -/
noncomputable def _circuit_state__wire_body (self__circuit_state__wire : circuit_state → Int → Option Bool) (s : circuit_state) (i : Int) : Option Bool :=
  (get s.c.Wires i).bind fun x2 =>
  if decide (x2.Kind = 1) then
    (get x2.Of 0).bind fun x7 =>
    (_circuit_state__conducts s x7).bind fun y8 =>
    some y8
  else
    if decide (x2.Kind = 3) then
      (slices_ContainsFunc___int_int_ x2.Of (fun z12 => self__circuit_state__wire s z12)).bind fun y13 =>
      some y13
    else
      (slices_ContainsFunc___int_int_ x2.Of (fun z16 => _circuit_state__wireD1 self__circuit_state__wire z16 s)).bind fun y17 =>
      some (!y17)
def C__circuit_state__wire_body (O : Orac) : Prop := ∀ (self__circuit_state__wire : circuit_state → Int → Option Bool) (self__circuit_state__wire_h : ∀ z0 z1 y, self__circuit_state__wire z0 z1 = some y → Fn O "(newel/circuit.state).wire" [.agg [I z0.c.Hazards, .fs 1 (List.map eI z0.c.Switches), .fs 2 (List.map eWire z0.c.Wires), I z0.hazards, I z0.closed, I z0.open_], I z1] (B y)) (s : circuit_state) (i : Int) (r : Bool) (hm0 : _circuit_state__wire_body self__circuit_state__wire s i = some r), Fn O "(newel/circuit.state).wire" [.agg [I s.c.Hazards, .fs 1 (List.map eI s.c.Switches), .fs 2 (List.map eWire s.c.Wires), I s.hazards, I s.closed, I s.open_], I i] (B r)
noncomputable def _circuit_state__wire : Nat → circuit_state → Int → Option Bool
  | 0 => fun _ _ => none
  | n + 1 => fun s i => _circuit_state__wire_body (_circuit_state__wire n) s i
def C__circuit_state__wire (O : Orac) : Prop := ∀ (n : Nat) (s : circuit_state) (i : Int) (r : Bool) (hm0 : _circuit_state__wire n s i = some r), Fn O "(newel/circuit.state).wire" [.agg [I s.c.Hazards, .fs 1 (List.map eI s.c.Switches), .fs 2 (List.map eWire s.c.Wires), I s.hazards, I s.closed, I s.open_], I i] (B r)

/- newel/circuit.weak -/
noncomputable def circuit_weak_j2 (out_4 : List Int) : Option (List Int) :=
  some out_4
noncomputable def circuit_weak_j7 (x_8 : Int) (out_4_1 : List Int) : Option (Out ((List Int) × Int) (((List Int)))) :=
  some (.nx (out_4_1, wr (x_8 + 1)))
noncomputable def circuit_weak_L7 (c : Circuit) (closed : Int) : ((List Int) × Int) → Option (Out ((List Int) × Int) (((List Int))))
  | (out_4, x_8) =>
    if decide (x_8 < c.Hazards) then
      (shl .i64 1 x_8).bind fun q10 =>
      (_circuit_state__wire 1000 (circuit_state.mk c q10 closed 0) 0).bind fun y11 =>
      if y11 then
        (ap 8 out_4 ([x_8])).bind fun l14 =>
        circuit_weak_j7 x_8 l14
      else
        circuit_weak_j7 x_8 out_4
    else
      some (.br out_4)
noncomputable def circuit_weak (c : Circuit) (closed : Int) : Option (List Int) :=
  (loopM (circuit_weak_L7 c closed) ([], 0)).bind fun out_4 =>
  circuit_weak_j2 out_4
def C_circuit_weak (O : Orac) : Prop := ∀ (c : Circuit) (closed : Int) (r : List Int) (hm0 : circuit_weak c closed = some r), Fn O "newel/circuit.weak" [.agg [I c.Hazards, .fs 1 (List.map eI c.Switches), .fs 2 (List.map eWire c.Wires)], I closed] (.fs 1 (List.map eI r))

/- newel/circuit.Critical -/
noncomputable def circuit_Critical_j6 (out_5 : List Int) : Option ((List Int) × Int) :=
  some (out_5, 0)
noncomputable def circuit_Critical_j11 (x_15 : Int) (out_5_1 : List Int) : Option (Out ((List Int) × Int) (((List Int)))) :=
  some (.nx (out_5_1, wr (x_15 + 1)))
noncomputable def circuit_Critical_L11 (c : Circuit) : ((List Int) × Int) → Option (Out ((List Int) × Int) (((List Int))))
  | (out_5, x_15) =>
    if decide (x_15 < (List.length c.Switches : Int)) then
      (shl .i64 1 x_15).bind fun q14 =>
      (circuit_weak c q14).bind fun y15 =>
      if decide (0 < (List.length y15 : Int)) then
        (ap 8 out_5 ([x_15])).bind fun l18 =>
        circuit_Critical_j11 x_15 l18
      else
        circuit_Critical_j11 x_15 out_5
    else
      some (.br out_5)
noncomputable def circuit_Critical (c : Circuit) : Option ((List Int) × Int) :=
  (circuit_Check c).bind fun y2 =>
  if decide (¬y2 = 0) then
    some ([], y2)
  else
    (loopM (circuit_Critical_L11 c) ([], 0)).bind fun out_5 =>
    circuit_Critical_j6 out_5
def C_circuit_Critical (O : Orac) : Prop := ∀ (c : Circuit) (r : (List Int) × Int) (hm0 : circuit_Critical c = some r), Fn O "newel/circuit.Critical" [.agg [I c.Hazards, .fs 1 (List.map eI c.Switches), .fs 2 (List.map eWire c.Wires)]] (.tup [.fs 1 (List.map eI r.1), I r.2])

/- slices.Index[[]int,int] -/
noncomputable def slices_Index___int_int__j2 : Option Int :=
  some (-1)
noncomputable def slices_Index___int_int__L7 (s : List Int) (v : Int) : Int → Option (Out Int (Unit ⊕ Int))
  | x_8 =>
    if decide (x_8 < (List.length s : Int)) then
      (get s x_8).bind fun x8 =>
      if decide (v = x8) then
        some (.br (.inr x_8))
      else
        some (.nx (wr (x_8 + 1)))
    else
      some (.br (.inl ()))
noncomputable def slices_Index___int_int_ (s : List Int) (v : Int) : Option Int :=
  (loopM (slices_Index___int_int__L7 s v) (0)).bind fun
    | (.inl ()) => slices_Index___int_int__j2
    | (.inr r') => some r'
def C_slices_Index___int_int_ (O : Orac) : Prop := ∀ (s : List Int) (v : Int) (r : Int) (hm0 : slices_Index___int_int_ s v = some r), Fn O "slices.Index[[]int,int]" [.fs 1 (List.map eI s), I v] (I r)

/- slices.Contains[[]int,int] -/
noncomputable def slices_Contains___int_int_ (s : List Int) (v : Int) : Option Bool :=
  (slices_Index___int_int_ s v).bind fun y2 =>
  some (decide (0 ≤ y2))
def C_slices_Contains___int_int_ (O : Orac) : Prop := ∀ (s : List Int) (v : Int) (r : Bool) (hm0 : slices_Contains___int_int_ s v = some r), Fn O "slices.Contains[[]int,int]" [.fs 1 (List.map eI s), I v] (B r)

@[go_sem] def eA2_I (x : Int × Int) : List AV := [I x.1, I x.2]
theorem fz_eA2_I (x : Int × Int) : ∀ c ∈ eA2_I x, Frz c := (fz_cons (frz_v _) (fz_cons (frz_v _) fz_nil))
theorem ln_eA2_I (x : Int × Int) : (eA2_I x).length = 2 := rfl
@[go_sem] theorem set_eA2_I {l : List (Int × Int)} {n : Nat} {a0 : Int} {a1 : Int} : (List.map eA2_I l).set n [I a0, I a1] = List.map eA2_I (l.set n (a0, a1)) := by rw [List.map_set]; rfl
/- newel/circuit.Pairs -/
noncomputable def circuit_Pairs_j6 (out_6 : List (Int × Int)) : Option ((List (Int × Int)) × Int) :=
  some (out_6, 0)
noncomputable def circuit_Pairs_j11 (x_20 : Int) (out_6_1 : List (Int × Int)) : Option (Out ((List (Int × Int)) × Int) (((List (Int × Int))))) :=
  some (.nx (out_6_1, wr (x_20 + 1)))
noncomputable def circuit_Pairs_j16 (b_8 : Int) (out_6_2 : List (Int × Int)) : Option (Out ((List (Int × Int)) × Int) (((List (Int × Int))))) :=
  some (.nx (out_6_2, wr (b_8 + 1)))
noncomputable def circuit_Pairs_L13 (c : Circuit) (y2 : (List Int) × Int) (x_20 : Int) : ((List (Int × Int)) × Int) → Option (Out ((List (Int × Int)) × Int) (((List (Int × Int)))))
  | (out_6_1, b_8) =>
    if decide (b_8 < (List.length c.Switches : Int)) then
      (slices_Contains___int_int_ y2.1 x_20).bind fun y24 =>
      (if !y24 then (slices_Contains___int_int_ y2.1 b_8).bind fun y25 =>
      some (!y25) else some false).bind fun c26 =>
      (if c26 then (shl .i64 1 x_20).bind fun q27 =>
      (shl .i64 1 b_8).bind fun q28 =>
      (circuit_weak c (bor q27 q28)).bind fun y29 =>
      some (decide (0 < (List.length y29 : Int))) else some false).bind fun c30 =>
      if c30 then
        (ap 16 out_6_1 ([(x_20, b_8)])).bind fun l35 =>
        circuit_Pairs_j16 b_8 l35
      else
        circuit_Pairs_j16 b_8 out_6_1
    else
      some (.br out_6_1)
noncomputable def circuit_Pairs_L15 (c : Circuit) (y2 : (List Int) × Int) : ((List (Int × Int)) × Int) → Option (Out ((List (Int × Int)) × Int) (((List (Int × Int)))))
  | (out_6, x_20) =>
    if decide (x_20 < (List.length c.Switches : Int)) then
      (loopM (circuit_Pairs_L13 c y2 x_20) (out_6, wr (x_20 + 1))).bind fun out_6_1 =>
      circuit_Pairs_j11 x_20 out_6_1
    else
      some (.br out_6)
noncomputable def circuit_Pairs (c : Circuit) : Option ((List (Int × Int)) × Int) :=
  (circuit_Critical c).bind fun y2 =>
  if decide (¬y2.2 = 0) then
    some ([], y2.2)
  else
    (loopM (circuit_Pairs_L15 c y2) ([], 0)).bind fun out_6 =>
    circuit_Pairs_j6 out_6
def C_circuit_Pairs (O : Orac) : Prop := ∀ (c : Circuit) (r : (List (Int × Int)) × Int) (hm0 : circuit_Pairs c = some r), Fn O "newel/circuit.Pairs" [.agg [I c.Hazards, .fs 1 (List.map eI c.Switches), .fs 2 (List.map eWire c.Wires)]] (.tup [.fs 2 (List.map eA2_I r.1), I r.2])

/- newel/circuit.check -/
noncomputable def circuit_check_j8 : Option Int :=
  some 0
noncomputable def circuit_check_L12 (c : Circuit) (l : List Trial) : Int → Option (Out Int (Unit ⊕ Int))
  | x_18 =>
    if decide (x_18 < (List.length l : Int)) then
      (get l x_18).bind fun x14 =>
      (circuit_isSet x14.Hazards c.Hazards).bind fun y16 =>
      if ((!y16) || (decide (x14.Wire < 0))) || (decide ((List.length c.Wires : Int) ≤ x14.Wire)) then
        some (.br (.inr 31))
      else
        some (.nx (wr (x_18 + 1)))
    else
      some (.br (.inl ()))
noncomputable def circuit_check (c : Circuit) (l : List Trial) : Option Int :=
  (circuit_Check c).bind fun y2 =>
  if decide (¬y2 = 0) then
    some y2
  else
    if decide (12 < (List.length l : Int)) then
      some 2
    else
      (loopM (circuit_check_L12 c l) (0)).bind fun
        | (.inl ()) => circuit_check_j8
        | (.inr r') => some r'
def C_circuit_check (O : Orac) : Prop := ∀ (c : Circuit) (l : List Trial) (r : Int) (hm0 : circuit_check c l = some r), Fn O "newel/circuit.check" [.agg [I c.Hazards, .fs 1 (List.map eI c.Switches), .fs 2 (List.map eWire c.Wires)], .fs 2 (List.map eTrial l)] (I r)

/- newel/circuit.checkRota -/
noncomputable def circuit_checkRota_j11 : Option Int :=
  some 0
noncomputable def circuit_checkRota_L12 (l : List Trial) (r_ : Rota) : Int → Option (Out Int (Unit ⊕ Int))
  | x_39 =>
    if decide (x_39 < (List.length r_.Nights : Int)) then
      (get r_.Nights x_39).bind fun x17 =>
      (circuit_ascending x17 0 (List.length l : Int)).bind fun y19 =>
      if !y19 then
        some (.br (.inr 32))
      else
        some (.nx (wr (x_39 + 1)))
    else
      some (.br (.inl ()))
noncomputable def circuit_checkRota (c : Circuit) (l : List Trial) (r_ : Rota) : Option Int :=
  (circuit_check c l).bind fun y2 =>
  if decide (¬y2 = 0) then
    some y2
  else
    if (((decide ((List.length r_.Nights : Int) < 1)) || (decide (60 < (List.length r_.Nights : Int)))) || (decide (r_.Gap < 1))) || (decide (60 < r_.Gap)) then
      some 32
    else
      (loopM (circuit_checkRota_L12 l r_) (0)).bind fun
        | (.inl ()) => circuit_checkRota_j11
        | (.inr r') => some r'
def C_circuit_checkRota (O : Orac) : Prop := ∀ (c : Circuit) (l : List Trial) (r_ : Rota) (r : Int) (hm0 : circuit_checkRota c l r_ = some r), Fn O "newel/circuit.checkRota" [.agg [I c.Hazards, .fs 1 (List.map eI c.Switches), .fs 2 (List.map eWire c.Wires)], .fs 2 (List.map eTrial l), .agg [.fs 1 (List.map eL_I r_.Nights), I r_.Gap]] (I r)

/- newel/circuit.shows -/
noncomputable def circuit_shows (c : Circuit) (t_ : Trial) (closed : Int) : Option Bool :=
  (_circuit_state__wire 1000 (circuit_state.mk c t_.Hazards closed 0) t_.Wire).bind fun y4 =>
  (if y4 then (_circuit_state__wire 1000 (circuit_state.mk c t_.Hazards 0 0) t_.Wire).bind fun y5 =>
  some (!y5) else some false).bind fun c6 =>
  some c6
def C_circuit_shows (O : Orac) : Prop := ∀ (c : Circuit) (t_ : Trial) (closed : Int) (r : Bool) (hm0 : circuit_shows c t_ closed = some r), Fn O "newel/circuit.shows" [.agg [I c.Hazards, .fs 1 (List.map eI c.Switches), .fs 2 (List.map eWire c.Wires)], .agg [I t_.Hazards, I t_.Wire], I closed] (B r)

/- newel/circuit.shown -/
noncomputable def circuit_shown_j2 (set_4 : Int) : Option Int :=
  some set_4
noncomputable def circuit_shown_j7 (x_9 : Int) (set_4_1 : Int) : Option (Out (Int × Int) Int) :=
  some (.nx (set_4_1, wr (x_9 + 1)))
noncomputable def circuit_shown_L7 (c : Circuit) (t_ : Trial) : (Int × Int) → Option (Out (Int × Int) Int)
  | (set_4, x_9) =>
    if decide (x_9 < (List.length c.Switches : Int)) then
      (shl .i64 1 x_9).bind fun q10 =>
      (circuit_shows c t_ q10).bind fun y11 =>
      if y11 then
        circuit_shown_j7 x_9 (bor set_4 q10)
      else
        circuit_shown_j7 x_9 set_4
    else
      some (.br set_4)
noncomputable def circuit_shown (c : Circuit) (t_ : Trial) : Option Int :=
  (loopM (circuit_shown_L7 c t_) (0, 0)).bind fun set_4 =>
  circuit_shown_j2 set_4
def C_circuit_shown (O : Orac) : Prop := ∀ (c : Circuit) (t_ : Trial) (r : Int) (hm0 : circuit_shown c t_ = some r), Fn O "newel/circuit.shown" [.agg [I c.Hazards, .fs 1 (List.map eI c.Switches), .fs 2 (List.map eWire c.Wires)], .agg [I t_.Hazards, I t_.Wire]] (I r)

/- newel/circuit.all -/
noncomputable def circuit_all_j2 (each_4 : List Int) (whole_5 : Int) : Option ((List Int) × Int) :=
  some (each_4, whole_5)
noncomputable def circuit_all_L8 (c : Circuit) (l : List Trial) : ((List Int) × Int × Int) → Option (Out ((List Int) × Int × Int) (((List Int) × Int)))
  | (each_4, whole_5, x_11) =>
    if decide (x_11 < (List.length l : Int)) then
      (get l x_11).bind fun x8 =>
      (circuit_shown c x8).bind fun y10 =>
      (ap 8 each_4 ([y10])).bind fun l12 =>
      some (.nx (l12, bor whole_5 y10, wr (x_11 + 1)))
    else
      some (.br (each_4, whole_5))
noncomputable def circuit_all (c : Circuit) (l : List Trial) : Option ((List Int) × Int) :=
  (loopM (circuit_all_L8 c l) ([], 0, 0)).bind fun
    | (each_4, whole_5) => circuit_all_j2 each_4 whole_5
def C_circuit_all (O : Orac) : Prop := ∀ (c : Circuit) (l : List Trial) (r : (List Int) × Int) (hm0 : circuit_all c l = some r), Fn O "newel/circuit.all" [.agg [I c.Hazards, .fs 1 (List.map eI c.Switches), .fs 2 (List.map eWire c.Wires)], .fs 2 (List.map eTrial l)] (.tup [.fs 1 (List.map eI r.1), I r.2])

/- newel/circuit.gap -/
noncomputable def circuit_gap_j2 : Option (Int × Int × Bool) :=
  some (0, 0, true)
noncomputable def circuit_gap_j7 (x_12 : Int) : Option (Out Int (Unit ⊕ ((Int × Int × Bool)))) :=
  some (.nx (wr (x_12 + 1)))
noncomputable def circuit_gap_j12 (sw_6 : Int) (x_17 : Int) : Option (Out (Int × Int) (Unit ⊕ ((Int × Int × Bool)))) :=
  some (.nx (sw_6, wr (x_17 + 1)))
noncomputable def circuit_gap_j14 (sw_6 : Int) (x_17 : Int) (made_9 : Bool) : Option (Out (Int × Int) (Unit ⊕ ((Int × Int × Bool)))) :=
  if !made_9 then
    some (.br (.inr (sw_6, x_17, false)))
  else
    circuit_gap_j12 sw_6 x_17
noncomputable def circuit_gap_L13 (many : Int) (nights : List Int) (sw_6 : Int) (x_17 : Int) : (Bool × Int) → Option (Out (Bool × Int) Bool)
  | (made_9, x_21) =>
    if decide (x_21 < many) then
      (if made_9 then some true else (rem (wr (x_17 + x_21)) (List.length nights : Int)).bind fun q24 =>
      (get nights q24).bind fun x25 =>
      (shr .i64 x25 sw_6).bind fun q26 =>
      some (decide ((band q26 1) = 1))).bind fun c27 =>
      some (.nx (c27, wr (x_21 + 1)))
    else
      some (.br made_9)
noncomputable def circuit_gap_L17 (many : Int) (nights : List Int) : (Int × Int) → Option (Out (Int × Int) (Unit ⊕ ((Int × Int × Bool))))
  | (sw_6, x_17) =>
    if decide (x_17 < (List.length nights : Int)) then
      (loopM (circuit_gap_L13 many nights sw_6 x_17) (false, 0)).bind fun made_9 =>
      circuit_gap_j14 sw_6 x_17 made_9
    else
      some (.br (.inl ()))
noncomputable def circuit_gap_L19 (switches : Int) (many : Int) (nights : List Int) : Int → Option (Out Int (Unit ⊕ ((Int × Int × Bool))))
  | x_12 =>
    if decide (x_12 < switches) then
      (loopM (circuit_gap_L17 many nights) (x_12, 0)).bind fun
        | (.inl ()) => circuit_gap_j7 x_12
        | (.inr r') => some (.br (.inr r'))
    else
      some (.br (.inl ()))
noncomputable def circuit_gap (switches : Int) (many : Int) (nights : List Int) : Option (Int × Int × Bool) :=
  (loopM (circuit_gap_L19 switches many nights) (0)).bind fun
    | (.inl ()) => circuit_gap_j2
    | (.inr r') => some r'
def C_circuit_gap (O : Orac) : Prop := ∀ (switches : Int) (many : Int) (nights : List Int) (r : Int × Int × Bool) (hm0 : circuit_gap switches many nights = some r), Fn O "newel/circuit.gap" [I switches, I many, .fs 1 (List.map eI nights)] (.tup [I r.1, I r.2.1, B r.2.2])

/- newel/circuit.CheckRota -/
noncomputable def circuit_CheckRota_j10 (c : Circuit) (r_ : Rota) (nights_12 : List Int) : Option (Int × Int × Bool × Int) :=
  (circuit_gap (List.length c.Switches : Int) r_.Gap nights_12).bind fun y12 =>
  some (y12.1, y12.2.1, y12.2.2, 0)
noncomputable def circuit_CheckRota_j17 (x_37 : Int) (nights_12_1 : List Int) : Option (Out ((List Int) × Int) (((List Int)))) :=
  some (.nx (nights_12_1, wr (x_37 + 1)))
noncomputable def circuit_CheckRota_L14 (y6 : (List Int) × Int) (x_37 : Int) (x19 : List Int) : ((List Int) × Int) → Option (Out ((List Int) × Int) (((List Int))))
  | (nights_12_1, x_44) =>
    if decide (x_44 < (List.length x19 : Int)) then
      (get x19 x_44).bind fun x25 =>
      (get nights_12_1 x_37).bind fun x28 =>
      (get y6.1 x25).bind fun x29 =>
      some (.nx ((List.set nights_12_1 (Int.toNat x_37) (bor x28 x29)), wr (x_44 + 1)))
    else
      some (.br nights_12_1)
noncomputable def circuit_CheckRota_L16 (r_ : Rota) (y6 : (List Int) × Int) : ((List Int) × Int) → Option (Out ((List Int) × Int) (((List Int))))
  | (nights_12, x_37) =>
    if decide (x_37 < (List.length r_.Nights : Int)) then
      (get r_.Nights x_37).bind fun x19 =>
      (loopM (circuit_CheckRota_L14 y6 x_37 x19) (nights_12, 0)).bind fun nights_12_1 =>
      circuit_CheckRota_j17 x_37 nights_12_1
    else
      some (.br nights_12)
noncomputable def circuit_CheckRota (c : Circuit) (l : List Trial) (r_ : Rota) : Option (Int × Int × Bool × Int) :=
  (circuit_checkRota c l r_).bind fun y2 =>
  if decide (¬y2 = 0) then
    some (0, 0, false, y2)
  else
    (circuit_all c l).bind fun y6 =>
    (mks 8 (List.length r_.Nights : Int) 0).bind fun l8 =>
    (loopM (circuit_CheckRota_L16 r_ y6) (l8, 0)).bind fun nights_12 =>
    circuit_CheckRota_j10 c r_ nights_12
def C_circuit_CheckRota (O : Orac) : Prop := ∀ (c : Circuit) (l : List Trial) (r_ : Rota) (r : Int × Int × Bool × Int) (hm0 : circuit_CheckRota c l r_ = some r), Fn O "newel/circuit.CheckRota" [.agg [I c.Hazards, .fs 1 (List.map eI c.Switches), .fs 2 (List.map eWire c.Wires)], .fs 2 (List.map eTrial l), .agg [.fs 1 (List.map eL_I r_.Nights), I r_.Gap]] (.tup [I r.1, I r.2.1, B r.2.2.1, I r.2.2.2])

/- newel/newellaw03.works -/
noncomputable def l03_works : Option Bool :=
  (circuit_Pairs l03_Example.1).bind fun y2 =>
  (circuit_CheckRota l03_Example.1 l03_Example.2 (Rota.mk ([[0], [1], [2], [3]]) 4)).bind fun y4 =>
  (if (((decide (y2.2 = 0)) && (decide (y4.2.2.2 = 0))) && y4.2.2.1) && (decide ((List.length y2.1 : Int) = 2)) then (get y2.1 0).bind fun x9 =>
  some (decide (x9.1 = 0) && decide (x9.2 = 1)) else some false).bind fun c10 =>
  (if c10 then (get y2.1 1).bind fun x11 =>
  some (decide (x11.1 = 2) && decide (x11.2 = 3)) else some false).bind fun c12 =>
  some c12
def C_l03_works (O : Orac) : Prop := ∀ (r : Bool) (hm0 : l03_works = some r), Fn O "newel/newellaw03.works" [] (B r)

/- newel/newelref03.within -/
noncomputable def r03_within (n : Int) (low : Int) (high : Int) : Bool :=
  (decide (low ≤ n)) && (decide (n ≤ high))
def C_r03_within (O : Orac) : Prop := ∀ (n : Int) (low : Int) (high : Int), Fn O "newel/newelref03.within" [I n, I low, I high] (B (r03_within n low high))

/- newel/newelref03.Check -/
noncomputable def r03_Check_j12 : Option Int :=
  some 0
noncomputable def r03_Check_L38 (used_4 : List Int) : Int → Option (Out Int (Unit ⊕ Int))
  | i_9 =>
    if decide (i_9 < ((List.length used_4 : Nat) : Int)) then
      (get used_4 i_9).bind fun x18 =>
      if decide (¬x18 = 1) then
        some (.br (.inr 30))
      else
        some (.nx (wr (i_9 + 1)))
    else
      some (.br (.inl ()))
noncomputable def r03_Check_j10 (used_4 : List Int) : Option Int :=
  (loopM (r03_Check_L38 used_4) (1)).bind fun
    | (.inl ()) => r03_Check_j12
    | (.inr r') => some r'
noncomputable def r03_Check_j25 (i_5 : Int) (used_4_1 : List Int) : Option (Out ((List Int) × Int) (((List Int)) ⊕ Int)) :=
  some (.nx (used_4_1, wr (i_5 + 1)))
noncomputable def r03_Check_L29 (c : Circuit) (x27 : Wire) : ((List Int) × Int × Int) → Option (Out ((List Int) × Int × Int) (((List Int)) ⊕ Int))
  | (used_4_1, last_7, k_8) =>
    if decide (k_8 < (List.length x27.Of : Int)) then
      (get x27.Of k_8).bind fun x45 =>
      if !(r03_within x45 (wr (last_7 + 1)) (wr ((List.length c.Wires : Int) - 1))) then
        some (.br (.inr 30))
      else
        (get used_4_1 x45).bind fun x49 =>
        some (.nx ((List.set used_4_1 (Int.toNat x45) (wr (x49 + 1))), x45, wr (k_8 + 1)))
    else
      some (.br (.inl used_4_1))
noncomputable def r03_Check_j36 (c : Circuit) (used_4 : List Int) (i_5 : Int) (x27 : Wire) (x_83 : Bool) : Option (Out ((List Int) × Int) (((List Int)) ⊕ Int)) :=
  if x_83 then
    if !(r03_within (List.length x27.Of : Int) 1 8) then
      some (.br (.inr 30))
    else
      (loopM (r03_Check_L29 c x27) (used_4, i_5, 0)).bind fun
        | (.inl used_4_1) => r03_Check_j25 i_5 used_4_1
        | (.inr r') => some (.br (.inr r'))
  else
    some (.br (.inr 30))
noncomputable def r03_Check_L32 (c : Circuit) : ((List Int) × Int) → Option (Out ((List Int) × Int) (((List Int)) ⊕ Int))
  | (used_4, i_5) =>
    if decide (i_5 < (List.length c.Wires : Int)) then
      (get c.Wires i_5).bind fun x27 =>
      if decide (x27.Kind = 1) then
        (if decide (¬(List.length x27.Of : Int) = 1) then some true else (get x27.Of 0).bind fun x31 =>
        some (!(r03_within x31 0 (wr ((List.length c.Switches : Int) - 1))))).bind fun c32 =>
        if c32 then
          some (.br (.inr 30))
        else
          r03_Check_j25 i_5 used_4
      else
        if decide (x27.Kind = 2) then
          r03_Check_j36 c used_4 i_5 x27 (decide (x27.Kind = 2))
        else
          r03_Check_j36 c used_4 i_5 x27 (decide (x27.Kind = 3))
    else
      some (.br (.inl used_4))
noncomputable def r03_Check_j6 (c : Circuit) : Option Int :=
  (mks 8 (List.length c.Wires : Int) 0).bind fun l8 =>
  (loopM (r03_Check_L32 c) (l8, 0)).bind fun
    | (.inl used_4) => r03_Check_j10 used_4
    | (.inr r') => some r'
noncomputable def r03_Check_L8 (c : Circuit) : Int → Option (Out Int (Unit ⊕ Int))
  | i_3 =>
    if decide (i_3 < (List.length c.Switches : Int)) then
      (get c.Switches i_3).bind fun x59 =>
      (shl .i64 1 (IntKind.wrap .u64 c.Hazards)).bind fun q60 =>
      if !(r03_within x59 0 (wr (q60 - 1))) then
        some (.br (.inr 30))
      else
        some (.nx (wr (i_3 + 1)))
    else
      some (.br (.inl ()))
noncomputable def r03_Check (c : Circuit) : Option Int :=
  if ((!(r03_within c.Hazards 1 8)) || (!(r03_within (List.length c.Switches : Int) 1 12))) || (!(r03_within (List.length c.Wires : Int) 1 24)) then
    some 30
  else
    (loopM (r03_Check_L8 c) (0)).bind fun
      | (.inl ()) => r03_Check_j6 c
      | (.inr r') => some r'
def C_r03_Check (O : Orac) : Prop := ∀ (c : Circuit) (r : Int) (hm0 : r03_Check c = some r), Fn O "newel/newelref03.Check" [.agg [I c.Hazards, .fs 1 (List.map eI c.Switches), .fs 2 (List.map eWire c.Wires)]] (I r)

/- newel/newelref03.Hazards -/
noncomputable def r03_Hazards (c : Circuit) (n : Int) : Option Bool :=
  (shl .i64 1 (IntKind.wrap .u64 c.Hazards)).bind fun q2 =>
  some (r03_within n 0 (wr (q2 - 1)))
def C_r03_Hazards (O : Orac) : Prop := ∀ (c : Circuit) (n : Int) (r : Bool) (hm0 : r03_Hazards c n = some r), Fn O "newel/newelref03.Hazards" [.agg [I c.Hazards, .fs 1 (List.map eI c.Switches), .fs 2 (List.map eWire c.Wires)], I n] (B r)

/- newel/newelref03.CheckTrials -/
noncomputable def r03_CheckTrials_j8 : Option Int :=
  some 0
noncomputable def r03_CheckTrials_L10 (c : Circuit) (l : List Trial) : Int → Option (Out Int (Unit ⊕ Int))
  | i_5 =>
    if decide (i_5 < (List.length l : Int)) then
      (get l i_5).bind fun x15 =>
      (r03_Hazards c x15.Hazards).bind fun y16 =>
      if (!y16) || (!(r03_within x15.Wire 0 (wr ((List.length c.Wires : Int) - 1)))) then
        some (.br (.inr 31))
      else
        some (.nx (wr (i_5 + 1)))
    else
      some (.br (.inl ()))
noncomputable def r03_CheckTrials (c : Circuit) (l : List Trial) : Option Int :=
  (r03_Check c).bind fun y2 =>
  if decide (¬y2 = 0) then
    some 30
  else
    if decide (12 < (List.length l : Int)) then
      some 2
    else
      (loopM (r03_CheckTrials_L10 c l) (0)).bind fun
        | (.inl ()) => r03_CheckTrials_j8
        | (.inr r') => some r'
def C_r03_CheckTrials (O : Orac) : Prop := ∀ (c : Circuit) (l : List Trial) (r : Int) (hm0 : r03_CheckTrials c l = some r), Fn O "newel/newelref03.CheckTrials" [.agg [I c.Hazards, .fs 1 (List.map eI c.Switches), .fs 2 (List.map eWire c.Wires)], .fs 2 (List.map eTrial l)] (I r)

/- newel/newelref03.ValidRota -/
noncomputable def r03_ValidRota_j5 : Option Bool :=
  some true
noncomputable def r03_ValidRota_j10 (i_5 : Int) : Option (Out Int (Unit ⊕ Bool)) :=
  some (.nx (wr (i_5 + 1)))
noncomputable def r03_ValidRota_L12 (r_ : Rota) (trials : Int) (i_5 : Int) : (Int × Int) → Option (Out (Int × Int) (Unit ⊕ Bool))
  | (last_6, k_7) =>
    (get r_.Nights i_5).bind fun x13 =>
    if decide (k_7 < (List.length x13 : Int)) then
      (get x13 k_7).bind fun x18 =>
      if !(r03_within x18 (wr (last_6 + 1)) (wr (trials - 1))) then
        some (.br (.inr false))
      else
        some (.nx (x18, wr (k_7 + 1)))
    else
      some (.br (.inl ()))
noncomputable def r03_ValidRota_L14 (r_ : Rota) (trials : Int) : Int → Option (Out Int (Unit ⊕ Bool))
  | i_5 =>
    if decide (i_5 < (List.length r_.Nights : Int)) then
      (loopM (r03_ValidRota_L12 r_ trials i_5) ((-1), 0)).bind fun
        | (.inl ()) => r03_ValidRota_j10 i_5
        | (.inr r') => some (.br (.inr r'))
    else
      some (.br (.inl ()))
noncomputable def r03_ValidRota (r_ : Rota) (trials : Int) : Option Bool :=
  if (!(r03_within (List.length r_.Nights : Int) 1 60)) || (!(r03_within r_.Gap 1 60)) then
    some false
  else
    (loopM (r03_ValidRota_L14 r_ trials) (0)).bind fun
      | (.inl ()) => r03_ValidRota_j5
      | (.inr r') => some r'
def C_r03_ValidRota (O : Orac) : Prop := ∀ (r_ : Rota) (trials : Int) (r : Bool) (hm0 : r03_ValidRota r_ trials = some r), Fn O "newel/newelref03.ValidRota" [.agg [.fs 1 (List.map eL_I r_.Nights), I r_.Gap], I trials] (B r)

/- newel/newelref03.conducts -/
noncomputable def r03_conducts_body_j20 (x2 : Wire) : Option Bool :=
  some (decide (x2.Kind = 2))
noncomputable def r03_conducts_body_L10 (self_r03_conducts : Circuit → Int → Int → Int → Int → Option Bool) (c : Circuit) (hazards : Int) (closed : Int) (open_ : Int) (x2 : Wire) : Int → Option (Out Int (Unit ⊕ Bool))
  | k_13 =>
    if decide (k_13 < (List.length x2.Of : Int)) then
      (get x2.Of k_13).bind fun x27 =>
      (self_r03_conducts c x27 hazards closed open_).bind fun y28 =>
      if beqB y28 (decide (x2.Kind = 3)) then
        some (.br (.inr (decide (x2.Kind = 3))))
      else
        some (.nx (wr (k_13 + 1)))
    else
      some (.br (.inl ()))
noncomputable def r03_conducts_body (self_r03_conducts : Circuit → Int → Int → Int → Int → Option Bool) (c : Circuit) (wire : Int) (hazards : Int) (closed : Int) (open_ : Int) : Option Bool :=
  (get c.Wires wire).bind fun x2 =>
  if decide (x2.Kind = 1) then
    (get x2.Of 0).bind fun x6 =>
    (shr .i64 open_ (IntKind.wrap .u64 x6)).bind fun q12 =>
    (if decide ((band q12 1) = 0) then (shr .i64 closed (IntKind.wrap .u64 x6)).bind fun q13 =>
    (if decide ((band q13 1) = 1) then some true else (get c.Switches x6).bind fun x14 =>
    some (decide ((band x14 hazards) = 0))).bind fun c15 =>
    some c15 else some false).bind fun c16 =>
    some c16
  else
    (loopM (r03_conducts_body_L10 self_r03_conducts c hazards closed open_ x2) (0)).bind fun
      | (.inl ()) => r03_conducts_body_j20 x2
      | (.inr r') => some r'
def C_r03_conducts_body (O : Orac) : Prop := ∀ (self_r03_conducts : Circuit → Int → Int → Int → Int → Option Bool) (self_r03_conducts_h : ∀ z0 z1 z2 z3 z4 y, self_r03_conducts z0 z1 z2 z3 z4 = some y → Fn O "newel/newelref03.conducts" [.agg [I z0.Hazards, .fs 1 (List.map eI z0.Switches), .fs 2 (List.map eWire z0.Wires)], I z1, I z2, I z3, I z4] (B y)) (c : Circuit) (wire : Int) (hazards : Int) (closed : Int) (open_ : Int) (r : Bool) (hm0 : r03_conducts_body self_r03_conducts c wire hazards closed open_ = some r), Fn O "newel/newelref03.conducts" [.agg [I c.Hazards, .fs 1 (List.map eI c.Switches), .fs 2 (List.map eWire c.Wires)], I wire, I hazards, I closed, I open_] (B r)
noncomputable def r03_conducts : Nat → Circuit → Int → Int → Int → Int → Option Bool
  | 0 => fun _ _ _ _ _ => none
  | n + 1 => fun c wire hazards closed open_ => r03_conducts_body (r03_conducts n) c wire hazards closed open_
def C_r03_conducts (O : Orac) : Prop := ∀ (n : Nat) (c : Circuit) (wire : Int) (hazards : Int) (closed : Int) (open_ : Int) (r : Bool) (hm0 : r03_conducts n c wire hazards closed open_ = some r), Fn O "newel/newelref03.conducts" [.agg [I c.Hazards, .fs 1 (List.map eI c.Switches), .fs 2 (List.map eWire c.Wires)], I wire, I hazards, I closed, I open_] (B r)

/- newel/newelref03.Tells -/
noncomputable def r03_Tells (c : Circuit) (t_ : Trial) (closed : Int) : Option Bool :=
  (r03_conducts 1000 c t_.Wire t_.Hazards closed 0).bind fun y4 =>
  (if y4 then (r03_conducts 1000 c t_.Wire t_.Hazards 0 0).bind fun y5 =>
  some (!y5) else some false).bind fun c6 =>
  some c6
def C_r03_Tells (O : Orac) : Prop := ∀ (c : Circuit) (t_ : Trial) (closed : Int) (r : Bool) (hm0 : r03_Tells c t_ closed = some r), Fn O "newel/newelref03.Tells" [.agg [I c.Hazards, .fs 1 (List.map eI c.Switches), .fs 2 (List.map eWire c.Wires)], .agg [I t_.Hazards, I t_.Wire], I closed] (B r)

/- newel/newelref03.shown -/
noncomputable def r03_shown_j2 (set_5 : Int) : Option Int :=
  some set_5
noncomputable def r03_shown_j7 (i_6 : Int) (set_5_1 : Int) : Option (Out (Int × Int) Int) :=
  some (.nx (set_5_1, wr (i_6 + 1)))
noncomputable def r03_shown_L7 (c : Circuit) (t_ : Trial) : (Int × Int) → Option (Out (Int × Int) Int)
  | (set_5, i_6) =>
    if decide (i_6 < (List.length c.Switches : Int)) then
      (shl .i64 1 (IntKind.wrap .u64 i_6)).bind fun q10 =>
      (r03_Tells c t_ q10).bind fun y11 =>
      if y11 then
        r03_shown_j7 i_6 (bor set_5 q10)
      else
        r03_shown_j7 i_6 set_5
    else
      some (.br set_5)
noncomputable def r03_shown (c : Circuit) (t_ : Trial) : Option Int :=
  (loopM (r03_shown_L7 c t_) (0, 0)).bind fun set_5 =>
  r03_shown_j2 set_5
def C_r03_shown (O : Orac) : Prop := ∀ (c : Circuit) (t_ : Trial) (r : Int) (hm0 : r03_shown c t_ = some r), Fn O "newel/newelref03.shown" [.agg [I c.Hazards, .fs 1 (List.map eI c.Switches), .fs 2 (List.map eWire c.Wires)], .agg [I t_.Hazards, I t_.Wire]] (I r)

/- newel/newelref03.every -/
noncomputable def r03_every_j2 (shows_5 : List Int) : Option (List Int) :=
  some shows_5
noncomputable def r03_every_L6 (c : Circuit) (l : List Trial) : ((List Int) × Int) → Option (Out ((List Int) × Int) (((List Int))))
  | (shows_5, i_6) =>
    if decide (i_6 < (List.length l : Int)) then
      (get l i_6).bind fun x10 =>
      (r03_shown c x10).bind fun y11 =>
      (ap 8 shows_5 ([y11])).bind fun l12 =>
      some (.nx (l12, wr (i_6 + 1)))
    else
      some (.br shows_5)
noncomputable def r03_every (c : Circuit) (l : List Trial) : Option (List Int) :=
  (loopM (r03_every_L6 c l) ([], 0)).bind fun shows_5 =>
  r03_every_j2 shows_5
def C_r03_every (O : Orac) : Prop := ∀ (c : Circuit) (l : List Trial) (r : List Int) (hm0 : r03_every c l = some r), Fn O "newel/newelref03.every" [.agg [I c.Hazards, .fs 1 (List.map eI c.Switches), .fs 2 (List.map eWire c.Wires)], .fs 2 (List.map eTrial l)] (.fs 1 (List.map eI r))

/- newel/newelref03.gap -/
noncomputable def r03_gap_j6 : Option (Int × Int × Bool) :=
  some (0, 0, true)
noncomputable def r03_gap_j11 (s_13 : Int) : Option (Out Int (Unit ⊕ ((Int × Int × Bool)))) :=
  some (.nx (wr (s_13 + 1)))
noncomputable def r03_gap_j16 (from_14 : Int) : Option (Out Int (Unit ⊕ ((Int × Int × Bool)))) :=
  some (.nx (wr (from_14 + 1)))
noncomputable def r03_gap_j18 (s_13 : Int) (from_14 : Int) (set_15 : Int) : Option (Out Int (Unit ⊕ ((Int × Int × Bool)))) :=
  (shr .i64 set_15 (IntKind.wrap .u64 s_13)).bind fun q20 =>
  if decide ((band q20 1) = 0) then
    some (.br (.inr (s_13, from_14, false)))
  else
    r03_gap_j16 from_14
noncomputable def r03_gap_L21 (r_ : Rota) (done_10 : List Int) (from_14 : Int) : (Int × Int) → Option (Out (Int × Int) Int)
  | (set_15, d_16) =>
    if decide (d_16 < r_.Gap) then
      (rem (wr (from_14 + d_16)) (List.length r_.Nights : Int)).bind fun q28 =>
      (get done_10 q28).bind fun x29 =>
      some (.nx (bor set_15 x29, wr (d_16 + 1)))
    else
      some (.br set_15)
noncomputable def r03_gap_L25 (r_ : Rota) (done_10 : List Int) (s_13 : Int) : Int → Option (Out Int (Unit ⊕ ((Int × Int × Bool))))
  | from_14 =>
    if decide (from_14 < (List.length r_.Nights : Int)) then
      (loopM (r03_gap_L21 r_ done_10 from_14) (0, 0)).bind fun set_15 =>
      r03_gap_j18 s_13 from_14 set_15
    else
      some (.br (.inl ()))
noncomputable def r03_gap_L27 (c : Circuit) (r_ : Rota) (done_10 : List Int) : Int → Option (Out Int (Unit ⊕ ((Int × Int × Bool))))
  | s_13 =>
    if decide (s_13 < (List.length c.Switches : Int)) then
      (loopM (r03_gap_L25 r_ done_10 s_13) (0)).bind fun
        | (.inl ()) => r03_gap_j11 s_13
        | (.inr r') => some (.br (.inr r'))
    else
      some (.br (.inl ()))
noncomputable def r03_gap_j4 (c : Circuit) (r_ : Rota) (done_10 : List Int) : Option (Int × Int × Bool) :=
  (loopM (r03_gap_L27 c r_ done_10) (0)).bind fun
    | (.inl ()) => r03_gap_j6
    | (.inr r') => some r'
noncomputable def r03_gap_j37 (i_11 : Int) (done_10_1 : List Int) : Option (Out ((List Int) × Int) (((List Int)))) :=
  some (.nx (done_10_1, wr (i_11 + 1)))
noncomputable def r03_gap_L9 (shows : List Int) (r_ : Rota) (i_11 : Int) : ((List Int) × Int) → Option (Out ((List Int) × Int) (((List Int))))
  | (done_10_1, k_12) =>
    (get r_.Nights i_11).bind fun x40 =>
    if decide (k_12 < (List.length x40 : Int)) then
      (get done_10_1 i_11).bind fun x47 =>
      (get x40 k_12).bind fun x48 =>
      (get shows x48).bind fun x49 =>
      some (.nx ((List.set done_10_1 (Int.toNat i_11) (bor x47 x49)), wr (k_12 + 1)))
    else
      some (.br done_10_1)
noncomputable def r03_gap_L11 (shows : List Int) (r_ : Rota) : ((List Int) × Int) → Option (Out ((List Int) × Int) (((List Int))))
  | (done_10, i_11) =>
    if decide (i_11 < (List.length r_.Nights : Int)) then
      (loopM (r03_gap_L9 shows r_ i_11) (done_10, 0)).bind fun done_10_1 =>
      r03_gap_j37 i_11 done_10_1
    else
      some (.br done_10)
noncomputable def r03_gap (c : Circuit) (shows : List Int) (r_ : Rota) : Option (Int × Int × Bool) :=
  (mks 8 (List.length r_.Nights : Int) 0).bind fun l2 =>
  (loopM (r03_gap_L11 shows r_) (l2, 0)).bind fun done_10 =>
  r03_gap_j4 c r_ done_10
def C_r03_gap (O : Orac) : Prop := ∀ (c : Circuit) (shows : List Int) (r_ : Rota) (r : Int × Int × Bool) (hm0 : r03_gap c shows r_ = some r), Fn O "newel/newelref03.gap" [.agg [I c.Hazards, .fs 1 (List.map eI c.Switches), .fs 2 (List.map eWire c.Wires)], .fs 1 (List.map eI shows), .agg [.fs 1 (List.map eL_I r_.Nights), I r_.Gap]] (.tup [I r.1, I r.2.1, B r.2.2])

/- newel/newelref03.CheckRota -/
noncomputable def r03_CheckRota (c : Circuit) (l : List Trial) (r_ : Rota) : Option (Int × Int × Bool × Int) :=
  (r03_CheckTrials c l).bind fun y2 =>
  if decide (¬y2 = 0) then
    some (0, 0, false, y2)
  else
    (r03_ValidRota r_ (List.length l : Int)).bind fun y6 =>
    if !y6 then
      some (0, 0, false, 32)
    else
      (r03_every c l).bind fun y11 =>
      (r03_gap c y11 r_).bind fun y12 =>
      some (y12.1, y12.2.1, y12.2.2, 0)
def C_r03_CheckRota (O : Orac) : Prop := ∀ (c : Circuit) (l : List Trial) (r_ : Rota) (r : Int × Int × Bool × Int) (hm0 : r03_CheckRota c l r_ = some r), Fn O "newel/newelref03.CheckRota" [.agg [I c.Hazards, .fs 1 (List.map eI c.Switches), .fs 2 (List.map eWire c.Wires)], .fs 2 (List.map eTrial l), .agg [.fs 1 (List.map eL_I r_.Nights), I r_.Gap]] (.tup [I r.1, I r.2.1, B r.2.2.1, I r.2.2.2])

/- newel/newellaw03.CircuitRotas -/
noncomputable def l03_CircuitRotas (c : Circuit) (l : List Trial) (r_ : Rota) : Option Bool :=
  (l03_Far c).bind fun y4 =>
  (if y4 || (decide (20 < (List.length l : Int))) then some true else (l03_farRota r_).bind fun y5 =>
  some y5).bind fun c6 =>
  if c6 then
    (l03_works).bind fun y12 =>
    some y12
  else
    (circuit_CheckRota c l r_).bind fun y14 =>
    (r03_CheckRota c l r_).bind fun y16 =>
    (if (((decide (y14.1 = y16.1)) && (decide (y14.2.1 = y16.2.1))) && (beqB y14.2.2.1 y16.2.2.1)) && (decide (y14.2.2.2 = y16.2.2.2)) then (l03_works).bind fun y19 =>
    some y19 else some false).bind fun c20 =>
    some c20
def C_l03_CircuitRotas (O : Orac) : Prop := ∀ (c : Circuit) (l : List Trial) (r_ : Rota) (r : Bool) (hm0 : l03_CircuitRotas c l r_ = some r), Fn O "newel/newellaw03.CircuitRotas" [.agg [I c.Hazards, .fs 1 (List.map eI c.Switches), .fs 2 (List.map eWire c.Wires)], .fs 2 (List.map eTrial l), .agg [.fs 1 (List.map eL_I r_.Nights), I r_.Gap]] (B r)

/- newel/circuit.Runs -/
noncomputable def circuit_Runs (c : Circuit) (hazards : Int) (closed : Int) (open_ : Int) : Option (Bool × Int) :=
  (circuit_Check c).bind fun y2 =>
  if decide (¬y2 = 0) then
    some (false, y2)
  else
    (circuit_isSet hazards c.Hazards).bind fun y10 =>
    (if !y10 then some true else (circuit_isSet closed (List.length c.Switches : Int)).bind fun y11 =>
    some (!y11)).bind fun c12 =>
    (if c12 then some true else (circuit_isSet open_ (List.length c.Switches : Int)).bind fun y13 =>
    some (!y13)).bind fun c14 =>
    if c14 then
      some (false, 1)
    else
      (_circuit_state__wire 1000 (circuit_state.mk c hazards closed open_) 0).bind fun y20 =>
      some (y20, 0)
def C_circuit_Runs (O : Orac) : Prop := ∀ (c : Circuit) (hazards : Int) (closed : Int) (open_ : Int) (r : Bool × Int) (hm0 : circuit_Runs c hazards closed open_ = some r), Fn O "newel/circuit.Runs" [.agg [I c.Hazards, .fs 1 (List.map eI c.Switches), .fs 2 (List.map eWire c.Wires)], I hazards, I closed, I open_] (.tup [B r.1, I r.2])

/- newel/newelref03.Switches -/
noncomputable def r03_Switches (c : Circuit) (n : Int) : Option Bool :=
  (shl .i64 1 (IntKind.wrap .u64 (List.length c.Switches : Int))).bind fun q2 =>
  some (r03_within n 0 (wr (q2 - 1)))
def C_r03_Switches (O : Orac) : Prop := ∀ (c : Circuit) (n : Int) (r : Bool) (hm0 : r03_Switches c n = some r), Fn O "newel/newelref03.Switches" [.agg [I c.Hazards, .fs 1 (List.map eI c.Switches), .fs 2 (List.map eWire c.Wires)], I n] (B r)

/- newel/newelref03.Runs -/
noncomputable def r03_Runs (c : Circuit) (hazards : Int) (closed : Int) (open_ : Int) : Option (Bool × Int) :=
  (r03_Check c).bind fun y2 =>
  if decide (¬y2 = 0) then
    some (false, 30)
  else
    (r03_Hazards c hazards).bind fun y10 =>
    (if !y10 then some true else (r03_Switches c closed).bind fun y11 =>
    some (!y11)).bind fun c12 =>
    (if c12 then some true else (r03_Switches c open_).bind fun y13 =>
    some (!y13)).bind fun c14 =>
    if c14 then
      some (false, 1)
    else
      (r03_conducts 1000 c 0 hazards closed open_).bind fun y20 =>
      some (y20, 0)
def C_r03_Runs (O : Orac) : Prop := ∀ (c : Circuit) (hazards : Int) (closed : Int) (open_ : Int) (r : Bool × Int) (hm0 : r03_Runs c hazards closed open_ = some r), Fn O "newel/newelref03.Runs" [.agg [I c.Hazards, .fs 1 (List.map eI c.Switches), .fs 2 (List.map eWire c.Wires)], I hazards, I closed, I open_] (.tup [B r.1, I r.2])

structure l03_State where
  Hazards : Int
  Closed : Int
  Open : Int
  deriving Inhabited, DecidableEq

/- newel/newellaw03.CircuitRuns -/
noncomputable def l03_CircuitRuns (c : Circuit) (s : l03_State) : Option Bool :=
  (l03_Far c).bind fun y2 =>
  if y2 then
    (l03_works).bind fun y6 =>
    some y6
  else
    (circuit_Runs c s.Hazards s.Closed s.Open).bind fun y8 =>
    (r03_Runs c s.Hazards s.Closed s.Open).bind fun y10 =>
    (circuit_Check c).bind fun y15 =>
    (r03_Check c).bind fun y16 =>
    (if ((decide (y15 = y16)) && (beqB y8.1 y10.1)) && (decide (y8.2 = y10.2)) then (l03_works).bind fun y17 =>
    some y17 else some false).bind fun c18 =>
    some c18
def C_l03_CircuitRuns (O : Orac) : Prop := ∀ (c : Circuit) (s : l03_State) (r : Bool) (hm0 : l03_CircuitRuns c s = some r), Fn O "newel/newellaw03.CircuitRuns" [.agg [I c.Hazards, .fs 1 (List.map eI c.Switches), .fs 2 (List.map eWire c.Wires)], .agg [I s.Hazards, I s.Closed, I s.Open]] (B r)

/- newel/newellaw03.CircuitOrder -/
noncomputable def l03_CircuitOrder (c : Circuit) (s : l03_State) (less : l03_State) : Option Bool :=
  (l03_Far c).bind fun y4 =>
  (if y4 then some true else (r03_Check c).bind fun y5 =>
  some (decide (¬y5 = 0))).bind fun c6 =>
  if c6 then
    (l03_works).bind fun y11 =>
    some y11
  else
    (circuit_Runs c s.Hazards s.Closed s.Open).bind fun y13 =>
    (if decide (¬y13.2 = 0) then some true else (r03_Switches c less.Closed).bind fun y16 =>
    some (!y16)).bind fun c17 =>
    if c17 then
      (if (decide (y13.2 = 0)) || (decide (y13.2 = 1)) then (l03_works).bind fun y23 =>
      some y23 else some false).bind fun c24 =>
      some c24
    else
      (circuit_Runs c (band s.Hazards less.Hazards) (bor s.Closed less.Closed) (band s.Open less.Open)).bind fun y28 =>
      (if (decide (y28.2 = 0)) && ((!y13.1) || y28.1) then (l03_works).bind fun y31 =>
      some y31 else some false).bind fun c32 =>
      some c32
def C_l03_CircuitOrder (O : Orac) : Prop := ∀ (c : Circuit) (s : l03_State) (less : l03_State) (r : Bool) (hm0 : l03_CircuitOrder c s less = some r), Fn O "newel/newellaw03.CircuitOrder" [.agg [I c.Hazards, .fs 1 (List.map eI c.Switches), .fs 2 (List.map eWire c.Wires)], .agg [I s.Hazards, I s.Closed, I s.Open], .agg [I less.Hazards, I less.Closed, I less.Open]] (B r)

/- newel/newellaw03.CircuitSingle -/
noncomputable def l03_CircuitSingle (c : Circuit) (sw : Int) (s : l03_State) : Option Bool :=
  (l03_Far c).bind fun y8 =>
  (if y8 then some true else (r03_Check c).bind fun y9 =>
  some (decide (¬y9 = 0))).bind fun c10 =>
  (if (c10 || (decide (sw < 0))) || (decide ((List.length c.Switches : Int) ≤ sw)) then some true else (r03_Hazards c s.Hazards).bind fun y11 =>
  some (!y11)).bind fun c12 =>
  (if c12 || (decide (s.Hazards = 0)) then some true else (r03_Switches c s.Open).bind fun y13 =>
  some (!y13)).bind fun c14 =>
  if c14 then
    (l03_works).bind fun y24 =>
    some y24
  else
    (circuit_Critical c).bind fun y26 =>
    if decide (¬y26.2 = 0) then
      some false
    else
      if decide (0 < (List.length y26.1 : Int)) then
        (l03_works).bind fun y32 =>
        some y32
      else
        (shl .i64 1 (IntKind.wrap .u64 sw)).bind fun q35 =>
        (circuit_Runs c s.Hazards q35 s.Open).bind fun y36 =>
        (if (decide (y36.2 = 0)) && (!y36.1) then (l03_works).bind fun y39 =>
        some y39 else some false).bind fun c40 =>
        some c40
def C_l03_CircuitSingle (O : Orac) : Prop := ∀ (c : Circuit) (sw : Int) (s : l03_State) (r : Bool) (hm0 : l03_CircuitSingle c sw s = some r), Fn O "newel/newellaw03.CircuitSingle" [.agg [I c.Hazards, .fs 1 (List.map eI c.Switches), .fs 2 (List.map eWire c.Wires)], I sw, .agg [I s.Hazards, I s.Closed, I s.Open]] (B r)

/- newel/circuit.Weak -/
noncomputable def circuit_Weak (c : Circuit) (closed : Int) : Option ((List Int) × Int) :=
  (circuit_Check c).bind fun y2 =>
  if decide (¬y2 = 0) then
    some ([], y2)
  else
    (circuit_isSet closed (List.length c.Switches : Int)).bind fun y6 =>
    if !y6 then
      some ([], 1)
    else
      (circuit_weak c closed).bind fun y10 =>
      some (y10, 0)
def C_circuit_Weak (O : Orac) : Prop := ∀ (c : Circuit) (closed : Int) (r : (List Int) × Int) (hm0 : circuit_Weak c closed = some r), Fn O "newel/circuit.Weak" [.agg [I c.Hazards, .fs 1 (List.map eI c.Switches), .fs 2 (List.map eWire c.Wires)], I closed] (.tup [.fs 1 (List.map eI r.1), I r.2])

/- newel/newellaw03.has -/
noncomputable def l03_has_j2 : Option Bool :=
  some false
noncomputable def l03_has_L6 (l : List Int) (n : Int) : Int → Option (Out Int (Unit ⊕ Bool))
  | i_5 =>
    if decide (i_5 < (List.length l : Int)) then
      (get l i_5).bind fun x8 =>
      if decide (x8 = n) then
        some (.br (.inr true))
      else
        some (.nx (wr (i_5 + 1)))
    else
      some (.br (.inl ()))
noncomputable def l03_has (l : List Int) (n : Int) : Option Bool :=
  (loopM (l03_has_L6 l n) (0)).bind fun
    | (.inl ()) => l03_has_j2
    | (.inr r') => some r'
def C_l03_has (O : Orac) : Prop := ∀ (l : List Int) (n : Int) (r : Bool) (hm0 : l03_has l n = some r), Fn O "newel/newellaw03.has" [.fs 1 (List.map eI l), I n] (B r)

/- newel/newellaw03.CircuitTwo -/
noncomputable def l03_CircuitTwo_j30 (a : Int) (b : Int) (y20 : (List Int) × Int) (y22 : (List Int) × Int) (pair_13 : Bool) : Option Bool :=
  (if pair_13 then some true else (l03_has y22.1 a).bind fun y37 =>
  some y37).bind fun c38 =>
  (if c38 then some true else (l03_has y22.1 b).bind fun y39 =>
  some y39).bind fun c40 =>
  (if beqB (decide (0 < (List.length y20.1 : Int))) c40 then (l03_works).bind fun y41 =>
  some y41 else some false).bind fun c42 =>
  some c42
noncomputable def l03_CircuitTwo_L13 (a : Int) (b : Int) (y24 : (List (Int × Int)) × Int) : (Bool × Int) → Option (Out (Bool × Int) Bool)
  | (pair_13, i_14) =>
    if decide (i_14 < (List.length y24.1 : Int)) then
      (if pair_13 then some true else (get y24.1 i_14).bind fun x54 =>
      some (decide (x54.1 = a) && decide (x54.2 = b))).bind fun c55 =>
      some (.nx (c55, wr (i_14 + 1)))
    else
      some (.br pair_13)
noncomputable def l03_CircuitTwo (c : Circuit) (a : Int) (b : Int) : Option Bool :=
  (l03_Far c).bind fun y4 =>
  (if y4 then some true else (r03_Check c).bind fun y5 =>
  some (decide (¬y5 = 0))).bind fun c6 =>
  if ((c6 || (decide (a < 0))) || (decide (b ≤ a))) || (decide ((List.length c.Switches : Int) ≤ b)) then
    (l03_works).bind fun y14 =>
    some y14
  else
    (shl .i64 1 (IntKind.wrap .u64 a)).bind fun q18 =>
    (shl .i64 1 (IntKind.wrap .u64 b)).bind fun q19 =>
    (circuit_Weak c (bor q18 q19)).bind fun y20 =>
    (circuit_Critical c).bind fun y22 =>
    (circuit_Pairs c).bind fun y24 =>
    if ((decide (¬y20.2 = 0)) || (decide (¬y22.2 = 0))) || (decide (¬y24.2 = 0)) then
      some false
    else
      (loopM (l03_CircuitTwo_L13 a b y24) (false, 0)).bind fun pair_13 =>
      l03_CircuitTwo_j30 a b y20 y22 pair_13
def C_l03_CircuitTwo (O : Orac) : Prop := ∀ (c : Circuit) (a : Int) (b : Int) (r : Bool) (hm0 : l03_CircuitTwo c a b = some r), Fn O "newel/newellaw03.CircuitTwo" [.agg [I c.Hazards, .fs 1 (List.map eI c.Switches), .fs 2 (List.map eWire c.Wires)], I a, I b] (B r)

/- slices.Clone[[]int,int] -/
noncomputable def slices_Clone___int_int_ (s : List Int) : Option (List Int) :=
  (nilq s).bind fun q2 =>
  if q2 then
    some ([])
  else
    (ap 8 ([]) s).bind fun l6 =>
    some l6
def C_slices_Clone___int_int_ (O : Orac) : Prop := ∀ (s : List Int) (r : List Int) (hm0 : slices_Clone___int_int_ s = some r), FnW O "slices.Clone[[]int,int]" [.fs 1 (List.map eI s)] 1 eI r

/- newel/circuit.Rota -/
noncomputable def circuit_Rota_j19 (best_14 : List Int) (best_14n : Bool) : Option ((List Int) × Int) :=
  if best_14n then
    some ([], 3)
  else
    some (best_14, 0)
noncomputable def circuit_Rota_j26 (x_69 : Int) (best_14_1 : List Int) (best_14n_1 : Bool) (fewest_15_1 : Int) (list_16_1 : List Int) (sets_17_1 : List Int) : Option (Out ((List Int) × Bool × Int × (List Int) × (List Int) × Int) (((List Int) × Bool))) :=
  some (.nx (best_14_1, best_14n_1, fewest_15_1, list_16_1, sets_17_1, wr (x_69 + 1)))
noncomputable def circuit_Rota_j28 (c : Circuit) (many : Int) (best_14 : List Int) (best_14n : Bool) (fewest_15 : Int) (x_69 : Int) (list_16_1 : List Int) (sets_17_1 : List Int) (trials_19 : Int) : Option (Out ((List Int) × Bool × Int × (List Int) × (List Int) × Int) (((List Int) × Bool))) :=
  if decide (fewest_15 ≤ trials_19) then
    circuit_Rota_j26 x_69 best_14 best_14n fewest_15 list_16_1 sets_17_1
  else
    (circuit_gap (List.length c.Switches : Int) many sets_17_1).bind fun y32 =>
    if y32.2.2 then
      (slices_Clone___int_int_ list_16_1).bind fun y35 =>
      circuit_Rota_j26 x_69 y35 false trials_19 list_16_1 sets_17_1
    else
      circuit_Rota_j26 x_69 best_14 best_14n fewest_15 list_16_1 sets_17_1
noncomputable def circuit_Rota_j40 (l : List Trial) (i_20 : Int) (rest_21 : Int) (list_16_2 : List Int) (sets_17_2 : List Int) (trials_19_1 : Int) : Option (Out ((List Int) × (List Int) × Int × Int × Int) (((List Int) × (List Int) × Int))) :=
  (quo .i64 rest_21 (wr ((List.length l : Int) + 1))).bind fun q42 =>
  some (.nx (list_16_2, sets_17_2, trials_19_1, wr (i_20 - 1), q42))
noncomputable def circuit_Rota_L30 (l : List Trial) (y13 : (List Int) × Int) : ((List Int) × (List Int) × Int × Int × Int) → Option (Out ((List Int) × (List Int) × Int × Int × Int) (((List Int) × (List Int) × Int)))
  | (list_16_1, sets_17_1, trials_19, i_20, rest_21) =>
    if decide (0 ≤ i_20) then
      (rem rest_21 (wr ((List.length l : Int) + 1))).bind fun q45 =>
      (get list_16_1 i_20).bind fun x46 =>
      (get sets_17_1 i_20).bind fun x48 =>
      (get (List.set list_16_1 (Int.toNat i_20) (wr (q45 - 1))) i_20).bind fun x50 =>
      if decide (0 ≤ x50) then
        (get y13.1 x50).bind fun x54 =>
        (get (List.set sets_17_1 (Int.toNat i_20) 0) i_20).bind fun x55 =>
        circuit_Rota_j40 l i_20 rest_21 (List.set list_16_1 (Int.toNat i_20) (wr (q45 - 1))) (List.set (List.set sets_17_1 (Int.toNat i_20) 0) (Int.toNat i_20) x54) (wr (trials_19 + 1))
      else
        circuit_Rota_j40 l i_20 rest_21 (List.set list_16_1 (Int.toNat i_20) (wr (q45 - 1))) (List.set sets_17_1 (Int.toNat i_20) 0) trials_19
    else
      some (.br (list_16_1, sets_17_1, trials_19))
noncomputable def circuit_Rota_L36 (c : Circuit) (l : List Trial) (nights : Int) (many : Int) (lists_11 : Int) (y13 : (List Int) × Int) : ((List Int) × Bool × Int × (List Int) × (List Int) × Int) → Option (Out ((List Int) × Bool × Int × (List Int) × (List Int) × Int) (((List Int) × Bool)))
  | (best_14, best_14n, fewest_15, list_16, sets_17, x_69) =>
    if decide (x_69 < lists_11) then
      (loopM (circuit_Rota_L30 l y13) (list_16, sets_17, 0, wr (nights - 1), x_69)).bind fun
        | (list_16_1, sets_17_1, trials_19) => circuit_Rota_j28 c many best_14 best_14n fewest_15 x_69 list_16_1 sets_17_1 trials_19
    else
      some (.br (best_14, best_14n))
noncomputable def circuit_Rota_j11 (c : Circuit) (l : List Trial) (nights : Int) (many : Int) (lists_11 : Int) : Option ((List Int) × Int) :=
  (circuit_all c l).bind fun y13 =>
  (mks 8 nights 0).bind fun l16 =>
  (mks 8 nights 0).bind fun l17 =>
  (loopM (circuit_Rota_L36 c l nights many lists_11 y13) ([], true, wr (nights + 1), l16, l17, 0)).bind fun
    | (best_14, best_14n) => circuit_Rota_j19 best_14 best_14n
noncomputable def circuit_Rota_L13 (l : List Trial) (nights : Int) : (Int × Int) → Option (Out (Int × Int) (Int ⊕ (((List Int) × Int))))
  | (lists_11, x_46) =>
    if decide (x_46 < nights) then
      if decide (20000 < (wr (lists_11 * (wr ((List.length l : Int) + 1))))) then
        some (.br (.inr ([], 2)))
      else
        some (.nx (wr (lists_11 * (wr ((List.length l : Int) + 1))), wr (x_46 + 1)))
    else
      some (.br (.inl lists_11))
noncomputable def circuit_Rota (c : Circuit) (l : List Trial) (nights : Int) (many : Int) : Option ((List Int) × Int) :=
  (circuit_check c l).bind fun y2 =>
  if decide (¬y2 = 0) then
    some ([], y2)
  else
    if (((decide (nights < 1)) || (decide (60 < nights))) || (decide (many < 1))) || (decide (60 < many)) then
      some ([], 1)
    else
      (loopM (circuit_Rota_L13 l nights) (1, 0)).bind fun
        | (.inl lists_11) => circuit_Rota_j11 c l nights many lists_11
        | (.inr r') => some r'
def C_circuit_Rota (O : Orac) : Prop := ∀ (c : Circuit) (l : List Trial) (nights : Int) (many : Int) (r : (List Int) × Int) (hm0 : circuit_Rota c l nights many = some r), Fn O "newel/circuit.Rota" [.agg [I c.Hazards, .fs 1 (List.map eI c.Switches), .fs 2 (List.map eWire c.Wires)], .fs 2 (List.map eTrial l), I nights, I many] (.tup [.fs 1 (List.map eI r.1), I r.2])

/- newel/newelref03.tried -/
noncomputable def r03_tried_j2 (n_3 : Int) : Option Int :=
  some n_3
noncomputable def r03_tried_j7 (i_4 : Int) (n_3_1 : Int) : Option (Out (Int × Int) Int) :=
  some (.nx (n_3_1, wr (i_4 + 1)))
noncomputable def r03_tried_L7 (list : List Int) : (Int × Int) → Option (Out (Int × Int) Int)
  | (n_3, i_4) =>
    if decide (i_4 < (List.length list : Int)) then
      (get list i_4).bind fun x9 =>
      if decide (0 ≤ x9) then
        r03_tried_j7 i_4 (wr (n_3 + 1))
      else
        r03_tried_j7 i_4 n_3
    else
      some (.br n_3)
noncomputable def r03_tried (list : List Int) : Option Int :=
  (loopM (r03_tried_L7 list) (0, 0)).bind fun n_3 =>
  r03_tried_j2 n_3
def C_r03_tried (O : Orac) : Prop := ∀ (list : List Int) (r : Int) (hm0 : r03_tried list = some r), Fn O "newel/newelref03.tried" [.fs 1 (List.map eI list)] (I r)

/- newel/newelref03.AsRota -/
noncomputable def r03_AsRota_j2 (days : Int) (r_5_0 : List (List Int)) : Option Rota :=
  some (Rota.mk r_5_0 days)
noncomputable def r03_AsRota_j10 (r_5_0 : List (List Int)) (i_6 : Int) (one_7 : List Int) : Option (Out ((List (List Int)) × Int) (((List (List Int))))) :=
  (ap 24 r_5_0 ([one_7])).bind fun l12 =>
  some (.nx (l12, wr (i_6 + 1)))
noncomputable def r03_AsRota_L9 (list : List Int) : ((List (List Int)) × Int) → Option (Out ((List (List Int)) × Int) (((List (List Int)))))
  | (r_5_0, i_6) =>
    if decide (i_6 < (List.length list : Int)) then
      (get list i_6).bind fun x8 =>
      if decide (0 ≤ x8) then
        r03_AsRota_j10 r_5_0 i_6 ([x8])
      else
        r03_AsRota_j10 r_5_0 i_6 ([])
    else
      some (.br r_5_0)
noncomputable def r03_AsRota (list : List Int) (days : Int) : Option Rota :=
  (loopM (r03_AsRota_L9 list) ([], 0)).bind fun r_5_0 =>
  r03_AsRota_j2 days r_5_0
def C_r03_AsRota (O : Orac) : Prop := ∀ (list : List Int) (days : Int) (r : Rota) (hm0 : r03_AsRota list days = some r), Fn O "newel/newelref03.AsRota" [.fs 1 (List.map eI list), I days] (.agg [.fs 1 (List.map eL_I r.Nights), I r.Gap])

/- newel/newelref03.Rota -/
noncomputable def r03_Rota_j13 (best_13 : Option (List Int)) : Option ((List Int) × Int) :=
  (nilqO best_13).bind fun q15 =>
  if q15 then
    some ([], 3)
  else
    some (Option.getD best_13 [], 0)
noncomputable def r03_Rota_j22 (x_15 : Int) (best_13_1 : Option (List Int)) : Option (Out ((Option (List Int)) × Int) (((Option (List Int))))) :=
  some (.nx (best_13_1, wr (x_15 + 1)))
noncomputable def r03_Rota_j26 (c : Circuit) (days : Int) (y11 : List Int) (best_13 : Option (List Int)) (x_15 : Int) (list_16 : List Int) : Option (Out ((Option (List Int)) × Int) (((Option (List Int))))) :=
  (nilqO best_13).bind fun q31 =>
  (if !q31 then (r03_tried list_16).bind fun y32 =>
  (r03_tried (Option.getD best_13 [])).bind fun y33 =>
  some (decide (y33 ≤ y32)) else some false).bind fun c34 =>
  if c34 then
    r03_Rota_j22 x_15 best_13
  else
    (r03_AsRota list_16 days).bind fun y40 =>
    (r03_gap c y11 y40).bind fun y41 =>
    if y41.2.2 then
      r03_Rota_j22 x_15 (some list_16)
    else
      r03_Rota_j22 x_15 best_13
noncomputable def r03_Rota_L25 (l : List Trial) : ((List Int) × Int × Int) → Option (Out ((List Int) × Int × Int) (((List Int))))
  | (list_16, rest_17, i_18) =>
    if decide (0 ≤ i_18) then
      (rem rest_17 (wr ((List.length l : Int) + 1))).bind fun q49 =>
      (get list_16 i_18).bind fun x50 =>
      (quo .i64 rest_17 (wr ((List.length l : Int) + 1))).bind fun q52 =>
      some (.nx ((List.set list_16 (Int.toNat i_18) (wr (q49 - 1))), q52, wr (i_18 - 1)))
    else
      some (.br list_16)
noncomputable def r03_Rota_L31 (c : Circuit) (l : List Trial) (nights : Int) (days : Int) (count_11 : Int) (y11 : List Int) : ((Option (List Int)) × Int) → Option (Out ((Option (List Int)) × Int) (((Option (List Int)))))
  | (best_13, x_15) =>
    if decide (x_15 < count_11) then
      (mks 8 nights 0).bind fun l24 =>
      (loopM (r03_Rota_L25 l) (l24, x_15, wr (nights - 1))).bind fun list_16 =>
      r03_Rota_j26 c days y11 best_13 x_15 list_16
    else
      some (.br best_13)
noncomputable def r03_Rota_j9 (c : Circuit) (l : List Trial) (nights : Int) (days : Int) (count_11 : Int) : Option ((List Int) × Int) :=
  (r03_every c l).bind fun y11 =>
  (loopM (r03_Rota_L31 c l nights days count_11 y11) (none, 0)).bind fun best_13 =>
  r03_Rota_j13 best_13
noncomputable def r03_Rota_L13 (l : List Trial) (nights : Int) : (Int × Int) → Option (Out (Int × Int) (Int ⊕ (((List Int) × Int))))
  | (count_11, i_12) =>
    if decide (i_12 < nights) then
      if decide (20000 < (wr (count_11 * (wr ((List.length l : Int) + 1))))) then
        some (.br (.inr ([], 2)))
      else
        some (.nx (wr (count_11 * (wr ((List.length l : Int) + 1))), wr (i_12 + 1)))
    else
      some (.br (.inl count_11))
noncomputable def r03_Rota (c : Circuit) (l : List Trial) (nights : Int) (days : Int) : Option ((List Int) × Int) :=
  (r03_CheckTrials c l).bind fun y2 =>
  if decide (¬y2 = 0) then
    some ([], y2)
  else
    if (!(r03_within nights 1 60)) || (!(r03_within days 1 60)) then
      some ([], 1)
    else
      (loopM (r03_Rota_L13 l nights) (1, 0)).bind fun
        | (.inl count_11) => r03_Rota_j9 c l nights days count_11
        | (.inr r') => some r'
def C_r03_Rota (O : Orac) : Prop := ∀ (c : Circuit) (l : List Trial) (nights : Int) (days : Int) (r : (List Int) × Int) (hm0 : r03_Rota c l nights days = some r), Fn O "newel/newelref03.Rota" [.agg [I c.Hazards, .fs 1 (List.map eI c.Switches), .fs 2 (List.map eWire c.Wires)], .fs 2 (List.map eTrial l), I nights, I days] (.tup [.fs 1 (List.map eI r.1), I r.2])

/- newel/newellaw03.sameInts -/
noncomputable def l03_sameInts_j4 : Option Bool :=
  some true
noncomputable def l03_sameInts_L8 (a : List Int) (b : List Int) : Int → Option (Out Int (Unit ⊕ Bool))
  | i_5 =>
    if decide (i_5 < (List.length a : Int)) then
      (get a i_5).bind fun x11 =>
      (get b i_5).bind fun x12 =>
      if decide (¬x11 = x12) then
        some (.br (.inr false))
      else
        some (.nx (wr (i_5 + 1)))
    else
      some (.br (.inl ()))
noncomputable def l03_sameInts (a : List Int) (b : List Int) : Option Bool :=
  if decide (¬(List.length a : Int) = (List.length b : Int)) then
    some false
  else
    (loopM (l03_sameInts_L8 a b) (0)).bind fun
      | (.inl ()) => l03_sameInts_j4
      | (.inr r') => some r'
def C_l03_sameInts (O : Orac) : Prop := ∀ (a : List Int) (b : List Int) (r : Bool) (hm0 : l03_sameInts a b = some r), Fn O "newel/newellaw03.sameInts" [.fs 1 (List.map eI a), .fs 1 (List.map eI b)] (B r)

structure l03_Wish where
  Nights : Int
  Gap : Int
  deriving Inhabited, DecidableEq

/- newel/newellaw03.CircuitPlans -/
noncomputable def l03_CircuitPlans (c : Circuit) (l : List Trial) (w_ : l03_Wish) : Option Bool :=
  (l03_Far c).bind fun y2 =>
  if y2 || (decide (20 < (List.length l : Int))) then
    (l03_works).bind fun y7 =>
    some y7
  else
    (circuit_Rota c l w_.Nights w_.Gap).bind fun y9 =>
    (r03_Rota c l w_.Nights w_.Gap).bind fun y11 =>
    (if decide (y9.2 = y11.2) then (l03_sameInts y9.1 y11.1).bind fun y16 =>
    some y16 else some false).bind fun c17 =>
    (if c17 then (l03_works).bind fun y18 =>
    some y18 else some false).bind fun c19 =>
    some c19
def C_l03_CircuitPlans (O : Orac) : Prop := ∀ (c : Circuit) (l : List Trial) (w_ : l03_Wish) (r : Bool) (hm0 : l03_CircuitPlans c l w_ = some r), Fn O "newel/newellaw03.CircuitPlans" [.agg [I c.Hazards, .fs 1 (List.map eI c.Switches), .fs 2 (List.map eWire c.Wires)], .fs 2 (List.map eTrial l), .agg [I w_.Nights, I w_.Gap]] (B r)

structure l03_Kept where
  Trials : List Trial
  Rota : Rota
  deriving Inhabited, DecidableEq

/- newel/newellaw03.CircuitRota -/
noncomputable def l03_CircuitRota_j36 (c : Circuit) (k : l03_Kept) (y17 : (List Int) × Int) (n_10 : Int) (valid_9_1 : Bool) (m_16 : Int) : Option Bool :=
  (r03_AsRota y17.1 k.Rota.Gap).bind fun y39 =>
  (circuit_CheckRota c k.Trials y39).bind fun y40 =>
  (if ((decide (y40.2.2.2 = 0)) && y40.2.2.1) && ((!valid_9_1) || (decide (m_16 ≤ n_10))) then (l03_works).bind fun y43 =>
  some y43 else some false).bind fun c44 =>
  some c44
noncomputable def l03_CircuitRota_j53 (i_17 : Int) (m_16_1 : Int) : Option (Out (Int × Int) (Int ⊕ Bool)) :=
  some (.nx (m_16_1, wr (i_17 + 1)))
noncomputable def l03_CircuitRota_L31 (k : l03_Kept) (y17 : (List Int) × Int) : (Int × Int) → Option (Out (Int × Int) (Int ⊕ Bool))
  | (m_16, i_17) =>
    if decide (i_17 < (List.length y17.1 : Int)) then
      (get y17.1 i_17).bind fun x55 =>
      if (decide (x55 < (-1))) || (decide ((List.length k.Trials : Int) ≤ x55)) then
        some (.br (.inr false))
      else
        if decide (0 ≤ x55) then
          l03_CircuitRota_j53 i_17 (wr (m_16 + 1))
        else
          l03_CircuitRota_j53 i_17 m_16
    else
      some (.br (.inl m_16))
noncomputable def l03_CircuitRota_j25 (c : Circuit) (k : l03_Kept) (other : List Int) (y17 : (List Int) × Int) (n_10 : Int) (valid_9_1 : Bool) : Option Bool :=
  if decide (¬y17.2 = 0) then
    (if decide (y17.2 = 3) then (l03_works).bind fun y30 =>
    some y30 else some false).bind fun c31 =>
    some c31
  else
    if decide (¬(List.length y17.1 : Int) = (List.length other : Int)) then
      some false
    else
      (loopM (l03_CircuitRota_L31 k y17) (0, 0)).bind fun
        | (.inl m_16) => l03_CircuitRota_j36 c k y17 n_10 valid_9_1 m_16
        | (.inr r') => some r'
noncomputable def l03_CircuitRota_j23 (c : Circuit) (k : l03_Kept) (other : List Int) (y17 : (List Int) × Int) (valid_9 : Bool) (n_10 : Int) : Option Bool :=
  if valid_9 then
    (r03_AsRota other k.Rota.Gap).bind fun y64 =>
    (circuit_CheckRota c k.Trials y64).bind fun y65 =>
    if (decide (¬y65.2.2.2 = 0)) || (y65.2.2.1 && (decide (¬y17.2 = 0))) then
      some false
    else
      l03_CircuitRota_j25 c k other y17 n_10 y65.2.2.1
  else
    l03_CircuitRota_j25 c k other y17 n_10 valid_9
noncomputable def l03_CircuitRota_j74 (i_11 : Int) (valid_9_1 : Bool) (n_10_1 : Int) : Option (Out (Bool × Int × Int) ((Bool × Int))) :=
  some (.nx (valid_9_1, n_10_1, wr (i_11 + 1)))
noncomputable def l03_CircuitRota_L13 (k : l03_Kept) (other : List Int) : (Bool × Int × Int) → Option (Out (Bool × Int × Int) ((Bool × Int)))
  | (valid_9, n_10, i_11) =>
    if decide (i_11 < (List.length other : Int)) then
      (if valid_9 then (get other i_11).bind fun x79 =>
      some (decide ((-1) ≤ x79)) else some false).bind fun c80 =>
      (if c80 then (get other i_11).bind fun x81 =>
      some (decide (x81 < (List.length k.Trials : Int))) else some false).bind fun c82 =>
      (get other i_11).bind fun x86 =>
      if decide (0 ≤ x86) then
        l03_CircuitRota_j74 i_11 c82 (wr (n_10 + 1))
      else
        l03_CircuitRota_j74 i_11 c82 n_10
    else
      some (.br (valid_9, n_10))
noncomputable def l03_CircuitRota (c : Circuit) (k : l03_Kept) (other : List Int) : Option Bool :=
  (l03_Far c).bind fun y4 =>
  (if y4 then some true else (r03_CheckTrials c k.Trials).bind fun y5 =>
  some (decide (¬y5 = 0))).bind fun c6 =>
  if (((c6 || (decide ((List.length other : Int) = 0))) || (decide (6 < (List.length other : Int)))) || (decide (k.Rota.Gap < 1))) || (decide (60 < k.Rota.Gap)) then
    (l03_works).bind fun y15 =>
    some y15
  else
    (circuit_Rota c k.Trials (List.length other : Int) k.Rota.Gap).bind fun y17 =>
    if decide (y17.2 = 2) then
      (l03_works).bind fun y21 =>
      some y21
    else
      (loopM (l03_CircuitRota_L13 k other) (true, 0, 0)).bind fun
        | (valid_9, n_10) => l03_CircuitRota_j23 c k other y17 valid_9 n_10
def C_l03_CircuitRota (O : Orac) : Prop := ∀ (c : Circuit) (k : l03_Kept) (other : List Int) (r : Bool) (hm0 : l03_CircuitRota c k other = some r), Fn O "newel/newellaw03.CircuitRota" [.agg [I c.Hazards, .fs 1 (List.map eI c.Switches), .fs 2 (List.map eWire c.Wires)], .agg [.fs 2 (List.map eTrial k.Trials), .fs 1 (List.map eL_I k.Rota.Nights), I k.Rota.Gap], .fs 1 (List.map eI other)] (B r)

structure Upset where
  Night : Int
  Kind : Int
  Number : Int
  deriving Inhabited, DecidableEq

@[go_sem] def eUpset (x : Upset) : List AV := [I x.Night, I x.Kind, I x.Number]
theorem fz_eUpset (x : Upset) : ∀ c ∈ eUpset x, Frz c := (fz_cons (frz_v _) (fz_cons (frz_v _) (fz_cons (frz_v _) fz_nil)))
theorem ln_eUpset (x : Upset) : (eUpset x).length = 3 := rfl
@[go_sem] theorem set_eUpset {l : List Upset} {n : Nat} {a0 : Int} {a1 : Int} {a2 : Int} : (List.map eUpset l).set n [I a0, I a1, I a2] = List.map eUpset (l.set n (Upset.mk a0 a1 a2)) := by rw [List.map_set]; rfl
/- newel/circuit.checkUpsets -/
noncomputable def circuit_checkUpsets_j4 : Option Int :=
  some 0
noncomputable def circuit_checkUpsets_j15 (x_14 : Int) (fine_7_1 : Bool) : Option (Out Int (Unit ⊕ Int)) :=
  if !fine_7_1 then
    some (.br (.inr 33))
  else
    some (.nx (wr (x_14 + 1)))
noncomputable def circuit_checkUpsets_j13 (u : List Upset) (x_14 : Int) (x10 : Upset) (fine_7 : Bool) : Option (Out Int (Unit ⊕ Int)) :=
  if decide (0 < x_14) then
    (get u (wr (x_14 - 1))).bind fun x19 =>
    circuit_checkUpsets_j15 x_14 (fine_7 && ((decide (x19.Night < x10.Night)) || ((decide (x19.Night = x10.Night)) && ((decide (x19.Kind = 1)) || (decide (x10.Kind = 2))))))
  else
    circuit_checkUpsets_j15 x_14 fine_7
noncomputable def circuit_checkUpsets_L19 (c : Circuit) (u : List Upset) : Int → Option (Out Int (Unit ⊕ Int))
  | x_14 =>
    if decide (x_14 < (List.length u : Int)) then
      (get u x_14).bind fun x10 =>
      if decide (x10.Kind = 1) then
        circuit_checkUpsets_j13 u x_14 x10 ((((decide (0 ≤ x10.Night)) && (decide (x10.Night ≤ 1000))) && (decide (0 ≤ x10.Number))) && (decide (x10.Number < (List.length c.Switches : Int))))
      else
        if decide (x10.Kind = 2) then
          (if ((decide (0 ≤ x10.Night)) && (decide (x10.Night ≤ 1000))) && (decide (0 < x10.Number)) then (circuit_isSet x10.Number c.Hazards).bind fun y30 =>
          some y30 else some false).bind fun c31 =>
          circuit_checkUpsets_j13 u x_14 x10 c31
        else
          circuit_checkUpsets_j13 u x_14 x10 false
    else
      some (.br (.inl ()))
noncomputable def circuit_checkUpsets (c : Circuit) (u : List Upset) : Option Int :=
  if decide (40 < (List.length u : Int)) then
    some 33
  else
    (loopM (circuit_checkUpsets_L19 c u) (0)).bind fun
      | (.inl ()) => circuit_checkUpsets_j4
      | (.inr r') => some r'
def C_circuit_checkUpsets (O : Orac) : Prop := ∀ (c : Circuit) (u : List Upset) (r : Int) (hm0 : circuit_checkUpsets c u = some r), Fn O "newel/circuit.checkUpsets" [.agg [I c.Hazards, .fs 1 (List.map eI c.Switches), .fs 2 (List.map eWire c.Wires)], .fs 3 (List.map eUpset u)] (I r)

/- newel/circuit.Play -/
noncomputable def circuit_Play_j10 (stuck_8 : List Int) (passed_9 : List Int) : Option ((List Int) × (List Int) × Int) :=
  some (stuck_8, passed_9, 0)
noncomputable def circuit_Play_j15 (night_13 : Int) (stuck_8_1 : List Int) (passed_9_1 : List Int) (now_11_1 : Int) (at_12_1 : Int) : Option (Out ((List Int) × (List Int) × Int × Int × Int) (((List Int) × (List Int)))) :=
  some (.nx (stuck_8_1, passed_9_1, now_11_1, at_12_1, wr (night_13 + 1)))
noncomputable def circuit_Play_j25 (stuck_8 : List Int) (at_12 : Int) (night_13 : Int) (now_11_2 : Int) (passed_9_1 : List Int) (at_12_2 : Int) : Option (Out ((List Int) × (List Int) × Int × Int × Int) (((List Int) × (List Int)))) :=
  if decide (at_12 < at_12_2) then
    (ap 8 stuck_8 ([now_11_2])).bind fun l28 =>
    circuit_Play_j15 night_13 l28 passed_9_1 now_11_2 at_12_2
  else
    circuit_Play_j15 night_13 stuck_8 passed_9_1 now_11_2 at_12_2
noncomputable def circuit_Play_j43 (k_17 : Int) (passed_9_2 : List Int) : Option (Out ((List Int) × Int × Int) (((List Int) × Int))) :=
  some (.nx (passed_9_2, wr (k_17 + 1), wr (k_17 + 1)))
noncomputable def circuit_Play_L28 (c : Circuit) (u : List Upset) (night_13 : Int) (now_11_2 : Int) : ((List Int) × Int × Int) → Option (Out ((List Int) × Int × Int) (((List Int) × Int)))
  | (passed_9_1, at_12_2, k_17) =>
    (if decide (k_17 < (List.length u : Int)) then (get u k_17).bind fun x32 =>
    some (decide (x32.Night = night_13)) else some false).bind fun c33 =>
    if c33 then
      (get u k_17).bind fun x40 =>
      (_circuit_state__wire 1000 (circuit_state.mk c x40.Number now_11_2 0) 0).bind fun y41 =>
      if y41 then
        (ap 8 passed_9_1 ([k_17])).bind fun l46 =>
        circuit_Play_j43 k_17 l46
      else
        circuit_Play_j43 k_17 passed_9_1
    else
      some (.br (passed_9_1, at_12_2))
noncomputable def circuit_Play_j23 (c : Circuit) (u : List Upset) (stuck_8 : List Int) (passed_9 : List Int) (at_12 : Int) (night_13 : Int) (at_12_1 : Int) (now_11_2 : Int) : Option (Out ((List Int) × (List Int) × Int × Int × Int) (((List Int) × (List Int)))) :=
  (loopM (circuit_Play_L28 c u night_13 now_11_2) (passed_9, at_12_1, at_12_1)).bind fun
    | (passed_9_1, at_12_2) => circuit_Play_j25 stuck_8 at_12 night_13 now_11_2 passed_9_1 at_12_2
noncomputable def circuit_Play_j52 (x_79 : Int) (now_11_3 : Int) : Option (Out (Int × Int) Int) :=
  some (.nx (now_11_3, wr (x_79 + 1)))
noncomputable def circuit_Play_L21 (c : Circuit) (l : List Trial) (x21 : List Int) : (Int × Int) → Option (Out (Int × Int) Int)
  | (now_11_2, x_79) =>
    if decide (x_79 < (List.length x21 : Int)) then
      (get x21 x_79).bind fun x54 =>
      (if decide (¬now_11_2 = 0) then (get l x54).bind fun x58 =>
      (circuit_shows c x58 now_11_2).bind fun y59 =>
      some y59 else some false).bind fun c60 =>
      if c60 then
        circuit_Play_j52 x_79 0
      else
        circuit_Play_j52 x_79 now_11_2
    else
      some (.br now_11_2)
noncomputable def circuit_Play_j17 (c : Circuit) (l : List Trial) (r_ : Rota) (u : List Upset) (stuck_8 : List Int) (passed_9 : List Int) (at_12 : Int) (night_13 : Int) (now_11_1 : Int) (at_12_1 : Int) : Option (Out ((List Int) × (List Int) × Int × Int × Int) (((List Int) × (List Int)))) :=
  (rem night_13 (List.length r_.Nights : Int)).bind fun q20 =>
  (get r_.Nights q20).bind fun x21 =>
  (loopM (circuit_Play_L21 c l x21) (now_11_1, 0)).bind fun now_11_2 =>
  circuit_Play_j23 c u stuck_8 passed_9 at_12 night_13 at_12_1 now_11_2
noncomputable def circuit_Play_L14 (u : List Upset) (night_13 : Int) : (Int × Int) → Option (Out (Int × Int) ((Int × Int)))
  | (now_11_1, at_12_1) =>
    (if decide (at_12_1 < (List.length u : Int)) then (get u at_12_1).bind fun x69 =>
    some (decide (x69.Night = night_13)) else some false).bind fun c70 =>
    (if c70 then (get u at_12_1).bind fun x71 =>
    some (decide (x71.Kind = 1)) else some false).bind fun c72 =>
    if c72 then
      (get u at_12_1).bind fun x80 =>
      (shl .i64 1 x80.Number).bind fun q81 =>
      some (.nx (bor now_11_1 q81, wr (at_12_1 + 1)))
    else
      some (.br (now_11_1, at_12_1))
noncomputable def circuit_Play_L32 (c : Circuit) (l : List Trial) (r_ : Rota) (u : List Upset) : ((List Int) × (List Int) × Int × Int × Int) → Option (Out ((List Int) × (List Int) × Int × Int × Int) (((List Int) × (List Int))))
  | (stuck_8, passed_9, now_11, at_12, night_13) =>
    if decide (at_12 < (List.length u : Int)) then
      (loopM (circuit_Play_L14 u night_13) (now_11, at_12)).bind fun
        | (now_11_1, at_12_1) => circuit_Play_j17 c l r_ u stuck_8 passed_9 at_12 night_13 now_11_1 at_12_1
    else
      some (.br (stuck_8, passed_9))
noncomputable def circuit_Play (c : Circuit) (l : List Trial) (r_ : Rota) (u : List Upset) : Option ((List Int) × (List Int) × Int) :=
  (circuit_checkRota c l r_).bind fun y2 =>
  if decide (¬y2 = 0) then
    some ([], [], y2)
  else
    (circuit_checkUpsets c u).bind fun y6 =>
    if decide (¬y6 = 0) then
      some ([], [], y6)
    else
      (loopM (circuit_Play_L32 c l r_ u) ([], [], 0, 0, 0)).bind fun
        | (stuck_8, passed_9) => circuit_Play_j10 stuck_8 passed_9
def C_circuit_Play (O : Orac) : Prop := ∀ (c : Circuit) (l : List Trial) (r_ : Rota) (u : List Upset) (r : (List Int) × (List Int) × Int) (hm0 : circuit_Play c l r_ u = some r), Fn O "newel/circuit.Play" [.agg [I c.Hazards, .fs 1 (List.map eI c.Switches), .fs 2 (List.map eWire c.Wires)], .fs 2 (List.map eTrial l), .agg [.fs 1 (List.map eL_I r_.Nights), I r_.Gap], .fs 3 (List.map eUpset u)] (.tup [.fs 1 (List.map eI r.1), .fs 1 (List.map eI r.2.1), I r.2.2])

/- newel/newelref03.ValidUpsets -/
noncomputable def r03_ValidUpsets_j4 : Option Bool :=
  some true
noncomputable def r03_ValidUpsets_j9 (i_5 : Int) : Option (Out Int (Unit ⊕ Bool)) :=
  some (.nx (wr (i_5 + 1)))
noncomputable def r03_ValidUpsets_L17 (c : Circuit) (u : List Upset) : Int → Option (Out Int (Unit ⊕ Bool))
  | i_5 =>
    if decide (i_5 < (List.length u : Int)) then
      (get u i_5).bind fun x11 =>
      (if !(r03_within x11.Night 0 1000) then some true else (if decide (0 < i_5) then (get u (wr (i_5 - 1))).bind fun x15 =>
      some (decide (x11.Night < x15.Night)) else some false).bind fun c16 =>
      some c16).bind fun c17 =>
      if c17 then
        some (.br (.inr false))
      else
        if decide (x11.Kind = 1) then
          (if !(r03_within x11.Number 0 (wr ((List.length c.Switches : Int) - 1))) then some true else (if decide (0 < i_5) then (get u (wr (i_5 - 1))).bind fun x28 =>
          some (decide (x28.Night = x11.Night)) else some false).bind fun c29 =>
          (if c29 then (get u (wr (i_5 - 1))).bind fun x30 =>
          some (decide (x30.Kind = 2)) else some false).bind fun c31 =>
          some c31).bind fun c32 =>
          if c32 then
            some (.br (.inr false))
          else
            r03_ValidUpsets_j9 i_5
        else
          if decide (x11.Kind = 2) then
            (if decide (x11.Number = 0) then some true else (r03_Hazards c x11.Number).bind fun y40 =>
            some (!y40)).bind fun c41 =>
            if c41 then
              some (.br (.inr false))
            else
              r03_ValidUpsets_j9 i_5
          else
            some (.br (.inr false))
    else
      some (.br (.inl ()))
noncomputable def r03_ValidUpsets (c : Circuit) (u : List Upset) : Option Bool :=
  if decide (40 < (List.length u : Int)) then
    some false
  else
    (loopM (r03_ValidUpsets_L17 c u) (0)).bind fun
      | (.inl ()) => r03_ValidUpsets_j4
      | (.inr r') => some r'
def C_r03_ValidUpsets (O : Orac) : Prop := ∀ (c : Circuit) (u : List Upset) (r : Bool) (hm0 : r03_ValidUpsets c u = some r), Fn O "newel/newelref03.ValidUpsets" [.agg [I c.Hazards, .fs 1 (List.map eI c.Switches), .fs 2 (List.map eWire c.Wires)], .fs 3 (List.map eUpset u)] (B r)

/- newel/newelref03.Play -/
noncomputable def r03_Play_j14 (stuck_8 : List Int) (passed_9 : List Int) : Option ((List Int) × (List Int) × Int) :=
  some (stuck_8, passed_9, 0)
noncomputable def r03_Play_j19 (night_13 : Int) (stuck_8_1 : List Int) (passed_9_1 : List Int) (set_11_1 : Int) (at_12_1 : Int) : Option (Out ((List Int) × (List Int) × Int × Int × Int) (((List Int) × (List Int)))) :=
  some (.nx (stuck_8_1, passed_9_1, set_11_1, at_12_1, wr (night_13 + 1)))
noncomputable def r03_Play_j31 (stuck_8 : List Int) (night_13 : Int) (x21 : Upset) (set_11_2 : Int) (passed_9_1 : List Int) (at_12_2 : Int) : Option (Out ((List Int) × (List Int) × Int × Int × Int) (((List Int) × (List Int)))) :=
  if decide (x21.Night = night_13) then
    (ap 8 stuck_8 ([set_11_2])).bind fun l34 =>
    r03_Play_j19 night_13 l34 passed_9_1 set_11_2 at_12_2
  else
    r03_Play_j19 night_13 stuck_8 passed_9_1 set_11_2 at_12_2
noncomputable def r03_Play_j48 (at_12_2 : Int) (passed_9_2 : List Int) : Option (Out ((List Int) × Int) (((List Int) × Int))) :=
  some (.nx (passed_9_2, wr (at_12_2 + 1)))
noncomputable def r03_Play_L27 (c : Circuit) (u : List Upset) (night_13 : Int) (set_11_2 : Int) : ((List Int) × Int) → Option (Out ((List Int) × Int) (((List Int) × Int)))
  | (passed_9_1, at_12_2) =>
    (if decide (at_12_2 < (List.length u : Int)) then (get u at_12_2).bind fun x38 =>
    some (decide (x38.Night = night_13)) else some false).bind fun c39 =>
    if c39 then
      (get u at_12_2).bind fun x45 =>
      (r03_conducts 1000 c 0 x45.Number set_11_2 0).bind fun y46 =>
      if y46 then
        (ap 8 passed_9_1 ([at_12_2])).bind fun l51 =>
        r03_Play_j48 at_12_2 l51
      else
        r03_Play_j48 at_12_2 passed_9_1
    else
      some (.br (passed_9_1, at_12_2))
noncomputable def r03_Play_j29 (c : Circuit) (u : List Upset) (stuck_8 : List Int) (passed_9 : List Int) (night_13 : Int) (x21 : Upset) (at_12_1 : Int) (set_11_2 : Int) : Option (Out ((List Int) × (List Int) × Int × Int × Int) (((List Int) × (List Int)))) :=
  (loopM (r03_Play_L27 c u night_13 set_11_2) (passed_9, at_12_1)).bind fun
    | (passed_9_1, at_12_2) => r03_Play_j31 stuck_8 night_13 x21 set_11_2 passed_9_1 at_12_2
noncomputable def r03_Play_j57 (k_16 : Int) (set_11_3 : Int) : Option (Out (Int × Int) Int) :=
  some (.nx (set_11_3, wr (k_16 + 1)))
noncomputable def r03_Play_L22 (c : Circuit) (l : List Trial) (x27 : List Int) : (Int × Int) → Option (Out (Int × Int) Int)
  | (set_11_2, k_16) =>
    if decide (k_16 < (List.length x27 : Int)) then
      (get x27 k_16).bind fun x61 =>
      (get l x61).bind fun x62 =>
      (r03_Tells c x62 set_11_2).bind fun y63 =>
      if y63 then
        r03_Play_j57 k_16 0
      else
        r03_Play_j57 k_16 set_11_2
    else
      some (.br set_11_2)
noncomputable def r03_Play_j23 (c : Circuit) (l : List Trial) (r_ : Rota) (u : List Upset) (stuck_8 : List Int) (passed_9 : List Int) (night_13 : Int) (x21 : Upset) (set_11_1 : Int) (at_12_1 : Int) : Option (Out ((List Int) × (List Int) × Int × Int × Int) (((List Int) × (List Int)))) :=
  (rem night_13 (List.length r_.Nights : Int)).bind fun q26 =>
  (get r_.Nights q26).bind fun x27 =>
  (loopM (r03_Play_L22 c l x27) (set_11_1, 0)).bind fun set_11_2 =>
  r03_Play_j29 c u stuck_8 passed_9 night_13 x21 at_12_1 set_11_2
noncomputable def r03_Play_L15 (u : List Upset) (night_13 : Int) : (Int × Int) → Option (Out (Int × Int) ((Int × Int)))
  | (set_11_1, at_12_1) =>
    (if decide (at_12_1 < (List.length u : Int)) then (get u at_12_1).bind fun x71 =>
    some (decide (x71.Night = night_13)) else some false).bind fun c72 =>
    (if c72 then (get u at_12_1).bind fun x73 =>
    some (decide (x73.Kind = 1)) else some false).bind fun c74 =>
    if c74 then
      (get u at_12_1).bind fun x81 =>
      (shl .i64 1 (IntKind.wrap .u64 x81.Number)).bind fun q82 =>
      some (.nx (bor set_11_1 q82, wr (at_12_1 + 1)))
    else
      some (.br (set_11_1, at_12_1))
noncomputable def r03_Play_L31 (c : Circuit) (l : List Trial) (r_ : Rota) (u : List Upset) : ((List Int) × (List Int) × Int × Int × Int) → Option (Out ((List Int) × (List Int) × Int × Int × Int) (((List Int) × (List Int))))
  | (stuck_8, passed_9, set_11, at_12, night_13) =>
    if decide (at_12 < (List.length u : Int)) then
      (get u at_12).bind fun x21 =>
      (loopM (r03_Play_L15 u night_13) (set_11, at_12)).bind fun
        | (set_11_1, at_12_1) => r03_Play_j23 c l r_ u stuck_8 passed_9 night_13 x21 set_11_1 at_12_1
    else
      some (.br (stuck_8, passed_9))
noncomputable def r03_Play (c : Circuit) (l : List Trial) (r_ : Rota) (u : List Upset) : Option ((List Int) × (List Int) × Int) :=
  (r03_CheckTrials c l).bind fun y2 =>
  if decide (¬y2 = 0) then
    some ([], [], y2)
  else
    (r03_ValidRota r_ (List.length l : Int)).bind fun y6 =>
    if !y6 then
      some ([], [], 32)
    else
      (r03_ValidUpsets c u).bind fun y10 =>
      if !y10 then
        some ([], [], 33)
      else
        (loopM (r03_Play_L31 c l r_ u) ([], [], 0, 0, 0)).bind fun
          | (stuck_8, passed_9) => r03_Play_j14 stuck_8 passed_9
def C_r03_Play (O : Orac) : Prop := ∀ (c : Circuit) (l : List Trial) (r_ : Rota) (u : List Upset) (r : (List Int) × (List Int) × Int) (hm0 : r03_Play c l r_ u = some r), Fn O "newel/newelref03.Play" [.agg [I c.Hazards, .fs 1 (List.map eI c.Switches), .fs 2 (List.map eWire c.Wires)], .fs 2 (List.map eTrial l), .agg [.fs 1 (List.map eL_I r_.Nights), I r_.Gap], .fs 3 (List.map eUpset u)] (.tup [.fs 1 (List.map eI r.1), .fs 1 (List.map eI r.2.1), I r.2.2])

/- newel/newellaw03.CircuitPlays -/
noncomputable def l03_CircuitPlays (c : Circuit) (k : l03_Kept) (u : List Upset) : Option Bool :=
  (l03_Far c).bind fun y4 =>
  (if y4 || (decide (20 < (List.length k.Trials : Int))) then some true else (l03_farRota k.Rota).bind fun y5 =>
  some y5).bind fun c6 =>
  if c6 || (decide (60 < (List.length u : Int))) then
    (l03_works).bind fun y13 =>
    some y13
  else
    (circuit_Play c k.Trials k.Rota u).bind fun y15 =>
    (r03_Play c k.Trials k.Rota u).bind fun y17 =>
    (if decide (y15.2.2 = y17.2.2) then (l03_sameInts y15.1 y17.1).bind fun y24 =>
    some y24 else some false).bind fun c25 =>
    (if c25 then (l03_sameInts y15.2.1 y17.2.1).bind fun y26 =>
    some y26 else some false).bind fun c27 =>
    (if c27 then (l03_works).bind fun y28 =>
    some y28 else some false).bind fun c29 =>
    some c29
def C_l03_CircuitPlays (O : Orac) : Prop := ∀ (c : Circuit) (k : l03_Kept) (u : List Upset) (r : Bool) (hm0 : l03_CircuitPlays c k u = some r), Fn O "newel/newellaw03.CircuitPlays" [.agg [I c.Hazards, .fs 1 (List.map eI c.Switches), .fs 2 (List.map eWire c.Wires)], .agg [.fs 2 (List.map eTrial k.Trials), .fs 1 (List.map eL_I k.Rota.Nights), I k.Rota.Gap], .fs 3 (List.map eUpset u)] (B r)

/- newel/newelref03.Ones -/
noncomputable def r03_Ones_j2 (n_3 : Int) : Option Int :=
  some n_3
noncomputable def r03_Ones_L5 : (Int × Int) → Option (Out (Int × Int) Int)
  | (set_0, n_3) =>
    if decide (0 < set_0) then
      (shr .i64 set_0 1).bind fun q8 =>
      some (.nx (q8, wr (n_3 + (band set_0 1))))
    else
      some (.br n_3)
noncomputable def r03_Ones (set : Int) : Option Int :=
  (loopM (r03_Ones_L5) (set, 0)).bind fun n_3 =>
  r03_Ones_j2 n_3
def C_r03_Ones (O : Orac) : Prop := ∀ (set : Int) (r : Int) (hm0 : r03_Ones set = some r), Fn O "newel/newelref03.Ones" [I set] (I r)

/- newel/newellaw03.CircuitNever -/
noncomputable def l03_CircuitNever_j44 (y30 : (List Int) × Int) (y32 : (List Int) × (List Int) × Int) : Option Bool :=
  (if (decide (0 < (List.length y30.1 : Int))) || (decide ((List.length y32.2.1 : Int) = 0)) then (l03_works).bind fun y47 =>
  some y47 else some false).bind fun c48 =>
  some c48
noncomputable def l03_CircuitNever_L23 (c : Circuit) (y32 : (List Int) × (List Int) × Int) : Int → Option (Out Int (Unit ⊕ Bool))
  | i_18 =>
    if decide (i_18 < (List.length y32.1 : Int)) then
      (get y32.1 i_18).bind fun x59 =>
      (r03_Ones x59).bind fun y60 =>
      (if decide (1 < y60) then some true else (r03_Switches c x59).bind fun y61 =>
      some (!y61)).bind fun c62 =>
      if c62 then
        some (.br (.inr false))
      else
        some (.nx (wr (i_18 + 1)))
    else
      some (.br (.inl ()))
noncomputable def l03_CircuitNever_j38 (c : Circuit) (y30 : (List Int) × Int) (y32 : (List Int) × (List Int) × Int) (is_9 : Bool) : Option Bool :=
  if !is_9 then
    (l03_works).bind fun y42 =>
    some y42
  else
    (loopM (l03_CircuitNever_L23 c y32) (0)).bind fun
      | (.inl ()) => l03_CircuitNever_j44 y30 y32
      | (.inr r') => some r'
noncomputable def l03_CircuitNever_j70 (i_17 : Int) (is_9_1 : Bool) (last_16_1 : Int) : Option (Out (Bool × Int × Int) Bool) :=
  some (.nx (is_9_1, last_16_1, wr (i_17 + 1)))
noncomputable def l03_CircuitNever_L15 (k : l03_Kept) (u : List Upset) : (Bool × Int × Int) → Option (Out (Bool × Int × Int) Bool)
  | (is_9, last_16, i_17) =>
    if decide (i_17 < (List.length u : Int)) then
      (get u i_17).bind fun x72 =>
      if decide (x72.Kind = 1) then
        l03_CircuitNever_j70 i_17 (is_9 && (decide (k.Rota.Gap ≤ (wr (x72.Night - last_16))))) x72.Night
      else
        l03_CircuitNever_j70 i_17 is_9 last_16
    else
      some (.br is_9)
noncomputable def l03_CircuitNever (c : Circuit) (k : l03_Kept) (u : List Upset) : Option Bool :=
  (l03_Far c).bind fun y10 =>
  (if y10 then some true else (l03_farRota k.Rota).bind fun y11 =>
  some y11).bind fun c12 =>
  (if c12 then some true else (r03_CheckTrials c k.Trials).bind fun y13 =>
  some (decide (¬y13 = 0))).bind fun c14 =>
  (if c14 then some true else (r03_ValidRota k.Rota (List.length k.Trials : Int)).bind fun y15 =>
  some (!y15)).bind fun c16 =>
  (if c16 then some true else (r03_ValidUpsets c u).bind fun y17 =>
  some (!y17)).bind fun c18 =>
  if c18 then
    (l03_works).bind fun y26 =>
    some y26
  else
    (circuit_CheckRota c k.Trials k.Rota).bind fun y28 =>
    (circuit_Critical c).bind fun y30 =>
    (circuit_Play c k.Trials k.Rota u).bind fun y32 =>
    if ((decide (¬y28.2.2.2 = 0)) || (decide (¬y30.2 = 0))) || (decide (¬y32.2.2 = 0)) then
      some false
    else
      (loopM (l03_CircuitNever_L15 k u) (y28.2.2.1, (-60), 0)).bind fun is_9 =>
      l03_CircuitNever_j38 c y30 y32 is_9
def C_l03_CircuitNever (O : Orac) : Prop := ∀ (c : Circuit) (k : l03_Kept) (u : List Upset) (r : Bool) (hm0 : l03_CircuitNever c k u = some r), Fn O "newel/newellaw03.CircuitNever" [.agg [I c.Hazards, .fs 1 (List.map eI c.Switches), .fs 2 (List.map eWire c.Wires)], .agg [.fs 2 (List.map eTrial k.Trials), .fs 1 (List.map eL_I k.Rota.Nights), I k.Rota.Gap], .fs 3 (List.map eUpset u)] (B r)

/- newel/newelref03.weak -/
noncomputable def r03_weak_j2 (l_5 : List Int) : Option (List Int) :=
  some l_5
noncomputable def r03_weak_j7 (h_6 : Int) (l_5_1 : List Int) : Option (Out ((List Int) × Int) (((List Int)))) :=
  some (.nx (l_5_1, wr (h_6 + 1)))
noncomputable def r03_weak_L7 (c : Circuit) (closed : Int) : ((List Int) × Int) → Option (Out ((List Int) × Int) (((List Int))))
  | (l_5, h_6) =>
    if decide (h_6 < c.Hazards) then
      (shl .i64 1 (IntKind.wrap .u64 h_6)).bind fun q10 =>
      (r03_conducts 1000 c 0 q10 closed 0).bind fun y11 =>
      if y11 then
        (ap 8 l_5 ([h_6])).bind fun l14 =>
        r03_weak_j7 h_6 l14
      else
        r03_weak_j7 h_6 l_5
    else
      some (.br l_5)
noncomputable def r03_weak (c : Circuit) (closed : Int) : Option (List Int) :=
  (loopM (r03_weak_L7 c closed) ([], 0)).bind fun l_5 =>
  r03_weak_j2 l_5
def C_r03_weak (O : Orac) : Prop := ∀ (c : Circuit) (closed : Int) (r : List Int) (hm0 : r03_weak c closed = some r), Fn O "newel/newelref03.weak" [.agg [I c.Hazards, .fs 1 (List.map eI c.Switches), .fs 2 (List.map eWire c.Wires)], I closed] (.fs 1 (List.map eI r))

/- newel/newelref03.Weak -/
noncomputable def r03_Weak (c : Circuit) (closed : Int) : Option ((List Int) × Int) :=
  (r03_Check c).bind fun y2 =>
  if decide (¬y2 = 0) then
    some ([], 30)
  else
    (r03_Switches c closed).bind fun y6 =>
    if !y6 then
      some ([], 1)
    else
      (r03_weak c closed).bind fun y10 =>
      some (y10, 0)
def C_r03_Weak (O : Orac) : Prop := ∀ (c : Circuit) (closed : Int) (r : (List Int) × Int) (hm0 : r03_Weak c closed = some r), Fn O "newel/newelref03.Weak" [.agg [I c.Hazards, .fs 1 (List.map eI c.Switches), .fs 2 (List.map eWire c.Wires)], I closed] (.tup [.fs 1 (List.map eI r.1), I r.2])

/- newel/newelref03.Critical -/
noncomputable def r03_Critical_j6 (l_4 : List Int) : Option ((List Int) × Int) :=
  some (l_4, 0)
noncomputable def r03_Critical_j11 (i_5 : Int) (l_4_1 : List Int) : Option (Out ((List Int) × Int) (((List Int)))) :=
  some (.nx (l_4_1, wr (i_5 + 1)))
noncomputable def r03_Critical_L9 (c : Circuit) : ((List Int) × Int) → Option (Out ((List Int) × Int) (((List Int))))
  | (l_4, i_5) =>
    if decide (i_5 < (List.length c.Switches : Int)) then
      (shl .i64 1 (IntKind.wrap .u64 i_5)).bind fun q14 =>
      (r03_weak c q14).bind fun y15 =>
      if decide (0 < (List.length y15 : Int)) then
        (ap 8 l_4 ([i_5])).bind fun l18 =>
        r03_Critical_j11 i_5 l18
      else
        r03_Critical_j11 i_5 l_4
    else
      some (.br l_4)
noncomputable def r03_Critical (c : Circuit) : Option ((List Int) × Int) :=
  (r03_Check c).bind fun y2 =>
  if decide (¬y2 = 0) then
    some ([], 30)
  else
    (loopM (r03_Critical_L9 c) ([], 0)).bind fun l_4 =>
    r03_Critical_j6 l_4
def C_r03_Critical (O : Orac) : Prop := ∀ (c : Circuit) (r : (List Int) × Int) (hm0 : r03_Critical c = some r), Fn O "newel/newelref03.Critical" [.agg [I c.Hazards, .fs 1 (List.map eI c.Switches), .fs 2 (List.map eWire c.Wires)]] (.tup [.fs 1 (List.map eI r.1), I r.2])

/- newel/newelref03.Pairs -/
noncomputable def r03_Pairs_j6 (l_4 : List (Int × Int)) : Option ((List (Int × Int)) × Int) :=
  some (l_4, 0)
noncomputable def r03_Pairs_j11 (i_5 : Int) (l_4_1 : List (Int × Int)) : Option (Out ((List (Int × Int)) × Int) (((List (Int × Int))))) :=
  some (.nx (l_4_1, wr (i_5 + 1)))
noncomputable def r03_Pairs_j16 (k_6 : Int) (l_4_2 : List (Int × Int)) : Option (Out ((List (Int × Int)) × Int) (((List (Int × Int))))) :=
  some (.nx (l_4_2, wr (k_6 + 1)))
noncomputable def r03_Pairs_L12 (c : Circuit) (i_5 : Int) : ((List (Int × Int)) × Int) → Option (Out ((List (Int × Int)) × Int) (((List (Int × Int)))))
  | (l_4_1, k_6) =>
    if decide (k_6 < (List.length c.Switches : Int)) then
      (shl .i64 1 (IntKind.wrap .u64 i_5)).bind fun q19 =>
      (shl .i64 1 (IntKind.wrap .u64 k_6)).bind fun q20 =>
      (r03_weak c q19).bind fun y26 =>
      (if decide ((List.length y26 : Int) = 0) then (r03_weak c q20).bind fun y27 =>
      some (decide ((List.length y27 : Int) = 0)) else some false).bind fun c28 =>
      (if c28 then (r03_weak c (bor q19 q20)).bind fun y29 =>
      some (decide (0 < (List.length y29 : Int))) else some false).bind fun c30 =>
      if c30 then
        (ap 16 l_4_1 ([(i_5, k_6)])).bind fun l35 =>
        r03_Pairs_j16 k_6 l35
      else
        r03_Pairs_j16 k_6 l_4_1
    else
      some (.br l_4_1)
noncomputable def r03_Pairs_L14 (c : Circuit) : ((List (Int × Int)) × Int) → Option (Out ((List (Int × Int)) × Int) (((List (Int × Int)))))
  | (l_4, i_5) =>
    if decide (i_5 < (List.length c.Switches : Int)) then
      (loopM (r03_Pairs_L12 c i_5) (l_4, wr (i_5 + 1))).bind fun l_4_1 =>
      r03_Pairs_j11 i_5 l_4_1
    else
      some (.br l_4)
noncomputable def r03_Pairs (c : Circuit) : Option ((List (Int × Int)) × Int) :=
  (r03_Check c).bind fun y2 =>
  if decide (¬y2 = 0) then
    some ([], 30)
  else
    (loopM (r03_Pairs_L14 c) ([], 0)).bind fun l_4 =>
    r03_Pairs_j6 l_4
def C_r03_Pairs (O : Orac) : Prop := ∀ (c : Circuit) (r : (List (Int × Int)) × Int) (hm0 : r03_Pairs c = some r), Fn O "newel/newelref03.Pairs" [.agg [I c.Hazards, .fs 1 (List.map eI c.Switches), .fs 2 (List.map eWire c.Wires)]] (.tup [.fs 2 (List.map eA2_I r.1), I r.2])

/- math/bits.OnesCount64 -/
noncomputable def math_bits_OnesCount64 (x : Int) : Option Int :=
  (shr .u64 x 1).bind fun q2 =>
  (shr .u64 (IntKind.wrap .u64 ((bandK .u64 q2 6148914691236517205) + (bandK .u64 x 6148914691236517205))) 2).bind fun q4 =>
  (shr .u64 (IntKind.wrap .u64 ((bandK .u64 q4 3689348814741910323) + (bandK .u64 (IntKind.wrap .u64 ((bandK .u64 q2 6148914691236517205) + (bandK .u64 x 6148914691236517205))) 3689348814741910323))) 4).bind fun q6 =>
  (shr .u64 (bandK .u64 (IntKind.wrap .u64 (q6 + (IntKind.wrap .u64 ((bandK .u64 q4 3689348814741910323) + (bandK .u64 (IntKind.wrap .u64 ((bandK .u64 q2 6148914691236517205) + (bandK .u64 x 6148914691236517205))) 3689348814741910323))))) 1085102592571150095) 8).bind fun q8 =>
  (shr .u64 (IntKind.wrap .u64 ((bandK .u64 (IntKind.wrap .u64 (q6 + (IntKind.wrap .u64 ((bandK .u64 q4 3689348814741910323) + (bandK .u64 (IntKind.wrap .u64 ((bandK .u64 q2 6148914691236517205) + (bandK .u64 x 6148914691236517205))) 3689348814741910323))))) 1085102592571150095) + q8)) 16).bind fun q10 =>
  (shr .u64 (IntKind.wrap .u64 ((IntKind.wrap .u64 ((bandK .u64 (IntKind.wrap .u64 (q6 + (IntKind.wrap .u64 ((bandK .u64 q4 3689348814741910323) + (bandK .u64 (IntKind.wrap .u64 ((bandK .u64 q2 6148914691236517205) + (bandK .u64 x 6148914691236517205))) 3689348814741910323))))) 1085102592571150095) + q8)) + q10)) 32).bind fun q12 =>
  some (band (IntKind.wrap .i64 (IntKind.wrap .u64 ((IntKind.wrap .u64 ((IntKind.wrap .u64 ((bandK .u64 (IntKind.wrap .u64 (q6 + (IntKind.wrap .u64 ((bandK .u64 q4 3689348814741910323) + (bandK .u64 (IntKind.wrap .u64 ((bandK .u64 q2 6148914691236517205) + (bandK .u64 x 6148914691236517205))) 3689348814741910323))))) 1085102592571150095) + q8)) + q10)) + q12))) 127)
def C_math_bits_OnesCount64 (O : Orac) : Prop := ∀ (x : Int) (r : Int) (hm0 : math_bits_OnesCount64 x = some r), Fn O "math/bits.OnesCount64" [.v (.int .u64 x)] (I r)

/- math/bits.OnesCount -/
noncomputable def math_bits_OnesCount (x : Int) : Option Int :=
  (math_bits_OnesCount64 x).bind fun y3 =>
  some y3
def C_math_bits_OnesCount (O : Orac) : Prop := ∀ (x : Int) (r : Int) (hm0 : math_bits_OnesCount x = some r), Fn O "math/bits.OnesCount" [.v (.int .u64 x)] (I r)

/- newel/circuit.Least -/
noncomputable def circuit_Least_j11 (best_7 : Int) : Option (Int × Int) :=
  if decide (best_7 < 0) then
    some (0, 3)
  else
    some (best_7, 0)
noncomputable def circuit_Least_j18 (x_26 : Int) (best_7_1 : Int) : Option (Out (Int × Int) Int) :=
  some (.nx (best_7_1, wr (x_26 + 1)))
noncomputable def circuit_Least_L14 (c : Circuit) (hazard : Int) (q9 : Int) : (Int × Int) → Option (Out (Int × Int) Int)
  | (best_7, x_26) =>
    if decide (x_26 < q9) then
      (if decide (0 ≤ best_7) then (math_bits_OnesCount (IntKind.wrap .u64 x_26)).bind fun y22 =>
      (math_bits_OnesCount (IntKind.wrap .u64 best_7)).bind fun y23 =>
      some (decide (y23 ≤ y22)) else some false).bind fun c24 =>
      if c24 then
        circuit_Least_j18 x_26 best_7
      else
        (shl .i64 1 hazard).bind fun q30 =>
        (_circuit_state__wire 1000 (circuit_state.mk c q30 x_26 0) 0).bind fun y31 =>
        if y31 then
          circuit_Least_j18 x_26 x_26
        else
          circuit_Least_j18 x_26 best_7
    else
      some (.br best_7)
noncomputable def circuit_Least (c : Circuit) (hazard : Int) : Option (Int × Int) :=
  (circuit_Check c).bind fun y2 =>
  if decide (¬y2 = 0) then
    some (0, y2)
  else
    if (decide (hazard < 0)) || (decide (c.Hazards ≤ hazard)) then
      some (0, 1)
    else
      (shl .i64 1 (List.length c.Switches : Int)).bind fun q9 =>
      (loopM (circuit_Least_L14 c hazard q9) ((-1), 0)).bind fun best_7 =>
      circuit_Least_j11 best_7
def C_circuit_Least (O : Orac) : Prop := ∀ (c : Circuit) (hazard : Int) (r : Int × Int) (hm0 : circuit_Least c hazard = some r), Fn O "newel/circuit.Least" [.agg [I c.Hazards, .fs 1 (List.map eI c.Switches), .fs 2 (List.map eWire c.Wires)], I hazard] (.tup [I r.1, I r.2])

/- newel/newelref03.Least -/
noncomputable def r03_Least_j8 (best_6 : Int) : Option (Int × Int) :=
  if decide (best_6 < 0) then
    some (0, 3)
  else
    some (best_6, 0)
noncomputable def r03_Least_j17 (set_7 : Int) (best_6_1 : Int) : Option (Out (Int × Int) Int) :=
  some (.nx (best_6_1, wr (set_7 + 1)))
noncomputable def r03_Least_L11 (c : Circuit) (hazard : Int) : (Int × Int) → Option (Out (Int × Int) Int)
  | (best_6, set_7) =>
    (shl .i64 1 (IntKind.wrap .u64 (List.length c.Switches : Int))).bind fun q13 =>
    if decide (set_7 < q13) then
      (if decide (best_6 < 0) then some true else (r03_Ones set_7).bind fun y24 =>
      (r03_Ones best_6).bind fun y25 =>
      some (decide (y24 < y25))).bind fun c26 =>
      (if c26 then (shl .i64 1 (IntKind.wrap .u64 hazard)).bind fun q27 =>
      (r03_conducts 1000 c 0 q27 set_7 0).bind fun y28 =>
      some y28 else some false).bind fun c29 =>
      if c29 then
        r03_Least_j17 set_7 set_7
      else
        r03_Least_j17 set_7 best_6
    else
      some (.br best_6)
noncomputable def r03_Least (c : Circuit) (hazard : Int) : Option (Int × Int) :=
  (r03_Check c).bind fun y2 =>
  if decide (¬y2 = 0) then
    some (0, 30)
  else
    if !(r03_within hazard 0 (wr (c.Hazards - 1))) then
      some (0, 1)
    else
      (loopM (r03_Least_L11 c hazard) ((-1), 0)).bind fun best_6 =>
      r03_Least_j8 best_6
def C_r03_Least (O : Orac) : Prop := ∀ (c : Circuit) (hazard : Int) (r : Int × Int) (hm0 : r03_Least c hazard = some r), Fn O "newel/newelref03.Least" [.agg [I c.Hazards, .fs 1 (List.map eI c.Switches), .fs 2 (List.map eWire c.Wires)], I hazard] (.tup [I r.1, I r.2])

/- newel/newellaw03.samePairs -/
noncomputable def l03_samePairs_j4 : Option Bool :=
  some true
noncomputable def l03_samePairs_L8 (a : List (Int × Int)) (b : List (Int × Int)) : Int → Option (Out Int (Unit ⊕ Bool))
  | i_5 =>
    if decide (i_5 < (List.length a : Int)) then
      (get a i_5).bind fun x11 =>
      (get b i_5).bind fun x12 =>
      if !(decide (x11.1 = x12.1) && decide (x11.2 = x12.2)) then
        some (.br (.inr false))
      else
        some (.nx (wr (i_5 + 1)))
    else
      some (.br (.inl ()))
noncomputable def l03_samePairs (a : List (Int × Int)) (b : List (Int × Int)) : Option Bool :=
  if decide (¬(List.length a : Int) = (List.length b : Int)) then
    some false
  else
    (loopM (l03_samePairs_L8 a b) (0)).bind fun
      | (.inl ()) => l03_samePairs_j4
      | (.inr r') => some r'
def C_l03_samePairs (O : Orac) : Prop := ∀ (a : List (Int × Int)) (b : List (Int × Int)) (r : Bool) (hm0 : l03_samePairs a b = some r), Fn O "newel/newellaw03.samePairs" [.fs 2 (List.map eA2_I a), .fs 2 (List.map eA2_I b)] (B r)

/- newel/newellaw03.CircuitDangers -/
noncomputable def l03_CircuitDangers (c : Circuit) (closed : Int) (hazard : Int) : Option Bool :=
  (l03_Far c).bind fun y2 =>
  if y2 then
    (l03_works).bind fun y6 =>
    some y6
  else
    (circuit_Weak c closed).bind fun y8 =>
    (r03_Weak c closed).bind fun y10 =>
    (if decide (¬y8.2 = y10.2) then some true else (l03_sameInts y8.1 y10.1).bind fun y13 =>
    some (!y13)).bind fun c14 =>
    if c14 then
      some false
    else
      (circuit_Critical c).bind fun y19 =>
      (r03_Critical c).bind fun y21 =>
      (if decide (¬y19.2 = y21.2) then some true else (l03_sameInts y19.1 y21.1).bind fun y24 =>
      some (!y24)).bind fun c25 =>
      if c25 then
        some false
      else
        (circuit_Pairs c).bind fun y30 =>
        (r03_Pairs c).bind fun y32 =>
        (circuit_Least c hazard).bind fun y34 =>
        (r03_Least c hazard).bind fun y36 =>
        (if decide (y30.2 = y32.2) then (l03_samePairs y30.1 y32.1).bind fun y41 =>
        some y41 else some false).bind fun c42 =>
        (if (c42 && (decide (y34.1 = y36.1))) && (decide (y34.2 = y36.2)) then (l03_works).bind fun y43 =>
        some y43 else some false).bind fun c44 =>
        some c44
def C_l03_CircuitDangers (O : Orac) : Prop := ∀ (c : Circuit) (closed : Int) (hazard : Int) (r : Bool) (hm0 : l03_CircuitDangers c closed hazard = some r), Fn O "newel/newellaw03.CircuitDangers" [.agg [I c.Hazards, .fs 1 (List.map eI c.Switches), .fs 2 (List.map eWire c.Wires)], I closed, I hazard] (B r)

/- newel/newellaw03.CircuitLeast -/
noncomputable def l03_CircuitLeast (c : Circuit) (hazard : Int) (set : Int) : Option Bool :=
  (l03_Far c).bind fun y4 =>
  (if y4 then some true else (r03_Check c).bind fun y5 =>
  some (decide (¬y5 = 0))).bind fun c6 =>
  if (c6 || (decide (hazard < 0))) || (decide (c.Hazards ≤ hazard)) then
    (l03_works).bind fun y13 =>
    some y13
  else
    (circuit_Least c hazard).bind fun y15 =>
    if decide (y15.2 = 3) then
      (shl .i64 1 (IntKind.wrap .u64 hazard)).bind fun q21 =>
      (shl .i64 1 (IntKind.wrap .u64 (List.length c.Switches : Int))).bind fun q22 =>
      (circuit_Runs c q21 (wr (q22 - 1)) 0).bind fun y23 =>
      (if (decide (y23.2 = 0)) && (!y23.1) then (l03_works).bind fun y26 =>
      some y26 else some false).bind fun c27 =>
      some c27
    else
      (shl .i64 1 (IntKind.wrap .u64 hazard)).bind fun q32 =>
      (circuit_Runs c q32 y15.1 0).bind fun y33 =>
      if ((decide (¬y15.2 = 0)) || (decide (¬y33.2 = 0))) || (!y33.1) then
        some false
      else
        (circuit_Runs c q32 set 0).bind fun y39 =>
        (if (decide (¬y39.2 = 0)) || (!y39.1) then some true else (r03_Ones set).bind fun y45 =>
        (r03_Ones y15.1).bind fun y46 =>
        some (decide (y46 ≤ y45))).bind fun c47 =>
        (if c47 then (l03_works).bind fun y48 =>
        some y48 else some false).bind fun c49 =>
        some c49
def C_l03_CircuitLeast (O : Orac) : Prop := ∀ (c : Circuit) (hazard : Int) (set : Int) (r : Bool) (hm0 : l03_CircuitLeast c hazard set = some r), Fn O "newel/newellaw03.CircuitLeast" [.agg [I c.Hazards, .fs 1 (List.map eI c.Switches), .fs 2 (List.map eWire c.Wires)], I hazard, I set] (B r)

end Go.Nw.CM
