/- Models of functions: printed by gen.py. -/
import Derived.Test.YtmlhjobmpjpmnaaDoorNwOwn
import Derived.Test.YtmlhjobmpjpmnaaDoorNwDoorSrc
set_option linter.all false
set_option linter.unusedVariables false
set_option linter.unusedSimpArgs false
set_option linter.unusedSectionVars false
namespace Go.Nw.DM
open Go.Nw.Door
set_option linter.unusedSimpArgs false
set_option linter.unusedVariables false
variable {O : Orac}

structure Wire where
  Kind : Int
  Of : List Int
  deriving Inhabited, DecidableEq

structure Circuit where
  Hazards : Int
  Switches : List Int
  Wires : List Wire
  deriving Inhabited, DecidableEq

@[go_sem] def eWire (x : Wire) : List AV := [I x.Kind, .fs 1 (List.map eI x.Of)]
theorem fz_eWire (x : Wire) : ∀ c ∈ eWire x, Frz c := (fz_cons (frz_v _) (fz_cons (frz_fs fun a _ => fz_eI a) fz_nil))
theorem ln_eWire (x : Wire) : (eWire x).length = 2 := rfl
@[go_sem] theorem set_eWire {l : List Wire} {n : Nat} {a0 : Int} {a1 : List Int} : (List.map eWire l).set n [I a0, .fs 1 (List.map eI a1)] = List.map eWire (l.set n (Wire.mk a0 a1)) := by rw [List.map_set]; rfl
/- newel/newellaw03.Far -/
noncomputable def l03_Far_j5 : Option Bool :=
  some false
noncomputable def l03_Far_L8 (c : Circuit) : Int → Option (Out Int (Unit ⊕ Bool))
  | i_3 =>
    if decide (i_3 < (List.length c.Wires : Int)) then
      (get c.Wires i_3).bind fun x11 =>
      if decide (40 < (List.length x11.Of : Int)) then
        some (.br (.inr true))
      else
        some (.nx (wr (i_3 + 1)))
    else
      some (.br (.inl ()))
noncomputable def l03_Far (c : Circuit) : Option Bool :=
  if (decide (20 < (List.length c.Switches : Int))) || (decide (40 < (List.length c.Wires : Int))) then
    some true
  else
    (loopM (l03_Far_L8 c) (0)).bind fun
      | (.inl ()) => l03_Far_j5
      | (.inr r') => some r'
def C_l03_Far (O : Orac) : Prop := ∀ (c : Circuit) (r : Bool) (hm0 : l03_Far c = some r), Fn O "newel/newellaw03.Far" [.agg [I c.Hazards, .fs 1 (List.map eI c.Switches), .fs 2 (List.map eWire c.Wires)]] (B r)

structure Trial where
  Hazards : Int
  Wire : Int
  deriving Inhabited, DecidableEq

@[go_sem] def eTrial (x : Trial) : List AV := [I x.Hazards, I x.Wire]
theorem fz_eTrial (x : Trial) : ∀ c ∈ eTrial x, Frz c := (fz_cons (frz_v _) (fz_cons (frz_v _) fz_nil))
theorem ln_eTrial (x : Trial) : (eTrial x).length = 2 := rfl
@[go_sem] theorem set_eTrial {l : List Trial} {n : Nat} {a0 : Int} {a1 : Int} : (List.map eTrial l).set n [I a0, I a1] = List.map eTrial (l.set n (Trial.mk a0 a1)) := by rw [List.map_set]; rfl
/- newel/newellaw03.Example -/
noncomputable def l03_Example : Circuit × (List Trial) :=
  ((Circuit.mk 2 ([1, 1, 2, 2]) ([(Wire.mk 2 ([1, 2, 3, 4])), (Wire.mk 1 ([0])), (Wire.mk 1 ([1])), (Wire.mk 1 ([2])), (Wire.mk 1 ([3]))])), [(Trial.mk 1 1), (Trial.mk 1 2), (Trial.mk 2 3), (Trial.mk 2 4)])
def C_l03_Example (O : Orac) : Prop := ∀ (_ : Unit), Fn O "newel/newellaw03.Example" [] (.tup [.agg [I (((l03_Example).1).Hazards), .fs 1 (List.map eI (((l03_Example).1).Switches)), .fs 2 (List.map eWire (((l03_Example).1).Wires))], .fs 2 (List.map eTrial ((l03_Example).2))])

/- slices.Index[[]bool,bool] -/
noncomputable def slices_Index___bool_bool__j2 : Option Int :=
  some (-1)
noncomputable def slices_Index___bool_bool__L7 (s : List Bool) (v : Bool) : Int → Option (Out Int (Unit ⊕ Int))
  | x_8 =>
    if decide (x_8 < (List.length s : Int)) then
      (get s x_8).bind fun x8 =>
      if beqB v x8 then
        some (.br (.inr x_8))
      else
        some (.nx (wr (x_8 + 1)))
    else
      some (.br (.inl ()))
noncomputable def slices_Index___bool_bool_ (s : List Bool) (v : Bool) : Option Int :=
  (loopM (slices_Index___bool_bool__L7 s v) (0)).bind fun
    | (.inl ()) => slices_Index___bool_bool__j2
    | (.inr r') => some r'
def C_slices_Index___bool_bool_ (O : Orac) : Prop := ∀ (s : List Bool) (v : Bool) (r : Int) (hm0 : slices_Index___bool_bool_ s v = some r), Fn O "slices.Index[[]bool,bool]" [.fs 1 (List.map eB s), B v] (I r)

/- slices.Contains[[]bool,bool] -/
noncomputable def slices_Contains___bool_bool_ (s : List Bool) (v : Bool) : Option Bool :=
  (slices_Index___bool_bool_ s v).bind fun y2 =>
  some (decide (0 ≤ y2))
def C_slices_Contains___bool_bool_ (O : Orac) : Prop := ∀ (s : List Bool) (v : Bool) (r : Bool) (hm0 : slices_Contains___bool_bool_ s v = some r), Fn O "slices.Contains[[]bool,bool]" [.fs 1 (List.map eB s), B v] (B r)

/- newel/circuit.isSet -/
noncomputable def circuit_isSet (n : Int) (many : Int) : Option Bool :=
  (if decide (0 ≤ n) then (shl .i64 1 many).bind fun q3 =>
  some (decide (n < q3)) else some false).bind fun c4 =>
  some c4
def C_circuit_isSet (O : Orac) : Prop := ∀ (n : Int) (many : Int) (r : Bool) (hm0 : circuit_isSet n many = some r), Fn O "newel/circuit.isSet" [I n, I many] (B r)

/- newel/circuit.Check$1 -/
noncomputable def circuit_CheckD1 (n : Int) (c0 : Circuit) : Option Bool :=
  (circuit_isSet n c0.Hazards).bind fun y2 =>
  some (!y2)
def C_circuit_CheckD1 (O : Orac) : Prop := ∀ (n : Int) (c0 : Circuit) (r : Bool) (hm0 : circuit_CheckD1 n c0 = some r), Fn O "newel/circuit.Check$1" [I n, .fp [I c0.Hazards, .fs 1 (List.map eI c0.Switches), .fs 2 (List.map eWire c0.Wires)] 0] (B r)

/- slices.IndexFunc[[]int,int] -/
noncomputable def slices_IndexFunc___int_int__j2 : Option Int :=
  some (-1)
noncomputable def slices_IndexFunc___int_int__L7 (s : List Int) (f : Int → Option Bool) : Int → Option (Out Int (Unit ⊕ Int))
  | x_8 =>
    if decide (x_8 < (List.length s : Int)) then
      (get s x_8).bind fun x9 =>
      (f x9).bind fun y10 =>
      if y10 then
        some (.br (.inr x_8))
      else
        some (.nx (wr (x_8 + 1)))
    else
      some (.br (.inl ()))
noncomputable def slices_IndexFunc___int_int_ (s : List Int) (f : Int → Option Bool) : Option Int :=
  (loopM (slices_IndexFunc___int_int__L7 s f) (0)).bind fun
    | (.inl ()) => slices_IndexFunc___int_int__j2
    | (.inr r') => some r'
def C_slices_IndexFunc___int_int_ (O : Orac) : Prop := ∀ (s : List Int) (f_n : String) (f_a f_b : List AV) (f : Int → Option Bool) (f_z : Frz (.fn f_n f_a f_b)) (f_h : ∀ z0 y, f z0 = some y → Fn O f_n (f_a ++ [I z0] ++ f_b) (B y)) (r : Int) (hm0 : slices_IndexFunc___int_int_ s f = some r), Fn O "slices.IndexFunc[[]int,int]" [.fs 1 (List.map eI s), .fn f_n f_a f_b] (I r)

/- slices.ContainsFunc[[]int,int] -/
noncomputable def slices_ContainsFunc___int_int_ (s : List Int) (f : Int → Option Bool) : Option Bool :=
  (slices_IndexFunc___int_int_ s f).bind fun y2 =>
  some (decide (0 ≤ y2))
def C_slices_ContainsFunc___int_int_ (O : Orac) : Prop := ∀ (s : List Int) (f_n : String) (f_a f_b : List AV) (f : Int → Option Bool) (f_z : Frz (.fn f_n f_a f_b)) (f_h : ∀ z0 y, f z0 = some y → Fn O f_n (f_a ++ [I z0] ++ f_b) (B y)) (r : Bool) (hm0 : slices_ContainsFunc___int_int_ s f = some r), Fn O "slices.ContainsFunc[[]int,int]" [.fs 1 (List.map eI s), .fn f_n f_a f_b] (B r)

/- newel/circuit.ascending -/
noncomputable def circuit_ascending_j2 : Option Bool :=
  some true
noncomputable def circuit_ascending_L8 (l : List Int) (high : Int) : (Int × Int) → Option (Out (Int × Int) (Unit ⊕ Bool))
  | (low_1, x_11) =>
    if decide (x_11 < (List.length l : Int)) then
      (get l x_11).bind fun x8 =>
      if (decide (x8 < low_1)) || (decide (high ≤ x8)) then
        some (.br (.inr false))
      else
        some (.nx (wr (x8 + 1), wr (x_11 + 1)))
    else
      some (.br (.inl ()))
noncomputable def circuit_ascending (l : List Int) (low : Int) (high : Int) : Option Bool :=
  (loopM (circuit_ascending_L8 l high) (low, 0)).bind fun
    | (.inl ()) => circuit_ascending_j2
    | (.inr r') => some r'
def C_circuit_ascending (O : Orac) : Prop := ∀ (l : List Int) (low : Int) (high : Int) (r : Bool) (hm0 : circuit_ascending l low high = some r), Fn O "newel/circuit.ascending" [.fs 1 (List.map eI l), I low, I high] (B r)

/- newel/circuit.Check$2 -/
noncomputable def circuit_CheckD2 (n : Int) : Bool :=
  decide (¬n = 1)
def C_circuit_CheckD2 (O : Orac) : Prop := ∀ (n : Int), Fn O "newel/circuit.Check$2" [I n] (B (circuit_CheckD2 n))

/- newel/circuit.Check -/
noncomputable def circuit_Check_j22 (held_4 : List Int) : Option Int :=
  (get held_4 0).bind fun x28 =>
  (if decide (¬x28 = 0) then some true else (sub held_4 1 (List.length held_4 : Int)).bind fun l29 =>
  (slices_ContainsFunc___int_int_ l29 (fun z30 => some (circuit_CheckD2 z30))).bind fun y31 =>
  some y31).bind fun c32 =>
  if c32 then
    some 30
  else
    some 0
noncomputable def circuit_Check_j40 (x_53 : Int) (held_4_1 : List Int) : Option (Out ((List Int) × Int) (((List Int)) ⊕ Int)) :=
  some (.nx (held_4_1, wr (x_53 + 1)))
noncomputable def circuit_Check_L21 (x42 : Wire) : ((List Int) × Int) → Option (Out ((List Int) × Int) (((List Int))))
  | (held_4_1, x_102) =>
    if decide (x_102 < (List.length x42.Of : Int)) then
      (get x42.Of x_102).bind fun x66 =>
      (get held_4_1 x66).bind fun x68 =>
      some (.nx ((List.set held_4_1 (Int.toNat x66) (wr (x68 + 1))), wr (x_102 + 1)))
    else
      some (.br held_4_1)
noncomputable def circuit_Check_j51 (c : Circuit) (held_4 : List Int) (x_53 : Int) (x42 : Wire) (x_75 : Bool) : Option (Out ((List Int) × Int) (((List Int)) ⊕ Int)) :=
  if x_75 then
    (if (decide ((List.length x42.Of : Int) < 1)) || (decide (8 < (List.length x42.Of : Int))) then some true else (circuit_ascending x42.Of (wr (x_53 + 1)) (List.length c.Wires : Int)).bind fun y55 =>
    some (!y55)).bind fun c56 =>
    if c56 then
      some (.br (.inr 30))
    else
      (loopM (circuit_Check_L21 x42) (held_4, 0)).bind fun held_4_1 =>
      circuit_Check_j40 x_53 held_4_1
  else
    some (.br (.inr 30))
noncomputable def circuit_Check_L24 (c : Circuit) : ((List Int) × Int) → Option (Out ((List Int) × Int) (((List Int)) ⊕ Int))
  | (held_4, x_53) =>
    if decide (x_53 < (List.length c.Wires : Int)) then
      (get c.Wires x_53).bind fun x42 =>
      if decide (x42.Kind = 1) then
        (if decide (¬(List.length x42.Of : Int) = 1) then some true else (circuit_ascending x42.Of 0 (List.length c.Switches : Int)).bind fun y46 =>
        some (!y46)).bind fun c47 =>
        if c47 then
          some (.br (.inr 30))
        else
          circuit_Check_j40 x_53 held_4
      else
        if decide (x42.Kind = 2) then
          circuit_Check_j51 c held_4 x_53 x42 (decide (x42.Kind = 2))
        else
          circuit_Check_j51 c held_4 x_53 x42 (decide (x42.Kind = 3))
    else
      some (.br (.inl held_4))
noncomputable def circuit_Check (c : Circuit) : Option Int :=
  (slices_Contains___bool_bool_ ([(decide (1 ≤ c.Hazards)) && (decide (c.Hazards ≤ 8)), (decide (1 ≤ (List.length c.Switches : Int))) && (decide ((List.length c.Switches : Int) ≤ 12)), (decide (1 ≤ (List.length c.Wires : Int))) && (decide ((List.length c.Wires : Int) ≤ 24))]) false).bind fun y12 =>
  (if y12 then some true else (slices_ContainsFunc___int_int_ c.Switches (fun z13 => circuit_CheckD1 z13 c)).bind fun y14 =>
  some y14).bind fun c15 =>
  if c15 then
    some 30
  else
    (mks 8 (List.length c.Wires : Int) 0).bind fun l20 =>
    (loopM (circuit_Check_L24 c) (l20, 0)).bind fun
      | (.inl held_4) => circuit_Check_j22 held_4
      | (.inr r') => some r'
def C_circuit_Check (O : Orac) : Prop := ∀ (c : Circuit) (r : Int) (hm0 : circuit_Check c = some r), Fn O "newel/circuit.Check" [.agg [I c.Hazards, .fs 1 (List.map eI c.Switches), .fs 2 (List.map eWire c.Wires)]] (I r)

structure circuit_state where
  c : Circuit
  hazards : Int
  closed : Int
  open_ : Int
  deriving Inhabited, DecidableEq

/- (newel/circuit.state).conducts -/
noncomputable def _circuit_state__conducts (s : circuit_state) (sw : Int) : Option Bool :=
  (shr .i64 s.open_ sw).bind fun q6 =>
  (if decide ((band q6 1) = 0) then (shr .i64 s.closed sw).bind fun q7 =>
  (if decide ((band q7 1) = 1) then some true else (get s.c.Switches sw).bind fun x8 =>
  some (decide ((band x8 s.hazards) = 0))).bind fun c9 =>
  some c9 else some false).bind fun c10 =>
  some c10
def C__circuit_state__conducts (O : Orac) : Prop := ∀ (s : circuit_state) (sw : Int) (r : Bool) (hm0 : _circuit_state__conducts s sw = some r), Fn O "(newel/circuit.state).conducts" [.agg [I s.c.Hazards, .fs 1 (List.map eI s.c.Switches), .fs 2 (List.map eWire s.c.Wires), I s.hazards, I s.closed, I s.open_], I sw] (B r)

/- (newel/circuit.state).wire$1 -/
noncomputable def _circuit_state__wireD1 (self__circuit_state__wire : circuit_state → Int → Option Bool) (k : Int) (c0 : circuit_state) : Option Bool :=
  (self__circuit_state__wire c0 k).bind fun y2 =>
  some (!y2)
def C__circuit_state__wireD1 (O : Orac) : Prop := ∀ (self__circuit_state__wire : circuit_state → Int → Option Bool) (self__circuit_state__wire_h : ∀ z0 z1 y, self__circuit_state__wire z0 z1 = some y → Fn O "(newel/circuit.state).wire" [.agg [I z0.c.Hazards, .fs 1 (List.map eI z0.c.Switches), .fs 2 (List.map eWire z0.c.Wires), I z0.hazards, I z0.closed, I z0.open_], I z1] (B y)) (k : Int) (c0 : circuit_state) (r : Bool) (hm0 : _circuit_state__wireD1 self__circuit_state__wire k c0 = some r), Fn O "(newel/circuit.state).wire$1" [I k, .fp [I c0.c.Hazards, .fs 1 (List.map eI c0.c.Switches), .fs 2 (List.map eWire c0.c.Wires), I c0.hazards, I c0.closed, I c0.open_] 0] (B r)

/- (newel/circuit.state).wire -/
noncomputable def _circuit_state__wire_body (self__circuit_state__wire : circuit_state → Int → Option Bool) (s : circuit_state) (i : Int) : Option Bool :=
  (get s.c.Wires i).bind fun x2 =>
  if decide (x2.Kind = 1) then
    (get x2.Of 0).bind fun x7 =>
    (_circuit_state__conducts s x7).bind fun y8 =>
    some y8
  else
    if decide (x2.Kind = 3) then
      (slices_ContainsFunc___int_int_ x2.Of (fun z12 => self__circuit_state__wire s z12)).bind fun y13 =>
      some y13
    else
      (slices_ContainsFunc___int_int_ x2.Of (fun z16 => _circuit_state__wireD1 self__circuit_state__wire z16 s)).bind fun y17 =>
      some (!y17)
def C__circuit_state__wire_body (O : Orac) : Prop := ∀ (self__circuit_state__wire : circuit_state → Int → Option Bool) (self__circuit_state__wire_h : ∀ z0 z1 y, self__circuit_state__wire z0 z1 = some y → Fn O "(newel/circuit.state).wire" [.agg [I z0.c.Hazards, .fs 1 (List.map eI z0.c.Switches), .fs 2 (List.map eWire z0.c.Wires), I z0.hazards, I z0.closed, I z0.open_], I z1] (B y)) (s : circuit_state) (i : Int) (r : Bool) (hm0 : _circuit_state__wire_body self__circuit_state__wire s i = some r), Fn O "(newel/circuit.state).wire" [.agg [I s.c.Hazards, .fs 1 (List.map eI s.c.Switches), .fs 2 (List.map eWire s.c.Wires), I s.hazards, I s.closed, I s.open_], I i] (B r)
noncomputable def _circuit_state__wire : Nat → circuit_state → Int → Option Bool
  | 0 => fun _ _ => none
  | n + 1 => fun s i => _circuit_state__wire_body (_circuit_state__wire n) s i
def C__circuit_state__wire (O : Orac) : Prop := ∀ (n : Nat) (s : circuit_state) (i : Int) (r : Bool) (hm0 : _circuit_state__wire n s i = some r), Fn O "(newel/circuit.state).wire" [.agg [I s.c.Hazards, .fs 1 (List.map eI s.c.Switches), .fs 2 (List.map eWire s.c.Wires), I s.hazards, I s.closed, I s.open_], I i] (B r)

/- newel/circuit.weak -/
noncomputable def circuit_weak_j2 (out_4 : List Int) : Option (List Int) :=
  some out_4
noncomputable def circuit_weak_j7 (x_8 : Int) (out_4_1 : List Int) : Option (Out ((List Int) × Int) (((List Int)))) :=
  some (.nx (out_4_1, wr (x_8 + 1)))
noncomputable def circuit_weak_L7 (c : Circuit) (closed : Int) : ((List Int) × Int) → Option (Out ((List Int) × Int) (((List Int))))
  | (out_4, x_8) =>
    if decide (x_8 < c.Hazards) then
      (shl .i64 1 x_8).bind fun q10 =>
      (_circuit_state__wire 1000 (circuit_state.mk c q10 closed 0) 0).bind fun y11 =>
      if y11 then
        (ap 8 out_4 ([x_8])).bind fun l14 =>
        circuit_weak_j7 x_8 l14
      else
        circuit_weak_j7 x_8 out_4
    else
      some (.br out_4)
noncomputable def circuit_weak (c : Circuit) (closed : Int) : Option (List Int) :=
  (loopM (circuit_weak_L7 c closed) ([], 0)).bind fun out_4 =>
  circuit_weak_j2 out_4
def C_circuit_weak (O : Orac) : Prop := ∀ (c : Circuit) (closed : Int) (r : List Int) (hm0 : circuit_weak c closed = some r), Fn O "newel/circuit.weak" [.agg [I c.Hazards, .fs 1 (List.map eI c.Switches), .fs 2 (List.map eWire c.Wires)], I closed] (.fs 1 (List.map eI r))

/- newel/circuit.Critical -/
noncomputable def circuit_Critical_j6 (out_5 : List Int) : Option ((List Int) × Int) :=
  some (out_5, 0)
noncomputable def circuit_Critical_j11 (x_15 : Int) (out_5_1 : List Int) : Option (Out ((List Int) × Int) (((List Int)))) :=
  some (.nx (out_5_1, wr (x_15 + 1)))
noncomputable def circuit_Critical_L11 (c : Circuit) : ((List Int) × Int) → Option (Out ((List Int) × Int) (((List Int))))
  | (out_5, x_15) =>
    if decide (x_15 < (List.length c.Switches : Int)) then
      (shl .i64 1 x_15).bind fun q14 =>
      (circuit_weak c q14).bind fun y15 =>
      if decide (0 < (List.length y15 : Int)) then
        (ap 8 out_5 ([x_15])).bind fun l18 =>
        circuit_Critical_j11 x_15 l18
      else
        circuit_Critical_j11 x_15 out_5
    else
      some (.br out_5)
noncomputable def circuit_Critical (c : Circuit) : Option ((List Int) × Int) :=
  (circuit_Check c).bind fun y2 =>
  if decide (¬y2 = 0) then
    some ([], y2)
  else
    (loopM (circuit_Critical_L11 c) ([], 0)).bind fun out_5 =>
    circuit_Critical_j6 out_5
def C_circuit_Critical (O : Orac) : Prop := ∀ (c : Circuit) (r : (List Int) × Int) (hm0 : circuit_Critical c = some r), Fn O "newel/circuit.Critical" [.agg [I c.Hazards, .fs 1 (List.map eI c.Switches), .fs 2 (List.map eWire c.Wires)]] (.tup [.fs 1 (List.map eI r.1), I r.2])

/- slices.Index[[]int,int] -/
noncomputable def slices_Index___int_int__j2 : Option Int :=
  some (-1)
noncomputable def slices_Index___int_int__L7 (s : List Int) (v : Int) : Int → Option (Out Int (Unit ⊕ Int))
  | x_8 =>
    if decide (x_8 < (List.length s : Int)) then
      (get s x_8).bind fun x8 =>
      if decide (v = x8) then
        some (.br (.inr x_8))
      else
        some (.nx (wr (x_8 + 1)))
    else
      some (.br (.inl ()))
noncomputable def slices_Index___int_int_ (s : List Int) (v : Int) : Option Int :=
  (loopM (slices_Index___int_int__L7 s v) (0)).bind fun
    | (.inl ()) => slices_Index___int_int__j2
    | (.inr r') => some r'
def C_slices_Index___int_int_ (O : Orac) : Prop := ∀ (s : List Int) (v : Int) (r : Int) (hm0 : slices_Index___int_int_ s v = some r), Fn O "slices.Index[[]int,int]" [.fs 1 (List.map eI s), I v] (I r)

/- slices.Contains[[]int,int] -/
noncomputable def slices_Contains___int_int_ (s : List Int) (v : Int) : Option Bool :=
  (slices_Index___int_int_ s v).bind fun y2 =>
  some (decide (0 ≤ y2))
def C_slices_Contains___int_int_ (O : Orac) : Prop := ∀ (s : List Int) (v : Int) (r : Bool) (hm0 : slices_Contains___int_int_ s v = some r), Fn O "slices.Contains[[]int,int]" [.fs 1 (List.map eI s), I v] (B r)

@[go_sem] def eA2_I (x : Int × Int) : List AV := [I x.1, I x.2]
theorem fz_eA2_I (x : Int × Int) : ∀ c ∈ eA2_I x, Frz c := (fz_cons (frz_v _) (fz_cons (frz_v _) fz_nil))
theorem ln_eA2_I (x : Int × Int) : (eA2_I x).length = 2 := rfl
@[go_sem] theorem set_eA2_I {l : List (Int × Int)} {n : Nat} {a0 : Int} {a1 : Int} : (List.map eA2_I l).set n [I a0, I a1] = List.map eA2_I (l.set n (a0, a1)) := by rw [List.map_set]; rfl
/- newel/circuit.Pairs -/
noncomputable def circuit_Pairs_j6 (out_6 : List (Int × Int)) : Option ((List (Int × Int)) × Int) :=
  some (out_6, 0)
noncomputable def circuit_Pairs_j11 (x_20 : Int) (out_6_1 : List (Int × Int)) : Option (Out ((List (Int × Int)) × Int) (((List (Int × Int))))) :=
  some (.nx (out_6_1, wr (x_20 + 1)))
noncomputable def circuit_Pairs_j16 (b_8 : Int) (out_6_2 : List (Int × Int)) : Option (Out ((List (Int × Int)) × Int) (((List (Int × Int))))) :=
  some (.nx (out_6_2, wr (b_8 + 1)))
noncomputable def circuit_Pairs_L13 (c : Circuit) (y2 : (List Int) × Int) (x_20 : Int) : ((List (Int × Int)) × Int) → Option (Out ((List (Int × Int)) × Int) (((List (Int × Int)))))
  | (out_6_1, b_8) =>
    if decide (b_8 < (List.length c.Switches : Int)) then
      (slices_Contains___int_int_ y2.1 x_20).bind fun y24 =>
      (if !y24 then (slices_Contains___int_int_ y2.1 b_8).bind fun y25 =>
      some (!y25) else some false).bind fun c26 =>
      (if c26 then (shl .i64 1 x_20).bind fun q27 =>
      (shl .i64 1 b_8).bind fun q28 =>
      (circuit_weak c (bor q27 q28)).bind fun y29 =>
      some (decide (0 < (List.length y29 : Int))) else some false).bind fun c30 =>
      if c30 then
        (ap 16 out_6_1 ([(x_20, b_8)])).bind fun l35 =>
        circuit_Pairs_j16 b_8 l35
      else
        circuit_Pairs_j16 b_8 out_6_1
    else
      some (.br out_6_1)
noncomputable def circuit_Pairs_L15 (c : Circuit) (y2 : (List Int) × Int) : ((List (Int × Int)) × Int) → Option (Out ((List (Int × Int)) × Int) (((List (Int × Int)))))
  | (out_6, x_20) =>
    if decide (x_20 < (List.length c.Switches : Int)) then
      (loopM (circuit_Pairs_L13 c y2 x_20) (out_6, wr (x_20 + 1))).bind fun out_6_1 =>
      circuit_Pairs_j11 x_20 out_6_1
    else
      some (.br out_6)
noncomputable def circuit_Pairs (c : Circuit) : Option ((List (Int × Int)) × Int) :=
  (circuit_Critical c).bind fun y2 =>
  if decide (¬y2.2 = 0) then
    some ([], y2.2)
  else
    (loopM (circuit_Pairs_L15 c y2) ([], 0)).bind fun out_6 =>
    circuit_Pairs_j6 out_6
def C_circuit_Pairs (O : Orac) : Prop := ∀ (c : Circuit) (r : (List (Int × Int)) × Int) (hm0 : circuit_Pairs c = some r), Fn O "newel/circuit.Pairs" [.agg [I c.Hazards, .fs 1 (List.map eI c.Switches), .fs 2 (List.map eWire c.Wires)]] (.tup [.fs 2 (List.map eA2_I r.1), I r.2])

/- newel/circuit.check -/
noncomputable def circuit_check_j8 : Option Int :=
  some 0
noncomputable def circuit_check_L12 (c : Circuit) (l : List Trial) : Int → Option (Out Int (Unit ⊕ Int))
  | x_18 =>
    if decide (x_18 < (List.length l : Int)) then
      (get l x_18).bind fun x14 =>
      (circuit_isSet x14.Hazards c.Hazards).bind fun y16 =>
      if ((!y16) || (decide (x14.Wire < 0))) || (decide ((List.length c.Wires : Int) ≤ x14.Wire)) then
        some (.br (.inr 31))
      else
        some (.nx (wr (x_18 + 1)))
    else
      some (.br (.inl ()))
noncomputable def circuit_check (c : Circuit) (l : List Trial) : Option Int :=
  (circuit_Check c).bind fun y2 =>
  if decide (¬y2 = 0) then
    some y2
  else
    if decide (12 < (List.length l : Int)) then
      some 2
    else
      (loopM (circuit_check_L12 c l) (0)).bind fun
        | (.inl ()) => circuit_check_j8
        | (.inr r') => some r'
def C_circuit_check (O : Orac) : Prop := ∀ (c : Circuit) (l : List Trial) (r : Int) (hm0 : circuit_check c l = some r), Fn O "newel/circuit.check" [.agg [I c.Hazards, .fs 1 (List.map eI c.Switches), .fs 2 (List.map eWire c.Wires)], .fs 2 (List.map eTrial l)] (I r)

structure Rota where
  Nights : List (List Int)
  Gap : Int
  deriving Inhabited, DecidableEq

@[go_sem] def eL_I (x : List Int) : List AV := [.fs 1 (List.map eI x)]
theorem fz_eL_I (x : List Int) : ∀ c ∈ eL_I x, Frz c := (fz_cons (frz_fs fun a _ => fz_eI a) fz_nil)
theorem ln_eL_I (x : List Int) : (eL_I x).length = 1 := rfl
@[go_sem] theorem set_eL_I {l : List (List Int)} {n : Nat} {a0 : List Int} : (List.map eL_I l).set n [.fs 1 (List.map eI a0)] = List.map eL_I (l.set n a0) := by rw [List.map_set]; rfl
/- newel/circuit.checkRota -/
noncomputable def circuit_checkRota_j11 : Option Int :=
  some 0
noncomputable def circuit_checkRota_L12 (l : List Trial) (r_ : Rota) : Int → Option (Out Int (Unit ⊕ Int))
  | x_39 =>
    if decide (x_39 < (List.length r_.Nights : Int)) then
      (get r_.Nights x_39).bind fun x17 =>
      (circuit_ascending x17 0 (List.length l : Int)).bind fun y19 =>
      if !y19 then
        some (.br (.inr 32))
      else
        some (.nx (wr (x_39 + 1)))
    else
      some (.br (.inl ()))
noncomputable def circuit_checkRota (c : Circuit) (l : List Trial) (r_ : Rota) : Option Int :=
  (circuit_check c l).bind fun y2 =>
  if decide (¬y2 = 0) then
    some y2
  else
    if (((decide ((List.length r_.Nights : Int) < 1)) || (decide (60 < (List.length r_.Nights : Int)))) || (decide (r_.Gap < 1))) || (decide (60 < r_.Gap)) then
      some 32
    else
      (loopM (circuit_checkRota_L12 l r_) (0)).bind fun
        | (.inl ()) => circuit_checkRota_j11
        | (.inr r') => some r'
def C_circuit_checkRota (O : Orac) : Prop := ∀ (c : Circuit) (l : List Trial) (r_ : Rota) (r : Int) (hm0 : circuit_checkRota c l r_ = some r), Fn O "newel/circuit.checkRota" [.agg [I c.Hazards, .fs 1 (List.map eI c.Switches), .fs 2 (List.map eWire c.Wires)], .fs 2 (List.map eTrial l), .agg [.fs 1 (List.map eL_I r_.Nights), I r_.Gap]] (I r)

/- newel/circuit.shows -/
noncomputable def circuit_shows (c : Circuit) (t_ : Trial) (closed : Int) : Option Bool :=
  (_circuit_state__wire 1000 (circuit_state.mk c t_.Hazards closed 0) t_.Wire).bind fun y4 =>
  (if y4 then (_circuit_state__wire 1000 (circuit_state.mk c t_.Hazards 0 0) t_.Wire).bind fun y5 =>
  some (!y5) else some false).bind fun c6 =>
  some c6
def C_circuit_shows (O : Orac) : Prop := ∀ (c : Circuit) (t_ : Trial) (closed : Int) (r : Bool) (hm0 : circuit_shows c t_ closed = some r), Fn O "newel/circuit.shows" [.agg [I c.Hazards, .fs 1 (List.map eI c.Switches), .fs 2 (List.map eWire c.Wires)], .agg [I t_.Hazards, I t_.Wire], I closed] (B r)

/- newel/circuit.shown -/
noncomputable def circuit_shown_j2 (set_4 : Int) : Option Int :=
  some set_4
noncomputable def circuit_shown_j7 (x_9 : Int) (set_4_1 : Int) : Option (Out (Int × Int) Int) :=
  some (.nx (set_4_1, wr (x_9 + 1)))
noncomputable def circuit_shown_L7 (c : Circuit) (t_ : Trial) : (Int × Int) → Option (Out (Int × Int) Int)
  | (set_4, x_9) =>
    if decide (x_9 < (List.length c.Switches : Int)) then
      (shl .i64 1 x_9).bind fun q10 =>
      (circuit_shows c t_ q10).bind fun y11 =>
      if y11 then
        circuit_shown_j7 x_9 (bor set_4 q10)
      else
        circuit_shown_j7 x_9 set_4
    else
      some (.br set_4)
noncomputable def circuit_shown (c : Circuit) (t_ : Trial) : Option Int :=
  (loopM (circuit_shown_L7 c t_) (0, 0)).bind fun set_4 =>
  circuit_shown_j2 set_4
def C_circuit_shown (O : Orac) : Prop := ∀ (c : Circuit) (t_ : Trial) (r : Int) (hm0 : circuit_shown c t_ = some r), Fn O "newel/circuit.shown" [.agg [I c.Hazards, .fs 1 (List.map eI c.Switches), .fs 2 (List.map eWire c.Wires)], .agg [I t_.Hazards, I t_.Wire]] (I r)

/- newel/circuit.all -/
noncomputable def circuit_all_j2 (each_4 : List Int) (whole_5 : Int) : Option ((List Int) × Int) :=
  some (each_4, whole_5)
noncomputable def circuit_all_L8 (c : Circuit) (l : List Trial) : ((List Int) × Int × Int) → Option (Out ((List Int) × Int × Int) (((List Int) × Int)))
  | (each_4, whole_5, x_11) =>
    if decide (x_11 < (List.length l : Int)) then
      (get l x_11).bind fun x8 =>
      (circuit_shown c x8).bind fun y10 =>
      (ap 8 each_4 ([y10])).bind fun l12 =>
      some (.nx (l12, bor whole_5 y10, wr (x_11 + 1)))
    else
      some (.br (each_4, whole_5))
noncomputable def circuit_all (c : Circuit) (l : List Trial) : Option ((List Int) × Int) :=
  (loopM (circuit_all_L8 c l) ([], 0, 0)).bind fun
    | (each_4, whole_5) => circuit_all_j2 each_4 whole_5
def C_circuit_all (O : Orac) : Prop := ∀ (c : Circuit) (l : List Trial) (r : (List Int) × Int) (hm0 : circuit_all c l = some r), Fn O "newel/circuit.all" [.agg [I c.Hazards, .fs 1 (List.map eI c.Switches), .fs 2 (List.map eWire c.Wires)], .fs 2 (List.map eTrial l)] (.tup [.fs 1 (List.map eI r.1), I r.2])

/- newel/circuit.gap -/
noncomputable def circuit_gap_j2 : Option (Int × Int × Bool) :=
  some (0, 0, true)
noncomputable def circuit_gap_j7 (x_12 : Int) : Option (Out Int (Unit ⊕ ((Int × Int × Bool)))) :=
  some (.nx (wr (x_12 + 1)))
noncomputable def circuit_gap_j12 (sw_6 : Int) (x_17 : Int) : Option (Out (Int × Int) (Unit ⊕ ((Int × Int × Bool)))) :=
  some (.nx (sw_6, wr (x_17 + 1)))
noncomputable def circuit_gap_j14 (sw_6 : Int) (x_17 : Int) (made_9 : Bool) : Option (Out (Int × Int) (Unit ⊕ ((Int × Int × Bool)))) :=
  if !made_9 then
    some (.br (.inr (sw_6, x_17, false)))
  else
    circuit_gap_j12 sw_6 x_17
noncomputable def circuit_gap_L13 (many : Int) (nights : List Int) (sw_6 : Int) (x_17 : Int) : (Bool × Int) → Option (Out (Bool × Int) Bool)
  | (made_9, x_21) =>
    if decide (x_21 < many) then
      (if made_9 then some true else (rem (wr (x_17 + x_21)) (List.length nights : Int)).bind fun q24 =>
      (get nights q24).bind fun x25 =>
      (shr .i64 x25 sw_6).bind fun q26 =>
      some (decide ((band q26 1) = 1))).bind fun c27 =>
      some (.nx (c27, wr (x_21 + 1)))
    else
      some (.br made_9)
noncomputable def circuit_gap_L17 (many : Int) (nights : List Int) : (Int × Int) → Option (Out (Int × Int) (Unit ⊕ ((Int × Int × Bool))))
  | (sw_6, x_17) =>
    if decide (x_17 < (List.length nights : Int)) then
      (loopM (circuit_gap_L13 many nights sw_6 x_17) (false, 0)).bind fun made_9 =>
      circuit_gap_j14 sw_6 x_17 made_9
    else
      some (.br (.inl ()))
noncomputable def circuit_gap_L19 (switches : Int) (many : Int) (nights : List Int) : Int → Option (Out Int (Unit ⊕ ((Int × Int × Bool))))
  | x_12 =>
    if decide (x_12 < switches) then
      (loopM (circuit_gap_L17 many nights) (x_12, 0)).bind fun
        | (.inl ()) => circuit_gap_j7 x_12
        | (.inr r') => some (.br (.inr r'))
    else
      some (.br (.inl ()))
noncomputable def circuit_gap (switches : Int) (many : Int) (nights : List Int) : Option (Int × Int × Bool) :=
  (loopM (circuit_gap_L19 switches many nights) (0)).bind fun
    | (.inl ()) => circuit_gap_j2
    | (.inr r') => some r'
def C_circuit_gap (O : Orac) : Prop := ∀ (switches : Int) (many : Int) (nights : List Int) (r : Int × Int × Bool) (hm0 : circuit_gap switches many nights = some r), Fn O "newel/circuit.gap" [I switches, I many, .fs 1 (List.map eI nights)] (.tup [I r.1, I r.2.1, B r.2.2])

/- newel/circuit.CheckRota -/
noncomputable def circuit_CheckRota_j10 (c : Circuit) (r_ : Rota) (nights_12 : List Int) : Option (Int × Int × Bool × Int) :=
  (circuit_gap (List.length c.Switches : Int) r_.Gap nights_12).bind fun y12 =>
  some (y12.1, y12.2.1, y12.2.2, 0)
noncomputable def circuit_CheckRota_j17 (x_37 : Int) (nights_12_1 : List Int) : Option (Out ((List Int) × Int) (((List Int)))) :=
  some (.nx (nights_12_1, wr (x_37 + 1)))
noncomputable def circuit_CheckRota_L14 (y6 : (List Int) × Int) (x_37 : Int) (x19 : List Int) : ((List Int) × Int) → Option (Out ((List Int) × Int) (((List Int))))
  | (nights_12_1, x_44) =>
    if decide (x_44 < (List.length x19 : Int)) then
      (get x19 x_44).bind fun x25 =>
      (get nights_12_1 x_37).bind fun x28 =>
      (get y6.1 x25).bind fun x29 =>
      some (.nx ((List.set nights_12_1 (Int.toNat x_37) (bor x28 x29)), wr (x_44 + 1)))
    else
      some (.br nights_12_1)
noncomputable def circuit_CheckRota_L16 (r_ : Rota) (y6 : (List Int) × Int) : ((List Int) × Int) → Option (Out ((List Int) × Int) (((List Int))))
  | (nights_12, x_37) =>
    if decide (x_37 < (List.length r_.Nights : Int)) then
      (get r_.Nights x_37).bind fun x19 =>
      (loopM (circuit_CheckRota_L14 y6 x_37 x19) (nights_12, 0)).bind fun nights_12_1 =>
      circuit_CheckRota_j17 x_37 nights_12_1
    else
      some (.br nights_12)
noncomputable def circuit_CheckRota (c : Circuit) (l : List Trial) (r_ : Rota) : Option (Int × Int × Bool × Int) :=
  (circuit_checkRota c l r_).bind fun y2 =>
  if decide (¬y2 = 0) then
    some (0, 0, false, y2)
  else
    (circuit_all c l).bind fun y6 =>
    (mks 8 (List.length r_.Nights : Int) 0).bind fun l8 =>
    (loopM (circuit_CheckRota_L16 r_ y6) (l8, 0)).bind fun nights_12 =>
    circuit_CheckRota_j10 c r_ nights_12
def C_circuit_CheckRota (O : Orac) : Prop := ∀ (c : Circuit) (l : List Trial) (r_ : Rota) (r : Int × Int × Bool × Int) (hm0 : circuit_CheckRota c l r_ = some r), Fn O "newel/circuit.CheckRota" [.agg [I c.Hazards, .fs 1 (List.map eI c.Switches), .fs 2 (List.map eWire c.Wires)], .fs 2 (List.map eTrial l), .agg [.fs 1 (List.map eL_I r_.Nights), I r_.Gap]] (.tup [I r.1, I r.2.1, B r.2.2.1, I r.2.2.2])

/- newel/newellaw03.works -/
noncomputable def l03_works : Option Bool :=
  (circuit_Pairs l03_Example.1).bind fun y2 =>
  (circuit_CheckRota l03_Example.1 l03_Example.2 (Rota.mk ([[0], [1], [2], [3]]) 4)).bind fun y4 =>
  (if (((decide (y2.2 = 0)) && (decide (y4.2.2.2 = 0))) && y4.2.2.1) && (decide ((List.length y2.1 : Int) = 2)) then (get y2.1 0).bind fun x9 =>
  some (decide (x9.1 = 0) && decide (x9.2 = 1)) else some false).bind fun c10 =>
  (if c10 then (get y2.1 1).bind fun x11 =>
  some (decide (x11.1 = 2) && decide (x11.2 = 3)) else some false).bind fun c12 =>
  some c12
def C_l03_works (O : Orac) : Prop := ∀ (r : Bool) (hm0 : l03_works = some r), Fn O "newel/newellaw03.works" [] (B r)

/- math/bits.TrailingZeros32 -/
noncomputable def math_bits_TrailingZeros32 (x : Int) : Option Int :=
  if decide (x = 0) then
    some 32
  else
    (shr .u32 (IntKind.wrap .u32 ((bandK .u32 x (IntKind.wrap .u32 (0 - x))) * 125613361)) 27).bind fun q5 =>
    (get gl_0 q5).bind fun x6 =>
    some (IntKind.wrap .i64 x6)
def C_math_bits_TrailingZeros32 (O : Orac) : Prop := ∀ (x : Int) (r : Int) (hm0 : math_bits_TrailingZeros32 x = some r), Fn O "math/bits.TrailingZeros32" [.v (.int .u32 x)] (I r)

/- math/bits.TrailingZeros64 -/
noncomputable def math_bits_TrailingZeros64 (x : Int) : Option Int :=
  if decide (x = 0) then
    some 64
  else
    (shr .u64 (IntKind.wrap .u64 ((bandK .u64 x (IntKind.wrap .u64 (0 - x))) * 285870213051353865)) 58).bind fun q5 =>
    (get gl_1 q5).bind fun x6 =>
    some (IntKind.wrap .i64 x6)
def C_math_bits_TrailingZeros64 (O : Orac) : Prop := ∀ (x : Int) (r : Int) (hm0 : math_bits_TrailingZeros64 x = some r), Fn O "math/bits.TrailingZeros64" [.v (.int .u64 x)] (I r)

/- math/bits.TrailingZeros -/
noncomputable def math_bits_TrailingZeros (x : Int) : Option Int :=
  (math_bits_TrailingZeros64 x).bind fun y3 =>
  some y3
def C_math_bits_TrailingZeros (O : Orac) : Prop := ∀ (x : Int) (r : Int) (hm0 : math_bits_TrailingZeros x = some r), Fn O "math/bits.TrailingZeros" [.v (.int .u64 x)] (I r)

/- newel/circuit.elements -/
noncomputable def circuit_elements_j2 (out_2 : List Int) : Option (List Int) :=
  some out_2
noncomputable def circuit_elements_L4 : (Int × (List Int)) → Option (Out (Int × (List Int)) (((List Int))))
  | (set_0, out_2) =>
    if decide (¬set_0 = 0) then
      (math_bits_TrailingZeros (IntKind.wrap .u64 set_0)).bind fun y9 =>
      (ap 8 out_2 ([y9])).bind fun l10 =>
      some (.nx (band set_0 (wr (set_0 - 1)), l10))
    else
      some (.br out_2)
noncomputable def circuit_elements (set : Int) : Option (List Int) :=
  (loopM (circuit_elements_L4) (set, [])).bind fun out_2 =>
  circuit_elements_j2 out_2
def C_circuit_elements (O : Orac) : Prop := ∀ (set : Int) (r : List Int) (hm0 : circuit_elements set = some r), Fn O "newel/circuit.elements" [I set] (.fs 1 (List.map eI r))

/- newel/circuit.Shows -/
noncomputable def circuit_Shows (c : Circuit) (l : List Trial) (trial : Int) : Option ((List Int) × Int) :=
  (circuit_check c l).bind fun y2 =>
  if decide (¬y2 = 0) then
    some ([], y2)
  else
    if (decide (trial < 0)) || (decide ((List.length l : Int) ≤ trial)) then
      some ([], 1)
    else
      (get l trial).bind fun x11 =>
      (circuit_shown c x11).bind fun y12 =>
      (circuit_elements y12).bind fun y13 =>
      some (y13, 0)
def C_circuit_Shows (O : Orac) : Prop := ∀ (c : Circuit) (l : List Trial) (trial : Int) (r : (List Int) × Int) (hm0 : circuit_Shows c l trial = some r), Fn O "newel/circuit.Shows" [.agg [I c.Hazards, .fs 1 (List.map eI c.Switches), .fs 2 (List.map eWire c.Wires)], .fs 2 (List.map eTrial l), I trial] (.tup [.fs 1 (List.map eI r.1), I r.2])

/- newel/newelref03.within -/
noncomputable def r03_within (n : Int) (low : Int) (high : Int) : Bool :=
  (decide (low ≤ n)) && (decide (n ≤ high))
def C_r03_within (O : Orac) : Prop := ∀ (n : Int) (low : Int) (high : Int), Fn O "newel/newelref03.within" [I n, I low, I high] (B (r03_within n low high))

/- newel/newelref03.Check -/
noncomputable def r03_Check_j12 : Option Int :=
  some 0
noncomputable def r03_Check_L38 (used_4 : List Int) : Int → Option (Out Int (Unit ⊕ Int))
  | i_9 =>
    if decide (i_9 < ((List.length used_4 : Nat) : Int)) then
      (get used_4 i_9).bind fun x18 =>
      if decide (¬x18 = 1) then
        some (.br (.inr 30))
      else
        some (.nx (wr (i_9 + 1)))
    else
      some (.br (.inl ()))
noncomputable def r03_Check_j10 (used_4 : List Int) : Option Int :=
  (loopM (r03_Check_L38 used_4) (1)).bind fun
    | (.inl ()) => r03_Check_j12
    | (.inr r') => some r'
noncomputable def r03_Check_j25 (i_5 : Int) (used_4_1 : List Int) : Option (Out ((List Int) × Int) (((List Int)) ⊕ Int)) :=
  some (.nx (used_4_1, wr (i_5 + 1)))
noncomputable def r03_Check_L29 (c : Circuit) (x27 : Wire) : ((List Int) × Int × Int) → Option (Out ((List Int) × Int × Int) (((List Int)) ⊕ Int))
  | (used_4_1, last_7, k_8) =>
    if decide (k_8 < (List.length x27.Of : Int)) then
      (get x27.Of k_8).bind fun x45 =>
      if !(r03_within x45 (wr (last_7 + 1)) (wr ((List.length c.Wires : Int) - 1))) then
        some (.br (.inr 30))
      else
        (get used_4_1 x45).bind fun x49 =>
        some (.nx ((List.set used_4_1 (Int.toNat x45) (wr (x49 + 1))), x45, wr (k_8 + 1)))
    else
      some (.br (.inl used_4_1))
noncomputable def r03_Check_j36 (c : Circuit) (used_4 : List Int) (i_5 : Int) (x27 : Wire) (x_83 : Bool) : Option (Out ((List Int) × Int) (((List Int)) ⊕ Int)) :=
  if x_83 then
    if !(r03_within (List.length x27.Of : Int) 1 8) then
      some (.br (.inr 30))
    else
      (loopM (r03_Check_L29 c x27) (used_4, i_5, 0)).bind fun
        | (.inl used_4_1) => r03_Check_j25 i_5 used_4_1
        | (.inr r') => some (.br (.inr r'))
  else
    some (.br (.inr 30))
noncomputable def r03_Check_L32 (c : Circuit) : ((List Int) × Int) → Option (Out ((List Int) × Int) (((List Int)) ⊕ Int))
  | (used_4, i_5) =>
    if decide (i_5 < (List.length c.Wires : Int)) then
      (get c.Wires i_5).bind fun x27 =>
      if decide (x27.Kind = 1) then
        (if decide (¬(List.length x27.Of : Int) = 1) then some true else (get x27.Of 0).bind fun x31 =>
        some (!(r03_within x31 0 (wr ((List.length c.Switches : Int) - 1))))).bind fun c32 =>
        if c32 then
          some (.br (.inr 30))
        else
          r03_Check_j25 i_5 used_4
      else
        if decide (x27.Kind = 2) then
          r03_Check_j36 c used_4 i_5 x27 (decide (x27.Kind = 2))
        else
          r03_Check_j36 c used_4 i_5 x27 (decide (x27.Kind = 3))
    else
      some (.br (.inl used_4))
noncomputable def r03_Check_j6 (c : Circuit) : Option Int :=
  (mks 8 (List.length c.Wires : Int) 0).bind fun l8 =>
  (loopM (r03_Check_L32 c) (l8, 0)).bind fun
    | (.inl used_4) => r03_Check_j10 used_4
    | (.inr r') => some r'
noncomputable def r03_Check_L8 (c : Circuit) : Int → Option (Out Int (Unit ⊕ Int))
  | i_3 =>
    if decide (i_3 < (List.length c.Switches : Int)) then
      (get c.Switches i_3).bind fun x59 =>
      (shl .i64 1 (IntKind.wrap .u64 c.Hazards)).bind fun q60 =>
      if !(r03_within x59 0 (wr (q60 - 1))) then
        some (.br (.inr 30))
      else
        some (.nx (wr (i_3 + 1)))
    else
      some (.br (.inl ()))
noncomputable def r03_Check (c : Circuit) : Option Int :=
  if ((!(r03_within c.Hazards 1 8)) || (!(r03_within (List.length c.Switches : Int) 1 12))) || (!(r03_within (List.length c.Wires : Int) 1 24)) then
    some 30
  else
    (loopM (r03_Check_L8 c) (0)).bind fun
      | (.inl ()) => r03_Check_j6 c
      | (.inr r') => some r'
def C_r03_Check (O : Orac) : Prop := ∀ (c : Circuit) (r : Int) (hm0 : r03_Check c = some r), Fn O "newel/newelref03.Check" [.agg [I c.Hazards, .fs 1 (List.map eI c.Switches), .fs 2 (List.map eWire c.Wires)]] (I r)

/- newel/newelref03.Hazards -/
noncomputable def r03_Hazards (c : Circuit) (n : Int) : Option Bool :=
  (shl .i64 1 (IntKind.wrap .u64 c.Hazards)).bind fun q2 =>
  some (r03_within n 0 (wr (q2 - 1)))
def C_r03_Hazards (O : Orac) : Prop := ∀ (c : Circuit) (n : Int) (r : Bool) (hm0 : r03_Hazards c n = some r), Fn O "newel/newelref03.Hazards" [.agg [I c.Hazards, .fs 1 (List.map eI c.Switches), .fs 2 (List.map eWire c.Wires)], I n] (B r)

/- newel/newelref03.CheckTrials -/
noncomputable def r03_CheckTrials_j8 : Option Int :=
  some 0
noncomputable def r03_CheckTrials_L10 (c : Circuit) (l : List Trial) : Int → Option (Out Int (Unit ⊕ Int))
  | i_5 =>
    if decide (i_5 < (List.length l : Int)) then
      (get l i_5).bind fun x15 =>
      (r03_Hazards c x15.Hazards).bind fun y16 =>
      if (!y16) || (!(r03_within x15.Wire 0 (wr ((List.length c.Wires : Int) - 1)))) then
        some (.br (.inr 31))
      else
        some (.nx (wr (i_5 + 1)))
    else
      some (.br (.inl ()))
noncomputable def r03_CheckTrials (c : Circuit) (l : List Trial) : Option Int :=
  (r03_Check c).bind fun y2 =>
  if decide (¬y2 = 0) then
    some 30
  else
    if decide (12 < (List.length l : Int)) then
      some 2
    else
      (loopM (r03_CheckTrials_L10 c l) (0)).bind fun
        | (.inl ()) => r03_CheckTrials_j8
        | (.inr r') => some r'
def C_r03_CheckTrials (O : Orac) : Prop := ∀ (c : Circuit) (l : List Trial) (r : Int) (hm0 : r03_CheckTrials c l = some r), Fn O "newel/newelref03.CheckTrials" [.agg [I c.Hazards, .fs 1 (List.map eI c.Switches), .fs 2 (List.map eWire c.Wires)], .fs 2 (List.map eTrial l)] (I r)

/- newel/newelref03.conducts -/
noncomputable def r03_conducts_body_j20 (x2 : Wire) : Option Bool :=
  some (decide (x2.Kind = 2))
noncomputable def r03_conducts_body_L10 (self_r03_conducts : Circuit → Int → Int → Int → Int → Option Bool) (c : Circuit) (hazards : Int) (closed : Int) (open_ : Int) (x2 : Wire) : Int → Option (Out Int (Unit ⊕ Bool))
  | k_13 =>
    if decide (k_13 < (List.length x2.Of : Int)) then
      (get x2.Of k_13).bind fun x27 =>
      (self_r03_conducts c x27 hazards closed open_).bind fun y28 =>
      if beqB y28 (decide (x2.Kind = 3)) then
        some (.br (.inr (decide (x2.Kind = 3))))
      else
        some (.nx (wr (k_13 + 1)))
    else
      some (.br (.inl ()))
noncomputable def r03_conducts_body (self_r03_conducts : Circuit → Int → Int → Int → Int → Option Bool) (c : Circuit) (wire : Int) (hazards : Int) (closed : Int) (open_ : Int) : Option Bool :=
  (get c.Wires wire).bind fun x2 =>
  if decide (x2.Kind = 1) then
    (get x2.Of 0).bind fun x6 =>
    (shr .i64 open_ (IntKind.wrap .u64 x6)).bind fun q12 =>
    (if decide ((band q12 1) = 0) then (shr .i64 closed (IntKind.wrap .u64 x6)).bind fun q13 =>
    (if decide ((band q13 1) = 1) then some true else (get c.Switches x6).bind fun x14 =>
    some (decide ((band x14 hazards) = 0))).bind fun c15 =>
    some c15 else some false).bind fun c16 =>
    some c16
  else
    (loopM (r03_conducts_body_L10 self_r03_conducts c hazards closed open_ x2) (0)).bind fun
      | (.inl ()) => r03_conducts_body_j20 x2
      | (.inr r') => some r'
def C_r03_conducts_body (O : Orac) : Prop := ∀ (self_r03_conducts : Circuit → Int → Int → Int → Int → Option Bool) (self_r03_conducts_h : ∀ z0 z1 z2 z3 z4 y, self_r03_conducts z0 z1 z2 z3 z4 = some y → Fn O "newel/newelref03.conducts" [.agg [I z0.Hazards, .fs 1 (List.map eI z0.Switches), .fs 2 (List.map eWire z0.Wires)], I z1, I z2, I z3, I z4] (B y)) (c : Circuit) (wire : Int) (hazards : Int) (closed : Int) (open_ : Int) (r : Bool) (hm0 : r03_conducts_body self_r03_conducts c wire hazards closed open_ = some r), Fn O "newel/newelref03.conducts" [.agg [I c.Hazards, .fs 1 (List.map eI c.Switches), .fs 2 (List.map eWire c.Wires)], I wire, I hazards, I closed, I open_] (B r)
noncomputable def r03_conducts : Nat → Circuit → Int → Int → Int → Int → Option Bool
  | 0 => fun _ _ _ _ _ => none
  | n + 1 => fun c wire hazards closed open_ => r03_conducts_body (r03_conducts n) c wire hazards closed open_
def C_r03_conducts (O : Orac) : Prop := ∀ (n : Nat) (c : Circuit) (wire : Int) (hazards : Int) (closed : Int) (open_ : Int) (r : Bool) (hm0 : r03_conducts n c wire hazards closed open_ = some r), Fn O "newel/newelref03.conducts" [.agg [I c.Hazards, .fs 1 (List.map eI c.Switches), .fs 2 (List.map eWire c.Wires)], I wire, I hazards, I closed, I open_] (B r)

/- newel/newelref03.Tells -/
noncomputable def r03_Tells (c : Circuit) (t_ : Trial) (closed : Int) : Option Bool :=
  (r03_conducts 1000 c t_.Wire t_.Hazards closed 0).bind fun y4 =>
  (if y4 then (r03_conducts 1000 c t_.Wire t_.Hazards 0 0).bind fun y5 =>
  some (!y5) else some false).bind fun c6 =>
  some c6
def C_r03_Tells (O : Orac) : Prop := ∀ (c : Circuit) (t_ : Trial) (closed : Int) (r : Bool) (hm0 : r03_Tells c t_ closed = some r), Fn O "newel/newelref03.Tells" [.agg [I c.Hazards, .fs 1 (List.map eI c.Switches), .fs 2 (List.map eWire c.Wires)], .agg [I t_.Hazards, I t_.Wire], I closed] (B r)

/- newel/newelref03.shown -/
noncomputable def r03_shown_j2 (set_5 : Int) : Option Int :=
  some set_5
noncomputable def r03_shown_j7 (i_6 : Int) (set_5_1 : Int) : Option (Out (Int × Int) Int) :=
  some (.nx (set_5_1, wr (i_6 + 1)))
noncomputable def r03_shown_L7 (c : Circuit) (t_ : Trial) : (Int × Int) → Option (Out (Int × Int) Int)
  | (set_5, i_6) =>
    if decide (i_6 < (List.length c.Switches : Int)) then
      (shl .i64 1 (IntKind.wrap .u64 i_6)).bind fun q10 =>
      (r03_Tells c t_ q10).bind fun y11 =>
      if y11 then
        r03_shown_j7 i_6 (bor set_5 q10)
      else
        r03_shown_j7 i_6 set_5
    else
      some (.br set_5)
noncomputable def r03_shown (c : Circuit) (t_ : Trial) : Option Int :=
  (loopM (r03_shown_L7 c t_) (0, 0)).bind fun set_5 =>
  r03_shown_j2 set_5
def C_r03_shown (O : Orac) : Prop := ∀ (c : Circuit) (t_ : Trial) (r : Int) (hm0 : r03_shown c t_ = some r), Fn O "newel/newelref03.shown" [.agg [I c.Hazards, .fs 1 (List.map eI c.Switches), .fs 2 (List.map eWire c.Wires)], .agg [I t_.Hazards, I t_.Wire]] (I r)

/- newel/newelref03.members -/
noncomputable def r03_members_j2 (l_5 : List Int) : Option (List Int) :=
  some l_5
noncomputable def r03_members_j7 (i_6 : Int) (l_5_1 : List Int) : Option (Out ((List Int) × Int) (((List Int)))) :=
  some (.nx (l_5_1, wr (i_6 + 1)))
noncomputable def r03_members_L7 (set : Int) (n : Int) : ((List Int) × Int) → Option (Out ((List Int) × Int) (((List Int))))
  | (l_5, i_6) =>
    if decide (i_6 < n) then
      (shr .i64 set (IntKind.wrap .u64 i_6)).bind fun q9 =>
      if decide ((band q9 1) = 1) then
        (ap 8 l_5 ([i_6])).bind fun l12 =>
        r03_members_j7 i_6 l12
      else
        r03_members_j7 i_6 l_5
    else
      some (.br l_5)
noncomputable def r03_members (set : Int) (n : Int) : Option (List Int) :=
  (loopM (r03_members_L7 set n) ([], 0)).bind fun l_5 =>
  r03_members_j2 l_5
def C_r03_members (O : Orac) : Prop := ∀ (set : Int) (n : Int) (r : List Int) (hm0 : r03_members set n = some r), Fn O "newel/newelref03.members" [I set, I n] (.fs 1 (List.map eI r))

/- newel/newelref03.Shows -/
noncomputable def r03_Shows (c : Circuit) (l : List Trial) (trial : Int) : Option ((List Int) × Int) :=
  (r03_CheckTrials c l).bind fun y2 =>
  if decide (¬y2 = 0) then
    some ([], y2)
  else
    if !(r03_within trial 0 (wr ((List.length l : Int) - 1))) then
      some ([], 1)
    else
      (get l trial).bind fun x10 =>
      (r03_shown c x10).bind fun y11 =>
      (r03_members y11 (List.length c.Switches : Int)).bind fun y12 =>
      some (y12, 0)
def C_r03_Shows (O : Orac) : Prop := ∀ (c : Circuit) (l : List Trial) (trial : Int) (r : (List Int) × Int) (hm0 : r03_Shows c l trial = some r), Fn O "newel/newelref03.Shows" [.agg [I c.Hazards, .fs 1 (List.map eI c.Switches), .fs 2 (List.map eWire c.Wires)], .fs 2 (List.map eTrial l), I trial] (.tup [.fs 1 (List.map eI r.1), I r.2])

/- newel/newellaw03.sameInts -/
noncomputable def l03_sameInts_j4 : Option Bool :=
  some true
noncomputable def l03_sameInts_L8 (a : List Int) (b : List Int) : Int → Option (Out Int (Unit ⊕ Bool))
  | i_5 =>
    if decide (i_5 < (List.length a : Int)) then
      (get a i_5).bind fun x11 =>
      (get b i_5).bind fun x12 =>
      if decide (¬x11 = x12) then
        some (.br (.inr false))
      else
        some (.nx (wr (i_5 + 1)))
    else
      some (.br (.inl ()))
noncomputable def l03_sameInts (a : List Int) (b : List Int) : Option Bool :=
  if decide (¬(List.length a : Int) = (List.length b : Int)) then
    some false
  else
    (loopM (l03_sameInts_L8 a b) (0)).bind fun
      | (.inl ()) => l03_sameInts_j4
      | (.inr r') => some r'
def C_l03_sameInts (O : Orac) : Prop := ∀ (a : List Int) (b : List Int) (r : Bool) (hm0 : l03_sameInts a b = some r), Fn O "newel/newellaw03.sameInts" [.fs 1 (List.map eI a), .fs 1 (List.map eI b)] (B r)

/- newel/circuit.Blind -/
noncomputable def circuit_Blind (c : Circuit) (l : List Trial) : Option ((List Int) × Int) :=
  (circuit_check c l).bind fun y2 =>
  if decide (¬y2 = 0) then
    some ([], y2)
  else
    (circuit_all c l).bind fun y6 =>
    (shl .i64 1 (List.length c.Switches : Int)).bind fun q9 =>
    (circuit_elements (bclr (wr (q9 - 1)) y6.2)).bind fun y10 =>
    some (y10, 0)
def C_circuit_Blind (O : Orac) : Prop := ∀ (c : Circuit) (l : List Trial) (r : (List Int) × Int) (hm0 : circuit_Blind c l = some r), Fn O "newel/circuit.Blind" [.agg [I c.Hazards, .fs 1 (List.map eI c.Switches), .fs 2 (List.map eWire c.Wires)], .fs 2 (List.map eTrial l)] (.tup [.fs 1 (List.map eI r.1), I r.2])

/- newel/newelref03.all -/
noncomputable def r03_all_j2 (set_7 : Int) : Option Int :=
  some set_7
noncomputable def r03_all_j7 (i_8 : Int) (set_7_1 : Int) : Option (Out (Int × Int) Int) :=
  some (.nx (set_7_1, wr (i_8 + 1)))
noncomputable def r03_all_L7 (c : Circuit) (l : List Trial) (which : Int) : (Int × Int) → Option (Out (Int × Int) Int)
  | (set_7, i_8) =>
    if decide (i_8 < (List.length l : Int)) then
      (shr .i64 which (IntKind.wrap .u64 i_8)).bind fun q9 =>
      if decide ((band q9 1) = 1) then
        (get l i_8).bind fun x13 =>
        (r03_shown c x13).bind fun y14 =>
        r03_all_j7 i_8 (bor set_7 y14)
      else
        r03_all_j7 i_8 set_7
    else
      some (.br set_7)
noncomputable def r03_all (c : Circuit) (l : List Trial) (which : Int) : Option Int :=
  (loopM (r03_all_L7 c l which) (0, 0)).bind fun set_7 =>
  r03_all_j2 set_7
def C_r03_all (O : Orac) : Prop := ∀ (c : Circuit) (l : List Trial) (which : Int) (r : Int) (hm0 : r03_all c l which = some r), Fn O "newel/newelref03.all" [.agg [I c.Hazards, .fs 1 (List.map eI c.Switches), .fs 2 (List.map eWire c.Wires)], .fs 2 (List.map eTrial l), I which] (I r)

/- newel/newelref03.Blind -/
noncomputable def r03_Blind (c : Circuit) (l : List Trial) : Option ((List Int) × Int) :=
  (r03_CheckTrials c l).bind fun y2 =>
  if decide (¬y2 = 0) then
    some ([], y2)
  else
    (shl .i64 1 (IntKind.wrap .u64 (List.length l : Int))).bind fun q7 =>
    (r03_all c l (wr (q7 - 1))).bind fun y8 =>
    (shl .i64 1 (IntKind.wrap .u64 (List.length c.Switches : Int))).bind fun q11 =>
    (r03_members (wr ((wr (q11 - 1)) - y8)) (List.length c.Switches : Int)).bind fun y12 =>
    some (y12, 0)
def C_r03_Blind (O : Orac) : Prop := ∀ (c : Circuit) (l : List Trial) (r : (List Int) × Int) (hm0 : r03_Blind c l = some r), Fn O "newel/newelref03.Blind" [.agg [I c.Hazards, .fs 1 (List.map eI c.Switches), .fs 2 (List.map eWire c.Wires)], .fs 2 (List.map eTrial l)] (.tup [.fs 1 (List.map eI r.1), I r.2])

/- cmp.isNaN[int] -/
noncomputable def cmp_isNaN_int_ (x : Int) : Bool :=
  decide (¬x = x)
def C_cmp_isNaN_int_ (O : Orac) : Prop := ∀ (x : Int), Fn O "cmp.isNaN[int]" [I x] (B (cmp_isNaN_int_ x))

/- cmp.Compare[int] -/
noncomputable def cmp_Compare_int_ (x : Int) (y : Int) : Int :=
  if (cmp_isNaN_int_ x) then
    if (cmp_isNaN_int_ y) then
      0
    else
      (-1)
  else
    if (cmp_isNaN_int_ y) then
      1
    else
      if decide (x < y) then
        (-1)
      else
        if decide (y < x) then
          1
        else
          0
def C_cmp_Compare_int_ (O : Orac) : Prop := ∀ (x : Int) (y : Int), Fn O "cmp.Compare[int]" [I x, I y] (I (cmp_Compare_int_ x y))

/- slices.Compare[[]int,int] -/
noncomputable def slices_Compare___int_int__j2 (s1_ : List Int) (s2_ : List Int) : Option Int :=
  if decide ((List.length s1_ : Int) < (List.length s2_ : Int)) then
    some (-1)
  else
    some 0
noncomputable def slices_Compare___int_int__L11 (s1_ : List Int) (s2_ : List Int) : Int → Option (Out Int (Unit ⊕ Int))
  | x_11 =>
    if decide (x_11 < (List.length s1_ : Int)) then
      (get s1_ x_11).bind fun x10 =>
      if decide ((List.length s2_ : Int) ≤ x_11) then
        some (.br (.inr 1))
      else
        (get s2_ x_11).bind fun x14 =>
        if decide (¬(cmp_Compare_int_ x10 x14) = 0) then
          some (.br (.inr (cmp_Compare_int_ x10 x14)))
        else
          some (.nx (wr (x_11 + 1)))
    else
      some (.br (.inl ()))
noncomputable def slices_Compare___int_int_ (s1_ : List Int) (s2_ : List Int) : Option Int :=
  (loopM (slices_Compare___int_int__L11 s1_ s2_) (0)).bind fun
    | (.inl ()) => slices_Compare___int_int__j2 s1_ s2_
    | (.inr r') => some r'
def C_slices_Compare___int_int_ (O : Orac) : Prop := ∀ (s1_ : List Int) (s2_ : List Int) (r : Int) (hm0 : slices_Compare___int_int_ s1_ s2_ = some r), Fn O "slices.Compare[[]int,int]" [.fs 1 (List.map eI s1_), .fs 1 (List.map eI s2_)] (I r)

/- newel/circuit.Fewest -/
noncomputable def circuit_Fewest_j10 (best_9 : Option (List Int)) : Option ((List Int) × Int) :=
  some (Option.getD best_9 [], 0)
noncomputable def circuit_Fewest_j15 (x_31 : Int) (best_9_1 : Option (List Int)) (found_10_1 : Bool) : Option (Out ((Option (List Int)) × Bool × Int) (((Option (List Int))))) :=
  some (.nx (best_9_1, found_10_1, wr (x_31 + 1)))
noncomputable def circuit_Fewest_j19 (y6 : (List Int) × Int) (best_9 : Option (List Int)) (found_10 : Bool) (x_31 : Int) (y17 : List Int) (got_13 : Int) : Option (Out ((Option (List Int)) × Bool × Int) (((Option (List Int))))) :=
  (if decide (got_13 = y6.2) then (if (!found_10) || (decide ((List.length y17 : Int) < (List.length (Option.getD best_9 []) : Int))) then some true else (if decide ((List.length y17 : Int) = (List.length (Option.getD best_9 []) : Int)) then (slices_Compare___int_int_ y17 (Option.getD best_9 [])).bind fun y24 =>
  some (decide (y24 < 0)) else some false).bind fun c25 =>
  some c25).bind fun c26 =>
  some c26 else some false).bind fun c27 =>
  if c27 then
    circuit_Fewest_j15 x_31 (some y17) true
  else
    circuit_Fewest_j15 x_31 best_9 found_10
noncomputable def circuit_Fewest_L16 (y6 : (List Int) × Int) (y17 : List Int) : (Int × Int) → Option (Out (Int × Int) Int)
  | (got_13, x_38) =>
    if decide (x_38 < (List.length y17 : Int)) then
      (get y17 x_38).bind fun x38 =>
      (get y6.1 x38).bind fun x40 =>
      some (.nx (bor got_13 x40, wr (x_38 + 1)))
    else
      some (.br got_13)
noncomputable def circuit_Fewest_L20 (y6 : (List Int) × Int) (q8 : Int) : ((Option (List Int)) × Bool × Int) → Option (Out ((Option (List Int)) × Bool × Int) (((Option (List Int)))))
  | (best_9, found_10, x_31) =>
    if decide (x_31 < q8) then
      (circuit_elements x_31).bind fun y17 =>
      (loopM (circuit_Fewest_L16 y6 y17) (0, 0)).bind fun got_13 =>
      circuit_Fewest_j19 y6 best_9 found_10 x_31 y17 got_13
    else
      some (.br best_9)
noncomputable def circuit_Fewest (c : Circuit) (l : List Trial) : Option ((List Int) × Int) :=
  (circuit_check c l).bind fun y2 =>
  if decide (¬y2 = 0) then
    some ([], y2)
  else
    (circuit_all c l).bind fun y6 =>
    (shl .i64 1 (List.length l : Int)).bind fun q8 =>
    (loopM (circuit_Fewest_L20 y6 q8) (none, false, 0)).bind fun best_9 =>
    circuit_Fewest_j10 best_9
def C_circuit_Fewest (O : Orac) : Prop := ∀ (c : Circuit) (l : List Trial) (r : (List Int) × Int) (hm0 : circuit_Fewest c l = some r), Fn O "newel/circuit.Fewest" [.agg [I c.Hazards, .fs 1 (List.map eI c.Switches), .fs 2 (List.map eWire c.Wires)], .fs 2 (List.map eTrial l)] (.tup [.fs 1 (List.map eI r.1), I r.2])

/- newel/newelref03.every -/
noncomputable def r03_every_j2 (shows_5 : List Int) : Option (List Int) :=
  some shows_5
noncomputable def r03_every_L6 (c : Circuit) (l : List Trial) : ((List Int) × Int) → Option (Out ((List Int) × Int) (((List Int))))
  | (shows_5, i_6) =>
    if decide (i_6 < (List.length l : Int)) then
      (get l i_6).bind fun x10 =>
      (r03_shown c x10).bind fun y11 =>
      (ap 8 shows_5 ([y11])).bind fun l12 =>
      some (.nx (l12, wr (i_6 + 1)))
    else
      some (.br shows_5)
noncomputable def r03_every (c : Circuit) (l : List Trial) : Option (List Int) :=
  (loopM (r03_every_L6 c l) ([], 0)).bind fun shows_5 =>
  r03_every_j2 shows_5
def C_r03_every (O : Orac) : Prop := ∀ (c : Circuit) (l : List Trial) (r : List Int) (hm0 : r03_every c l = some r), Fn O "newel/newelref03.every" [.agg [I c.Hazards, .fs 1 (List.map eI c.Switches), .fs 2 (List.map eWire c.Wires)], .fs 2 (List.map eTrial l)] (.fs 1 (List.map eI r))

/- newel/newelref03.Ones -/
noncomputable def r03_Ones_j2 (n_3 : Int) : Option Int :=
  some n_3
noncomputable def r03_Ones_L5 : (Int × Int) → Option (Out (Int × Int) Int)
  | (set_0, n_3) =>
    if decide (0 < set_0) then
      (shr .i64 set_0 1).bind fun q8 =>
      some (.nx (q8, wr (n_3 + (band set_0 1))))
    else
      some (.br n_3)
noncomputable def r03_Ones (set : Int) : Option Int :=
  (loopM (r03_Ones_L5) (set, 0)).bind fun n_3 =>
  r03_Ones_j2 n_3
def C_r03_Ones (O : Orac) : Prop := ∀ (set : Int) (r : Int) (hm0 : r03_Ones set = some r), Fn O "newel/newelref03.Ones" [I set] (I r)

/- newel/newelref03.less -/
noncomputable def r03_less_j2 : Option Bool :=
  some false
noncomputable def r03_less_L6 (a : List Int) (b : List Int) : Int → Option (Out Int (Unit ⊕ Bool))
  | i_5 =>
    if decide (i_5 < (List.length a : Int)) then
      (get a i_5).bind fun x9 =>
      (get b i_5).bind fun x10 =>
      if decide (¬x9 = x10) then
        some (.br (.inr (decide (x9 < x10))))
      else
        some (.nx (wr (i_5 + 1)))
    else
      some (.br (.inl ()))
noncomputable def r03_less (a : List Int) (b : List Int) : Option Bool :=
  (loopM (r03_less_L6 a b) (0)).bind fun
    | (.inl ()) => r03_less_j2
    | (.inr r') => some r'
def C_r03_less (O : Orac) : Prop := ∀ (a : List Int) (b : List Int) (r : Bool) (hm0 : r03_less a b = some r), Fn O "newel/newelref03.less" [.fs 1 (List.map eI a), .fs 1 (List.map eI b)] (B r)

/- newel/newelref03.Fewest -/
noncomputable def r03_Fewest_j12 (l : List Trial) (best_10 : Int) : Option ((List Int) × Int) :=
  (r03_members best_10 (List.length l : Int)).bind fun y14 =>
  some (y14, 0)
noncomputable def r03_Fewest_j19 (set_11 : Int) (best_10_1 : Int) : Option (Out (Int × Int) Int) :=
  some (.nx (best_10_1, wr (set_11 + 1)))
noncomputable def r03_Fewest_j21 (l : List Trial) (y8 : Int) (best_10 : Int) (set_11 : Int) (have_12 : Int) : Option (Out (Int × Int) Int) :=
  (if decide (¬have_12 = y8) then some true else (r03_Ones set_11).bind fun y25 =>
  (r03_Ones best_10).bind fun y26 =>
  some (decide (y26 < y25))).bind fun c27 =>
  if c27 then
    r03_Fewest_j19 set_11 best_10
  else
    (r03_Ones set_11).bind fun y37 =>
    (r03_Ones best_10).bind fun y38 =>
    (if decide (y37 < y38) then some true else (r03_members set_11 (List.length l : Int)).bind fun y39 =>
    (r03_members best_10 (List.length l : Int)).bind fun y40 =>
    (r03_less y39 y40).bind fun y41 =>
    some y41).bind fun c42 =>
    if c42 then
      r03_Fewest_j19 set_11 set_11
    else
      r03_Fewest_j19 set_11 best_10
noncomputable def r03_Fewest_j49 (i_13 : Int) (have_12_1 : Int) : Option (Out (Int × Int) Int) :=
  some (.nx (have_12_1, wr (i_13 + 1)))
noncomputable def r03_Fewest_L16 (l : List Trial) (y10 : List Int) (set_11 : Int) : (Int × Int) → Option (Out (Int × Int) Int)
  | (have_12, i_13) =>
    if decide (i_13 < (List.length l : Int)) then
      (shr .i64 set_11 (IntKind.wrap .u64 i_13)).bind fun q51 =>
      if decide ((band q51 1) = 1) then
        (get y10 i_13).bind fun x54 =>
        r03_Fewest_j49 i_13 (bor have_12 x54)
      else
        r03_Fewest_j49 i_13 have_12
    else
      some (.br have_12)
noncomputable def r03_Fewest_L21 (l : List Trial) (q6 : Int) (y8 : Int) (y10 : List Int) : (Int × Int) → Option (Out (Int × Int) Int)
  | (best_10, set_11) =>
    if decide (set_11 ≤ (wr (q6 - 1))) then
      (loopM (r03_Fewest_L16 l y10 set_11) (0, 0)).bind fun have_12 =>
      r03_Fewest_j21 l y8 best_10 set_11 have_12
    else
      some (.br best_10)
noncomputable def r03_Fewest (c : Circuit) (l : List Trial) : Option ((List Int) × Int) :=
  (r03_CheckTrials c l).bind fun y2 =>
  if decide (¬y2 = 0) then
    some ([], y2)
  else
    (shl .i64 1 (IntKind.wrap .u64 (List.length l : Int))).bind fun q6 =>
    (r03_all c l (wr (q6 - 1))).bind fun y8 =>
    (r03_every c l).bind fun y10 =>
    (loopM (r03_Fewest_L21 l q6 y8 y10) (wr (q6 - 1), 0)).bind fun best_10 =>
    r03_Fewest_j12 l best_10
def C_r03_Fewest (O : Orac) : Prop := ∀ (c : Circuit) (l : List Trial) (r : (List Int) × Int) (hm0 : r03_Fewest c l = some r), Fn O "newel/newelref03.Fewest" [.agg [I c.Hazards, .fs 1 (List.map eI c.Switches), .fs 2 (List.map eWire c.Wires)], .fs 2 (List.map eTrial l)] (.tup [.fs 1 (List.map eI r.1), I r.2])

/- newel/newellaw03.CircuitTrials -/
noncomputable def l03_CircuitTrials (c : Circuit) (l : List Trial) (trial : Int) : Option Bool :=
  (l03_Far c).bind fun y2 =>
  if y2 || (decide (20 < (List.length l : Int))) then
    (l03_works).bind fun y7 =>
    some y7
  else
    (circuit_Shows c l trial).bind fun y9 =>
    (r03_Shows c l trial).bind fun y11 =>
    (if decide (¬y9.2 = y11.2) then some true else (l03_sameInts y9.1 y11.1).bind fun y14 =>
    some (!y14)).bind fun c15 =>
    if c15 then
      some false
    else
      (circuit_Blind c l).bind fun y20 =>
      (r03_Blind c l).bind fun y22 =>
      (if decide (¬y20.2 = y22.2) then some true else (l03_sameInts y20.1 y22.1).bind fun y25 =>
      some (!y25)).bind fun c26 =>
      if c26 then
        some false
      else
        (circuit_Fewest c l).bind fun y31 =>
        (r03_Fewest c l).bind fun y33 =>
        (if decide (y31.2 = y33.2) then (l03_sameInts y31.1 y33.1).bind fun y38 =>
        some y38 else some false).bind fun c39 =>
        (if c39 then (l03_works).bind fun y40 =>
        some y40 else some false).bind fun c41 =>
        some c41
def C_l03_CircuitTrials (O : Orac) : Prop := ∀ (c : Circuit) (l : List Trial) (trial : Int) (r : Bool) (hm0 : l03_CircuitTrials c l trial = some r), Fn O "newel/newellaw03.CircuitTrials" [.agg [I c.Hazards, .fs 1 (List.map eI c.Switches), .fs 2 (List.map eWire c.Wires)], .fs 2 (List.map eTrial l), I trial] (B r)

/- newel/newellaw03.has -/
noncomputable def l03_has_j2 : Option Bool :=
  some false
noncomputable def l03_has_L6 (l : List Int) (n : Int) : Int → Option (Out Int (Unit ⊕ Bool))
  | i_5 =>
    if decide (i_5 < (List.length l : Int)) then
      (get l i_5).bind fun x8 =>
      if decide (x8 = n) then
        some (.br (.inr true))
      else
        some (.nx (wr (i_5 + 1)))
    else
      some (.br (.inl ()))
noncomputable def l03_has (l : List Int) (n : Int) : Option Bool :=
  (loopM (l03_has_L6 l n) (0)).bind fun
    | (.inl ()) => l03_has_j2
    | (.inr r') => some r'
def C_l03_has (O : Orac) : Prop := ∀ (l : List Int) (n : Int) (r : Bool) (hm0 : l03_has l n = some r), Fn O "newel/newellaw03.has" [.fs 1 (List.map eI l), I n] (B r)

/- newel/newellaw03.CircuitCovers -/
noncomputable def l03_CircuitCovers_j26 (y13 : (List Int) × Int) (count_13 : Int) (whole_19 : Bool) : Option Bool :=
  (if (!whole_19) || (decide ((List.length y13.1 : Int) ≤ count_13)) then (l03_works).bind fun y29 =>
  some y29 else some false).bind fun c30 =>
  some c30
noncomputable def l03_CircuitCovers_L34 (y15 : (List Int) × Int) (chosen_11 : List Bool) (others_12 : List Bool) : (Bool × Int) → Option (Out (Bool × Int) (Bool ⊕ Bool))
  | (whole_19, s_20) =>
    if decide (s_20 < ((List.length chosen_11 : Nat) : Int)) then
      (get chosen_11 s_20).bind fun x39 =>
      (l03_has y15.1 s_20).bind fun y40 =>
      if beqB x39 y40 then
        some (.br (.inr false))
      else
        (if whole_19 then (get others_12 s_20).bind fun x47 =>
        (if x47 then some true else (l03_has y15.1 s_20).bind fun y48 =>
        some y48).bind fun c49 =>
        some c49 else some false).bind fun c50 =>
        some (.nx (c50, wr (s_20 + 1)))
    else
      some (.br (.inl whole_19))
noncomputable def l03_CircuitCovers_j24 (y13 : (List Int) × Int) (y15 : (List Int) × Int) (chosen_11 : List Bool) (others_12 : List Bool) (count_13 : Int) : Option Bool :=
  (loopM (l03_CircuitCovers_L34 y15 chosen_11 others_12) (true, 0)).bind fun
    | (.inl whole_19) => l03_CircuitCovers_j26 y13 count_13 whole_19
    | (.inr r') => some r'
noncomputable def l03_CircuitCovers_j58 (i_14 : Int) (chosen_11_1 : List Bool) (others_12_1 : List Bool) (count_13_1 : Int) : Option (Out ((List Bool) × (List Bool) × Int × Int) (((List Bool) × (List Bool) × Int) ⊕ Bool)) :=
  some (.nx (chosen_11_1, others_12_1, count_13_1, wr (i_14 + 1)))
noncomputable def l03_CircuitCovers_L24 (y13 : (List Int) × Int) (i_14 : Int) (y60 : (List Int) × Int) (q64 : Int) (count_13_1 : Int) : ((List Bool) × (List Bool) × Int) → Option (Out ((List Bool) × (List Bool) × Int) (((List Bool) × (List Bool) × Int) ⊕ Bool))
  | (chosen_11_1, others_12_1, k_18) =>
    if decide (k_18 < (List.length y60.1 : Int)) then
      (get y60.1 k_18).bind fun x72 =>
      if (decide (x72 < 0)) || (decide (((List.length chosen_11_1 : Nat) : Int) ≤ x72)) then
        some (.br (.inr false))
      else
        (get chosen_11_1 x72).bind fun x79 =>
        (if x79 then some true else (l03_has y13.1 i_14).bind fun y80 =>
        some y80).bind fun c81 =>
        (get others_12_1 x72).bind fun x84 =>
        some (.nx ((List.set chosen_11_1 (Int.toNat x72) c81), (List.set others_12_1 (Int.toNat x72) (x84 || (decide ((band q64 1) = 1)))), wr (k_18 + 1)))
    else
      some (.br (.inl (chosen_11_1, others_12_1, count_13_1)))
noncomputable def l03_CircuitCovers_j66 (y13 : (List Int) × Int) (chosen_11 : List Bool) (others_12 : List Bool) (i_14 : Int) (y60 : (List Int) × Int) (q64 : Int) (count_13_1 : Int) : Option (Out ((List Bool) × (List Bool) × Int × Int) (((List Bool) × (List Bool) × Int) ⊕ Bool)) :=
  (loopM (l03_CircuitCovers_L24 y13 i_14 y60 q64 count_13_1) (chosen_11, others_12, 0)).bind fun
    | (.inl (chosen_11_1, others_12_1, count_13_1)) => l03_CircuitCovers_j58 i_14 chosen_11_1 others_12_1 count_13_1
    | (.inr r') => some (.br (.inr r'))
noncomputable def l03_CircuitCovers_L26 (c : Circuit) (l : List Trial) (fewer : Int) (y13 : (List Int) × Int) : ((List Bool) × (List Bool) × Int × Int) → Option (Out ((List Bool) × (List Bool) × Int × Int) (((List Bool) × (List Bool) × Int) ⊕ Bool))
  | (chosen_11, others_12, count_13, i_14) =>
    if decide (i_14 < (List.length l : Int)) then
      (circuit_Shows c l i_14).bind fun y60 =>
      if decide (¬y60.2 = 0) then
        some (.br (.inr false))
      else
        (shr .i64 fewer (IntKind.wrap .u64 i_14)).bind fun q64 =>
        if decide ((band q64 1) = 1) then
          l03_CircuitCovers_j66 y13 chosen_11 others_12 i_14 y60 q64 (wr (count_13 + 1))
        else
          l03_CircuitCovers_j66 y13 chosen_11 others_12 i_14 y60 q64 count_13
    else
      some (.br (.inl (chosen_11, others_12, count_13)))
noncomputable def l03_CircuitCovers (c : Circuit) (l : List Trial) (fewer : Int) : Option Bool :=
  (l03_Far c).bind fun y4 =>
  (if y4 then some true else (r03_CheckTrials c l).bind fun y5 =>
  some (decide (¬y5 = 0))).bind fun c6 =>
  if c6 then
    (l03_works).bind fun y11 =>
    some y11
  else
    (circuit_Fewest c l).bind fun y13 =>
    (circuit_Blind c l).bind fun y15 =>
    if (decide (¬y13.2 = 0)) || (decide (¬y15.2 = 0)) then
      some false
    else
      (mks 1 (List.length c.Switches : Int) false).bind fun l21 =>
      (mks 1 (List.length c.Switches : Int) false).bind fun l22 =>
      (loopM (l03_CircuitCovers_L26 c l fewer y13) (l21, l22, 0, 0)).bind fun
        | (.inl (chosen_11, others_12, count_13)) => l03_CircuitCovers_j24 y13 y15 chosen_11 others_12 count_13
        | (.inr r') => some r'
def C_l03_CircuitCovers (O : Orac) : Prop := ∀ (c : Circuit) (l : List Trial) (fewer : Int) (r : Bool) (hm0 : l03_CircuitCovers c l fewer = some r), Fn O "newel/newellaw03.CircuitCovers" [.agg [I c.Hazards, .fs 1 (List.map eI c.Switches), .fs 2 (List.map eWire c.Wires)], .fs 2 (List.map eTrial l), I fewer] (B r)

end Go.Nw.DM
