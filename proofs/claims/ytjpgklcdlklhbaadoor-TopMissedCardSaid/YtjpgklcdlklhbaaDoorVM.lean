/- Models of functions: printed by gen.py. -/
import Derived.Test.YtjpgklcdlklhbaaDoorNwIxK
import Derived.Test.YtjpgklcdlklhbaaDoorNwMaps
import Derived.Test.YtjpgklcdlklhbaaDoorNwTp4Src
set_option linter.all false
namespace Go.Nw.VM
noncomputable section
open Go.Nw.Tp4
set_option maxHeartbeats 4000000
theorem lA9 {α : Type} {l m : List α} : (l ++ m).length = l.length + m.length := List.length_append
theorem mA9 {α β : Type} {f : α → β} {l m : List α} : List.map f (l ++ m) = List.map f l ++ List.map f m := List.map_append
theorem oF9 {a b : Bool} : (a || b) = false ↔ a = false ∧ b = false := Bool.or_eq_false_iff
theorem nF9 : (¬False) = True := not_false_eq_true
theorem bF9 {α : Type} [BEq α] [LawfulBEq α] {a b : α} : (a == b) = false ↔ a ≠ b := beq_eq_false_iff_ne
theorem sI9 {α : Type} {a b : α} (h : some a = some b) : a = b := Option.some.inj h
theorem va9 {p : Prop} (h : p := by first | (simp only [go_sem, List.length_append, List.map_append]; done) | rfl) : p := h
theorem vb9 {p : Prop} (h : p := by simp only [go_sem, List.length_append, List.map_append]) : p := h
theorem vc9 {p : Prop} (h : p := by first | exact b1w | exact b1y (by first | assumption | omega | (simp only [nxs] <;> omega)) | assumption | exact b1v (by assumption) (by first | assumption | omega | (simp only [nxs] <;> omega))) : p := h
theorem vd9 {p : Prop} (h : p := by omega) : p := h
theorem ve9 {p : Prop} (h : p := by first | exact b1w | exact b1y (by first | omega | (simp only [nxs] <;> omega)) | assumption | exact b1v (by assumption) (by first | omega | (simp only [go_sem, nxs] <;> omega))) : p := h
theorem vf9 {p : Prop} (h : p := by first | rfl | simp only [go_sem, List.length_append, List.map_append]) : p := h
theorem vg9 {p : Prop} (h : p := by first | first | assumption | omega | (simp only [nxs] <;> omega)) : p := h
theorem vh9 {p : Prop} (h : p := by simp only [go_sem]) : p := h
variable {O : Orac} [MapsOk O]
structure Wire where
 Kind : Int
 Of : List Int
 deriving Inhabited, DecidableEq
structure Circuit where
 Hazards : Int
 Switches : List Int
 Wires : List Wire
 deriving Inhabited, DecidableEq
@[go_sem] def C01 (x : Wire) : List AV := [I x.Kind, .fs 1 (List.map eI x.Of)]
@[go_sem] theorem B8d {l : List Wire} {n : Nat} {a0 : Int} {a1 : List Int} : (List.map C01 l).set n [I a0, .fs 1 (List.map eI a1)] = List.map C01 (l.set n (Wire.mk a0 a1)) := by rw [List.map_set]; rfl
structure Trial where
 Hazards : Int
 Wire : Int
 deriving Inhabited, DecidableEq
@[go_sem] def b18 (x : Trial) : List AV := [I x.Hazards, I x.Wire]
@[go_sem] theorem B8c {l : List Trial} {n : Nat} {a0 : Int} {a1 : Int} : (List.map b18 l).set n [I a0, I a1] = List.map b18 (l.set n (Trial.mk a0 a1)) := by rw [List.map_set]; rfl
def d5b : Option Int :=
 some (-1)
def g3c (s : List Int) (f : Int -> Option Bool) : Int -> Option (Out Int (Unit ⊕ Int))
 | x_8 =>
  if decide (x_8 < (List.length s : Int)) then
   (get s x_8).bind fun x9 =>
   (f x9).bind fun y10 =>
   if y10 then
    some (.br (.inr x_8))
   else
    some (.nx (wr (x_8 + 1)))
  else
   some (.br (.inl ()))
def d5a (s : List Int) (f : Int -> Option Bool) : Option Int :=
 (b0w (g3c s f) (0)).bind fun
  | (.inl ()) => d5b
  | (.inr r') => some r'
def d0x (O : Orac) : Prop := ∀ (s : List Int) (f_n : String) (f_a f_b : List AV) (f : Int -> Option Bool) (f_z : Frz (.fn f_n f_a f_b)) (f_h : ∀ z0 y, f z0 = some y -> Fn O f_n (f_a ++ [I z0] ++ f_b) (B y)) (r : Int) (hm0 : d5a s f = some r), Fn O "slices.IndexFunc[[]int,int]" [.fs 1 (List.map eI s), .fn f_n f_a f_b] (I r)
def b45 (s : List Int) (f : Int -> Option Bool) : Option Bool :=
 (d5a s f).bind fun y2 =>
 some (decide (0 <= y2))
def d0v (O : Orac) : Prop := ∀ (s : List Int) (f_n : String) (f_a f_b : List AV) (f : Int -> Option Bool) (f_z : Frz (.fn f_n f_a f_b)) (f_h : ∀ z0 y, f z0 = some y -> Fn O f_n (f_a ++ [I z0] ++ f_b) (B y)) (r : Bool) (hm0 : b45 s f = some r), Fn O "slices.ContainsFunc[[]int,int]" [.fs 1 (List.map eI s), .fn f_n f_a f_b] (B r)
structure circuit_state where
 c : Circuit
 hazards : Int
 closed : Int
 open_ : Int
 deriving Inhabited, DecidableEq
def x28 : Option Bool := some true
def x87 (O : Orac) : Prop := ∀ (r : Bool) (hm0 : x28 = some r), Fn O "newel/neweltop.measures" [] (B r)
def z6i (x : Int) : Option Int :=
 if decide (x = 0) then
  some 64
 else
  (shr .u64 (IntKind.wrap .u64 ((d05 .u64 x (IntKind.wrap .u64 (0 - x))) * 285870213051353865)) 58).bind fun q5 =>
  (get u3d q5).bind fun x6 =>
  some (IntKind.wrap .i64 x6)
def z7m (O : Orac) : Prop := ∀ (x : Int) (r : Int) (hm0 : z6i x = some r), Fn O "math/bits.TrailingZeros64" [.v (.int .u64 x)] (I r)
def B86 (x : Int) : Option Int :=
 (z6i x).bind fun y3 =>
 some y3
def z5w (O : Orac) : Prop := ∀ (x : Int) (r : Int) (hm0 : B86 x = some r), Fn O "math/bits.TrailingZeros" [.v (.int .u64 x)] (I r)
def x11 (n : Int) (low : Int) (high : Int) : Bool :=
 (decide (low <= n)) && (decide (n <= high))
def u1j (O : Orac) : Prop := ∀ (n : Int) (low : Int) (high : Int), Fn O "newel/faults.within" [I n, I low, I high] (B (x11 n low high))
structure Plant where
 Parts : Int
 Alarms : List (List Int)
 deriving Inhabited, DecidableEq
@[go_sem] def b2f (x : List Int) : List AV := [.fs 1 (List.map eI x)]
theorem b8i (x : List Int) : ∀ c ∈ b2f x, Frz c := (b0a (b0c fun a _ => b1t a) b0j)
theorem j7n (x : List Int) : (b2f x).length = 1 := rfl
@[go_sem] theorem o5i {l : List (List Int)} {n : Nat} {a0 : List Int} : (List.map b2f l).set n [.fs 1 (List.map eI a0)] = List.map b2f (l.set n a0) := by rw [List.map_set]; rfl
def z55 (p : Plant) (seen : List Bool) : Option Int :=
 if decide (¬(List.length seen : Int) = (List.length p.Alarms : Int)) then
  some 1
 else
  some 0
def z54 (x_23 : Int) : Option (Out Int (Unit ⊕ Int)) :=
 some (.nx (wr (x_23 + 1)))
def B8p (p : Plant) (x14 : List Int) : (Int × Int) -> Option (Out (Int × Int) (Unit ⊕ Int))
 | (last_7, x_29) =>
  if decide (x_29 < (List.length x14 : Int)) then
   (get x14 x_29).bind fun x20 =>
   if !(x11 x20 (wr (last_7 + 1)) (wr (p.Parts - 1))) then
    some (.br (.inr 101))
   else
    some (.nx (x20, wr (x_29 + 1)))
  else
   some (.br (.inl ()))
def z5b (p : Plant) : Int -> Option (Out Int (Unit ⊕ Int))
 | x_23 =>
  if decide (x_23 < (List.length p.Alarms : Int)) then
   (get p.Alarms x_23).bind fun x14 =>
   (b0w (B8p p x14) ((-1), 0)).bind fun
    | (.inl ()) => z54 x_23
    | (.inr r') => some (.br (.inr r'))
  else
   some (.br (.inl ()))
def z5a (p : Plant) (seen : List Bool) : Option Int :=
 if (!(x11 p.Parts 0 10)) || (decide (10 < (List.length p.Alarms : Int))) then
  some 101
 else
  (b0w (z5b p) (0)).bind fun
   | (.inl ()) => z55 p seen
   | (.inr r') => some r'
def z7i (O : Orac) : Prop := ∀ (p : Plant) (seen : List Bool) (r : Int) (hm0 : z5a p seen = some r), Fn O "newel/faults.plant" [.agg [I p.Parts, .fs 1 (List.map b2f p.Alarms)], .fs 1 (List.map eB seen)] (I r)
def c28 (part : Int) (c0 : Int) : Option Bool :=
 (shr .i64 c0 part).bind fun q2 =>
 some (decide ((b6y q2 1) = 1))
def z7f (O : Orac) : Prop := ∀ (part : Int) (c0 : Int) (r : Bool) (hm0 : c28 part c0 = some r), Fn O "newel/faults.explained$1" [I part, .fp [I c0] 0] (B r)
def z73 (set_7 : Int) : Option Int :=
 some set_7
def x12 (x_15 : Int) (set_7_1 : Int) : Option (Out (Int × Int) Int) :=
 some (.nx (set_7_1, wr (x_15 + 1)))
def z49 (p : Plant) (seen : List Bool) (broken : Int) : (Int × Int) -> Option (Out (Int × Int) Int)
 | (set_7, x_15) =>
  if decide (x_15 < (List.length p.Alarms : Int)) then
   (get p.Alarms x_15).bind fun x9 =>
   (b45 x9 (fun z12 => c28 z12 broken)).bind fun y13 =>
   (get seen x_15).bind fun x15 =>
   if !(b5c y13 x15) then
    (shl .i64 1 (wr (p.Parts + x_15))).bind fun q18 =>
    x12 x_15 (bor set_7 q18)
   else
    x12 x_15 set_7
  else
   some (.br set_7)
def z27 (p : Plant) (seen : List Bool) (broken : Int) : Option Int :=
 (b0w (z49 p seen broken) (broken, 0)).bind fun set_7 =>
 z73 set_7
def z7e (O : Orac) : Prop := ∀ (p : Plant) (seen : List Bool) (broken : Int) (r : Int) (hm0 : z27 p seen broken = some r), Fn O "newel/faults.explained" [.agg [I p.Parts, .fs 1 (List.map b2f p.Alarms)], .fs 1 (List.map eB seen), I broken] (I r)
def z6h (x : Int) : Option Int :=
 (shr .u64 x 1).bind fun q2 =>
 (shr .u64 (IntKind.wrap .u64 ((d05 .u64 q2 6148914691236517205) + (d05 .u64 x 6148914691236517205))) 2).bind fun q4 =>
 (shr .u64 (IntKind.wrap .u64 ((d05 .u64 q4 3689348814741910323) + (d05 .u64 (IntKind.wrap .u64 ((d05 .u64 q2 6148914691236517205) + (d05 .u64 x 6148914691236517205))) 3689348814741910323))) 4).bind fun q6 =>
 (shr .u64 (d05 .u64 (IntKind.wrap .u64 (q6 + (IntKind.wrap .u64 ((d05 .u64 q4 3689348814741910323) + (d05 .u64 (IntKind.wrap .u64 ((d05 .u64 q2 6148914691236517205) + (d05 .u64 x 6148914691236517205))) 3689348814741910323))))) 1085102592571150095) 8).bind fun q8 =>
 (shr .u64 (IntKind.wrap .u64 ((d05 .u64 (IntKind.wrap .u64 (q6 + (IntKind.wrap .u64 ((d05 .u64 q4 3689348814741910323) + (d05 .u64 (IntKind.wrap .u64 ((d05 .u64 q2 6148914691236517205) + (d05 .u64 x 6148914691236517205))) 3689348814741910323))))) 1085102592571150095) + q8)) 16).bind fun q10 =>
 (shr .u64 (IntKind.wrap .u64 ((IntKind.wrap .u64 ((d05 .u64 (IntKind.wrap .u64 (q6 + (IntKind.wrap .u64 ((d05 .u64 q4 3689348814741910323) + (d05 .u64 (IntKind.wrap .u64 ((d05 .u64 q2 6148914691236517205) + (d05 .u64 x 6148914691236517205))) 3689348814741910323))))) 1085102592571150095) + q8)) + q10)) 32).bind fun q12 =>
 some (b6y (IntKind.wrap .i64 (IntKind.wrap .u64 ((IntKind.wrap .u64 ((IntKind.wrap .u64 ((d05 .u64 (IntKind.wrap .u64 (q6 + (IntKind.wrap .u64 ((d05 .u64 q4 3689348814741910323) + (d05 .u64 (IntKind.wrap .u64 ((d05 .u64 q2 6148914691236517205) + (d05 .u64 x 6148914691236517205))) 3689348814741910323))))) 1085102592571150095) + q8)) + q10)) + q12))) 127)
def z7l (O : Orac) : Prop := ∀ (x : Int) (r : Int) (hm0 : z6h x = some r), Fn O "math/bits.OnesCount64" [.v (.int .u64 x)] (I r)
def l13 (x : Int) : Option Int :=
 (z6h x).bind fun y3 =>
 some y3
def z7k (O : Orac) : Prop := ∀ (x : Int) (r : Int) (hm0 : l13 x = some r), Fn O "math/bits.OnesCount" [.v (.int .u64 x)] (I r)
def z6g (x_0_2 : Int) (n_2_2 : Int) : Option Int :=
 (get (b3q (ByteArray.mk #[0, 1, 2, 2, 3, 3, 3, 3, 4, 4, 4, 4, 4, 4, 4, 4, 5, 5, 5, 5, 5, 5, 5, 5, 5, 5, 5, 5, 5, 5, 5, 5, 6, 6, 6, 6, 6, 6, 6, 6, 6, 6, 6, 6, 6, 6, 6, 6, 6, 6, 6, 6, 6, 6, 6, 6, 6, 6, 6, 6, 6, 6, 6, 6, 7, 7, 7, 7, 7, 7, 7, 7, 7, 7, 7, 7, 7, 7, 7, 7, 7, 7, 7, 7, 7, 7, 7, 7, 7, 7, 7, 7, 7, 7, 7, 7, 7, 7, 7, 7, 7, 7, 7, 7, 7, 7, 7, 7, 7, 7, 7, 7, 7, 7, 7, 7, 7, 7, 7, 7, 7, 7, 7, 7, 7, 7, 7, 7, 8, 8, 8, 8, 8, 8, 8, 8, 8, 8, 8, 8, 8, 8, 8, 8, 8, 8, 8, 8, 8, 8, 8, 8, 8, 8, 8, 8, 8, 8, 8, 8, 8, 8, 8, 8, 8, 8, 8, 8, 8, 8, 8, 8, 8, 8, 8, 8, 8, 8, 8, 8, 8, 8, 8, 8, 8, 8, 8, 8, 8, 8, 8, 8, 8, 8, 8, 8, 8, 8, 8, 8, 8, 8, 8, 8, 8, 8, 8, 8, 8, 8, 8, 8, 8, 8, 8, 8, 8, 8, 8, 8, 8, 8, 8, 8, 8, 8, 8, 8, 8, 8, 8, 8, 8, 8, 8, 8, 8, 8, 8, 8, 8, 8, 8, 8, 8, 8, 8, 8, 8, 8, 8, 8, 8, 8, 8, 8])) (IntKind.wrap .u8 x_0_2)).bind fun x8 =>
 some (wr (n_2_2 + (IntKind.wrap .i64 x8)))
def z6f (x_0_1 : Int) (n_2_1 : Int) : Option Int :=
 if decide (256 <= x_0_1) then
  (shr .u64 x_0_1 8).bind fun q11 =>
  z6g q11 (wr (n_2_1 + 8))
 else
  z6g x_0_1 n_2_1
def z6e (x_0 : Int) (n_2 : Int) : Option Int :=
 if decide (65536 <= x_0) then
  (shr .u64 x_0 16).bind fun q14 =>
  z6f q14 (wr (n_2 + 16))
 else
  z6f x_0 n_2
def z81 (x : Int) : Option Int :=
 if decide (4294967296 <= x) then
  (shr .u64 x 32).bind fun q17 =>
  z6e q17 32
 else
  z6e x 0
def z7j (O : Orac) : Prop := ∀ (x : Int) (r : Int) (hm0 : z81 x = some r), Fn O "math/bits.Len64" [.v (.int .u64 x)] (I r)
def z6d (x : Int) : Option Int :=
 (z81 x).bind fun y3 =>
 some y3
def z5v (O : Orac) : Prop := ∀ (x : Int) (r : Int) (hm0 : z6d x = some r), Fn O "math/bits.Len" [.v (.int .u64 x)] (I r)
def z6u (data_1 : List Int) : Option (List Int) :=
 some data_1
def z6v (i_8 : Int) (data_0_1 : List Int) : Option (Out ((List Int) × Int) (((List Int)))) :=
 some (.nx (data_0_1, wr (i_8 + 1)))
def B8g (a : Int) (cmp : Int -> Int -> Option Int) : ((List Int) × Int) -> Option (Out ((List Int) × Int) (((List Int))))
 | (data_0_1, j_9) =>
  (if decide (a < j_9) then (get data_0_1 j_9).bind fun x13 =>
  (get data_0_1 (wr (j_9 - 1))).bind fun x14 =>
  (cmp x13 x14).bind fun y15 =>
  some (decide (y15 < 0)) else some false).bind fun c16 =>
  if c16 then
   (get data_0_1 (wr (j_9 - 1))).bind fun x24 =>
   (get data_0_1 j_9).bind fun x25 =>
   (get (List.set data_0_1 (Int.toNat j_9) x24) (wr (j_9 - 1))).bind fun x26 =>
   some (.nx ((List.set (List.set data_0_1 (Int.toNat j_9) x24) (Int.toNat (wr (j_9 - 1))) x25), wr (j_9 - 1)))
  else
   some (.br data_0_1)
def z5r (a : Int) (b : Int) (cmp : Int -> Int -> Option Int) : ((List Int) × Int) -> Option (Out ((List Int) × Int) (((List Int))))
 | (data_0, i_8) =>
  if decide (i_8 < b) then
   (b0w (B8g a cmp) (data_0, i_8)).bind fun data_0_1 =>
   z6v i_8 data_0_1
  else
   some (.br data_0)
def x73 (data : List Int) (a : Int) (b : Int) (cmp : Int -> Int -> Option Int) : Option (List Int) :=
 (b0w (z5r a b cmp) (data, wr (a + 1))).bind fun data_1 =>
 z6u data_1
def x80 (O : Orac) : Prop := ∀ (data : List Int) (i_0 : Nat) (a : Int) (b : Int) (cmp_n : String) (cmp_a cmp_b : List AV) (cmp : Int -> Int -> Option Int) (cmp_z : Frz (.fn cmp_n cmp_a cmp_b)) (cmp_h : ∀ z0 z1 y, cmp z0 z1 = some y -> Fn O cmp_n (cmp_a ++ [I z0, I z1] ++ cmp_b) (I y)) (h0 : Heap) (ob_p0 : h0.ob i_0 = some (1, List.map eI data)) (lt_p0 : i_0 < h0.nx) (r : List Int) (hm0 : x73 data a b cmp = some r), b6e O "slices.insertionSortCmpFunc[int]" [.rs i_0 0 (List.length data), I a, I b, .fn cmp_n cmp_a cmp_b] h0 (fun v h => v = .tup [] /\ h.ob i_0 = some (1, List.map eI r) /\ List.length r = List.length data /\ (∀ j, j < h0.nx -> ¬j = i_0 -> h.ob j = h0.ob j) /\ h0.nx <= h.nx)
def z5q (x : List Int) (cmp : Int -> Int -> Option Int) : Option (List Int) :=
 if 0 < x.length /\ x.length <= 12 then x73 x 0 (x.length : Int) cmp else none
def z5x (O : Orac) : Prop := ∀ (x : List Int) (v_0 : AV) (cmp_n : String) (cmp_a cmp_b : List AV) (cmp : Int -> Int -> Option Int) (cmp_z : Frz (.fn cmp_n cmp_a cmp_b)) (cmp_h : ∀ z0 z1 y, cmp z0 z1 = some y -> Fn O cmp_n (cmp_a ++ [I z0, I z1] ++ cmp_b) (I y)) (h0 : Heap) (ow_p0 : b2a h0 v_0 1 (List.map eI x)) (r : List Int) (hm0 : z5q x cmp = some r), b6e O "slices.SortFunc[[]int,int]" [v_0, .fn cmp_n cmp_a cmp_b] h0 (fun v h => v = .tup [] /\ b2a h v_0 1 (List.map eI r) /\ (∀ j, j < h0.nx -> b07 v_0 j -> h.ob j = h0.ob j) /\ h0.nx <= h.nx)
def z74 (l_3 : List Int) : Option (List Int) :=
 some l_3
def x19 : (Int × (List Int)) -> Option (Out (Int × (List Int)) (((List Int))))
 | (set_0, l_3) =>
  if decide (¬set_0 = 0) then
   (B86 (IntKind.wrap .u64 set_0)).bind fun y9 =>
   (ap 8 l_3 ([y9])).bind fun l10 =>
   some (.nx (b6y set_0 (wr (set_0 - 1)), l10))
  else
   some (.br l_3)
def y31 (set : Int) : Option (List Int) :=
 (b0w (x19) (set, [])).bind fun l_3 =>
 z74 l_3
def z5u (O : Orac) : Prop := ∀ (set : Int) (r : List Int) (hm0 : y31 set = some r), Fn O "newel/faults.members" [I set] (.fs 1 (List.map eI r))
def s26 (x : Int) : Bool :=
 decide (¬x = x)
def z7c (O : Orac) : Prop := ∀ (x : Int), Fn O "cmp.isNaN[int]" [I x] (B (s26 x))
def c12 (x : Int) (y : Int) : Int :=
 if (s26 x) then
  if (s26 y) then
   0
  else
   (-1)
 else
  if (s26 y) then
   1
  else
   if decide (x < y) then
    (-1)
   else
    if decide (y < x) then
     1
    else
     0
def z7b (O : Orac) : Prop := ∀ (x : Int) (y : Int), Fn O "cmp.Compare[int]" [I x, I y] (I (c12 x y))
def z5o (s1_ : List Int) (s2_ : List Int) : Option Int :=
 if decide ((List.length s1_ : Int) < (List.length s2_ : Int)) then
  some (-1)
 else
  some 0
def l16 (s1_ : List Int) (s2_ : List Int) : Int -> Option (Out Int (Unit ⊕ Int))
 | x_11 =>
  if decide (x_11 < (List.length s1_ : Int)) then
   (get s1_ x_11).bind fun x10 =>
   if decide ((List.length s2_ : Int) <= x_11) then
    some (.br (.inr 1))
   else
    (get s2_ x_11).bind fun x14 =>
    if decide (¬(c12 x10 x14) = 0) then
     some (.br (.inr (c12 x10 x14)))
    else
     some (.nx (wr (x_11 + 1)))
  else
   some (.br (.inl ()))
def B8x (s1_ : List Int) (s2_ : List Int) : Option Int :=
 (b0w (l16 s1_ s2_) (0)).bind fun
  | (.inl ()) => z5o s1_ s2_
  | (.inr r') => some r'
def z7q (O : Orac) : Prop := ∀ (s1_ : List Int) (s2_ : List Int) (r : Int) (hm0 : B8x s1_ s2_ = some r), Fn O "slices.Compare[[]int,int]" [.fs 1 (List.map eI s1_), .fs 1 (List.map eI s2_)] (I r)
def c71 (a : Int) (b : Int) : Option Int :=
 (y31 a).bind fun y4 =>
 (y31 b).bind fun y5 =>
 (B8x y4 y5).bind fun y6 =>
 some y6
def z7h (O : Orac) : Prop := ∀ (a : Int) (b : Int) (r : Int) (hm0 : c71 a b = some r), Fn O "newel/faults.fewest$1" [I a, I b] (I r)
def B8o (p : Plant) (seen : List Bool) (q10 : Int) : ((List Int) × Int) -> Option (Out ((List Int) × Int) (List Int))
 | (l, i) =>
  if decide (i < q10) then
   (z27 p seen i).bind fun s =>
   match l with
   | [] => some (.nx ([s], wr (i + 1)))
   | x :: xs =>
    (l13 (IntKind.wrap .u64 s)).bind fun c1 =>
    (l13 (IntKind.wrap .u64 x)).bind fun c2 =>
    if decide (c1 < c2) then some (.nx ([s], wr (i + 1)))
    else if decide (c1 = c2) then (ap 8 (x :: xs) [s]).bind fun l2 => some (.nx (l2, wr (i + 1)))
    else some (.nx (x :: xs, wr (i + 1)))
  else some (.br l)
def B8n (p : Plant) (seen : List Bool) : Option (List Int) :=
 (shl .i64 1 p.Parts).bind fun q10 =>
 (b0w (B8o p seen q10) ([], 0)).bind fun l =>
 z5q l (fun z0 z1 => c71 z0 z1)
def z7g (O : Orac) : Prop := ∀ (p : Plant) (seen : List Bool) (r : List Int) (hm0 : B8n p seen = some r), Fn O "newel/faults.fewest" [.agg [I p.Parts, .fs 1 (List.map b2f p.Alarms)], .fs 1 (List.map eB seen)] (.fs 1 (List.map eI r))
def z72 (l_7 : List (List Int)) : Option ((List (List Int)) × Int) :=
 some (l_7, 0)
def z26 (y6 : List Int) : ((List (List Int)) × Int) -> Option (Out ((List (List Int)) × Int) (((List (List Int)))))
 | (l_7, x_20) =>
  if decide (x_20 < (List.length y6 : Int)) then
   (get y6 x_20).bind fun x14 =>
   (y31 x14).bind fun y17 =>
   (ap 24 l_7 ([y17])).bind fun l18 =>
   some (.nx (l18, wr (x_20 + 1)))
  else
   some (.br l_7)
def s94 (p : Plant) (seen : List Bool) : Option ((List (List Int)) × Int) :=
 (z5a p seen).bind fun y2 =>
 if decide (¬y2 = 0) then
  some ([], y2)
 else
  (B8n p seen).bind fun y6 =>
  (b0w (z26 y6) ([], 0)).bind fun l_7 =>
  z72 l_7
def z7d (O : Orac) : Prop := ∀ (p : Plant) (seen : List Bool) (r : (List (List Int)) × Int) (hm0 : s94 p seen = some r), Fn O "newel/faults.All" [.agg [I p.Parts, .fs 1 (List.map b2f p.Alarms)], .fs 1 (List.map eB seen)] (.tup [.fs 1 (List.map b2f r.1), I r.2])
def b40 (n : Int) (low : Int) (high : Int) : Bool :=
 (decide (low <= n)) && (decide (n <= high))
def B91 (O : Orac) : Prop := ∀ (n : Int) (low : Int) (high : Int), Fn O "newel/newelref08.from" [I n, I low, I high] (B (b40 n low high))
def C0o : Option Bool :=
 some false
def B8w (l : List Int) (n : Int) : Int -> Option (Out Int (Unit ⊕ Bool))
 | i_5 =>
  if decide (i_5 < (List.length l : Int)) then
   (get l i_5).bind fun x8 =>
   if decide (x8 = n) then
    some (.br (.inr true))
   else
    some (.nx (wr (i_5 + 1)))
  else
   some (.br (.inl ()))
def B9g (l : List Int) (n : Int) : Option Bool :=
 (b0w (B8w l n) (0)).bind fun
  | (.inl ()) => C0o
  | (.inr r') => some r'
def B92 (O : Orac) : Prop := ∀ (l : List Int) (n : Int) (r : Bool) (hm0 : B9g l n = some r), Fn O "newel/newelref08.has" [.fs 1 (List.map eI l), I n] (B r)
structure Passage where
 A : Int
 B : Int
 Kind : Int
 Ticks : Int
 Wide : Int
 Machine : Int
 Still : Int
 deriving Inhabited, DecidableEq
structure Station where
 Places : Int
 Passages : List Passage
 Exits : List Int
 deriving Inhabited, DecidableEq
@[go_sem] def z9o (x : Passage) : List AV := [I x.A, I x.B, I x.Kind, I x.Ticks, I x.Wide, I x.Machine, I x.Still]
theorem c82 (x : Passage) : ∀ c ∈ z9o x, Frz c := (b0a (b0e _) (b0a (b0e _) (b0a (b0e _) (b0a (b0e _) (b0a (b0e _) (b0a (b0e _) (b0a (b0e _) b0j)))))))
@[go_sem] theorem B8b {l : List Passage} {n : Nat} {a0 : Int} {a1 : Int} {a2 : Int} {a3 : Int} {a4 : Int} {a5 : Int} {a6 : Int} : (List.map z9o l).set n [I a0, I a1, I a2, I a3, I a4, I a5, I a6] = List.map z9o (l.set n (Passage.mk a0 a1 a2 a3 a4 a5 a6)) := by rw [List.map_set]; rfl
def C0n : Option Int :=
 some 0
def B8v (s : Station) : Int -> Option (Out Int (Unit ⊕ Int))
 | i_6 =>
  if decide (i_6 < (List.length s.Exits : Int)) then
   (get s.Exits i_6).bind fun x16 =>
   (if !(b40 x16 0 (wr (s.Places - 1))) then some true else (if decide (0 < i_6) then (get s.Exits (wr (i_6 - 1))).bind fun x17 =>
   some (decide (x16 <= x17)) else some false).bind fun c18 =>
   some c18).bind fun c19 =>
   if c19 then
    some (.br (.inr 80))
   else
    some (.nx (wr (i_6 + 1)))
  else
   some (.br (.inl ()))
def B9f (s : Station) : Option Int :=
 (b0w (B8v s) (0)).bind fun
  | (.inl ()) => C0n
  | (.inr r') => some r'
def B9e (i_4 : Int) (machines_3_1 : List Int) : Option (Out ((List Int) × Int) (Unit ⊕ Int)) :=
 some (.nx (machines_3_1, wr (i_4 + 1)))
def B8f (i_4 : Int) (x30 : Passage) (machines_3_1 : List Int) : Option (Out ((List Int) × Int) (Unit ⊕ Int)) :=
 if decide (x30.Kind = 3) then
  if !(b40 x30.Still 1 20) then
   some (.br (.inr 80))
  else
   B9e i_4 machines_3_1
 else
  if decide (¬x30.Still = 0) then
   some (.br (.inr 80))
  else
   B9e i_4 machines_3_1
def B9d (s : Station) : ((List Int) × Int) -> Option (Out ((List Int) × Int) (Unit ⊕ Int))
 | (machines_3, i_4) =>
  if decide (i_4 < (List.length s.Passages : Int)) then
   (get s.Passages i_4).bind fun x30 =>
   if (((((!(b40 x30.A 0 (wr (s.Places - 1)))) || (!(b40 x30.B 0 (wr (s.Places - 1))))) || (decide (x30.A = x30.B))) || (!(b40 x30.Ticks 1 20))) || (!(b40 x30.Wide 1 50))) || (!(b40 x30.Kind 1 5)) then
    some (.br (.inr 80))
   else
    if (decide (x30.Kind = 3)) || (decide (x30.Kind = 4)) then
     (if !(b40 x30.Machine 0 11) then some true else (B9g machines_3 x30.Machine).bind fun y47 =>
     some y47).bind fun c48 =>
     if c48 then
      some (.br (.inr 80))
     else
      (ap 8 machines_3 ([x30.Machine])).bind fun l53 =>
      B8f i_4 x30 l53
    else
     if decide (¬x30.Machine = (-1)) then
      some (.br (.inr 80))
     else
      B8f i_4 x30 machines_3
  else
   some (.br (.inl ()))
def B9c (s : Station) : Option Int :=
 if (!(b40 s.Places 1 10)) || (decide (24 < (List.length s.Passages : Int))) then
  some 80
 else
  (b0w (B9d s) ([], 0)).bind fun
   | (.inl ()) => B9f s
   | (.inr r') => some r'
def B90 (O : Orac) : Prop := ∀ (s : Station) (r : Int) (hm0 : B9c s = some r), Fn O "newel/newelref08.Check" [.agg [I s.Places, .fs 7 (List.map z9o s.Passages), .fs 1 (List.map eI s.Exits)]] (I r)
def b53 (n : Int) (low : Int) (high : Int) : Bool :=
 (decide (low <= n)) && (decide (n <= high))
def B8j (O : Orac) : Prop := ∀ (n : Int) (low : Int) (high : Int), Fn O "newel/ways.within" [I n, I low, I high] (B (b53 n low high))
def B81 (p : Passage) (x_40 : Bool) : Bool :=
 if x_40 then
  (decide (p.Machine = (-1))) && (decide (p.Still = 0))
 else
  if decide (p.Kind = 3) then
   (b53 p.Machine 0 11) && (b53 p.Still 1 20)
  else
   if decide (p.Kind = 4) then
    (b53 p.Machine 0 11) && (decide (p.Still = 0))
   else
    false
def B80 (p : Passage) (places : Int) : Bool :=
 if ((((!(b53 p.A 0 (wr (places - 1)))) || (!(b53 p.B 0 (wr (places - 1))))) || (decide (p.A = p.B))) || (!(b53 p.Ticks 1 20))) || (!(b53 p.Wide 1 50)) then
  false
 else
  if decide (p.Kind = 1) then
   B81 p (decide (p.Kind = 1))
  else
   if decide (p.Kind = 2) then
    B81 p (decide (p.Kind = 2))
   else
    B81 p (decide (p.Kind = 5))
def B96 (O : Orac) : Prop := ∀ (p : Passage) (places : Int), Fn O "newel/ways.passage" [.agg [I p.A, I p.B, I p.Kind, I p.Ticks, I p.Wide, I p.Machine, I p.Still], I places] (B (B80 p places))
def C0u : Option Int :=
 some 0
def B9k (s : Station) : (Int × Int) -> Option (Out (Int × Int) (Unit ⊕ Int))
 | (last_6, x_51) =>
  if decide (x_51 < (List.length s.Exits : Int)) then
   (get s.Exits x_51).bind fun x13 =>
   if !(b53 x13 (wr (last_6 + 1)) (wr (s.Places - 1))) then
    some (.br (.inr 80))
   else
    some (.nx (x13, wr (x_51 + 1)))
  else
   some (.br (.inl ()))
def B9l (s : Station) : Option Int :=
 (b0w (B9k s) ((-1), 0)).bind fun
  | (.inl ()) => C0u
  | (.inr r') => some r'
def B9j (s : Station) : ((List (Int × Int)) × Int) -> Option (Out ((List (Int × Int)) × Int) (Unit ⊕ Int))
 | (machines_3, x_23) =>
  if decide (x_23 < (List.length s.Passages : Int)) then
   (get s.Passages x_23).bind fun x22 =>
   if !(B80 x22 s.Places) then
    some (.br (.inr 80))
   else
    if (decide (0 <= x22.Machine)) && (decide (1 < (b2w (b3w machines_3 x22.Machine (wr ((b2w machines_3 x22.Machine 0) + 1))) x22.Machine 0))) then
     some (.br (.inr 80))
    else
     some (.nx ((b3w machines_3 x22.Machine (wr ((b2w machines_3 x22.Machine 0) + 1))), wr (x_23 + 1)))
  else
   some (.br (.inl ()))
def B9i (s : Station) : Option Int :=
 if (!(b53 s.Places 1 10)) || (decide (24 < (List.length s.Passages : Int))) then
  some 80
 else
  (b0w (B9j s) (([] : List (Int × Int)), 0)).bind fun
   | (.inl ()) => B9l s
   | (.inr r') => some r'
def B94 (O : Orac) : Prop := ∀ (s : Station) (r : Int) (hm0 : B9i s = some r), Fn O "newel/ways.Check" [.agg [I s.Places, .fs 7 (List.map z9o s.Passages), .fs 1 (List.map eI s.Exits)]] (I r)
def C0w : Option Bool :=
 some true
def B9p (s : Station) (l : List Int) : Int -> Option (Out Int (Unit ⊕ Bool))
 | x_9 =>
  if decide (x_9 < (List.length l : Int)) then
   (get l x_9).bind fun x8 =>
   if !(b53 x8 0 (wr (s.Places - 1))) then
    some (.br (.inr false))
   else
    some (.nx (wr (x_9 + 1)))
  else
   some (.br (.inl ()))
def B9o (s : Station) (l : List Int) : Option Bool :=
 (b0w (B9p s l) (0)).bind fun
  | (.inl ()) => C0w
  | (.inr r') => some r'
def B97 (O : Orac) : Prop := ∀ (s : Station) (l : List Int) (r : Bool) (hm0 : B9o s l = some r), Fn O "newel/ways.place" [.agg [I s.Places, .fs 7 (List.map z9o s.Passages), .fs 1 (List.map eI s.Exits)], .fs 1 (List.map eI l)] (B r)
def B8z (s : Station) (out : Int) (places : List Int) : Option Int :=
 (B9i s).bind fun y2 =>
 if decide (¬y2 = 0) then
  some y2
 else
  (if !(b53 out 0 4095) then some true else (B9o s places).bind fun y7 =>
  some (!y7)).bind fun c8 =>
  if c8 then
   some 1
  else
   some 0
def B9s (O : Orac) : Prop := ∀ (s : Station) (out : Int) (places : List Int) (r : Int) (hm0 : B8z s out places = some r), Fn O "newel/ways.asked" [.agg [I s.Places, .fs 7 (List.map z9o s.Passages), .fs 1 (List.map eI s.Exits)], I out, .fs 1 (List.map eI places)] (I r)
structure ways_level where
 Station : Station
 out : Int
 help : Bool
 deriving Inhabited, DecidableEq
def x81 (s : ways_level) (p : Passage) (from_ : Int) : Option Int :=
 (if decide (p.Kind = 1) then some true else (if decide (p.Kind = 4) then (shr .i64 s.out p.Machine).bind fun q4 =>
 some (decide ((b6y q4 1) = 0)) else some false).bind fun c5 =>
 some c5).bind fun c6 =>
 if !(c6 || ((decide (p.Kind = 5)) && s.help)) then
  some (-1)
 else
  if decide (p.A = from_) then
   some p.B
  else
   if decide (p.B = from_) then
    some p.A
   else
    some (-1)
def B9z (O : Orac) : Prop := ∀ (s : ways_level) (p : Passage) (from_ : Int) (r : Int) (hm0 : x81 s p from_ = some r), Fn O "(newel/ways.level).other" [.agg [I s.Station.Places, .fs 7 (List.map z9o s.Station.Passages), .fs 1 (List.map eI s.Station.Exits), I s.out, B s.help], .agg [I p.A, I p.B, I p.Kind, I p.Ticks, I p.Wide, I p.Machine, I p.Still], I from_] (I r)
def B99 (ticks_5_1 : List Int) : Option (List Int) :=
 some ticks_5_1
def B98 (ticks_5_2 : List Int) (more_7_1 : Bool) : Option (Out ((List Int) × Bool) (((List Int)))) :=
 some (.nx (ticks_5_2, more_7_1))
def B83 (x_33 : Int) (ticks_5_3 : List Int) (more_7_2 : Bool) : Option (Out ((List Int) × Bool × Int) (((List Int) × Bool))) :=
 some (.nx (ticks_5_3, more_7_2, wr (x_33 + 1)))
def x52 (x_40 : Int) (ticks_5_4 : List Int) (more_7_3 : Bool) : Option (Out ((List Int) × Bool × Int) (((List Int) × Bool))) :=
 some (.nx (ticks_5_4, more_7_3, wr (x_40 + 1)))
def x18 (s : ways_level) (x_33 : Int) : ((List Int) × Bool × Int) -> Option (Out ((List Int) × Bool × Int) (((List Int) × Bool)))
 | (ticks_5_3, more_7_2, x_40) =>
  if decide (x_40 < (List.length s.Station.Passages : Int)) then
   (get s.Station.Passages x_40).bind fun x25 =>
   (x81 s x25 x_33).bind fun y27 =>
   (if decide (y27 < 0) then some true else (get ticks_5_3 y27).bind fun x30 =>
   some (decide (x30 < 0))).bind fun c31 =>
   if c31 then
    x52 x_40 ticks_5_3 more_7_2
   else
    (get ticks_5_3 y27).bind fun x36 =>
    (get ticks_5_3 x_33).bind fun x38 =>
    if (decide (x38 < 0)) || (decide ((wr (x36 + x25.Ticks)) < x38)) then
     x52 x_40 (List.set ticks_5_3 (Int.toNat x_33) (wr (x36 + x25.Ticks))) true
    else
     x52 x_40 ticks_5_3 more_7_2
  else
   some (.br (ticks_5_3, more_7_2))
def s17 (s : ways_level) : ((List Int) × Bool × Int) -> Option (Out ((List Int) × Bool × Int) (((List Int) × Bool)))
 | (ticks_5_2, more_7_1, x_33) =>
  if decide (x_33 < s.Station.Places) then
   (b0w (x18 s x_33) (ticks_5_2, more_7_1, 0)).bind fun
    | (ticks_5_3, more_7_2) => B83 x_33 ticks_5_3 more_7_2
  else
   some (.br (ticks_5_2, more_7_1))
def x45 (s : ways_level) : ((List Int) × Bool) -> Option (Out ((List Int) × Bool) (((List Int))))
 | (ticks_5_1, more_7) =>
  if more_7 then
   (b0w (s17 s) (ticks_5_1, false, 0)).bind fun
    | (ticks_5_2, more_7_1) => B98 ticks_5_2 more_7_1
  else
   some (.br ticks_5_1)
def B84 (s : ways_level) (to_ : Int) (ticks_5 : List Int) : Option (List Int) :=
 (get ticks_5 to_).bind fun x6 =>
 (b0w (x45 s) ((List.set ticks_5 (Int.toNat to_) 0), true)).bind fun ticks_5_1 =>
 B99 ticks_5_1
def B8l (l2 : List Int) : ((List Int) × Int) -> Option (Out ((List Int) × Int) (((List Int))))
 | (ticks_5, x_19) =>
  if decide (x_19 < ((List.length l2 : Nat) : Int)) then
   (get ticks_5 x_19).bind fun x49 =>
   some (.nx ((List.set ticks_5 (Int.toNat x_19) (-1)), wr (x_19 + 1)))
  else
   some (.br ticks_5)
def B8k (s : ways_level) (to_ : Int) : Option (List Int) :=
 (mks 8 s.Station.Places 0).bind fun l2 =>
 (b0w (B8l l2) (l2, 0)).bind fun ticks_5 =>
 B84 s to_ ticks_5
def B9y (O : Orac) : Prop := ∀ (s : ways_level) (to_ : Int) (r : List Int) (hm0 : B8k s to_ = some r), Fn O "(newel/ways.level).far" [.agg [I s.Station.Places, .fs 7 (List.map z9o s.Station.Passages), .fs 1 (List.map eI s.Station.Exits), I s.out, B s.help], I to_] (.fs 1 (List.map eI r))
def b61 (s : ways_level) (from_ : Int) (to_ : Int) : Option Bool :=
 (B8k s to_).bind fun y3 =>
 (get y3 from_).bind fun x4 =>
 some (decide (0 <= x4))
def B9r (O : Orac) : Prop := ∀ (s : ways_level) (from_ : Int) (to_ : Int) (r : Bool) (hm0 : b61 s from_ to_ = some r), Fn O "(newel/ways.level).joined" [.agg [I s.Station.Places, .fs 7 (List.map z9o s.Station.Passages), .fs 1 (List.map eI s.Station.Exits), I s.out, B s.help], I from_, I to_] (B r)
def C0v (needed_13 : List Int) : Option ((List Int) × Int) :=
 some (needed_13, 0)
def B9n (x_32 : Int) (needed_13_1 : List Int) : Option (Out ((List Int) × Int) (((List Int)))) :=
 some (.nx (needed_13_1, wr (x_32 + 1)))
def B9m (s : Station) (out : Int) (help : Bool) (from_ : Int) (to_ : Int) : ((List Int) × Int) -> Option (Out ((List Int) × Int) (((List Int))))
 | (needed_13, x_32) =>
  if decide (x_32 < 12) then
   (shr .i64 out x_32).bind fun q20 =>
   (if decide ((b6y q20 1) = 0) then (shl .i64 1 x_32).bind fun q21 =>
   (b61 (ways_level.mk s (bor out q21) help) from_ to_).bind fun y22 =>
   some (!y22) else some false).bind fun c23 =>
   if c23 then
    (ap 8 needed_13 ([x_32])).bind fun l27 =>
    B9n x_32 l27
   else
    B9n x_32 needed_13
  else
   some (.br needed_13)
def B8i (s : Station) (out : Int) (help : Bool) (from_ : Int) (to_ : Int) : Option ((List Int) × Int) :=
 (B8z s out ([from_, to_])).bind fun y2 =>
 if decide (¬y2 = 0) then
  some ([], y2)
 else
  (b61 (ways_level.mk s out help) from_ to_).bind fun y6 =>
  if !y6 then
   some ([], 3)
  else
   (b0w (B9m s out help from_ to_) ([], 0)).bind fun needed_13 =>
   C0v needed_13
def B95 (O : Orac) : Prop := ∀ (s : Station) (out : Int) (help : Bool) (from_ : Int) (to_ : Int) (r : (List Int) × Int) (hm0 : B8i s out help from_ to_ = some r), Fn O "newel/ways.Needed" [.agg [I s.Places, .fs 7 (List.map z9o s.Passages), .fs 1 (List.map eI s.Exits)], I out, B help, I from_, I to_] (.tup [.fs 1 (List.map eI r.1), I r.2])
def C0t : Option (Int × Int × Bool × Int) :=
 some (0, 0, false, 0)
def C0s (x_30 : Int) : Option (Out Int (Unit ⊕ ((Int × Int × Bool × Int)))) :=
 some (.nx (wr (x_30 + 1)))
def x37 (s : Station) (out : Int) (help : Bool) (x13 : Int) (l15 : List Int) : Int -> Option (Out Int (Unit ⊕ ((Int × Int × Bool × Int))))
 | x_40 =>
  if decide (x_40 < (List.length l15 : Int)) then
   (get l15 x_40).bind fun x21 =>
   (b61 (ways_level.mk s out help) x13 x21).bind fun y23 =>
   if !y23 then
    some (.br (.inr (x13, x21, true, 0)))
   else
    some (.nx (wr (x_40 + 1)))
  else
   some (.br (.inl ()))
def y14 (s : Station) (out : Int) (help : Bool) (l : List Int) : Int -> Option (Out Int (Unit ⊕ ((Int × Int × Bool × Int))))
 | x_30 =>
  if decide (x_30 < (List.length l : Int)) then
   (get l x_30).bind fun x13 =>
   (sub l (wr (x_30 + 1)) (List.length l : Int)).bind fun l15 =>
   (b0w (x37 s out help x13 l15) (0)).bind fun
    | (.inl ()) => C0s x_30
    | (.inr r') => some (.br (.inr r'))
  else
   some (.br (.inl ()))
def B9h (s : Station) (out : Int) (help : Bool) (l : List Int) : Option (Int × Int × Bool × Int) :=
 (B8z s out l).bind fun y2 =>
 if decide (¬y2 = 0) then
  some (0, 0, false, y2)
 else
  (b0w (y14 s out help l) (0)).bind fun
   | (.inl ()) => C0t
   | (.inr r') => some r'
def B93 (O : Orac) : Prop := ∀ (s : Station) (out : Int) (help : Bool) (l : List Int) (r : Int × Int × Bool × Int) (hm0 : B9h s out help l = some r), Fn O "newel/ways.Apart" [.agg [I s.Places, .fs 7 (List.map z9o s.Passages), .fs 1 (List.map eI s.Exits)], I out, B help, .fs 1 (List.map eI l)] (.tup [I r.1, I r.2.1, B r.2.2.1, I r.2.2.2])
structure neweltop_Missed where
 Lift : Int
 Pairs : List (Int × Int)
 deriving Inhabited, DecidableEq
@[go_sem] def z9n (x : Int × Int) : List AV := [I x.1, I x.2]
theorem C1y (x : Int × Int) : ∀ c ∈ z9n x, Frz c := (b0a (b0e _) (b0a (b0e _) b0j))
@[go_sem] theorem B8a {l : List (Int × Int)} {n : Nat} {a0 : Int} {a1 : Int} : (List.map z9n l).set n [I a0, I a1] = List.map z9n (l.set n (a0, a1)) := by rw [List.map_set]; rfl
def B8e (some_11 : Bool) (found_23 : Bool) : Option Bool :=
 (if b5c found_23 some_11 then (x28).bind fun y30 =>
 some y30 else some false).bind fun c31 =>
 some c31
def y11 (x : neweltop_Missed) (some_11 : Bool) (y22 : (List (List Int)) × Int) : (Bool × Int) -> Option (Out (Bool × Int) (Bool ⊕ Bool))
 | (found_23, i_24) =>
  if decide (i_24 < (List.length y22.1 : Int)) then
   (if some_11 then (get y22.1 i_24).bind fun x42 =>
   some (decide (¬(List.length x42 : Int) = 1)) else some false).bind fun c43 =>
   (if c43 then some true else (if !some_11 then (get y22.1 i_24).bind fun x44 =>
   some (decide (¬(List.length x44 : Int) = 0)) else some false).bind fun c45 =>
   some c45).bind fun c46 =>
   if c46 then
    some (.br (.inr false))
   else
    (if found_23 then some true else (if some_11 then (get y22.1 i_24).bind fun x57 =>
    (get x57 0).bind fun x58 =>
    some (decide (x58 = x.Lift)) else some false).bind fun c59 =>
    some c59).bind fun c60 =>
    some (.nx (c60, wr (i_24 + 1)))
  else
   some (.br (.inl found_23))
def B9b (x : neweltop_Missed) (p_9_1 : List (List Int)) (seen_10 : List Bool) (some_11 : Bool) : Option Bool :=
 (s94 (Plant.mk 10 p_9_1) seen_10).bind fun y22 =>
 if (decide (¬y22.2 = 0)) || (decide ((List.length y22.1 : Int) = 0)) then
  some false
 else
  (b0w (y11 x some_11 y22) (false, 0)).bind fun
   | (.inl found_23) => B8e some_11 found_23
   | (.inr r') => some r'
def B89 (s : Station) (help : Bool) (x : neweltop_Missed) : ((List (List Int)) × (List Bool) × Bool × Int) -> Option (Out ((List (List Int)) × (List Bool) × Bool × Int) (((List (List Int)) × (List Bool) × Bool) ⊕ Bool))
 | (p_9_1, seen_10, some_11, i_12) =>
  if decide (i_12 < (List.length x.Pairs : Int)) then
   (get x.Pairs i_12).bind fun x69 =>
   if (((decide (x69.1 < 0)) || (decide (s.Places <= x69.1))) || (decide (x69.2 < 0))) || (decide (s.Places <= x69.2)) then
    (x28).bind fun y76 =>
    some (.br (.inr y76))
   else
    (B8i s 0 help x69.1 x69.2).bind fun y78 =>
    if decide (y78.2 = 3) then
     (x28).bind fun y82 =>
     some (.br (.inr y82))
    else
     (shl .i64 1 (IntKind.wrap .u64 x.Lift)).bind fun q85 =>
     (B9h s q85 help ([x69.1, x69.2])).bind fun y86 =>
     if (decide (¬y78.2 = 0)) || (decide (¬y86.2.2.2 = 0)) then
      some (.br (.inr false))
     else
      (ap 24 p_9_1 ([y78.1])).bind fun l91 =>
      (ap 1 seen_10 ([y86.2.2.1])).bind fun l93 =>
      some (.nx (l91, l93, some_11 || y86.2.2.1, wr (i_12 + 1)))
  else
   some (.br (.inl (p_9_1, seen_10, some_11)))
def B9a (s : Station) (help : Bool) (x : neweltop_Missed) (lift_7 : Bool) : Option Bool :=
 if !lift_7 then
  (x28).bind fun y18 =>
  some y18
 else
  (b0w (B89 s help x) ([], [], false, 0)).bind fun
   | (.inl (p_9_1, seen_10, some_11)) => B9b x p_9_1 seen_10 some_11
   | (.inr r') => some r'
def B88 (s : Station) (x : neweltop_Missed) : (Bool × Int) -> Option (Out (Bool × Int) (Bool ⊕ Bool))
 | (lift_7, i_8) =>
  if decide (i_8 < (List.length s.Passages : Int)) then
   (get s.Passages i_8).bind fun x101 =>
   if (decide (x101.Kind = 4)) && (decide (10 <= x101.Machine)) then
    (x28).bind fun y106 =>
    some (.br (.inr y106))
   else
    some (.nx (lift_7 || ((decide (x101.Kind = 4)) && (decide (x101.Machine = x.Lift))), wr (i_8 + 1)))
  else
   some (.br (.inl lift_7))
def B87 (s : Station) (help : Bool) (x : neweltop_Missed) : Option Bool :=
 (if decide (24 < (List.length s.Passages : Int)) then some true else (B9c s).bind fun y3 =>
 some (decide (¬y3 = 0))).bind fun c4 =>
 if ((c4 || (decide (x.Lift < 0))) || (decide (10 <= x.Lift))) || (decide (10 < (List.length x.Pairs : Int))) then
  (x28).bind fun y12 =>
  some y12
 else
  (b0w (B88 s x) (false, 0)).bind fun
   | (.inl lift_7) => B9a s help x lift_7
   | (.inr r') => some r'
def C0x (O : Orac) : Prop := ∀ (s : Station) (help : Bool) (x : neweltop_Missed) (r : Bool) (hm0 : B87 s help x = some r), Fn O "newel/neweltop.TopMissed" [.agg [I s.Places, .fs 7 (List.map z9o s.Passages), .fs 1 (List.map eI s.Exits)], B help, .agg [I x.Lift, .fs 2 (List.map z9n x.Pairs)]] (B r)
end
end Go.Nw.VM
