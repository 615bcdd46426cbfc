/- Models of functions: printed by gen.py. -/
import Derived.Test.YtbmfnjehcnbpbaaDoorNwMaps
import Derived.Test.YtbmfnjehcnbpbaaDoorNwFt3Src
set_option linter.all false
namespace Go.Nw.WN
noncomputable section
open Go.Nw.Ft3
set_option maxHeartbeats 4000000
theorem lA9 {α : Type} {l m : List α} : (l ++ m).length = l.length + m.length := List.length_append
theorem mA9 {α β : Type} {f : α → β} {l m : List α} : List.map f (l ++ m) = List.map f l ++ List.map f m := List.map_append
theorem oF9 {a b : Bool} : (a || b) = false ↔ a = false ∧ b = false := Bool.or_eq_false_iff
theorem nF9 : (¬False) = True := not_false_eq_true
theorem bF9 {α : Type} [BEq α] [LawfulBEq α] {a b : α} : (a == b) = false ↔ a ≠ b := beq_eq_false_iff_ne
theorem sI9 {α : Type} {a b : α} (h : some a = some b) : a = b := Option.some.inj h
theorem va9 {p : Prop} (h : p := by first | (simp only [go_sem, List.length_append, List.map_append]; done) | rfl) : p := h
theorem vb9 {p : Prop} (h : p := by simp only [go_sem, List.length_append, List.map_append]) : p := h
theorem vc9 {p : Prop} (h : p := by omega) : p := h
theorem vd9 {p : Prop} (h : p := by first | exact b1w | exact b1y (by first | omega | (simp only [nxs] <;> omega)) | assumption | exact b1v (by assumption) (by first | omega | (simp only [go_sem, nxs] <;> omega))) : p := h
theorem ve9 {p : Prop} (h : p := by first | assumption | omega | (simp only [nxs] <;> omega)) : p := h
theorem vf9 {p : Prop} (h : p := by first | assumption | exact rfl) : p := h
theorem vg9 {p : Prop} (h : p := by first | rfl | simp only [go_sem, List.length_append, List.map_append]) : p := h
theorem vh9 {p : Prop} (h : p := by simp only [go_sem]) : p := h
theorem vi9 {p : Prop} (h : p := by simp; omega) : p := h
theorem vj9 {p : Prop} (h : p := by first | first | assumption | omega | (simp only [nxs] <;> omega)) : p := h
theorem vk9 {p : Prop} (h : p := by simp) : p := h
variable {O : Orac} [MapsOk O]
def b98 (n : Int) (low : Int) (high : Int) : Bool :=
 (decide (low <= n)) && (decide (n <= high))
def u1m (O : Orac) : Prop := ∀ (n : Int) (low : Int) (high : Int), Fn O "newel/newelref10.from" [I n, I low, I high] (B (b98 n low high))
structure Plant where
 Parts : Int
 Alarms : List (List Int)
 deriving Inhabited, DecidableEq
@[go_sem] def b2f (x : List Int) : List AV := [.fs 1 (List.map eI x)]
theorem b8i (x : List Int) : ∀ c ∈ b2f x, Frz c := (b0a (b0c fun a _ => b1t a) b0j)
theorem j7n (x : List Int) : (b2f x).length = 1 := rfl
@[go_sem] theorem o5i {l : List (List Int)} {n : Nat} {a0 : List Int} : (List.map b2f l).set n [.fs 1 (List.map eI a0)] = List.map b2f (l.set n a0) := by rw [List.map_set]; rfl
def D0h (p : Plant) (seen : List Bool) : Option Int :=
 if decide (¬(List.length seen : Int) = (List.length p.Alarms : Int)) then
  some 1
 else
  some 0
def D0g (i_5 : Int) : Option (Out Int (Unit ⊕ Int)) :=
 some (.nx (wr (i_5 + 1)))
def C8j (p : Plant) (i_5 : Int) : Int -> Option (Out Int (Unit ⊕ Int))
 | k_6 =>
  (get p.Alarms i_5).bind fun x15 =>
  if decide (k_6 < (List.length x15 : Int)) then
   (get x15 k_6).bind fun x23 =>
   (if !(b98 x23 0 (wr (p.Parts - 1))) then some true else (if decide (0 < k_6) then (get x15 (wr (k_6 - 1))).bind fun x24 =>
   some (decide (x23 <= x24)) else some false).bind fun c25 =>
   some c25).bind fun c26 =>
   if c26 then
    some (.br (.inr 101))
   else
    some (.nx (wr (k_6 + 1)))
  else
   some (.br (.inl ()))
def C87 (p : Plant) : Int -> Option (Out Int (Unit ⊕ Int))
 | i_5 =>
  if decide (i_5 < (List.length p.Alarms : Int)) then
   (b0w (C8j p i_5) (0)).bind fun
    | (.inl ()) => D0g i_5
    | (.inr r') => some (.br (.inr r'))
  else
   some (.br (.inl ()))
def D0f (p : Plant) (seen : List Bool) : Option Int :=
 if (!(b98 p.Parts 0 10)) || (decide (10 < (List.length p.Alarms : Int))) then
  some 101
 else
  (b0w (C87 p) (0)).bind fun
   | (.inl ()) => D0h p seen
   | (.inr r') => some r'
def D15 (O : Orac) : Prop := ∀ (p : Plant) (seen : List Bool) (r : Int) (hm0 : D0f p seen = some r), Fn O "newel/newelref10.CheckPlant" [.agg [I p.Parts, .fs 1 (List.map b2f p.Alarms)], .fs 1 (List.map eB seen)] (I r)
def s39 (n : Int) (low : Int) (high : Int) : Bool :=
 (decide (low <= n)) && (decide (n <= high))
def u1j (O : Orac) : Prop := ∀ (n : Int) (low : Int) (high : Int), Fn O "newel/faults.within" [I n, I low, I high] (B (s39 n low high))
def z6h (x : Int) : Option Int :=
 (shr .u64 x 1).bind fun q2 =>
 (shr .u64 (IntKind.wrap .u64 ((d05 .u64 q2 6148914691236517205) + (d05 .u64 x 6148914691236517205))) 2).bind fun q4 =>
 (shr .u64 (IntKind.wrap .u64 ((d05 .u64 q4 3689348814741910323) + (d05 .u64 (IntKind.wrap .u64 ((d05 .u64 q2 6148914691236517205) + (d05 .u64 x 6148914691236517205))) 3689348814741910323))) 4).bind fun q6 =>
 (shr .u64 (d05 .u64 (IntKind.wrap .u64 (q6 + (IntKind.wrap .u64 ((d05 .u64 q4 3689348814741910323) + (d05 .u64 (IntKind.wrap .u64 ((d05 .u64 q2 6148914691236517205) + (d05 .u64 x 6148914691236517205))) 3689348814741910323))))) 1085102592571150095) 8).bind fun q8 =>
 (shr .u64 (IntKind.wrap .u64 ((d05 .u64 (IntKind.wrap .u64 (q6 + (IntKind.wrap .u64 ((d05 .u64 q4 3689348814741910323) + (d05 .u64 (IntKind.wrap .u64 ((d05 .u64 q2 6148914691236517205) + (d05 .u64 x 6148914691236517205))) 3689348814741910323))))) 1085102592571150095) + q8)) 16).bind fun q10 =>
 (shr .u64 (IntKind.wrap .u64 ((IntKind.wrap .u64 ((d05 .u64 (IntKind.wrap .u64 (q6 + (IntKind.wrap .u64 ((d05 .u64 q4 3689348814741910323) + (d05 .u64 (IntKind.wrap .u64 ((d05 .u64 q2 6148914691236517205) + (d05 .u64 x 6148914691236517205))) 3689348814741910323))))) 1085102592571150095) + q8)) + q10)) 32).bind fun q12 =>
 some (b6y (IntKind.wrap .i64 (IntKind.wrap .u64 ((IntKind.wrap .u64 ((IntKind.wrap .u64 ((d05 .u64 (IntKind.wrap .u64 (q6 + (IntKind.wrap .u64 ((d05 .u64 q4 3689348814741910323) + (d05 .u64 (IntKind.wrap .u64 ((d05 .u64 q2 6148914691236517205) + (d05 .u64 x 6148914691236517205))) 3689348814741910323))))) 1085102592571150095) + q8)) + q10)) + q12))) 127)
def z7l (O : Orac) : Prop := ∀ (x : Int) (r : Int) (hm0 : z6h x = some r), Fn O "math/bits.OnesCount64" [.v (.int .u64 x)] (I r)
def l13 (x : Int) : Option Int :=
 (z6h x).bind fun y3 =>
 some y3
def z7k (O : Orac) : Prop := ∀ (x : Int) (r : Int) (hm0 : l13 x = some r), Fn O "math/bits.OnesCount" [.v (.int .u64 x)] (I r)
def z6i (x : Int) : Option Int :=
 if decide (x = 0) then
  some 64
 else
  (shr .u64 (IntKind.wrap .u64 ((d05 .u64 x (IntKind.wrap .u64 (0 - x))) * 285870213051353865)) 58).bind fun q5 =>
  (get u3d q5).bind fun x6 =>
  some (IntKind.wrap .i64 x6)
def z7m (O : Orac) : Prop := ∀ (x : Int) (r : Int) (hm0 : z6i x = some r), Fn O "math/bits.TrailingZeros64" [.v (.int .u64 x)] (I r)
def B86 (x : Int) : Option Int :=
 (z6i x).bind fun y3 =>
 some y3
def z5w (O : Orac) : Prop := ∀ (x : Int) (r : Int) (hm0 : B86 x = some r), Fn O "math/bits.TrailingZeros" [.v (.int .u64 x)] (I r)
def z74 (l_3 : List Int) : Option (List Int) :=
 some l_3
def C83 : (Int × (List Int)) -> Option (Out (Int × (List Int)) (((List Int))))
 | (set_0, l_3) =>
  if decide (¬set_0 = 0) then
   (B86 (IntKind.wrap .u64 set_0)).bind fun y9 =>
   (ap 8 l_3 ([y9])).bind fun l10 =>
   some (.nx (b6y set_0 (wr (set_0 - 1)), l10))
  else
   some (.br l_3)
def x49 (set : Int) : Option (List Int) :=
 (b0w (C83) (set, [])).bind fun l_3 =>
 z74 l_3
def z5u (O : Orac) : Prop := ∀ (set : Int) (r : List Int) (hm0 : x49 set = some r), Fn O "newel/faults.members" [I set] (.fs 1 (List.map eI r))
def D9f (x : Int) : Bool :=
 decide (¬x = x)
def z7c (O : Orac) : Prop := ∀ (x : Int), Fn O "cmp.isNaN[int]" [I x] (B (D9f x))
def c12 (x : Int) (y : Int) : Int :=
 if (D9f x) then
  if (D9f y) then
   0
  else
   (-1)
 else
  if (D9f y) then
   1
  else
   if decide (x < y) then
    (-1)
   else
    if decide (y < x) then
     1
    else
     0
def z7b (O : Orac) : Prop := ∀ (x : Int) (y : Int), Fn O "cmp.Compare[int]" [I x, I y] (I (c12 x y))
def z5o (s1_ : List Int) (s2_ : List Int) : Option Int :=
 if decide ((List.length s1_ : Int) < (List.length s2_ : Int)) then
  some (-1)
 else
  some 0
def D9e (s1_ : List Int) (s2_ : List Int) : Int -> Option (Out Int (Unit ⊕ Int))
 | x_11 =>
  if decide (x_11 < (List.length s1_ : Int)) then
   (get s1_ x_11).bind fun x10 =>
   if decide ((List.length s2_ : Int) <= x_11) then
    some (.br (.inr 1))
   else
    (get s2_ x_11).bind fun x14 =>
    if decide (¬(c12 x10 x14) = 0) then
     some (.br (.inr (c12 x10 x14)))
    else
     some (.nx (wr (x_11 + 1)))
  else
   some (.br (.inl ()))
def B8x (s1_ : List Int) (s2_ : List Int) : Option Int :=
 (b0w (D9e s1_ s2_) (0)).bind fun
  | (.inl ()) => z5o s1_ s2_
  | (.inr r') => some r'
def z7q (O : Orac) : Prop := ∀ (s1_ : List Int) (s2_ : List Int) (r : Int) (hm0 : B8x s1_ s2_ = some r), Fn O "slices.Compare[[]int,int]" [.fs 1 (List.map eI s1_), .fs 1 (List.map eI s2_)] (I r)
def z55 (p : Plant) (seen : List Bool) : Option Int :=
 if decide (¬(List.length seen : Int) = (List.length p.Alarms : Int)) then
  some 1
 else
  some 0
def z54 (x_23 : Int) : Option (Out Int (Unit ⊕ Int)) :=
 some (.nx (wr (x_23 + 1)))
def B8p (p : Plant) (x14 : List Int) : (Int × Int) -> Option (Out (Int × Int) (Unit ⊕ Int))
 | (last_7, x_29) =>
  if decide (x_29 < (List.length x14 : Int)) then
   (get x14 x_29).bind fun x20 =>
   if !(s39 x20 (wr (last_7 + 1)) (wr (p.Parts - 1))) then
    some (.br (.inr 101))
   else
    some (.nx (x20, wr (x_29 + 1)))
  else
   some (.br (.inl ()))
def z5b (p : Plant) : Int -> Option (Out Int (Unit ⊕ Int))
 | x_23 =>
  if decide (x_23 < (List.length p.Alarms : Int)) then
   (get p.Alarms x_23).bind fun x14 =>
   (b0w (B8p p x14) ((-1), 0)).bind fun
    | (.inl ()) => z54 x_23
    | (.inr r') => some (.br (.inr r'))
  else
   some (.br (.inl ()))
def z5a (p : Plant) (seen : List Bool) : Option Int :=
 if (!(s39 p.Parts 0 10)) || (decide (10 < (List.length p.Alarms : Int))) then
  some 101
 else
  (b0w (z5b p) (0)).bind fun
   | (.inl ()) => z55 p seen
   | (.inr r') => some r'
def z7i (O : Orac) : Prop := ∀ (p : Plant) (seen : List Bool) (r : Int) (hm0 : z5a p seen = some r), Fn O "newel/faults.plant" [.agg [I p.Parts, .fs 1 (List.map b2f p.Alarms)], .fs 1 (List.map eB seen)] (I r)
def s50 (part : Int) (c0 : Int) : Option Bool :=
 (shr .i64 c0 part).bind fun q2 =>
 some (decide ((b6y q2 1) = 1))
def z7f (O : Orac) : Prop := ∀ (part : Int) (c0 : Int) (r : Bool) (hm0 : s50 part c0 = some r), Fn O "newel/faults.explained$1" [I part, .fp [I c0] 0] (B r)
def d5b : Option Int :=
 some (-1)
def g3c (s : List Int) (f : Int -> Option Bool) : Int -> Option (Out Int (Unit ⊕ Int))
 | x_8 =>
  if decide (x_8 < (List.length s : Int)) then
   (get s x_8).bind fun x9 =>
   (f x9).bind fun y10 =>
   if y10 then
    some (.br (.inr x_8))
   else
    some (.nx (wr (x_8 + 1)))
  else
   some (.br (.inl ()))
def d5a (s : List Int) (f : Int -> Option Bool) : Option Int :=
 (b0w (g3c s f) (0)).bind fun
  | (.inl ()) => d5b
  | (.inr r') => some r'
def d0x (O : Orac) : Prop := ∀ (s : List Int) (f_n : String) (f_a f_b : List AV) (f : Int -> Option Bool) (f_z : Frz (.fn f_n f_a f_b)) (f_h : ∀ z0 y, f z0 = some y -> Fn O f_n (f_a ++ [I z0] ++ f_b) (B y)) (r : Int) (hm0 : d5a s f = some r), Fn O "slices.IndexFunc[[]int,int]" [.fs 1 (List.map eI s), .fn f_n f_a f_b] (I r)
def b45 (s : List Int) (f : Int -> Option Bool) : Option Bool :=
 (d5a s f).bind fun y2 =>
 some (decide (0 <= y2))
def d0v (O : Orac) : Prop := ∀ (s : List Int) (f_n : String) (f_a f_b : List AV) (f : Int -> Option Bool) (f_z : Frz (.fn f_n f_a f_b)) (f_h : ∀ z0 y, f z0 = some y -> Fn O f_n (f_a ++ [I z0] ++ f_b) (B y)) (r : Bool) (hm0 : b45 s f = some r), Fn O "slices.ContainsFunc[[]int,int]" [.fs 1 (List.map eI s), .fn f_n f_a f_b] (B r)
def z73 (set_7 : Int) : Option Int :=
 some set_7
def C82 (x_15 : Int) (set_7_1 : Int) : Option (Out (Int × Int) Int) :=
 some (.nx (set_7_1, wr (x_15 + 1)))
def z49 (p : Plant) (seen : List Bool) (broken : Int) : (Int × Int) -> Option (Out (Int × Int) Int)
 | (set_7, x_15) =>
  if decide (x_15 < (List.length p.Alarms : Int)) then
   (get p.Alarms x_15).bind fun x9 =>
   (b45 x9 (fun z12 => s50 z12 broken)).bind fun y13 =>
   (get seen x_15).bind fun x15 =>
   if !(b5c y13 x15) then
    (shl .i64 1 (wr (p.Parts + x_15))).bind fun q18 =>
    C82 x_15 (bor set_7 q18)
   else
    C82 x_15 set_7
  else
   some (.br set_7)
def z27 (p : Plant) (seen : List Bool) (broken : Int) : Option Int :=
 (b0w (z49 p seen broken) (broken, 0)).bind fun set_7 =>
 z73 set_7
def z7e (O : Orac) : Prop := ∀ (p : Plant) (seen : List Bool) (broken : Int) (r : Int) (hm0 : z27 p seen broken = some r), Fn O "newel/faults.explained" [.agg [I p.Parts, .fs 1 (List.map b2f p.Alarms)], .fs 1 (List.map eB seen), I broken] (I r)
def z6g (x_0_2 : Int) (n_2_2 : Int) : Option Int :=
 (get (b3q (ByteArray.mk #[0, 1, 2, 2, 3, 3, 3, 3, 4, 4, 4, 4, 4, 4, 4, 4, 5, 5, 5, 5, 5, 5, 5, 5, 5, 5, 5, 5, 5, 5, 5, 5, 6, 6, 6, 6, 6, 6, 6, 6, 6, 6, 6, 6, 6, 6, 6, 6, 6, 6, 6, 6, 6, 6, 6, 6, 6, 6, 6, 6, 6, 6, 6, 6, 7, 7, 7, 7, 7, 7, 7, 7, 7, 7, 7, 7, 7, 7, 7, 7, 7, 7, 7, 7, 7, 7, 7, 7, 7, 7, 7, 7, 7, 7, 7, 7, 7, 7, 7, 7, 7, 7, 7, 7, 7, 7, 7, 7, 7, 7, 7, 7, 7, 7, 7, 7, 7, 7, 7, 7, 7, 7, 7, 7, 7, 7, 7, 7, 8, 8, 8, 8, 8, 8, 8, 8, 8, 8, 8, 8, 8, 8, 8, 8, 8, 8, 8, 8, 8, 8, 8, 8, 8, 8, 8, 8, 8, 8, 8, 8, 8, 8, 8, 8, 8, 8, 8, 8, 8, 8, 8, 8, 8, 8, 8, 8, 8, 8, 8, 8, 8, 8, 8, 8, 8, 8, 8, 8, 8, 8, 8, 8, 8, 8, 8, 8, 8, 8, 8, 8, 8, 8, 8, 8, 8, 8, 8, 8, 8, 8, 8, 8, 8, 8, 8, 8, 8, 8, 8, 8, 8, 8, 8, 8, 8, 8, 8, 8, 8, 8, 8, 8, 8, 8, 8, 8, 8, 8, 8, 8, 8, 8, 8, 8, 8, 8, 8, 8, 8, 8, 8, 8, 8, 8, 8, 8])) (IntKind.wrap .u8 x_0_2)).bind fun x8 =>
 some (wr (n_2_2 + (IntKind.wrap .i64 x8)))
def z6f (x_0_1 : Int) (n_2_1 : Int) : Option Int :=
 if decide (256 <= x_0_1) then
  (shr .u64 x_0_1 8).bind fun q11 =>
  z6g q11 (wr (n_2_1 + 8))
 else
  z6g x_0_1 n_2_1
def z6e (x_0 : Int) (n_2 : Int) : Option Int :=
 if decide (65536 <= x_0) then
  (shr .u64 x_0 16).bind fun q14 =>
  z6f q14 (wr (n_2 + 16))
 else
  z6f x_0 n_2
def z81 (x : Int) : Option Int :=
 if decide (4294967296 <= x) then
  (shr .u64 x 32).bind fun q17 =>
  z6e q17 32
 else
  z6e x 0
def z7j (O : Orac) : Prop := ∀ (x : Int) (r : Int) (hm0 : z81 x = some r), Fn O "math/bits.Len64" [.v (.int .u64 x)] (I r)
def z6d (x : Int) : Option Int :=
 (z81 x).bind fun y3 =>
 some y3
def z5v (O : Orac) : Prop := ∀ (x : Int) (r : Int) (hm0 : z6d x = some r), Fn O "math/bits.Len" [.v (.int .u64 x)] (I r)
def z6u (data_1 : List Int) : Option (List Int) :=
 some data_1
def z6v (i_8 : Int) (data_0_1 : List Int) : Option (Out ((List Int) × Int) (((List Int)))) :=
 some (.nx (data_0_1, wr (i_8 + 1)))
def B8g (a : Int) (cmp : Int -> Int -> Option Int) : ((List Int) × Int) -> Option (Out ((List Int) × Int) (((List Int))))
 | (data_0_1, j_9) =>
  (if decide (a < j_9) then (get data_0_1 j_9).bind fun x13 =>
  (get data_0_1 (wr (j_9 - 1))).bind fun x14 =>
  (cmp x13 x14).bind fun y15 =>
  some (decide (y15 < 0)) else some false).bind fun c16 =>
  if c16 then
   (get data_0_1 (wr (j_9 - 1))).bind fun x24 =>
   (get data_0_1 j_9).bind fun x25 =>
   (get (List.set data_0_1 (Int.toNat j_9) x24) (wr (j_9 - 1))).bind fun x26 =>
   some (.nx ((List.set (List.set data_0_1 (Int.toNat j_9) x24) (Int.toNat (wr (j_9 - 1))) x25), wr (j_9 - 1)))
  else
   some (.br data_0_1)
def z5r (a : Int) (b : Int) (cmp : Int -> Int -> Option Int) : ((List Int) × Int) -> Option (Out ((List Int) × Int) (((List Int))))
 | (data_0, i_8) =>
  if decide (i_8 < b) then
   (b0w (B8g a cmp) (data_0, i_8)).bind fun data_0_1 =>
   z6v i_8 data_0_1
  else
   some (.br data_0)
def x73 (data : List Int) (a : Int) (b : Int) (cmp : Int -> Int -> Option Int) : Option (List Int) :=
 (b0w (z5r a b cmp) (data, wr (a + 1))).bind fun data_1 =>
 z6u data_1
def D04 (O : Orac) : Prop := ∀ (data : List Int) (i_0 : Nat) (a : Int) (b : Int) (cmp_n : String) (cmp_a cmp_b : List AV) (cmp : Int -> Int -> Option Int) (cmp_z : Frz (.fn cmp_n cmp_a cmp_b)) (cmp_h : ∀ z0 z1 y, cmp z0 z1 = some y -> Fn O cmp_n (cmp_a ++ [I z0, I z1] ++ cmp_b) (I y)) (h0 : Heap) (ob_p0 : h0.ob i_0 = some (1, List.map eI data)) (lt_p0 : i_0 < h0.nx) (r : List Int) (hm0 : x73 data a b cmp = some r), b6e O "slices.insertionSortCmpFunc[int]" [.rs i_0 0 (List.length data), I a, I b, .fn cmp_n cmp_a cmp_b] h0 (fun v h => v = .tup [] /\ h.ob i_0 = some (1, List.map eI r) /\ List.length r = List.length data /\ (∀ j, j < h0.nx -> ¬j = i_0 -> h.ob j = h0.ob j) /\ h0.nx <= h.nx)
def D2w (data_1 : List Int) : Option (List Int) :=
 some data_1
def C8y (first : Int) (cmp : Int -> Int -> Option Int) (data_0 : List Int) (root_10 : Int) (child_11 : Int) : Option (Out ((List Int) × Int) (((List Int)) ⊕ ((List Int)))) :=
 (get data_0 (wr (first + root_10))).bind fun x20 =>
 (get data_0 (wr (first + child_11))).bind fun x21 =>
 (cmp x20 x21).bind fun y22 =>
 if !(decide (y22 < 0)) then
  some (.br (.inr data_0))
 else
  (get (List.set data_0 (Int.toNat (wr (first + root_10))) x21) (wr (first + child_11))).bind fun x26 =>
  some (.nx ((List.set (List.set data_0 (Int.toNat (wr (first + root_10))) x21) (Int.toNat (wr (first + child_11))) x20), child_11))
def C8i (hi : Int) (first : Int) (cmp : Int -> Int -> Option Int) : ((List Int) × Int) -> Option (Out ((List Int) × Int) (((List Int)) ⊕ ((List Int))))
 | (data_0, root_10) =>
  if decide (hi <= (wr ((wr (2 * root_10)) + 1))) then
   some (.br (.inl data_0))
  else
   (if decide ((wr ((wr ((wr (2 * root_10)) + 1)) + 1)) < hi) then (get data_0 (wr (first + (wr ((wr (2 * root_10)) + 1))))).bind fun x10 =>
   (get data_0 (wr ((wr (first + (wr ((wr (2 * root_10)) + 1)))) + 1))).bind fun x11 =>
   (cmp x10 x11).bind fun y12 =>
   some (decide (y12 < 0)) else some false).bind fun c13 =>
   if c13 then
    C8y first cmp data_0 root_10 (wr ((wr ((wr (2 * root_10)) + 1)) + 1))
   else
    C8y first cmp data_0 root_10 (wr ((wr (2 * root_10)) + 1))
def C9s (data : List Int) (lo : Int) (hi : Int) (first : Int) (cmp : Int -> Int -> Option Int) : Option (List Int) :=
 (b0w (C8i hi first cmp) (data, lo)).bind fun
  | (.inl data_1) => D2w data_1
  | (.inr r') => some r'
def D2b (O : Orac) : Prop := ∀ (data : List Int) (i_0 : Nat) (lo : Int) (hi : Int) (first : Int) (cmp_n : String) (cmp_a cmp_b : List AV) (cmp : Int -> Int -> Option Int) (cmp_z : Frz (.fn cmp_n cmp_a cmp_b)) (cmp_h : ∀ z0 z1 y, cmp z0 z1 = some y -> Fn O cmp_n (cmp_a ++ [I z0, I z1] ++ cmp_b) (I y)) (h0 : Heap) (ob_p0 : h0.ob i_0 = some (1, List.map eI data)) (lt_p0 : i_0 < h0.nx) (r : List Int) (hm0 : C9s data lo hi first cmp = some r), b6e O "slices.siftDownCmpFunc[int]" [.rs i_0 0 (List.length data), I lo, I hi, I first, .fn cmp_n cmp_a cmp_b] h0 (fun v h => v = .tup [] /\ h.ob i_0 = some (1, List.map eI r) /\ List.length r = List.length data /\ (∀ j, j < h0.nx -> ¬j = i_0 -> h.ob j = h0.ob j) /\ h0.nx <= h.nx)
def D1u (data_1 : List Int) : Option (List Int) :=
 some data_1
def D0k (a : Int) (cmp : Int -> Int -> Option Int) : ((List Int) × Int) -> Option (Out ((List Int) × Int) (((List Int))))
 | (data_0_1, i_12) =>
  if decide (0 <= i_12) then
   (get data_0_1 (wr (a + i_12))).bind fun x14 =>
   (get data_0_1 a).bind fun x15 =>
   (get (List.set data_0_1 (Int.toNat a) x14) (wr (a + i_12))).bind fun x16 =>
   (C9s (List.set (List.set data_0_1 (Int.toNat a) x14) (Int.toNat (wr (a + i_12))) x15) 0 i_12 a cmp).bind fun y18 =>
   some (.nx (y18, wr (i_12 - 1)))
  else
   some (.br data_0_1)
def D1t (a : Int) (b : Int) (cmp : Int -> Int -> Option Int) (data_0 : List Int) : Option (List Int) :=
 (b0w (D0k a cmp) (data_0, wr ((wr (b - a)) - 1))).bind fun data_1 =>
 D1u data_1
def D0l (a : Int) (b : Int) (cmp : Int -> Int -> Option Int) : ((List Int) × Int) -> Option (Out ((List Int) × Int) (((List Int))))
 | (data_0, i_11) =>
  if decide (0 <= i_11) then
   (C9s data_0 i_11 (wr (b - a)) a cmp).bind fun y25 =>
   some (.nx (y25, wr (i_11 - 1)))
  else
   some (.br data_0)
def D0j (data : List Int) (a : Int) (b : Int) (cmp : Int -> Int -> Option Int) : Option (List Int) :=
 (quo .i64 (wr ((wr (b - a)) - 1)) 2).bind fun q2 =>
 (b0w (D0l a b cmp) (data, q2)).bind fun data_0 =>
 D1t a b cmp data_0
def D03 (O : Orac) : Prop := ∀ (data : List Int) (i_0 : Nat) (a : Int) (b : Int) (cmp_n : String) (cmp_a cmp_b : List AV) (cmp : Int -> Int -> Option Int) (cmp_z : Frz (.fn cmp_n cmp_a cmp_b)) (cmp_h : ∀ z0 z1 y, cmp z0 z1 = some y -> Fn O cmp_n (cmp_a ++ [I z0, I z1] ++ cmp_b) (I y)) (h0 : Heap) (ob_p0 : h0.ob i_0 = some (1, List.map eI data)) (lt_p0 : i_0 < h0.nx) (r : List Int) (hm0 : D0j data a b cmp = some r), b6e O "slices.heapSortCmpFunc[int]" [.rs i_0 0 (List.length data), I a, I b, .fn cmp_n cmp_a cmp_b] h0 (fun v h => v = .tup [] /\ h.ob i_0 = some (1, List.map eI r) /\ List.length r = List.length data /\ (∀ j, j < h0.nx -> ¬j = i_0 -> h.ob j = h0.ob j) /\ h0.nx <= h.nx)
def D0m (length : Int) : Option Int :=
 (z6d (IntKind.wrap .u64 length)).bind fun y3 =>
 (shl .u64 1 y3).bind fun q4 =>
 some q4
def D18 (O : Orac) : Prop := ∀ (length : Int) (r : Int) (hm0 : D0m length = some r), Fn O "slices.nextPowerOfTwo" [I length] (.v (.int .u64 r))
def C9u (r_ : Int) : Option (Int × Int) :=
 (shl .u64 r_ 13).bind fun q2 =>
 (shr .u64 (d53 .u64 r_ q2) 7).bind fun q4 =>
 (shl .u64 (d53 .u64 (d53 .u64 r_ q2) q4) 17).bind fun q6 =>
 some (d53 .u64 (d53 .u64 (d53 .u64 r_ q2) q4) q6, d53 .u64 (d53 .u64 (d53 .u64 r_ q2) q4) q6)
def D1z (O : Orac) : Prop := ∀ (r_ : Int) (i_0 : Nat) (h0 : Heap) (ob_p0 : h0.ob i_0 = some (1, [[.v (.int .u64 r_)]])) (lt_p0 : i_0 < h0.nx) (r : Int × Int) (hm0 : C9u r_ = some r), b6e O "(*slices.xorshift).Next" [.rp i_0 0 0] h0 (fun v h => v = .v (.int .u64 r.1) /\ h.ob i_0 = some (1, [[.v (.int .u64 r.2)]]) /\ (∀ j, j < h0.nx -> ¬j = i_0 -> h.ob j = h0.ob j) /\ h0.nx <= h.nx)
def D1s (data_1 : List Int) : Option (List Int) :=
 some data_1
def C9c (a : Int) (data_0 : List Int) (idx_11 : Int) (y15 : Int × Int) (other_12 : Int) : Option (Out ((List Int) × Int × Int) (((List Int)))) :=
 (get data_0 (wr (a + other_12))).bind fun x21 =>
 (get data_0 idx_11).bind fun x22 =>
 (get (List.set data_0 (Int.toNat idx_11) x21) (wr (a + other_12))).bind fun x23 =>
 some (.nx ((List.set (List.set data_0 (Int.toNat idx_11) x21) (Int.toNat (wr (a + other_12))) x22), y15.2, wr (idx_11 + 1)))
def C8l (a : Int) (b : Int) (y3 : Int) : ((List Int) × Int × Int) -> Option (Out ((List Int) × Int × Int) (((List Int))))
 | (data_0, random_9_0, idx_11) =>
  (quo .i64 (wr (b - a)) 4).bind fun q10 =>
  if decide (idx_11 <= (wr ((wr (a + (wr (q10 * 2)))) + 1))) then
   (C9u random_9_0).bind fun y15 =>
   if decide ((wr (b - a)) <= (IntKind.wrap .i64 (d05 .u64 y15.1 (IntKind.wrap .u64 (y3 - 1))))) then
    C9c a data_0 idx_11 y15 (wr ((IntKind.wrap .i64 (d05 .u64 y15.1 (IntKind.wrap .u64 (y3 - 1)))) - (wr (b - a))))
   else
    C9c a data_0 idx_11 y15 (IntKind.wrap .i64 (d05 .u64 y15.1 (IntKind.wrap .u64 (y3 - 1))))
  else
   some (.br data_0)
def D0i (data : List Int) (a : Int) (b : Int) (cmp : Int -> Int -> Option Int) : Option (List Int) :=
 if decide (8 <= (wr (b - a))) then
  (D0m (wr (b - a))).bind fun y3 =>
  (quo .i64 (wr (b - a)) 4).bind fun q5 =>
  (b0w (C8l a b y3) (data, IntKind.wrap .u64 (wr (b - a)), wr ((wr (a + (wr (q5 * 2)))) - 1))).bind fun data_1 =>
  D1s data_1
 else
  some data
def D01 (O : Orac) : Prop := ∀ (data : List Int) (i_0 : Nat) (a : Int) (b : Int) (cmp_n : String) (cmp_a cmp_b : List AV) (cmp : Int -> Int -> Option Int) (cmp_z : Frz (.fn cmp_n cmp_a cmp_b)) (cmp_h : ∀ z0 z1 y, cmp z0 z1 = some y -> Fn O cmp_n (cmp_a ++ [I z0, I z1] ++ cmp_b) (I y)) (h0 : Heap) (ob_p0 : h0.ob i_0 = some (1, List.map eI data)) (lt_p0 : i_0 < h0.nx) (r : List Int) (hm0 : D0i data a b cmp = some r), b6e O "slices.breakPatternsCmpFunc[int]" [.rs i_0 0 (List.length data), I a, I b, .fn cmp_n cmp_a cmp_b] h0 (fun v h => v = .tup [] /\ h.ob i_0 = some (1, List.map eI r) /\ List.length r = List.length data /\ (∀ j, j < h0.nx -> ¬j = i_0 -> h.ob j = h0.ob j) /\ h0.nx <= h.nx)
def C8t (data : List Int) (a : Int) (b : Int) (swaps : Int) (cmp : Int -> Int -> Option Int) : Option (Int × Int × (List Int) × Int) :=
 (get data b).bind fun x4 =>
 (get data a).bind fun x5 =>
 (cmp x4 x5).bind fun y6 =>
 if decide (y6 < 0) then
  some (b, a, data, wr (swaps + 1))
 else
  some (a, b, data, swaps)
def D19 (O : Orac) : Prop := ∀ (data : List Int) (i_0 : Nat) (a : Int) (b : Int) (swaps : Int) (i_3 : Nat) (cmp_n : String) (cmp_a cmp_b : List AV) (cmp : Int -> Int -> Option Int) (cmp_z : Frz (.fn cmp_n cmp_a cmp_b)) (cmp_h : ∀ z0 z1 y, cmp z0 z1 = some y -> Fn O cmp_n (cmp_a ++ [I z0, I z1] ++ cmp_b) (I y)) (h0 : Heap) (ob_p0 : h0.ob i_0 = some (1, List.map eI data)) (lt_p0 : i_0 < h0.nx) (ob_p3 : h0.ob i_3 = some (1, [[I swaps]])) (lt_p3 : i_3 < h0.nx) (ne_p0_p3 : ¬i_0 = i_3) (r : Int × Int × (List Int) × Int) (hm0 : C8t data a b swaps cmp = some r), b6e O "slices.order2CmpFunc[int]" [.rs i_0 0 (List.length data), I a, I b, .rp i_3 0 0, .fn cmp_n cmp_a cmp_b] h0 (fun v h => v = .tup [I r.1, I r.2.1] /\ h.ob i_0 = some (1, List.map eI r.2.2.1) /\ List.length r.2.2.1 = List.length data /\ h.ob i_3 = some (1, [[I r.2.2.2]]) /\ (∀ j, j < h0.nx -> ¬j = i_0 -> ¬j = i_3 -> h.ob j = h0.ob j) /\ h0.nx <= h.nx)
def C9g (data : List Int) (a : Int) (b : Int) (c : Int) (swaps : Int) (cmp : Int -> Int -> Option Int) : Option (Int × (List Int) × Int) :=
 (C8t data a b swaps cmp).bind fun y2 =>
 (C8t y2.2.2.1 y2.2.1 c y2.2.2.2 cmp).bind fun y4 =>
 (C8t y4.2.2.1 y2.1 y4.1 y4.2.2.2 cmp).bind fun y6 =>
 some (y6.2.1, y6.2.2.1, y6.2.2.2)
def D05 (O : Orac) : Prop := ∀ (data : List Int) (i_0 : Nat) (a : Int) (b : Int) (c : Int) (swaps : Int) (i_4 : Nat) (cmp_n : String) (cmp_a cmp_b : List AV) (cmp : Int -> Int -> Option Int) (cmp_z : Frz (.fn cmp_n cmp_a cmp_b)) (cmp_h : ∀ z0 z1 y, cmp z0 z1 = some y -> Fn O cmp_n (cmp_a ++ [I z0, I z1] ++ cmp_b) (I y)) (h0 : Heap) (ob_p0 : h0.ob i_0 = some (1, List.map eI data)) (lt_p0 : i_0 < h0.nx) (ob_p4 : h0.ob i_4 = some (1, [[I swaps]])) (lt_p4 : i_4 < h0.nx) (ne_p0_p4 : ¬i_0 = i_4) (r : Int × (List Int) × Int) (hm0 : C9g data a b c swaps cmp = some r), b6e O "slices.medianCmpFunc[int]" [.rs i_0 0 (List.length data), I a, I b, I c, .rp i_4 0 0, .fn cmp_n cmp_a cmp_b] h0 (fun v h => v = I r.1 /\ h.ob i_0 = some (1, List.map eI r.2.1) /\ List.length r.2.1 = List.length data /\ h.ob i_4 = some (1, [[I r.2.2]]) /\ (∀ j, j < h0.nx -> ¬j = i_0 -> ¬j = i_4 -> h.ob j = h0.ob j) /\ h0.nx <= h.nx)
def C8s (data : List Int) (a : Int) (swaps : Int) (cmp : Int -> Int -> Option Int) : Option (Int × (List Int) × Int) :=
 (C9g data (wr (a - 1)) a (wr (a + 1)) swaps cmp).bind fun y2 =>
 some (y2.1, y2.2.1, y2.2.2)
def D17 (O : Orac) : Prop := ∀ (data : List Int) (i_0 : Nat) (a : Int) (swaps : Int) (i_2 : Nat) (cmp_n : String) (cmp_a cmp_b : List AV) (cmp : Int -> Int -> Option Int) (cmp_z : Frz (.fn cmp_n cmp_a cmp_b)) (cmp_h : ∀ z0 z1 y, cmp z0 z1 = some y -> Fn O cmp_n (cmp_a ++ [I z0, I z1] ++ cmp_b) (I y)) (h0 : Heap) (ob_p0 : h0.ob i_0 = some (1, List.map eI data)) (lt_p0 : i_0 < h0.nx) (ob_p2 : h0.ob i_2 = some (1, [[I swaps]])) (lt_p2 : i_2 < h0.nx) (ne_p0_p2 : ¬i_0 = i_2) (r : Int × (List Int) × Int) (hm0 : C8s data a swaps cmp = some r), b6e O "slices.medianAdjacentCmpFunc[int]" [.rs i_0 0 (List.length data), I a, .rp i_2 0 0, .fn cmp_n cmp_a cmp_b] h0 (fun v h => v = I r.1 /\ h.ob i_0 = some (1, List.map eI r.2.1) /\ List.length r.2.1 = List.length data /\ h.ob i_2 = some (1, [[I r.2.2]]) /\ (∀ j, j < h0.nx -> ¬j = i_0 -> ¬j = i_2 -> h.ob j = h0.ob j) /\ h0.nx <= h.nx)
def C9e (swaps_11_0 : Int) (j_13 : Int) (data_1 : List Int) : Option (Int × Int × (List Int)) :=
 if decide (swaps_11_0 = 0) then
  some (j_13, 1, data_1)
 else
  if decide (swaps_11_0 = 12) then
   some (j_13, 2, data_1)
  else
   some (j_13, 0, data_1)
def C9f (cmp : Int -> Int -> Option Int) (data_0 : List Int) (swaps_11_0 : Int) (i_12 : Int) (j_13 : Int) (k_14 : Int) : Option (Int × Int × (List Int)) :=
 (C9g data_0 i_12 j_13 k_14 swaps_11_0 cmp).bind fun y11 =>
 C9e y11.2.2 y11.1 y11.2.1
def C9d (data : List Int) (a : Int) (b : Int) (cmp : Int -> Int -> Option Int) : Option (Int × Int × (List Int)) :=
 (quo .i64 (wr (b - a)) 4).bind fun q2 =>
 if decide (8 <= (wr (b - a))) then
  if decide (50 <= (wr (b - a))) then
   (C8s data (wr (a + (wr (q2 * 1)))) 0 cmp).bind fun y14 =>
   (C8s y14.2.1 (wr (a + (wr (q2 * 2)))) y14.2.2 cmp).bind fun y16 =>
   (C8s y16.2.1 (wr (a + (wr (q2 * 3)))) y16.2.2 cmp).bind fun y18 =>
   C9f cmp y18.2.1 y18.2.2 y14.1 y16.1 y18.1
  else
   C9f cmp data 0 (wr (a + (wr (q2 * 1)))) (wr (a + (wr (q2 * 2)))) (wr (a + (wr (q2 * 3))))
 else
  C9e 0 (wr (a + (wr (q2 * 2)))) data
def D02 (O : Orac) : Prop := ∀ (data : List Int) (i_0 : Nat) (a : Int) (b : Int) (cmp_n : String) (cmp_a cmp_b : List AV) (cmp : Int -> Int -> Option Int) (cmp_z : Frz (.fn cmp_n cmp_a cmp_b)) (cmp_h : ∀ z0 z1 y, cmp z0 z1 = some y -> Fn O cmp_n (cmp_a ++ [I z0, I z1] ++ cmp_b) (I y)) (h0 : Heap) (ob_p0 : h0.ob i_0 = some (1, List.map eI data)) (lt_p0 : i_0 < h0.nx) (r : Int × Int × (List Int)) (hm0 : C9d data a b cmp = some r), b6e O "slices.choosePivotCmpFunc[int]" [.rs i_0 0 (List.length data), I a, I b, .fn cmp_n cmp_a cmp_b] h0 (fun v h => v = .tup [I r.1, I r.2.1] /\ h.ob i_0 = some (1, List.map eI r.2.2) /\ List.length r.2.2 = List.length data /\ (∀ j, j < h0.nx -> ¬j = i_0 -> h.ob j = h0.ob j) /\ h0.nx <= h.nx)
def D1y (data_1 : List Int) : Option (List Int) :=
 some data_1
def D00 : ((List Int) × Int × Int) -> Option (Out ((List Int) × Int × Int) (((List Int))))
 | (data_0, i_8, j_9) =>
  if decide (i_8 < j_9) then
   (get data_0 j_9).bind fun x9 =>
   (get data_0 i_8).bind fun x10 =>
   (get (List.set data_0 (Int.toNat i_8) x9) j_9).bind fun x11 =>
   some (.nx ((List.set (List.set data_0 (Int.toNat i_8) x9) (Int.toNat j_9) x10), wr (i_8 + 1), wr (j_9 - 1)))
  else
   some (.br data_0)
def D0z (data : List Int) (a : Int) (b : Int) (cmp : Int -> Int -> Option Int) : Option (List Int) :=
 (b0w (D00) (data, a, wr (b - 1))).bind fun data_1 =>
 D1y data_1
def D09 (O : Orac) : Prop := ∀ (data : List Int) (i_0 : Nat) (a : Int) (b : Int) (cmp_n : String) (cmp_a cmp_b : List AV) (cmp : Int -> Int -> Option Int) (cmp_z : Frz (.fn cmp_n cmp_a cmp_b)) (cmp_h : ∀ z0 z1 y, cmp z0 z1 = some y -> Fn O cmp_n (cmp_a ++ [I z0, I z1] ++ cmp_b) (I y)) (h0 : Heap) (ob_p0 : h0.ob i_0 = some (1, List.map eI data)) (lt_p0 : i_0 < h0.nx) (r : List Int) (hm0 : D0z data a b cmp = some r), b6e O "slices.reverseRangeCmpFunc[int]" [.rs i_0 0 (List.length data), I a, I b, .fn cmp_n cmp_a cmp_b] h0 (fun v h => v = .tup [] /\ h.ob i_0 = some (1, List.map eI r) /\ List.length r = List.length data /\ (∀ j, j < h0.nx -> ¬j = i_0 -> h.ob j = h0.ob j) /\ h0.nx <= h.nx)
def D2u (data_1 : List Int) : Option (Bool × (List Int)) :=
 some (false, data_1)
def C9k (j_10 : Int) (data_0_1 : List Int) (i_9_1 : Int) : Option (Out ((List Int) × Int × Int) (((List Int)) ⊕ ((Bool × (List Int))))) :=
 some (.nx (data_0_1, i_9_1, wr (j_10 + 1)))
def C9i (b : Int) (cmp : Int -> Int -> Option Int) (i_9_1 : Int) : ((List Int) × Int) -> Option (Out ((List Int) × Int) (((List Int) × Int)))
 | (data_0_2, j_12) =>
  if decide (j_12 < b) then
   (get data_0_2 j_12).bind fun x30 =>
   (get data_0_2 (wr (j_12 - 1))).bind fun x31 =>
   (cmp x30 x31).bind fun y32 =>
   if !(decide (y32 < 0)) then
    some (.br (data_0_2, i_9_1))
   else
    (get (List.set data_0_2 (Int.toNat j_12) x31) (wr (j_12 - 1))).bind fun x36 =>
    some (.nx ((List.set (List.set data_0_2 (Int.toNat j_12) x31) (Int.toNat (wr (j_12 - 1))) x30), wr (j_12 + 1)))
  else
   some (.br (data_0_2, i_9_1))
def C8u (b : Int) (cmp : Int -> Int -> Option Int) (j_10 : Int) (i_9_1 : Int) (data_0_1 : List Int) : Option (Out ((List Int) × Int × Int) (((List Int)) ⊕ ((Bool × (List Int))))) :=
 if decide (2 <= (wr (b - i_9_1))) then
  (b0w (C9i b cmp i_9_1) (data_0_1, wr (i_9_1 + 1))).bind fun
   | (data_0_1, i_9_1) => C9k j_10 data_0_1 i_9_1
 else
  C9k j_10 data_0_1 i_9_1
def C9h (cmp : Int -> Int -> Option Int) : ((List Int) × Int) -> Option (Out ((List Int) × Int) (((List Int))))
 | (data_0_1, j_11) =>
  if decide (1 <= j_11) then
   (get data_0_1 j_11).bind fun x46 =>
   (get data_0_1 (wr (j_11 - 1))).bind fun x47 =>
   (cmp x46 x47).bind fun y48 =>
   if !(decide (y48 < 0)) then
    some (.br data_0_1)
   else
    (get (List.set data_0_1 (Int.toNat j_11) x47) (wr (j_11 - 1))).bind fun x52 =>
    some (.nx ((List.set (List.set data_0_1 (Int.toNat j_11) x47) (Int.toNat (wr (j_11 - 1))) x46), wr (j_11 - 1)))
  else
   some (.br data_0_1)
def C8n (a : Int) (b : Int) (cmp : Int -> Int -> Option Int) (data_0 : List Int) (j_10 : Int) (i_9_1 : Int) : Option (Out ((List Int) × Int × Int) (((List Int)) ⊕ ((Bool × (List Int))))) :=
 if decide (i_9_1 = b) then
  some (.br (.inr (true, data_0)))
 else
  if decide ((wr (b - a)) < 50) then
   some (.br (.inr (false, data_0)))
  else
   (get data_0 (wr (i_9_1 - 1))).bind fun x17 =>
   (get data_0 i_9_1).bind fun x18 =>
   (get (List.set data_0 (Int.toNat i_9_1) x17) (wr (i_9_1 - 1))).bind fun x19 =>
   if decide (2 <= (wr (i_9_1 - a))) then
    (b0w (C9h cmp) ((List.set (List.set data_0 (Int.toNat i_9_1) x17) (Int.toNat (wr (i_9_1 - 1))) x18), wr (i_9_1 - 1))).bind fun data_0_1 =>
    C8u b cmp j_10 i_9_1 data_0_1
   else
    C8u b cmp j_10 i_9_1 (List.set (List.set data_0 (Int.toNat i_9_1) x17) (Int.toNat (wr (i_9_1 - 1))) x18)
def C9j (b : Int) (cmp : Int -> Int -> Option Int) (data_0 : List Int) : Int -> Option (Out Int Int)
 | i_9_1 =>
  (if decide (i_9_1 < b) then (get data_0 i_9_1).bind fun x59 =>
  (get data_0 (wr (i_9_1 - 1))).bind fun x60 =>
  (cmp x59 x60).bind fun y61 =>
  some (!(decide (y61 < 0))) else some false).bind fun c62 =>
  if c62 then
   some (.nx (wr (i_9_1 + 1)))
  else
   some (.br i_9_1)
def C8m (a : Int) (b : Int) (cmp : Int -> Int -> Option Int) : ((List Int) × Int × Int) -> Option (Out ((List Int) × Int × Int) (((List Int)) ⊕ ((Bool × (List Int)))))
 | (data_0, i_9, j_10) =>
  if decide (j_10 < 5) then
   (b0w (C9j b cmp data_0) (i_9)).bind fun i_9_1 =>
   C8n a b cmp data_0 j_10 i_9_1
  else
   some (.br (.inl data_0))
def D0n (data : List Int) (a : Int) (b : Int) (cmp : Int -> Int -> Option Int) : Option (Bool × (List Int)) :=
 (b0w (C8m a b cmp) (data, wr (a + 1), 0)).bind fun
  | (.inl data_1) => D2u data_1
  | (.inr r') => some r'
def D06 (O : Orac) : Prop := ∀ (data : List Int) (i_0 : Nat) (a : Int) (b : Int) (cmp_n : String) (cmp_a cmp_b : List AV) (cmp : Int -> Int -> Option Int) (cmp_z : Frz (.fn cmp_n cmp_a cmp_b)) (cmp_h : ∀ z0 z1 y, cmp z0 z1 = some y -> Fn O cmp_n (cmp_a ++ [I z0, I z1] ++ cmp_b) (I y)) (h0 : Heap) (ob_p0 : h0.ob i_0 = some (1, List.map eI data)) (lt_p0 : i_0 < h0.nx) (r : Bool × (List Int)) (hm0 : D0n data a b cmp = some r), b6e O "slices.partialInsertionSortCmpFunc[int]" [.rs i_0 0 (List.length data), I a, I b, .fn cmp_n cmp_a cmp_b] h0 (fun v h => v = B r.1 /\ h.ob i_0 = some (1, List.map eI r.2) /\ List.length r.2 = List.length data /\ (∀ j, j < h0.nx -> ¬j = i_0 -> h.ob j = h0.ob j) /\ h0.nx <= h.nx)
def D2v (i_11 : Int) (data_1 : List Int) : Option (Int × (List Int)) :=
 some (i_11, data_1)
def D1x (data_0_1 : List Int) (i_11_1 : Int) (j_12_1 : Int) : Option (Out ((List Int) × Int × Int) ((Int × (List Int)))) :=
 some (.nx (data_0_1, i_11_1, j_12_1))
def C8w (data_0 : List Int) (i_11_1 : Int) (j_12_1 : Int) : Option (Out ((List Int) × Int × Int) ((Int × (List Int)))) :=
 if decide (j_12_1 < i_11_1) then
  some (.br (i_11_1, data_0))
 else
  (get data_0 j_12_1).bind fun x21 =>
  (get data_0 i_11_1).bind fun x22 =>
  (get (List.set data_0 (Int.toNat i_11_1) x21) j_12_1).bind fun x23 =>
  D1x (List.set (List.set data_0 (Int.toNat i_11_1) x21) (Int.toNat j_12_1) x22) (wr (i_11_1 + 1)) (wr (j_12_1 - 1))
def D0w (a : Int) (cmp : Int -> Int -> Option Int) (data_0 : List Int) (i_11_1 : Int) : Int -> Option (Out Int Int)
 | j_12_1 =>
  (if decide (i_11_1 <= j_12_1) then (get data_0 a).bind fun x29 =>
  (get data_0 j_12_1).bind fun x30 =>
  (cmp x29 x30).bind fun y31 =>
  some (decide (y31 < 0)) else some false).bind fun c32 =>
  if c32 then
   some (.nx (wr (j_12_1 - 1)))
  else
   some (.br j_12_1)
def D0x (a : Int) (cmp : Int -> Int -> Option Int) (data_0 : List Int) (j_12 : Int) (i_11_1 : Int) : Option (Out ((List Int) × Int × Int) ((Int × (List Int)))) :=
 (b0w (D0w a cmp data_0 i_11_1) (j_12)).bind fun j_12_1 =>
 C8w data_0 i_11_1 j_12_1
def D0v (a : Int) (cmp : Int -> Int -> Option Int) (data_0 : List Int) (j_12 : Int) : Int -> Option (Out Int Int)
 | i_11_1 =>
  (if decide (i_11_1 <= j_12) then (get data_0 a).bind fun x42 =>
  (get data_0 i_11_1).bind fun x43 =>
  (cmp x42 x43).bind fun y44 =>
  some (!(decide (y44 < 0))) else some false).bind fun c45 =>
  if c45 then
   some (.nx (wr (i_11_1 + 1)))
  else
   some (.br i_11_1)
def C9o (a : Int) (cmp : Int -> Int -> Option Int) : ((List Int) × Int × Int) -> Option (Out ((List Int) × Int × Int) ((Int × (List Int))))
 | (data_0, i_11, j_12) =>
  (b0w (D0v a cmp data_0 j_12) (i_11)).bind fun i_11_1 =>
  D0x a cmp data_0 j_12 i_11_1
def D0u (data : List Int) (a : Int) (b : Int) (pivot : Int) (cmp : Int -> Int -> Option Int) : Option (Int × (List Int)) :=
 (get data pivot).bind fun x4 =>
 (get data a).bind fun x5 =>
 (get (List.set data (Int.toNat a) x4) pivot).bind fun x6 =>
 (b0w (C9o a cmp) ((List.set (List.set data (Int.toNat a) x4) (Int.toNat pivot) x5), wr (a + 1), wr (b - 1))).bind fun
  | (i_11, data_1) => D2v i_11 data_1
def D08 (O : Orac) : Prop := ∀ (data : List Int) (i_0 : Nat) (a : Int) (b : Int) (pivot : Int) (cmp_n : String) (cmp_a cmp_b : List AV) (cmp : Int -> Int -> Option Int) (cmp_z : Frz (.fn cmp_n cmp_a cmp_b)) (cmp_h : ∀ z0 z1 y, cmp z0 z1 = some y -> Fn O cmp_n (cmp_a ++ [I z0, I z1] ++ cmp_b) (I y)) (h0 : Heap) (ob_p0 : h0.ob i_0 = some (1, List.map eI data)) (lt_p0 : i_0 < h0.nx) (r : Int × (List Int)) (hm0 : D0u data a b pivot cmp = some r), b6e O "slices.partitionEqualCmpFunc[int]" [.rs i_0 0 (List.length data), I a, I b, I pivot, .fn cmp_n cmp_a cmp_b] h0 (fun v h => v = I r.1 /\ h.ob i_0 = some (1, List.map eI r.2) /\ List.length r.2 = List.length data /\ (∀ j, j < h0.nx -> ¬j = i_0 -> h.ob j = h0.ob j) /\ h0.nx <= h.nx)
def D0s (a : Int) (data_0 : List Int) (j_13_1 : Int) : Option (Int × Bool × (List Int)) :=
 (get data_0 a).bind fun x30 =>
 (get data_0 j_13_1).bind fun x31 =>
 (get (List.set data_0 (Int.toNat j_13_1) x30) a).bind fun x32 =>
 some (j_13_1, false, (List.set (List.set data_0 (Int.toNat j_13_1) x30) (Int.toNat a) x31))
def D1v (data_0_1 : List Int) (i_12_2 : Int) (j_13_2 : Int) : Option (Out ((List Int) × Int × Int) (((List Int) × Int))) :=
 some (.nx (data_0_1, i_12_2, j_13_2))
def C8v (data_0 : List Int) (i_12_2 : Int) (j_13_2 : Int) : Option (Out ((List Int) × Int × Int) (((List Int) × Int))) :=
 if decide (j_13_2 < i_12_2) then
  some (.br (data_0, j_13_2))
 else
  (get data_0 j_13_2).bind fun x45 =>
  (get data_0 i_12_2).bind fun x46 =>
  (get (List.set data_0 (Int.toNat i_12_2) x45) j_13_2).bind fun x47 =>
  D1v (List.set (List.set data_0 (Int.toNat i_12_2) x45) (Int.toNat j_13_2) x46) (wr (i_12_2 + 1)) (wr (j_13_2 - 1))
def D0p (a : Int) (cmp : Int -> Int -> Option Int) (data_0 : List Int) (i_12_2 : Int) : Int -> Option (Out Int Int)
 | j_13_2 =>
  (if decide (i_12_2 <= j_13_2) then (get data_0 j_13_2).bind fun x53 =>
  (get data_0 a).bind fun x54 =>
  (cmp x53 x54).bind fun y55 =>
  some (!(decide (y55 < 0))) else some false).bind fun c56 =>
  if c56 then
   some (.nx (wr (j_13_2 - 1)))
  else
   some (.br j_13_2)
def D0t (a : Int) (cmp : Int -> Int -> Option Int) (data_0 : List Int) (j_13_1 : Int) (i_12_2 : Int) : Option (Out ((List Int) × Int × Int) (((List Int) × Int))) :=
 (b0w (D0p a cmp data_0 i_12_2) (j_13_1)).bind fun j_13_2 =>
 C8v data_0 i_12_2 j_13_2
def D0o (a : Int) (cmp : Int -> Int -> Option Int) (data_0 : List Int) (j_13_1 : Int) : Int -> Option (Out Int Int)
 | i_12_2 =>
  (if decide (i_12_2 <= j_13_1) then (get data_0 i_12_2).bind fun x66 =>
  (get data_0 a).bind fun x67 =>
  (cmp x66 x67).bind fun y68 =>
  some (decide (y68 < 0)) else some false).bind fun c69 =>
  if c69 then
   some (.nx (wr (i_12_2 + 1)))
  else
   some (.br i_12_2)
def C9m (a : Int) (cmp : Int -> Int -> Option Int) : ((List Int) × Int × Int) -> Option (Out ((List Int) × Int × Int) (((List Int) × Int)))
 | (data_0, i_12_1, j_13_1) =>
  (b0w (D0o a cmp data_0 j_13_1) (i_12_1)).bind fun i_12_2 =>
  D0t a cmp data_0 j_13_1 i_12_2
def C9n (data : List Int) (a : Int) (pivot : Int) (cmp : Int -> Int -> Option Int) (x4 : Int) (x5 : Int) (i_12 : Int) (j_13 : Int) : Option (Int × Bool × (List Int)) :=
 if decide (j_13 < i_12) then
  (get (List.set (List.set data (Int.toNat a) x4) (Int.toNat pivot) x5) a).bind fun x16 =>
  (get (List.set (List.set data (Int.toNat a) x4) (Int.toNat pivot) x5) j_13).bind fun x17 =>
  (get (List.set (List.set (List.set data (Int.toNat a) x4) (Int.toNat pivot) x5) (Int.toNat j_13) x16) a).bind fun x18 =>
  some (j_13, true, (List.set (List.set (List.set (List.set data (Int.toNat a) x4) (Int.toNat pivot) x5) (Int.toNat j_13) x16) (Int.toNat a) x17))
 else
  (get (List.set (List.set data (Int.toNat a) x4) (Int.toNat pivot) x5) j_13).bind fun x22 =>
  (get (List.set (List.set data (Int.toNat a) x4) (Int.toNat pivot) x5) i_12).bind fun x23 =>
  (get (List.set (List.set (List.set data (Int.toNat a) x4) (Int.toNat pivot) x5) (Int.toNat i_12) x22) j_13).bind fun x24 =>
  (b0w (C9m a cmp) ((List.set (List.set (List.set (List.set data (Int.toNat a) x4) (Int.toNat pivot) x5) (Int.toNat i_12) x22) (Int.toNat j_13) x23), wr (i_12 + 1), wr (j_13 - 1))).bind fun
   | (data_0, j_13_1) => D0s a data_0 j_13_1
def D0r (data : List Int) (a : Int) (pivot : Int) (cmp : Int -> Int -> Option Int) (x4 : Int) (x5 : Int) (i_12 : Int) : Int -> Option (Out Int Int)
 | j_13 =>
  (if decide (i_12 <= j_13) then (get (List.set (List.set data (Int.toNat a) x4) (Int.toNat pivot) x5) j_13).bind fun x80 =>
  (get (List.set (List.set data (Int.toNat a) x4) (Int.toNat pivot) x5) a).bind fun x81 =>
  (cmp x80 x81).bind fun y82 =>
  some (!(decide (y82 < 0))) else some false).bind fun c83 =>
  if c83 then
   some (.nx (wr (j_13 - 1)))
  else
   some (.br j_13)
def D1w (data : List Int) (a : Int) (b : Int) (pivot : Int) (cmp : Int -> Int -> Option Int) (x4 : Int) (x5 : Int) (i_12 : Int) : Option (Int × Bool × (List Int)) :=
 (b0w (D0r data a pivot cmp x4 x5 i_12) (wr (b - 1))).bind fun j_13 =>
 C9n data a pivot cmp x4 x5 i_12 j_13
def D0q (data : List Int) (a : Int) (b : Int) (pivot : Int) (cmp : Int -> Int -> Option Int) (x4 : Int) (x5 : Int) : Int -> Option (Out Int Int)
 | i_12 =>
  (if decide (i_12 <= (wr (b - 1))) then (get (List.set (List.set data (Int.toNat a) x4) (Int.toNat pivot) x5) i_12).bind fun x93 =>
  (get (List.set (List.set data (Int.toNat a) x4) (Int.toNat pivot) x5) a).bind fun x94 =>
  (cmp x93 x94).bind fun y95 =>
  some (decide (y95 < 0)) else some false).bind fun c96 =>
  if c96 then
   some (.nx (wr (i_12 + 1)))
  else
   some (.br i_12)
def C9l (data : List Int) (a : Int) (b : Int) (pivot : Int) (cmp : Int -> Int -> Option Int) : Option (Int × Bool × (List Int)) :=
 (get data pivot).bind fun x4 =>
 (get data a).bind fun x5 =>
 (get (List.set data (Int.toNat a) x4) pivot).bind fun x6 =>
 (b0w (D0q data a b pivot cmp x4 x5) (wr (a + 1))).bind fun i_12 =>
 D1w data a b pivot cmp x4 x5 i_12
def D07 (O : Orac) : Prop := ∀ (data : List Int) (i_0 : Nat) (a : Int) (b : Int) (pivot : Int) (cmp_n : String) (cmp_a cmp_b : List AV) (cmp : Int -> Int -> Option Int) (cmp_z : Frz (.fn cmp_n cmp_a cmp_b)) (cmp_h : ∀ z0 z1 y, cmp z0 z1 = some y -> Fn O cmp_n (cmp_a ++ [I z0, I z1] ++ cmp_b) (I y)) (h0 : Heap) (ob_p0 : h0.ob i_0 = some (1, List.map eI data)) (lt_p0 : i_0 < h0.nx) (r : Int × Bool × (List Int)) (hm0 : C9l data a b pivot cmp = some r), b6e O "slices.partitionCmpFunc[int]" [.rs i_0 0 (List.length data), I a, I b, I pivot, .fn cmp_n cmp_a cmp_b] h0 (fun v h => v = .tup [I r.1, B r.2.1] /\ h.ob i_0 = some (1, List.map eI r.2.2) /\ List.length r.2.2 = List.length data /\ (∀ j, j < h0.nx -> ¬j = i_0 -> h.ob j = h0.ob j) /\ h0.nx <= h.nx)
def C9r (pdqself : (List Int) -> Int -> Int -> Int -> (Int -> Int -> Option Int) -> Option (List Int)) (cmp : Int -> Int -> Option Int) (a_1 : Int) (b_2 : Int) (wasBalanced_10 : Bool) (wasPartitioned_11 : Bool) (limit_3_1 : Int) (pivot_13 : Int) (data_0_3 : List Int) : Option (Out ((List Int) × Int × Int × Int × Bool × Bool) (((List Int)))) :=
 (if decide (0 < a_1) then (get data_0_3 (wr (a_1 - 1))).bind fun x25 =>
 (get data_0_3 pivot_13).bind fun x26 =>
 (cmp x25 x26).bind fun y27 =>
 some (!(decide (y27 < 0))) else some false).bind fun c28 =>
 if c28 then
  (D0u data_0_3 a_1 b_2 pivot_13 cmp).bind fun y33 =>
  some (.nx (y33.2, y33.1, b_2, limit_3_1, wasBalanced_10, wasPartitioned_11))
 else
  (C9l data_0_3 a_1 b_2 pivot_13 cmp).bind fun y35 =>
  (quo .i64 (wr (b_2 - a_1)) 8).bind fun q37 =>
  if decide ((wr (y35.1 - a_1)) < (wr (b_2 - y35.1))) then
   (pdqself y35.2.2 a_1 y35.1 limit_3_1 cmp).bind fun y40 =>
   some (.nx (y40, wr (y35.1 + 1), b_2, limit_3_1, decide (q37 <= (wr (y35.1 - a_1))), y35.2.1))
  else
   (pdqself y35.2.2 (wr (y35.1 + 1)) b_2 limit_3_1 cmp).bind fun y42 =>
   some (.nx (y42, a_1, y35.1, limit_3_1, decide (q37 <= (wr (b_2 - y35.1))), y35.2.1))
def C9q (pdqself : (List Int) -> Int -> Int -> Int -> (Int -> Int -> Option Int) -> Option (List Int)) (cmp : Int -> Int -> Option Int) (a_1 : Int) (b_2 : Int) (wasBalanced_10 : Bool) (wasPartitioned_11 : Bool) (limit_3_1 : Int) (data_0_2 : List Int) (pivot_13 : Int) (hint_14 : Int) : Option (Out ((List Int) × Int × Int × Int × Bool × Bool) (((List Int)))) :=
 if (wasBalanced_10 && wasPartitioned_11) && (decide (hint_14 = 1)) then
  (D0n data_0_2 a_1 b_2 cmp).bind fun y45 =>
  if y45.1 then
   some (.br y45.2)
  else
   C9r pdqself cmp a_1 b_2 wasBalanced_10 wasPartitioned_11 limit_3_1 pivot_13 y45.2
 else
  C9r pdqself cmp a_1 b_2 wasBalanced_10 wasPartitioned_11 limit_3_1 pivot_13 data_0_2
def C9p (pdqself : (List Int) -> Int -> Int -> Int -> (Int -> Int -> Option Int) -> Option (List Int)) (cmp : Int -> Int -> Option Int) (a_1 : Int) (b_2 : Int) (wasBalanced_10 : Bool) (wasPartitioned_11 : Bool) (data_0_1 : List Int) (limit_3_1 : Int) : Option (Out ((List Int) × Int × Int × Int × Bool × Bool) (((List Int)))) :=
 (C9d data_0_1 a_1 b_2 cmp).bind fun y14 =>
 if decide (y14.2.1 = 2) then
  (D0z y14.2.2 a_1 b_2 cmp).bind fun y49 =>
  C9q pdqself cmp a_1 b_2 wasBalanced_10 wasPartitioned_11 limit_3_1 y49 (wr ((wr (b_2 - 1)) - (wr (y14.1 - a_1)))) 1
 else
  C9q pdqself cmp a_1 b_2 wasBalanced_10 wasPartitioned_11 limit_3_1 y14.2.2 y14.1 y14.2.1
def D0y (pdqself : (List Int) -> Int -> Int -> Int -> (Int -> Int -> Option Int) -> Option (List Int)) (cmp : Int -> Int -> Option Int) : ((List Int) × Int × Int × Int × Bool × Bool) -> Option (Out ((List Int) × Int × Int × Int × Bool × Bool) (((List Int))))
 | (data_0, a_1, b_2, limit_3, wasBalanced_10, wasPartitioned_11) =>
  if decide ((wr (b_2 - a_1)) <= 12) then
   (x73 data_0 a_1 b_2 cmp).bind fun y6 =>
   some (.br y6)
  else
   if decide (limit_3 = 0) then
    (D0j data_0 a_1 b_2 cmp).bind fun y10 =>
    some (.br y10)
   else
    if !wasBalanced_10 then
     (D0i data_0 a_1 b_2 cmp).bind fun y52 =>
     C9p pdqself cmp a_1 b_2 wasBalanced_10 wasPartitioned_11 y52 (wr (limit_3 - 1))
    else
     C9p pdqself cmp a_1 b_2 wasBalanced_10 wasPartitioned_11 data_0 limit_3
def C8x (pdqself : (List Int) -> Int -> Int -> Int -> (Int -> Int -> Option Int) -> Option (List Int)) (data : List Int) (a : Int) (b : Int) (limit : Int) (cmp : Int -> Int -> Option Int) : Option (List Int) :=
 (b0w (D0y pdqself cmp) (data, a, b, limit, true, true)).bind fun r' =>
 some r'
def D14 (O : Orac) (pdqself : (List Int) -> Int -> Int -> Int -> (Int -> Int -> Option Int) -> Option (List Int)) : Prop := ∀ (data : List Int) (i_0 : Nat) (a : Int) (b : Int) (limit : Int) (cmp_n : String) (cmp_a cmp_b : List AV) (cmp : Int -> Int -> Option Int) (cmp_z : Frz (.fn cmp_n cmp_a cmp_b)) (cmp_h : ∀ z0 z1 y, cmp z0 z1 = some y -> Fn O cmp_n (cmp_a ++ [I z0, I z1] ++ cmp_b) (I y)) (h0 : Heap) (ob_p0 : h0.ob i_0 = some (1, List.map eI data)) (lt_p0 : i_0 < h0.nx) (r : List Int) (hm0 : pdqself data a b limit cmp = some r), b6e O "slices.pdqsortCmpFunc[int]" [.rs i_0 0 (List.length data), I a, I b, I limit, .fn cmp_n cmp_a cmp_b] h0 (fun v h => v = .tup [] /\ h.ob i_0 = some (1, List.map eI r) /\ List.length r = List.length data /\ (∀ j, j < h0.nx -> ¬j = i_0 -> h.ob j = h0.ob j) /\ h0.nx <= h.nx)
def C8h : Nat -> (List Int) -> Int -> Int -> Int -> (Int -> Int -> Option Int) -> Option (List Int)
 | 0 => fun _ _ _ _ _ => none
 | n + 1 => C8x (C8h n)
def D2a (O : Orac) : Prop := ∀ n, D14 O (C8h n)
def z5q (x : List Int) (cmp : Int -> Int -> Option Int) : Option (List Int) :=
 if 0 < x.length then (z6d (IntKind.wrap .u64 (x.length : Int))).bind fun lim => C8h (x.length + 1) x 0 (x.length : Int) lim cmp else none
def z5x (O : Orac) : Prop := ∀ (x : List Int) (v_0 : AV) (cmp_n : String) (cmp_a cmp_b : List AV) (cmp : Int -> Int -> Option Int) (cmp_z : Frz (.fn cmp_n cmp_a cmp_b)) (cmp_h : ∀ z0 z1 y, cmp z0 z1 = some y -> Fn O cmp_n (cmp_a ++ [I z0, I z1] ++ cmp_b) (I y)) (h0 : Heap) (ow_p0 : b2a h0 v_0 1 (List.map eI x)) (r : List Int) (hm0 : z5q x cmp = some r), b6e O "slices.SortFunc[[]int,int]" [v_0, .fn cmp_n cmp_a cmp_b] h0 (fun v h => v = .tup [] /\ b2a h v_0 1 (List.map eI r) /\ (∀ j, j < h0.nx -> b07 v_0 j -> h.ob j = h0.ob j) /\ h0.nx <= h.nx)
def c71 (a : Int) (b : Int) : Option Int :=
 (x49 a).bind fun y4 =>
 (x49 b).bind fun y5 =>
 (B8x y4 y5).bind fun y6 =>
 some y6
def z7h (O : Orac) : Prop := ∀ (a : Int) (b : Int) (r : Int) (hm0 : c71 a b = some r), Fn O "newel/faults.fewest$1" [I a, I b] (I r)
def B8o (p : Plant) (seen : List Bool) (q10 : Int) : ((List Int) × Int) -> Option (Out ((List Int) × Int) (List Int))
 | (l, i) =>
  if decide (i < q10) then
   (z27 p seen i).bind fun s =>
   match l with
   | [] => some (.nx ([s], wr (i + 1)))
   | x :: xs =>
    (l13 (IntKind.wrap .u64 s)).bind fun c1 =>
    (l13 (IntKind.wrap .u64 x)).bind fun c2 =>
    if decide (c1 < c2) then some (.nx ([s], wr (i + 1)))
    else if decide (c1 = c2) then (ap 8 (x :: xs) [s]).bind fun l2 => some (.nx (l2, wr (i + 1)))
    else some (.nx (x :: xs, wr (i + 1)))
  else some (.br l)
def B8n (p : Plant) (seen : List Bool) : Option (List Int) :=
 (shl .i64 1 p.Parts).bind fun q10 =>
 (b0w (B8o p seen q10) ([], 0)).bind fun l =>
 z5q l (fun z0 z1 => c71 z0 z1)
def z7g (O : Orac) : Prop := ∀ (p : Plant) (seen : List Bool) (r : List Int) (hm0 : B8n p seen = some r), Fn O "newel/faults.fewest" [.agg [I p.Parts, .fs 1 (List.map b2f p.Alarms)], .fs 1 (List.map eB seen)] (.fs 1 (List.map eI r))
def C9w (p : Plant) (seen : List Bool) : Option ((List Int) × Int) :=
 (z5a p seen).bind fun y2 =>
 if decide (¬y2 = 0) then
  some ([], y2)
 else
  (B8n p seen).bind fun y8 =>
  (get y8 0).bind fun x9 =>
  (x49 x9).bind fun y10 =>
  some (y10, 0)
def D10 (O : Orac) : Prop := ∀ (p : Plant) (seen : List Bool) (r : (List Int) × Int) (hm0 : C9w p seen = some r), Fn O "newel/faults.Explain" [.agg [I p.Parts, .fs 1 (List.map b2f p.Alarms)], .fs 1 (List.map eB seen)] (.tup [.fs 1 (List.map eI r.1), I r.2])
def u1z : Option Bool :=
 some true
def u0y (a : List Int) (b : List Int) : Int -> Option (Out Int (Unit ⊕ Bool))
 | i_5 =>
  if decide (i_5 < (List.length a : Int)) then
   (get a i_5).bind fun x11 =>
   (get b i_5).bind fun x12 =>
   if decide (¬x11 = x12) then
    some (.br (.inr false))
   else
    some (.nx (wr (i_5 + 1)))
  else
   some (.br (.inl ()))
def u0x (a : List Int) (b : List Int) : Option Bool :=
 if decide (¬(List.length a : Int) = (List.length b : Int)) then
  some false
 else
  (b0w (u0y a b) (0)).bind fun
   | (.inl ()) => u1z
   | (.inr r') => some r'
def u2o (O : Orac) : Prop := ∀ (a : List Int) (b : List Int) (r : Bool) (hm0 : u0x a b = some r), Fn O "newel/newellaw10.sameInts" [.fs 1 (List.map eI a), .fs 1 (List.map eI b)] (B r)
def u10 : Option Bool := some true
def u4h (O : Orac) : Prop := ∀ (r : Bool) (hm0 : u10 = some r), Fn O "newel/newellaw10.works" [] (B r)
def z72 (l_7 : List (List Int)) : Option ((List (List Int)) × Int) :=
 some (l_7, 0)
def z26 (y6 : List Int) : ((List (List Int)) × Int) -> Option (Out ((List (List Int)) × Int) (((List (List Int)))))
 | (l_7, x_20) =>
  if decide (x_20 < (List.length y6 : Int)) then
   (get y6 x_20).bind fun x14 =>
   (x49 x14).bind fun y17 =>
   (ap 24 l_7 ([y17])).bind fun l18 =>
   some (.nx (l18, wr (x_20 + 1)))
  else
   some (.br l_7)
def s94 (p : Plant) (seen : List Bool) : Option ((List (List Int)) × Int) :=
 (z5a p seen).bind fun y2 =>
 if decide (¬y2 = 0) then
  some ([], y2)
 else
  (B8n p seen).bind fun y6 =>
  (b0w (z26 y6) ([], 0)).bind fun l_7 =>
  z72 l_7
def z7d (O : Orac) : Prop := ∀ (p : Plant) (seen : List Bool) (r : (List (List Int)) × Int) (hm0 : s94 p seen = some r), Fn O "newel/faults.All" [.agg [I p.Parts, .fs 1 (List.map b2f p.Alarms)], .fs 1 (List.map eB seen)] (.tup [.fs 1 (List.map b2f r.1), I r.2])
def D1c (sure_7 : Int) : Option ((List Int) × Int) :=
 (x49 sure_7).bind fun y10 =>
 some (y10, 0)
def C81 (y6 : List Int) : (Int × Int) -> Option (Out (Int × Int) Int)
 | (sure_7, x_20) =>
  if decide (x_20 < (List.length y6 : Int)) then
   (get y6 x_20).bind fun x16 =>
   some (.nx (b6y sure_7 x16, wr (x_20 + 1)))
  else
   some (.br sure_7)
def C9x (p : Plant) (seen : List Bool) : Option ((List Int) × Int) :=
 (z5a p seen).bind fun y2 =>
 if decide (¬y2 = 0) then
  some ([], y2)
 else
  (B8n p seen).bind fun y6 =>
  (b0w (C81 y6) ((-1), 0)).bind fun sure_7 =>
  D1c sure_7
def D11 (O : Orac) : Prop := ∀ (p : Plant) (seen : List Bool) (r : (List Int) × Int) (hm0 : C9x p seen = some r), Fn O "newel/faults.Surely" [.agg [I p.Parts, .fs 1 (List.map b2f p.Alarms)], .fs 1 (List.map eB seen)] (.tup [.fs 1 (List.map eI r.1), I r.2])
def C8r (p : Plant) (set_7 : Int) (i_9 : Int) : (Bool × Int) -> Option (Out (Bool × Int) Bool)
 | (on_10, k_11) =>
  (get p.Alarms i_9).bind fun x22 =>
  if decide (k_11 < (List.length x22 : Int)) then
   (if on_10 then some true else (get x22 k_11).bind fun x29 =>
   (shr .i64 set_7 (IntKind.wrap .u64 x29)).bind fun q30 =>
   some (decide ((b6y q30 1) = 1))).bind fun c31 =>
   some (.nx (c31, wr (k_11 + 1)))
  else
   some (.br on_10)
def x8z (a : List Int) (b : List Int) : Option Bool :=
 some (decide ((List.length a : Int) < (List.length b : Int)))
def C9a (a : List Int) (b : List Int) : Int -> Option (Out Int (Unit ⊕ Bool))
 | i_5 =>
  if (decide (i_5 < (List.length a : Int))) && (decide (i_5 < (List.length b : Int))) then
   (get a i_5).bind fun x10 =>
   (get b i_5).bind fun x11 =>
   if decide (¬x10 = x11) then
    some (.br (.inr (decide (x10 < x11))))
   else
    some (.nx (wr (i_5 + 1)))
  else
   some (.br (.inl ()))
def x70 (a : List Int) (b : List Int) : Option Bool :=
 (b0w (C9a a b) (0)).bind fun
  | (.inl ()) => x8z a b
  | (.inr r') => some r'
def x83 (O : Orac) : Prop := ∀ (a : List Int) (b : List Int) (r : Bool) (hm0 : x70 a b = some r), Fn O "newel/newelref10.Less" [.fs 1 (List.map eI a), .fs 1 (List.map eI b)] (B r)
def E03 (p : Plant) (o_3_1 : List (List Int)) : Option Plant :=
 some (Plant.mk p.Parts o_3_1)
def D93 (p : Plant) : ((List (List Int)) × Int) -> Option (Out ((List (List Int)) × Int) (((List (List Int)))))
 | (o_3_1, i_4) =>
  if decide (i_4 < (List.length p.Alarms : Int)) then
   (get p.Alarms i_4).bind fun x10 =>
   (ap 8 ([]) x10).bind fun l11 =>
   (ap 24 o_3_1 ([l11])).bind fun l12 =>
   some (.nx (l12, wr (i_4 + 1)))
  else
   some (.br o_3_1)
def D92 (p : Plant) : Option Plant :=
 (b0w (D93 p) ([], 0)).bind fun o_3_1 =>
 E03 p o_3_1
def E0n (O : Orac) : Prop := ∀ (p : Plant) (r : Plant) (hm0 : D92 p = some r), Fn O "newel/newelref10.CopyPlant" [.agg [I p.Parts, .fs 1 (List.map b2f p.Alarms)]] (.agg [I r.Parts, .fs 1 (List.map b2f r.Alarms)])
def E05 (out_3 : List Int) : Option (List Int) :=
 some out_3
def D97 (i_4 : Int) (out_3_1 : List Int) : Option (Out ((List Int) × Int) (((List Int)))) :=
 some (.nx (out_3_1, wr (i_4 + 1)))
def D9r (set : Int) : ((List Int) × Int) -> Option (Out ((List Int) × Int) (((List Int))))
 | (out_3, i_4) =>
  (shr .i64 set (IntKind.wrap .u64 i_4)).bind fun q5 =>
  if decide (0 < q5) then
   if decide ((b6y q5 1) = 1) then
    (ap 8 out_3 ([i_4])).bind fun l12 =>
    D97 i_4 l12
   else
    D97 i_4 out_3
  else
   some (.br out_3)
def D96 (set : Int) : Option (List Int) :=
 (b0w (D9r set) ([], 0)).bind fun out_3 =>
 E05 out_3
def E0q (O : Orac) : Prop := ∀ (set : Int) (h0 : Heap) (r : List Int) (hm0 : D96 set = some r), b6e O "newel/newelref10.bits" [I set] h0 (fun v h => b2a h v 1 (List.map eI r) /\ (∀ j, j < h0.nx -> h.ob j = h0.ob j) /\ h0.nx <= h.nx /\ ∀ j, ¬b07 v j -> h0.nx <= j)
def E0j (l : List (List Int)) (x : List Int) (at_5 : Int) : Option (List (List Int)) :=
 (sub l 0 at_5).bind fun l5 =>
 (ap 24 ([]) l5).bind fun l6 =>
 (ap 24 l6 ([x])).bind fun l8 =>
 (sub l at_5 (List.length l : Int)).bind fun l11 =>
 (ap 24 l8 l11).bind fun l12 =>
 some l12
def D9t (l : List (List Int)) (x : List Int) : Int -> Option (Out Int Int)
 | at_5 =>
  (if decide (at_5 < (List.length l : Int)) then (get l at_5).bind fun x17 =>
  (x70 x17 x).bind fun y18 =>
  some y18 else some false).bind fun c19 =>
  if c19 then
   some (.nx (wr (at_5 + 1)))
  else
   some (.br at_5)
def D9s (l : List (List Int)) (x : List Int) : Option (List (List Int)) :=
 (b0w (D9t l x) (0)).bind fun at_5 =>
 E0j l x at_5
def E0r (O : Orac) : Prop := ∀ (l : List (List Int)) (x : List Int) (r : List (List Int)) (hm0 : D9s l x = some r), Fn O "newel/newelref10.put" [.fs 1 (List.map b2f l), .fs 1 (List.map eI x)] (.fs 1 (List.map b2f r))
def E02 (all_7 : Option (List (List Int))) : Option ((List (List Int)) × Int) :=
 some (Option.getD all_7 [], 0)
def D9h (set_9 : Int) (all_7_1 : Option (List (List Int))) (least_8_1 : Int) : Option (Out ((Option (List (List Int))) × Int × Int) (((Option (List (List Int)))))) :=
 some (.nx (all_7_1, least_8_1, wr (set_9 + 1)))
def D9c (set_9 : Int) (faults_10 : List Int) (all_7_1 : Option (List (List Int))) (least_8_1 : Int) : Option (Out ((Option (List (List Int))) × Int × Int) (((Option (List (List Int)))))) :=
 if decide ((List.length faults_10 : Int) = least_8_1) then
  (D9s (Option.getD all_7_1 []) faults_10).bind fun y23 =>
  D9h set_9 (some y23) least_8_1
 else
  D9h set_9 all_7_1 least_8_1
def D9p (all_7 : Option (List (List Int))) (least_8 : Int) (set_9 : Int) (faults_10 : List Int) : Option (Out ((Option (List (List Int))) × Int × Int) (((Option (List (List Int)))))) :=
 if (decide (least_8 < 0)) || (decide ((List.length faults_10 : Int) < least_8)) then
  D9c set_9 faults_10 none (List.length faults_10 : Int)
 else
  D9c set_9 faults_10 all_7 least_8
def D9z (i_11 : Int) (faults_10_1 : List Int) : Option (Out ((List Int) × Int) (((List Int)))) :=
 some (.nx (faults_10_1, wr (i_11 + 1)))
def E0h (p : Plant) (seen : List Bool) (faults_10 : List Int) (i_11 : Int) (on_12 : Bool) : Option (Out ((List Int) × Int) (((List Int)))) :=
 (get seen i_11).bind fun x33 =>
 if !(b5c on_12 x33) then
  (ap 8 faults_10 ([wr (p.Parts + i_11)])).bind fun l36 =>
  D9z i_11 l36
 else
  D9z i_11 faults_10
def E0g (p : Plant) (set_9 : Int) (i_11 : Int) : (Bool × Int) -> Option (Out (Bool × Int) Bool)
 | (on_12, k_13) =>
  (get p.Alarms i_11).bind fun x39 =>
  if decide (k_13 < (List.length x39 : Int)) then
   (if on_12 then some true else (get x39 k_13).bind fun x46 =>
   (shr .i64 set_9 (IntKind.wrap .u64 x46)).bind fun q47 =>
   some (decide ((b6y q47 1) = 1))).bind fun c48 =>
   some (.nx (c48, wr (k_13 + 1)))
  else
   some (.br on_12)
def D9o (p : Plant) (seen : List Bool) (set_9 : Int) : ((List Int) × Int) -> Option (Out ((List Int) × Int) (((List Int))))
 | (faults_10, i_11) =>
  if decide (i_11 < (List.length p.Alarms : Int)) then
   (b0w (E0g p set_9 i_11) (false, 0)).bind fun on_12 =>
   E0h p seen faults_10 i_11 on_12
  else
   some (.br faults_10)
def D9a (p : Plant) (seen : List Bool) : ((Option (List (List Int))) × Int × Int) -> Option (Out ((Option (List (List Int))) × Int × Int) (((Option (List (List Int))))))
 | (all_7, least_8, set_9) =>
  (shl .i64 1 (IntKind.wrap .u64 p.Parts)).bind fun q9 =>
  if decide (set_9 < q9) then
   (D96 set_9).bind fun y15 =>
   (b0w (D9o p seen set_9) (y15, 0)).bind fun faults_10 =>
   D9p all_7 least_8 set_9 faults_10
  else
   some (.br all_7)
def D89 (p : Plant) (seen : List Bool) : Option ((List (List Int)) × Int) :=
 (D0f p seen).bind fun y2 =>
 if decide (¬y2 = 0) then
  some ([], y2)
 else
  (b0w (D9a p seen) (none, (-1), 0)).bind fun all_7 =>
  E02 all_7
def D9l (O : Orac) : Prop := ∀ (p : Plant) (seen : List Bool) (r : (List (List Int)) × Int) (hm0 : D89 p seen = some r), Fn O "newel/newelref10.All" [.agg [I p.Parts, .fs 1 (List.map b2f p.Alarms)], .fs 1 (List.map eB seen)] (.tup [.fs 1 (List.map b2f r.1), I r.2])
def E01 : Option Bool :=
 some true
def D9y (a : List (List Int)) (b : List (List Int)) : Int -> Option (Out Int (Unit ⊕ Bool))
 | i_5 =>
  if decide (i_5 < (List.length a : Int)) then
   (get a i_5).bind fun x12 =>
   (get b i_5).bind fun x13 =>
   (u0x x12 x13).bind fun y14 =>
   if !y14 then
    some (.br (.inr false))
   else
    some (.nx (wr (i_5 + 1)))
  else
   some (.br (.inl ()))
def D9n (a : List (List Int)) (b : List (List Int)) : Option Bool :=
 if decide (¬(List.length a : Int) = (List.length b : Int)) then
  some false
 else
  (b0w (D9y a b) (0)).bind fun
   | (.inl ()) => E01
   | (.inr r') => some r'
def E0l (O : Orac) : Prop := ∀ (a : List (List Int)) (b : List (List Int)) (r : Bool) (hm0 : D9n a b = some r), Fn O "newel/newellaw10.sameLists" [.fs 1 (List.map b2f a), .fs 1 (List.map b2f b)] (B r)
def D9j (p : Plant) (seen : List Bool) : Option ((List Int) × Int) :=
 (D89 p seen).bind fun y2 =>
 if decide (¬y2.2 = 0) then
  some ([], y2.2)
 else
  (get y2.1 0).bind fun x6 =>
  some (x6, 0)
def E0o (O : Orac) : Prop := ∀ (p : Plant) (seen : List Bool) (r : (List Int) × Int) (hm0 : D9j p seen = some r), Fn O "newel/newelref10.Explain" [.agg [I p.Parts, .fs 1 (List.map b2f p.Alarms)], .fs 1 (List.map eB seen)] (.tup [.fs 1 (List.map eI r.1), I r.2])
def E06 (many_5 : Int) : Option Int :=
 some many_5
def E0i (i_6 : Int) (many_5_1 : Int) : Option (Out (Int × Int) Int) :=
 some (.nx (many_5_1, wr (i_6 + 1)))
def E0a (k_7 : Int) (many_5_2 : Int) : Option (Out (Int × Int) Int) :=
 some (.nx (many_5_2, wr (k_7 + 1)))
def D99 (l : List (List Int)) (n : Int) (i_6 : Int) : (Int × Int) -> Option (Out (Int × Int) Int)
 | (many_5_1, k_7) =>
  (get l i_6).bind fun x10 =>
  if decide (k_7 < (List.length x10 : Int)) then
   (get x10 k_7).bind fun x16 =>
   if decide (x16 = n) then
    E0a k_7 (wr (many_5_1 + 1))
   else
    E0a k_7 many_5_1
  else
   some (.br many_5_1)
def D98 (l : List (List Int)) (n : Int) : (Int × Int) -> Option (Out (Int × Int) Int)
 | (many_5, i_6) =>
  if decide (i_6 < (List.length l : Int)) then
   (b0w (D99 l n i_6) (many_5, 0)).bind fun many_5_1 =>
   E0i i_6 many_5_1
  else
   some (.br many_5)
def D9d (l : List (List Int)) (n : Int) : Option Int :=
 (b0w (D98 l n) (0, 0)).bind fun many_5 =>
 E06 many_5
def E0b (O : Orac) : Prop := ∀ (l : List (List Int)) (n : Int) (r : Int) (hm0 : D9d l n = some r), Fn O "newel/newelref10.in" [.fs 1 (List.map b2f l), I n] (I r)
def E04 (out_8 : List Int) : Option ((List Int) × Int) :=
 some (out_8, 0)
def D95 (n_9 : Int) (out_8_1 : List Int) : Option (Out ((List Int) × Int) (((List Int)))) :=
 some (.nx (out_8_1, wr (n_9 + 1)))
def D94 (p : Plant) (y2 : (List (List Int)) × Int) : ((List Int) × Int) -> Option (Out ((List Int) × Int) (((List Int))))
 | (out_8, n_9) =>
  if decide (n_9 < (wr (p.Parts + (List.length p.Alarms : Int)))) then
   (D9d y2.1 n_9).bind fun y13 =>
   if decide (y13 = (List.length y2.1 : Int)) then
    (ap 8 out_8 ([n_9])).bind fun l16 =>
    D95 n_9 l16
   else
    D95 n_9 out_8
  else
   some (.br out_8)
def D9k (p : Plant) (seen : List Bool) : Option ((List Int) × Int) :=
 (D89 p seen).bind fun y2 =>
 if decide (¬y2.2 = 0) then
  some ([], y2.2)
 else
  (b0w (D94 p y2) ([], 0)).bind fun out_8 =>
  E04 out_8
def E0p (O : Orac) : Prop := ∀ (p : Plant) (seen : List Bool) (r : (List Int) × Int) (hm0 : D9k p seen = some r), Fn O "newel/newelref10.Surely" [.agg [I p.Parts, .fs 1 (List.map b2f p.Alarms)], .fs 1 (List.map eB seen)] (.tup [.fs 1 (List.map eI r.1), I r.2])
def E0e (best_7 : Int) : Option (Int × Int) :=
 if decide (best_7 < 0) then
  some (0, 3)
 else
  some (best_7, 0)
def D9v (x_27 : Int) (best_7_1 : Int) (least_8_1 : Int) : Option (Out (Int × Int × Int) Int) :=
 some (.nx (best_7_1, least_8_1, wr (x_27 + 1)))
def E0d (y6 : List Int) (best_7 : Int) (least_8 : Int) (x_27 : Int) (in_10 : Int) : Option (Out (Int × Int × Int) Int) :=
 if decide ((mx in_10 (wr ((List.length y6 : Int) - in_10))) < least_8) then
  D9v x_27 x_27 (mx in_10 (wr ((List.length y6 : Int) - in_10)))
 else
  D9v x_27 best_7 least_8
def D9u (y6 : List Int) (x_27 : Int) : (Int × Int) -> Option (Out (Int × Int) Int)
 | (in_10, x_32) =>
  if decide (x_32 < (List.length y6 : Int)) then
   (get y6 x_32).bind fun x24 =>
   (shr .i64 x24 x_27).bind fun q26 =>
   some (.nx (wr (in_10 + (b6y q26 1)), wr (x_32 + 1)))
  else
   some (.br in_10)
def D9m (p : Plant) (y6 : List Int) : (Int × Int × Int) -> Option (Out (Int × Int × Int) Int)
 | (best_7, least_8, x_27) =>
  if decide (x_27 < p.Parts) then
   (b0w (D9u y6 x_27) (0, 0)).bind fun in_10 =>
   E0d y6 best_7 least_8 x_27 in_10
  else
   some (.br best_7)
def D9g (p : Plant) (seen : List Bool) : Option (Int × Int) :=
 (z5a p seen).bind fun y2 =>
 if decide (¬y2 = 0) then
  some (0, y2)
 else
  (B8n p seen).bind fun y6 =>
  (b0w (D9m p y6) ((-1), (List.length y6 : Int), 0)).bind fun best_7 =>
  E0e best_7
def E0k (O : Orac) : Prop := ∀ (p : Plant) (seen : List Bool) (r : Int × Int) (hm0 : D9g p seen = some r), Fn O "newel/faults.Ask" [.agg [I p.Parts, .fs 1 (List.map b2f p.Alarms)], .fs 1 (List.map eB seen)] (.tup [I r.1, I r.2])
def D91 (y2 : (List (List Int)) × Int) (part_8 : Int) (least_9 : Int) : Option (Int × Int) :=
 if decide (least_9 = (List.length y2.1 : Int)) then
  some (0, 3)
 else
  some (part_8, 0)
def D90 (n_10 : Int) (part_8_1 : Int) (least_9_1 : Int) : Option (Out (Int × Int × Int) ((Int × Int))) :=
 some (.nx (part_8_1, least_9_1, wr (n_10 + 1)))
def D9q (p : Plant) (y2 : (List (List Int)) × Int) : (Int × Int × Int) -> Option (Out (Int × Int × Int) ((Int × Int)))
 | (part_8, least_9, n_10) =>
  if decide (n_10 < p.Parts) then
   (D9d y2.1 n_10).bind fun y15 =>
   if decide ((mx y15 (wr ((List.length y2.1 : Int) - y15))) < least_9) then
    D90 n_10 n_10 (mx y15 (wr ((List.length y2.1 : Int) - y15)))
   else
    D90 n_10 part_8 least_9
  else
   some (.br (part_8, least_9))
def D9i (p : Plant) (seen : List Bool) : Option (Int × Int) :=
 (D89 p seen).bind fun y2 =>
 if decide (¬y2.2 = 0) then
  some (0, y2.2)
 else
  (b0w (D9q p y2) (0, (List.length y2.1 : Int), 0)).bind fun
   | (part_8, least_9) => D91 y2 part_8 least_9
def E0m (O : Orac) : Prop := ∀ (p : Plant) (seen : List Bool) (r : Int × Int) (hm0 : D9i p seen = some r), Fn O "newel/newelref10.Ask" [.agg [I p.Parts, .fs 1 (List.map b2f p.Alarms)], .fs 1 (List.map eB seen)] (.tup [I r.1, I r.2])
def D9x (p : Plant) (seen : List Bool) : Option Bool :=
 if decide (12 < (List.length p.Alarms : Int)) then
  (u10).bind fun y4 =>
  some y4
 else
  (D92 p).bind fun y7 =>
  (ap 1 ([]) seen).bind fun l8 =>
  (s94 y7 l8).bind fun y10 =>
  (D89 p seen).bind fun y12 =>
  (if decide (¬y10.2 = y12.2) then some true else (D9n y10.1 y12.1).bind fun y15 =>
  some (!y15)).bind fun c16 =>
  if c16 then
   some false
  else
   (C9w y7 l8).bind fun y21 =>
   (D9j p seen).bind fun y23 =>
   (if decide (¬y21.2 = y23.2) then some true else (u0x y21.1 y23.1).bind fun y26 =>
   some (!y26)).bind fun c27 =>
   if c27 then
    some false
   else
    (C9x y7 l8).bind fun y32 =>
    (D9k p seen).bind fun y34 =>
    (if decide (¬y32.2 = y34.2) then some true else (u0x y32.1 y34.1).bind fun y37 =>
    some (!y37)).bind fun c38 =>
    if c38 then
     some false
    else
     (D9g y7 l8).bind fun y43 =>
     (D9i p seen).bind fun y45 =>
     (if (decide (y43.1 = y45.1)) && (decide (y43.2 = y45.2)) then (u10).bind fun y48 =>
     some y48 else some false).bind fun c49 =>
     some c49
def E07 (O : Orac) : Prop := ∀ (p : Plant) (seen : List Bool) (r : Bool) (hm0 : D9x p seen = some r), Fn O "newel/newellaw10.FaultsAlarms" [.agg [I p.Parts, .fs 1 (List.map b2f p.Alarms)], .fs 1 (List.map eB seen)] (B r)
end
end Go.Nw.WN
