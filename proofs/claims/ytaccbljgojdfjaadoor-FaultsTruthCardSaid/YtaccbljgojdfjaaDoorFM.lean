/- Models of functions: printed by gen.py. -/
import Derived.Test.YtaccbljgojdfjaaDoorNwWcall
import Derived.Test.YtaccbljgojdfjaaDoorNwFaultSrc
set_option linter.all false
set_option linter.unusedVariables false
set_option linter.unusedSimpArgs false
set_option linter.unusedSectionVars false
namespace Go.Nw.FM
open Go.Nw.Fault
set_option linter.unusedSimpArgs false
set_option linter.unusedVariables false
set_option maxHeartbeats 4000000
theorem lA9 {α : Type} {l m : List α} : (l ++ m).length = l.length + m.length := List.length_append
theorem mA9 {α β : Type} {f : α → β} {l m : List α} : List.map f (l ++ m) = List.map f l ++ List.map f m := List.map_append
theorem oF9 {a b : Bool} : (a || b) = false ↔ a = false ∧ b = false := Bool.or_eq_false_iff
theorem nF9 : (¬False) = True := not_false_eq_true
theorem bF9 {α : Type} [BEq α] [LawfulBEq α] {a b : α} : (a == b) = false ↔ a ≠ b := beq_eq_false_iff_ne
theorem sI9 {α : Type} {a b : α} (h : some a = some b) : a = b := Option.some.inj h
variable {O : Orac}
noncomputable def b2s (n : Int) (low : Int) (high : Int) : Bool :=
  (decide (low ≤ n)) && (decide (n ≤ high))
def b91 (O : Orac) : Prop := ∀ (n : Int) (low : Int) (high : Int), Fn O "newel/faults.within" [I n, I low, I high] (B (b2s n low high))
structure Reading where
  Says : Int
  Error : Int
  Drift : Int
  Days : Int
  deriving Inhabited, DecidableEq
@[go_sem] def b0r (x : Reading) : List AV := [I x.Says, I x.Error, I x.Drift, I x.Days]
theorem b4v (x : Reading) : ∀ c ∈ b0r x, Frz c := (b0j (b0d _) (b0j (b0d _) (b0j (b0d _) (b0j (b0d _) b04))))
@[go_sem] theorem j9w {l : List Reading} {n : Nat} {a0 : Int} {a1 : Int} {a2 : Int} {a3 : Int} : (List.map b0r l).set n [I a0, I a1, I a2, I a3] = List.map b0r (l.set n (Reading.mk a0 a1 a2 a3)) := by rw [List.map_set]; rfl
noncomputable def c02 : Option Int :=
  some 0
noncomputable def b5k (l : List Reading) : Int → Option (Out Int (Unit ⊕ Int))
  | x_10 =>
    if decide (x_10 < (List.length l : Int)) then
      (get l x_10).bind fun x10 =>
      if (((!(b2s x10.Says (-100000) 100000)) || (!(b2s x10.Error 0 1000))) || (!(b2s x10.Drift 0 1000))) || (!(b2s x10.Days 0 1000)) then
        some (.br (.inr 100))
      else
        some (.nx (wr (x_10 + 1)))
    else
      some (.br (.inl ()))
noncomputable def b4s (l : List Reading) : Option Int :=
  if decide (12 < (List.length l : Int)) then
    some 2
  else
    (b01 (b5k l) (0)).bind fun
      | (.inl ()) => c02
      | (.inr r') => some r'
def b7o (O : Orac) : Prop := ∀ (l : List Reading) (r : Int) (hm0 : b4s l = some r), Fn O "newel/faults.readings" [.fs 4 (List.map b0r l)] (I r)
structure Span where
  Low : Int
  High : Int
  deriving Inhabited, DecidableEq
noncomputable def c0y (s_6_0 : Int) (s_6_1 : Int) : Option (Span × Bool) :=
  some ((Span.mk s_6_0 s_6_1), decide (s_6_0 ≤ s_6_1))
noncomputable def b5j (x_13 : Int) (s_6_0_1 : Int) (s_6_1_1 : Int) : Option (Out (Int × Int × Int) ((Int × Int))) :=
  some (.nx (s_6_0_1, s_6_1_1, wr (x_13 + 1)))
noncomputable def b6o (l : List Reading) (out : Int) : (Int × Int × Int) → Option (Out (Int × Int × Int) ((Int × Int)))
  | (s_6_0, s_6_1, x_13) =>
    if decide (x_13 < (List.length l : Int)) then
      (get l x_13).bind fun x9 =>
      (shr .i64 out x_13).bind fun q11 =>
      if decide ((b1n q11 1) = 0) then
        b5j x_13 (mx s_6_0 (wr (x9.Says - (wr (x9.Error + (wr (x9.Drift * x9.Days))))))) (mn s_6_1 (wr (x9.Says + (wr (x9.Error + (wr (x9.Drift * x9.Days)))))))
      else
        b5j x_13 s_6_0 s_6_1
    else
      some (.br (s_6_0, s_6_1))
noncomputable def b5i (l : List Reading) (out : Int) : Option (Span × Bool) :=
  (b01 (b6o l out) ((-1099511627776), 1099511627776, 0)).bind fun
    | (s_6_0, s_6_1) => c0y s_6_0 s_6_1
def b7m (O : Orac) : Prop := ∀ (l : List Reading) (out : Int) (r : Span × Bool) (hm0 : b5i l out = some r), Fn O "newel/faults.common" [.fs 4 (List.map b0r l), I out] (.tup [.agg [I r.1.Low, I r.1.High], B r.2])
noncomputable def b62 (x : Int) : Option Int :=
  (shr .u64 x 1).bind fun q2 =>
  (shr .u64 (IntKind.wrap .u64 ((b0l .u64 q2 6148914691236517205) + (b0l .u64 x 6148914691236517205))) 2).bind fun q4 =>
  (shr .u64 (IntKind.wrap .u64 ((b0l .u64 q4 3689348814741910323) + (b0l .u64 (IntKind.wrap .u64 ((b0l .u64 q2 6148914691236517205) + (b0l .u64 x 6148914691236517205))) 3689348814741910323))) 4).bind fun q6 =>
  (shr .u64 (b0l .u64 (IntKind.wrap .u64 (q6 + (IntKind.wrap .u64 ((b0l .u64 q4 3689348814741910323) + (b0l .u64 (IntKind.wrap .u64 ((b0l .u64 q2 6148914691236517205) + (b0l .u64 x 6148914691236517205))) 3689348814741910323))))) 1085102592571150095) 8).bind fun q8 =>
  (shr .u64 (IntKind.wrap .u64 ((b0l .u64 (IntKind.wrap .u64 (q6 + (IntKind.wrap .u64 ((b0l .u64 q4 3689348814741910323) + (b0l .u64 (IntKind.wrap .u64 ((b0l .u64 q2 6148914691236517205) + (b0l .u64 x 6148914691236517205))) 3689348814741910323))))) 1085102592571150095) + q8)) 16).bind fun q10 =>
  (shr .u64 (IntKind.wrap .u64 ((IntKind.wrap .u64 ((b0l .u64 (IntKind.wrap .u64 (q6 + (IntKind.wrap .u64 ((b0l .u64 q4 3689348814741910323) + (b0l .u64 (IntKind.wrap .u64 ((b0l .u64 q2 6148914691236517205) + (b0l .u64 x 6148914691236517205))) 3689348814741910323))))) 1085102592571150095) + q8)) + q10)) 32).bind fun q12 =>
  some (b1n (IntKind.wrap .i64 (IntKind.wrap .u64 ((IntKind.wrap .u64 ((IntKind.wrap .u64 ((b0l .u64 (IntKind.wrap .u64 (q6 + (IntKind.wrap .u64 ((b0l .u64 q4 3689348814741910323) + (b0l .u64 (IntKind.wrap .u64 ((b0l .u64 q2 6148914691236517205) + (b0l .u64 x 6148914691236517205))) 3689348814741910323))))) 1085102592571150095) + q8)) + q10)) + q12))) 127)
def b94 (O : Orac) : Prop := ∀ (x : Int) (r : Int) (hm0 : b62 x = some r), Fn O "math/bits.OnesCount64" [.v (.int .u64 x)] (I r)
noncomputable def b4x (x : Int) : Option Int :=
  (b62 x).bind fun y3 =>
  some y3
def b93 (O : Orac) : Prop := ∀ (x : Int) (r : Int) (hm0 : b4x x = some r), Fn O "math/bits.OnesCount" [.v (.int .u64 x)] (I r)
noncomputable def b64 (x : Int) : Option Int :=
  if decide (x = 0) then
    some 64
  else
    (shr .u64 (IntKind.wrap .u64 ((b0l .u64 x (IntKind.wrap .u64 (0 - x))) * 285870213051353865)) 58).bind fun q5 =>
    (get gl_1 q5).bind fun x6 =>
    some (IntKind.wrap .i64 x6)
def b96 (O : Orac) : Prop := ∀ (x : Int) (r : Int) (hm0 : b64 x = some r), Fn O "math/bits.TrailingZeros64" [.v (.int .u64 x)] (I r)
noncomputable def b63 (x : Int) : Option Int :=
  (b64 x).bind fun y3 =>
  some y3
def b95 (O : Orac) : Prop := ∀ (x : Int) (r : Int) (hm0 : b63 x = some r), Fn O "math/bits.TrailingZeros" [.v (.int .u64 x)] (I r)
noncomputable def b6q (l_3 : List Int) : Option (List Int) :=
  some l_3
noncomputable def b8a : (Int × (List Int)) → Option (Out (Int × (List Int)) (((List Int))))
  | (set_0, l_3) =>
    if decide (¬set_0 = 0) then
      (b63 (IntKind.wrap .u64 set_0)).bind fun y9 =>
      (ap 8 l_3 ([y9])).bind fun l10 =>
      some (.nx (b1n set_0 (wr (set_0 - 1)), l10))
    else
      some (.br l_3)
noncomputable def b39 (set : Int) : Option (List Int) :=
  (b01 (b8a) (set, [])).bind fun l_3 =>
  b6q l_3
def b7n (O : Orac) : Prop := ∀ (set : Int) (r : List Int) (hm0 : b39 set = some r), Fn O "newel/faults.members" [I set] (.fs 1 (List.map eI r))
noncomputable def b3x (x : Int) : Bool :=
  decide (¬x = x)
def b9x (O : Orac) : Prop := ∀ (x : Int), Fn O "cmp.isNaN[int]" [I x] (B (b3x x))
noncomputable def b3w (x : Int) (y : Int) : Int :=
  if (b3x x) then
    if (b3x y) then
      0
    else
      (-1)
  else
    if (b3x y) then
      1
    else
      if decide (x < y) then
        (-1)
      else
        if decide (y < x) then
          1
        else
          0
def b9w (O : Orac) : Prop := ∀ (x : Int) (y : Int), Fn O "cmp.Compare[int]" [I x, I y] (I (b3w x y))
noncomputable def b9p (s1_ : List Int) (s2_ : List Int) : Option Int :=
  if decide ((List.length s1_ : Int) < (List.length s2_ : Int)) then
    some (-1)
  else
    some 0
noncomputable def b58 (s1_ : List Int) (s2_ : List Int) : Int → Option (Out Int (Unit ⊕ Int))
  | x_11 =>
    if decide (x_11 < (List.length s1_ : Int)) then
      (get s1_ x_11).bind fun x10 =>
      if decide ((List.length s2_ : Int) ≤ x_11) then
        some (.br (.inr 1))
      else
        (get s2_ x_11).bind fun x14 =>
        if decide (¬(b3w x10 x14) = 0) then
          some (.br (.inr (b3w x10 x14)))
        else
          some (.nx (wr (x_11 + 1)))
    else
      some (.br (.inl ()))
noncomputable def b7i (s1_ : List Int) (s2_ : List Int) : Option Int :=
  (b01 (b58 s1_ s2_) (0)).bind fun
    | (.inl ()) => b9p s1_ s2_
    | (.inr r') => some r'
def b99 (O : Orac) : Prop := ∀ (s1_ : List Int) (s2_ : List Int) (r : Int) (hm0 : b7i s1_ s2_ = some r), Fn O "slices.Compare[[]int,int]" [.fs 1 (List.map eI s1_), .fs 1 (List.map eI s2_)] (I r)
noncomputable def b6p (a : Int) (b : Int) : Option Bool :=
  (b4x (IntKind.wrap .u64 a)).bind fun y3 =>
  (b4x (IntKind.wrap .u64 b)).bind fun y4 =>
  if decide (¬y3 = y4) then
    some (decide (y3 < y4))
  else
    (b39 a).bind fun y10 =>
    (b39 b).bind fun y11 =>
    (b7i y10 y11).bind fun y12 =>
    some (decide (y12 < 0))
def b90 (O : Orac) : Prop := ∀ (a : Int) (b : Int) (r : Bool) (hm0 : b6p a b = some r), Fn O "newel/faults.fewer" [I a, I b] (B r)
noncomputable def b79 (best_5 : Int) : Option ((List Int) × Int) :=
  (b39 best_5).bind fun y10 =>
  some (y10, 0)
noncomputable def b4r (x_19 : Int) (best_5_1 : Int) : Option (Out (Int × Int) Int) :=
  some (.nx (best_5_1, wr (x_19 + 1)))
noncomputable def b6m (l : List Reading) (q6 : Int) : (Int × Int) → Option (Out (Int × Int) Int)
  | (best_5, x_19) =>
    if decide (x_19 < (wr (q6 - 1))) then
      (b5i l x_19).bind fun y17 =>
      (if y17.2 then (b6p x_19 best_5).bind fun y20 =>
      some y20 else some false).bind fun c21 =>
      if c21 then
        b4r x_19 x_19
      else
        b4r x_19 best_5
    else
      some (.br best_5)
noncomputable def b6l (l : List Reading) : Option ((List Int) × Int) :=
  (b4s l).bind fun y2 =>
  if decide (¬y2 = 0) then
    some ([], y2)
  else
    (shl .i64 1 (List.length l : Int)).bind fun q6 =>
    (b01 (b6m l q6) (wr (q6 - 1), 0)).bind fun best_5 =>
    b79 best_5
def b9y (O : Orac) : Prop := ∀ (l : List Reading) (r : (List Int) × Int) (hm0 : b6l l = some r), Fn O "newel/faults.Liars" [.fs 4 (List.map b0r l)] (.tup [.fs 1 (List.map eI r.1), I r.2])
def c1t : Option Bool := some true
def c2y (O : Orac) : Prop := ∀ (r : Bool) (hm0 : c1t = some r), Fn O "newel/newellaw10.works" [] (B r)
noncomputable def b6n (l : List Reading) : Option (Span × Int) :=
  (b4s l).bind fun y2 =>
  if decide (¬y2 = 0) then
    some ((Span.mk 0 0), y2)
  else
    (b5i l 0).bind fun y6 =>
    if (decide ((List.length l : Int) = 0)) || (!y6.2) then
      some ((Span.mk 0 0), 3)
    else
      some (y6.1, 0)
def b9z (O : Orac) : Prop := ∀ (l : List Reading) (r : Span × Int) (hm0 : b6n l = some r), Fn O "newel/faults.Truth" [.fs 4 (List.map b0r l)] (.tup [.agg [I r.1.Low, I r.1.High], I r.2])
noncomputable def b2v (n : Int) (low : Int) (high : Int) : Bool :=
  (decide (low ≤ n)) && (decide (n ≤ high))
def b98 (O : Orac) : Prop := ∀ (n : Int) (low : Int) (high : Int), Fn O "newel/newelref10.from" [I n, I low, I high] (B (b2v n low high))
noncomputable def c2g : Option Int :=
  some 0
noncomputable def b54 (l : List Reading) : Int → Option (Out Int (Unit ⊕ Int))
  | i_3 =>
    if decide (i_3 < (List.length l : Int)) then
      (get l i_3).bind fun x10 =>
      if (((!(b2v x10.Says (-100000) 100000)) || (!(b2v x10.Error 0 1000))) || (!(b2v x10.Drift 0 1000))) || (!(b2v x10.Days 0 1000)) then
        some (.br (.inr 100))
      else
        some (.nx (wr (i_3 + 1)))
    else
      some (.br (.inl ()))
noncomputable def b53 (l : List Reading) : Option Int :=
  if decide (12 < (List.length l : Int)) then
    some 2
  else
    (b01 (b54 l) (0)).bind fun
      | (.inl ()) => c2g
      | (.inr r') => some r'
def b97 (O : Orac) : Prop := ∀ (l : List Reading) (r : Int) (hm0 : b53 l = some r), Fn O "newel/newelref10.Check" [.fs 4 (List.map b0r l)] (I r)
noncomputable def b13 (r_ : Reading) : Span :=
  (Span.mk (wr (r_.Says - (wr (r_.Error + (wr (r_.Drift * r_.Days)))))) (wr (r_.Says + (wr (r_.Error + (wr (r_.Drift * r_.Days)))))))
def b7p (O : Orac) : Prop := ∀ (r_ : Reading), Fn O "newel/newelref10.Allows" [.agg [I r_.Says, I r_.Error, I r_.Drift, I r_.Days]] (.agg [I ((b13 r_).Low), I ((b13 r_).High)])
noncomputable def c2l (out_3 : List Int) : Option (List Int) :=
  some out_3
noncomputable def b9d (i_4 : Int) (out_3_1 : List Int) : Option (Out ((List Int) × Int) (((List Int)))) :=
  some (.nx (out_3_1, wr (i_4 + 1)))
noncomputable def c2i (set : Int) : ((List Int) × Int) → Option (Out ((List Int) × Int) (((List Int))))
  | (out_3, i_4) =>
    (shr .i64 set (IntKind.wrap .u64 i_4)).bind fun q5 =>
    if decide (0 < q5) then
      if decide ((b1n q5 1) = 1) then
        (ap 8 out_3 ([i_4])).bind fun l12 =>
        b9d i_4 l12
      else
        b9d i_4 out_3
    else
      some (.br out_3)
noncomputable def c2h (set : Int) : Option (List Int) :=
  (b01 (c2i set) ([], 0)).bind fun out_3 =>
  c2l out_3
noncomputable def b8x : Option Bool :=
  some true
noncomputable def b8y (i_5 : Int) : Option (Out Int (Unit ⊕ Bool)) :=
  some (.nx (wr (i_5 + 1)))
noncomputable def b51 (l : List Reading) (but : Int) (i_5 : Int) : Int → Option (Out Int (Unit ⊕ Bool))
  | k_6 =>
    if decide (k_6 < i_5) then
      (get l i_5).bind fun x14 =>
      (get l k_6).bind fun x15 =>
      (shr .i64 but (IntKind.wrap .u64 i_5)).bind fun q19 =>
      (if decide ((b1n q19 1) = 0) then (shr .i64 but (IntKind.wrap .u64 k_6)).bind fun q20 =>
      some (decide ((b1n q20 1) = 0)) else some false).bind fun c21 =>
      if c21 && ((decide (((b13 x14).High) < ((b13 x15).Low))) || (decide (((b13 x15).High) < ((b13 x14).Low)))) then
        some (.br (.inr false))
      else
        some (.nx (wr (k_6 + 1)))
    else
      some (.br (.inl ()))
noncomputable def b50 (l : List Reading) (but : Int) : Int → Option (Out Int (Unit ⊕ Bool))
  | i_5 =>
    if decide (i_5 < (List.length l : Int)) then
      (b01 (b51 l but i_5) (0)).bind fun
        | (.inl ()) => b8y i_5
        | (.inr r') => some (.br (.inr r'))
    else
      some (.br (.inl ()))
noncomputable def b5z (l : List Reading) (but : Int) : Option Bool :=
  (b01 (b50 l but) (0)).bind fun
    | (.inl ()) => b8x
    | (.inr r') => some r'
def b92 (O : Orac) : Prop := ∀ (l : List Reading) (but : Int) (r : Bool) (hm0 : b5z l but = some r), Fn O "newel/newellaw10.agree" [.fs 4 (List.map b0r l), I but] (B r)
noncomputable def b8w (l : List Reading) (but : Int) (y13 : (List Int) × Int) (set_14 : Int) (q30 : Int) (many_16 : Int) : Option Bool :=
  (b5z l set_14).bind fun y39 =>
  (if y39 then (if decide ((List.length y13.1 : Int) ≤ many_16) then some true else (b5z l (b1n but (wr (q30 - 1)))).bind fun y40 =>
  some (!y40)).bind fun c41 =>
  some c41 else some false).bind fun c42 =>
  (if c42 then (c1t).bind fun y43 =>
  some y43 else some false).bind fun c44 =>
  some c44
noncomputable def b5y (l : List Reading) (but : Int) (q30 : Int) : (Int × Int) → Option (Out (Int × Int) Int)
  | (many_16, i_17) =>
    if decide (i_17 < (List.length l : Int)) then
      (shr .i64 (b1n but (wr (q30 - 1))) (IntKind.wrap .u64 i_17)).bind fun q53 =>
      some (.nx (wr (many_16 + (b1n q53 1)), wr (i_17 + 1)))
    else
      some (.br many_16)
noncomputable def b8v (l : List Reading) (but : Int) (y13 : (List Int) × Int) (set_14 : Int) : Option Bool :=
  (shl .i64 1 (IntKind.wrap .u64 (List.length l : Int))).bind fun q30 =>
  (b01 (b5y l but q30) (0, 0)).bind fun many_16 =>
  b8w l but y13 set_14 q30 many_16
noncomputable def b5x (l : List Reading) (y13 : (List Int) × Int) : (Int × Int) → Option (Out (Int × Int) (Int ⊕ Bool))
  | (set_14, i_15) =>
    if decide (i_15 < (List.length y13.1 : Int)) then
      (get y13.1 i_15).bind fun x63 =>
      (if (decide (x63 < 0)) || (decide ((List.length l : Int) ≤ x63)) then some true else (if decide (0 < i_15) then (get y13.1 (wr (i_15 - 1))).bind fun x64 =>
      some (decide (x63 ≤ x64)) else some false).bind fun c65 =>
      some c65).bind fun c66 =>
      if c66 then
        some (.br (.inr false))
      else
        (shl .i64 1 (IntKind.wrap .u64 x63)).bind fun q73 =>
        some (.nx (wr (set_14 + q73), wr (i_15 + 1)))
    else
      some (.br (.inl set_14))
noncomputable def b8u (l : List Reading) (n : Int) (but : Int) (y11 : Span × Int) (y13 : (List Int) × Int) (all_11 : Bool) : Option Bool :=
  if !(b3s all_11 (((decide (y11.2 = 0)) && (decide (y11.1.Low ≤ n))) && (decide (n ≤ y11.1.High)))) then
    some false
  else
    (b01 (b5x l y13) (0, 0)).bind fun
      | (.inl set_14) => b8v l but y13 set_14
      | (.inr r') => some r'
noncomputable def b5w (l : List Reading) (n : Int) : (Bool × Int) → Option (Out (Bool × Int) Bool)
  | (all_11, i_12) =>
    if decide (i_12 < (List.length l : Int)) then
      (get l i_12).bind fun x80 =>
      some (.nx ((all_11 && (decide (((b13 x80).Low) ≤ n))) && (decide (n ≤ ((b13 x80).High))), wr (i_12 + 1)))
    else
      some (.br all_11)
noncomputable def b6z (l : List Reading) (n : Int) (but : Int) : Option Bool :=
  (if decide (8 < (List.length l : Int)) then some true else (b53 l).bind fun y3 =>
  some (decide (¬y3 = 0))).bind fun c4 =>
  if c4 then
    (c1t).bind fun y9 =>
    some y9
  else
    (b6n l).bind fun y11 =>
    (b6l l).bind fun y13 =>
    if ((decide (¬y13.2 = 0)) || ((decide (¬y11.2 = 0)) && (decide (¬y11.2 = 3)))) || ((decide (y11.2 = 0)) && (decide (y11.1.High < y11.1.Low))) then
      some false
    else
      (b01 (b5w l n) (decide (0 < (List.length l : Int)), 0)).bind fun all_11 =>
      b8u l n but y11 y13 all_11
def c2x (O : Orac) : Prop := ∀ (l : List Reading) (n : Int) (but : Int) (r : Bool) (hm0 : b6z l n but = some r), Fn O "newel/newellaw10.FaultsTruth" [.fs 4 (List.map b0r l), I n, I but] (B r)
end Go.Nw.FM
