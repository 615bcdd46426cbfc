/- Plain laws on the models. -/
import Derived.Test.YtbmfnjehcnbpbaaDoorWM
import Derived.Test.YtbmfnjehcnbpbaaDoorNwPop
import Derived.Test.YtbmfnjehcnbpbaaDoorP3
import Derived.Test.YtbmfnjehcnbpbaaDoorNwPlain
import Derived.Test.YtbmfnjehcnbpbaaDoorP4
set_option linter.all false
namespace Go.Nw.WM
open Go.Nw.Ft2
noncomputable section
theorem C9b {a y : Nat} (hy : y <= 64) : shr .u64 (a : Int) (y : Int) = some ((a >>> y : Nat) : Int) := by
 rw [g29 vc9];have : Nat.min (y : Int).toNat IntKind.u64.bits = y := Nat.min_eq_left (by rw [show IntKind.u64.bits = 64 from rfl]; omega);unfold d45;rw [this, Nat.shiftRight_eq_div_pow];have h2 : (2 : Int) ^ y = ((2 ^ y : Nat) : Int) := by simp
 rw [h2, Int.fdiv_eq_ediv_of_nonneg _ (Int.natCast_nonneg _)]; rfl
theorem B8m {a b : Nat} (ha : a < 18446744073709551616) (hb : b < 18446744073709551616) : d05 .u64 (a : Int) (b : Int) = ((a &&& b : Nat) : Int) := by
 show IntKind.wrap .u64 ((BitVec.ofInt 64 (a : Int) &&& BitVec.ofInt 64 (b : Int)).toNat : Int) = _
 rw [BitVec.toNat_and, s9p a ha, s9p b hb];exact u4e (Nat.lt_of_le_of_lt Nat.and_le_left ha)
theorem s43 {a b : Nat} (h : a + b < 18446744073709551616) : IntKind.wrap .u64 ((a : Int) + (b : Int)) = ((a + b : Nat) : Int) := u4e h
theorem z92 {x : Nat} (h : x < 2 ^ 20) : l13 (x : Int) = some ((b12 20 x).length : Int) := by
 obtain ⟨y, hy⟩ : ∃ y, y = ((x >>> 1) &&& 6148914691236517205) + (x &&& 6148914691236517205) := ⟨_, rfl⟩;obtain ⟨z, hz⟩ : ∃ z, z = ((y >>> 2) &&& 3689348814741910323) + (y &&& 3689348814741910323) := ⟨_, rfl⟩;obtain ⟨s, hs⟩ : ∃ s, s = ((z >>> 4) + z) &&& 1085102592571150095 := ⟨_, rfl⟩;obtain ⟨t, ht⟩ : ∃ t, t = s + s >>> 8 := ⟨_, rfl⟩;obtain ⟨v, hv⟩ : ∃ v, v = t + t >>> 16 := ⟨_, rfl⟩;have hx : x = 2 ^ 8 * (2 ^ 8 * (x / 65536) + x / 256 % 256) + x % 256 := by omega
 obtain ⟨gy, gz, gs, gt, gv, e⟩ := B34 (b0 := x % 256) (b1 := x / 256 % 256) (b2 := x / 65536) vc9 vc9 vc9 x y z s t v hx hy hz hs ht hv;have sl : ∀ a b : Nat, a < 2 ^ 24 -> a >>> b < 2 ^ 24 := fun a b ha => by rw [Nat.shiftRight_eq_div_pow]; exact Nat.lt_of_le_of_lt (Nat.div_le_self _ _) ha
 have hl : (b12 20 x).length = (b12 8 (x % 256)).length + ((b12 8 (x / 256 % 256)).length + (b12 4 (x / 65536)).length) := by
  have h1 := z9i (k := 12) (a := 2 ^ 8 * (x / 65536) + x / 256 % 256) (b := x % 256) vc9;have h2 := z9i (k := 4) (a := x / 65536) (b := x / 256 % 256) vc9;rw [<- hx] at h1;rw [h1, h2]
 have a1 : shr .u64 (x : Int) 1 = some ((x >>> 1 : Nat) : Int) := C9b (a := x) (y := 1) vc9;have a2 : d05 .u64 ((x >>> 1 : Nat) : Int) 6148914691236517205 = (((x >>> 1) &&& 6148914691236517205 : Nat) : Int) := B8m (b := 6148914691236517205) (by have := sl x 1 vc9; omega) vc9;have a3 : d05 .u64 (x : Int) 6148914691236517205 = ((x &&& 6148914691236517205 : Nat) : Int) := B8m (b := 6148914691236517205) vc9 vc9;have a4 : IntKind.wrap .u64 ((((x >>> 1) &&& 6148914691236517205 : Nat) : Int) + ((x &&& 6148914691236517205 : Nat) : Int)) = (y : Int) := by rw [hy]; exact s43 (by rw [<- hy]; omega)
 have b1 : shr .u64 (y : Int) 2 = some ((y >>> 2 : Nat) : Int) := C9b (a := y) (y := 2) vc9;have b2 : d05 .u64 ((y >>> 2 : Nat) : Int) 3689348814741910323 = (((y >>> 2) &&& 3689348814741910323 : Nat) : Int) := B8m (b := 3689348814741910323) (by have := sl y 2 gy; omega) vc9;have b3 : d05 .u64 (y : Int) 3689348814741910323 = ((y &&& 3689348814741910323 : Nat) : Int) := B8m (b := 3689348814741910323) vc9 vc9;have b4 : IntKind.wrap .u64 ((((y >>> 2) &&& 3689348814741910323 : Nat) : Int) + ((y &&& 3689348814741910323 : Nat) : Int)) = (z : Int) := by rw [hz]; exact s43 (by rw [<- hz]; omega)
 have c1 : shr .u64 (z : Int) 4 = some ((z >>> 4 : Nat) : Int) := C9b (a := z) (y := 4) vc9;have c2 : IntKind.wrap .u64 (((z >>> 4 : Nat) : Int) + (z : Int)) = ((z >>> 4 + z : Nat) : Int) := s43 (by have := sl z 4 gz; omega);have c3 : d05 .u64 ((z >>> 4 + z : Nat) : Int) 1085102592571150095 = (s : Int) := by rw [hs]; exact B8m (b := 1085102592571150095) (by have := sl z 4 gz; omega) vc9
 have d1 : shr .u64 (s : Int) 8 = some ((s >>> 8 : Nat) : Int) := C9b (a := s) (y := 8) vc9;have d2 : IntKind.wrap .u64 ((s : Int) + ((s >>> 8 : Nat) : Int)) = (t : Int) := by rw [ht]; exact s43 (by rw [<- ht]; omega)
 have f1 : shr .u64 (t : Int) 16 = some ((t >>> 16 : Nat) : Int) := C9b (a := t) (y := 16) vc9;have f2 : IntKind.wrap .u64 ((t : Int) + ((t >>> 16 : Nat) : Int)) = (v : Int) := by rw [hv]; exact s43 (by rw [<- hv]; omega)
 have g1 : shr .u64 (v : Int) 32 = some ((v >>> 32 : Nat) : Int) := C9b (a := v) (y := 32) vc9;have g2 : IntKind.wrap .u64 ((v : Int) + ((v >>> 32 : Nat) : Int)) = ((v + v >>> 32 : Nat) : Int) := s43 (by have := sl v 32 gv; omega);have g3 : IntKind.wrap .i64 ((v + v >>> 32 : Nat) : Int) = ((v + v >>> 32 : Nat) : Int) := u4f (by have := sl v 32 gv; omega);have g4 : b6y ((v + v >>> 32 : Nat) : Int) 127 = (((v + v >>> 32) &&& 127 : Nat) : Int) := u6m (b := 127) (by have := sl v 32 gv; omega) vc9;unfold l13 z6h;rw [a1, bS9, a2, a3, a4];rw [b1, bS9, b2, b3, b4];rw [c1, bS9, c2, c3];rw [d1, bS9, d2];rw [f1, bS9, f2];rw [g1, bS9, g2, g3, g4, bS9, e, hl]
theorem B4g : ((List.range 20).all fun j => decide (((shr .u64 (IntKind.wrap .u64 (((2 ^ j : Nat) : Int) * 285870213051353865)) 58).bind fun q5 => (get u3d q5).bind fun x6 => some (IntKind.wrap .i64 x6)) = some (j : Int))) = true := by decide +kernel
theorem z9a {j q : Nat} (h : 2 ^ j * (2 * q + 1) < 2 ^ 20) : j < 20 /\ B86 ((2 ^ j * (2 * q + 1) : Nat) : Int) = some (j : Int) := by
 have hp := Nat.two_pow_pos j
 have hj : j < 20 := by
  apply Classical.byContradiction; intro hc;have : 2 ^ 20 <= 2 ^ j := Nat.pow_le_pow_right vc9 vc9;have : 2 ^ j * 1 <= 2 ^ j * (2 * q + 1) := Nat.mul_le_mul_left _ vc9;omega
 refine ⟨hj, ?_⟩;have hx0 : 0 < 2 ^ j * (2 * q + 1) := Nat.mul_pos hp vc9;have lo := B3t (j := j) (q := q) vc9;generalize he : 2 ^ j * (2 * q + 1) = x at *
 have w1 : IntKind.wrap .u64 (0 - (x : Int)) = ((2 ^ 64 - x : Nat) : Int) := by
  show (0 - (x : Int)) % 18446744073709551616 = _
  omega
 have b1 : d05 .u64 (x : Int) ((2 ^ 64 - x : Nat) : Int) = ((2 ^ j : Nat) : Int) := by rw [B8m vc9 vc9, lo]
 have tb := of_decide_eq_true (List.all_eq_true.1 B4g j (List.mem_range.2 hj));unfold B86 z6i;rw [if_neg vd9, w1, b1, tb]; rfl
theorem B3u : ∀ (n x : Nat) (out : List Int), (b12 20 x).length = n -> x < 2 ^ 20 -> out.length + n <= 100 -> b0w C83 ((x : Int), out) = some (out ++ (b12 20 x).map fun i : Nat => (i : Int)) := by
 intro n;induction n with
 | zero =>
  intro x out hn hx ho
  have hz : x = 0 := by
   apply Classical.byContradiction; intro hc;obtain ⟨j, q, e⟩ := z80 x hc;subst e;rw [z52 (z9a hx).1] at hn;simp at hn
  subst hz;rw [y28];exact b3d (by unfold C83; simp)
 | succ n ih =>
  intro x out hn hx ho
  have hc : x ≠ 0 := by
   intro e; subst e; rw [y28] at hn; simp at hn
  obtain ⟨j, q, e⟩ := z80 x hc;have ht := z9a (e ▸ hx);have hb := z52 (q := q) ht.1;rw [<- e] at hb ht;have hcl : x &&& (x - 1) = 2 ^ (j + 1) * q := by rw [e]; exact B3s j q
  have hlt : 2 ^ (j + 1) * q < 2 ^ 20 := by rw [<- hcl]; exact Nat.lt_of_le_of_lt Nat.and_le_left hx
  rw [hb] at hn
  have st : C83 ((x : Int), out) = some (.nx (((2 ^ (j + 1) * q : Nat) : Int), out ++ [(j : Int)])) := by
   unfold C83;show (if decide (¬(x : Int) = 0) then _ else _) = _
   rw [if_pos vd9, u4e vc9, ht.2, bS9, b9k (by simp only [List.length_cons, List.length_nil]; omega), bS9, b3t vc9 vc9, show (x : Int) - 1 = ((x - 1 : Nat) : Int) by omega];rw [show b6y (x : Int) ((x - 1 : Nat) : Int) = ((x &&& (x - 1) : Nat) : Int) from u6m vc9 vc9, hcl]
  rw [w91 st, ih _ _ (by simpa using hn) hlt vd9, hb];simp
theorem z6j {x : Nat} (hx : x < 2 ^ 20) : x49 (x : Int) = some ((b12 20 x).map fun i : Nat => (i : Int)) := by
 unfold x49;rw [B3u _ x [] rfl hx (by have := C0b (k := 20) (n := x); simp; omega), bS9];rfl
end
end Go.Nw.WM
namespace Go.Nw.WM
open Go.Nw.Ft2
noncomputable section
def b16 : List Int -> List Int -> Bool
 | [], [] => false
 | [], _ :: _ => true
 | _ :: _, [] => false
 | a :: x, b :: y => if a = b then b16 x y else decide (a < b)
theorem z70 (x y : Int) : c12 x y = if x < y then -1 else if y < x then 1 else 0 := by
 unfold c12 D9f;by_cases h1 : x < y
 ·simp [h1]
 ·by_cases h2 : y < x <;> simp [h1, h2]
theorem B1z {a b : List Int} (ha : a.length <= 1000) (hb : b.length <= 1000) : ∃ r, B8x a b = some r /\ decide (r < 0) = b16 a b := by
 have hm : (1000 : Nat) <= maxLen := by decide
 have key : ∀ (x y : List Int) (k : Nat), a.drop k = x -> b.drop k = y -> k <= a.length -> k <= b.length -> ∃ r, b0w (D9e a b) (k : Int) = some r /\
   ∃ v, (match r with | .inl () => z5o a b | .inr r' => some r') = some v /\ decide (v < 0) = b16 x y := by
  intro x;induction x with
  | nil =>
   intro y k h1 h2 h3 h4;have hk : k = a.length := by have := List.drop_eq_nil_iff.1 h1; omega
   refine ⟨.inl (), b3d ?_, ?_⟩
   ·unfold D9e;have : ¬ (k : Int) < (a.length : Int) := by omega
    simp only [this, decide_false, fT9, if_false]
   ·simp only [z5o]
    cases y with
    | nil =>
     have hk2 := List.drop_eq_nil_iff.1 h2;have : ¬ (a.length : Int) < (b.length : Int) := by omega
     exact ⟨0, by simp [this], by simp [b16]⟩
    | cons c y =>
     have hlt : k < b.length := by
      rcases Nat.lt_or_ge k b.length with h | h
      ·exact h
      ·rw [List.drop_eq_nil_of_le h] at h2; cases h2
     have : (a.length : Int) < (b.length : Int) := by omega
     exact ⟨-1, by simp [this], by simp [b16]⟩
  | cons c x ih =>
   intro y k h1 h2 h3 h4;obtain ⟨g1, g2, g3, _⟩ := g9x h1
   cases y with
   | nil =>
    have hk2 := List.drop_eq_nil_iff.1 h2;refine ⟨.inr 1, b3d ?_, 1, rfl, by simp [b16]⟩;unfold D9e;have : (b.length : Int) <= (k : Int) := by omega
    simp only [g2, decide_true, if_true, g1, bS9, this]
   | cons d y =>
    obtain ⟨q1, q2, q3, _⟩ := g9x h2;have hn : ¬ (b.length : Int) <= (k : Int) := by omega
    by_cases e : c = d
    ·subst e
     have hstep : D9e a b (k : Int) = some (.nx ((k + 1 : Nat) : Int)) := by
      unfold D9e;simp only [g2, decide_true, if_true, g1, bS9, hn, decide_false, fT9, if_false, q1, z70, Int.lt_irrefl, not_true_eq_false];rw [l23 g2 (Nat.le_trans ha hm)]; rfl
     rw [w91 hstep];have hk1 : k + 1 <= a.length := by omega
     have hk2 : k + 1 <= b.length := by omega
     obtain ⟨r, e1, v, e2, e3⟩ := ih y (k + 1) g3 q3 hk1 hk2;exact ⟨r, e1, v, e2, by rw [e3]; simp [b16]⟩
    ·have hne : ¬ c12 c d = 0 := by
      rw [z70];by_cases z : c < d
      ·simp [z]
      ·have : d < c := by omega
       simp [z, this]
     refine ⟨.inr (c12 c d), b3d ?_, c12 c d, rfl, ?_⟩
     ·unfold D9e;simp only [g2, decide_true, if_true, g1, bS9, hn, decide_false, fT9, if_false, q1, hne, not_false_eq_true]
     ·simp only [b16, e, if_false, z70];by_cases z : c < d
      ·simp [z]
      ·have : d < c := by omega
       simp [z, this]
 obtain ⟨r, e1, v, e2, e3⟩ := key a b 0 rfl rfl (Nat.zero_le _) (Nat.zero_le _);refine ⟨v, ?_, e3⟩;unfold B8x;rw [show ((0 : Nat) : Int) = 0 from rfl] at e1;rw [e1]
 cases r <;> exact e2
theorem z9v : ∀ a, b16 a a = false
 | [] => rfl
 | a :: x => by simp [b16, z9v x]
theorem z9x : ∀ x y z, b16 x y = true -> b16 y z = true -> b16 x z = true
 | [], [], _, h, _ => by simp [b16] at h
 | [], _ :: _, [], _, h => by simp [b16] at h
 | [], _ :: _, _ :: _, _, _ => rfl
 | _ :: _, [], _, h, _ => by simp [b16] at h
 | _ :: _, _ :: _, [], _, h => by simp [b16] at h
 | a :: x, b :: y, c :: z, h1, h2 => by
  simp only [b16] at h1 h2 ⊢
  by_cases ab : a = b
  ·subst ab;rw [if_pos rfl] at h1;by_cases bc : a = c
   ·rw [if_pos bc] at h2 ⊢; exact z9x x y z h1 h2
   ·rw [if_neg bc] at h2 ⊢; exact h2
  ·rw [if_neg ab] at h1;have g1 := of_decide_eq_true h1;by_cases bc : b = c
   ·subst bc; rw [if_neg ab]; exact h1
   ·rw [if_neg bc] at h2;have g2 := of_decide_eq_true h2;rw [if_neg vc9]; exact decide_eq_true vc9
theorem z9w : ∀ x y z, b16 x y = false -> b16 y z = false -> b16 x z = false
 | [], [], _, _, h => h
 | [], _ :: _, _, h, _ => by simp [b16] at h
 | _ :: _, [], [], _, _ => rfl
 | _ :: _, [], _ :: _, _, h => by simp [b16] at h
 | _ :: _, _ :: _, [], _, _ => rfl
 | a :: x, b :: y, c :: z, h1, h2 => by
  simp only [b16] at h1 h2 ⊢
  by_cases ab : a = b
  ·subst ab;rw [if_pos rfl] at h1;by_cases bc : a = c
   ·rw [if_pos bc] at h2 ⊢; exact z9w x y z h1 h2
   ·rw [if_neg bc] at h2 ⊢; exact h2
  ·rw [if_neg ab] at h1;have g1 := of_decide_eq_false h1;by_cases bc : b = c
   ·subst bc; rw [if_neg ab]; exact h1
   ·rw [if_neg bc] at h2;have g2 := of_decide_eq_false h2;rw [if_neg vc9]; exact decide_eq_false vc9
def b10 (l : List Nat) : List Int := l.map fun i : Nat => (i : Int)
theorem c19 {l : List Nat} : (b10 l).length = l.length := by simp [b10]
theorem z90 {l : List Nat} {k : Nat} {x : Nat} (h : l[k]? = some x) : get (b10 l) (k : Int) = some (x : Int) := b1h (by unfold b10; rw [List.getElem?_map, h]; rfl)
theorem B3x {a b : List Nat} : b10 (a ++ b) = b10 a ++ b10 b := by simp [b10]
def ltS (x y : Int) : Bool := b16 (b10 (b12 20 x.toNat)) (b10 (b12 20 y.toNat))
theorem B4d : Go.Sort.SWO ltS := ⟨fun _ => z9v _, fun _ _ _ => z9x _ _ _, fun _ _ _ => z9w _ _ _⟩
def InS (x : Int) : Prop := 0 <= x /\ x < 2 ^ 20
theorem B1y : z9d InS (fun z0 z1 => c71 z0 z1) ltS := by
 intro x y hx hy;obtain ⟨a, rfl⟩ : ∃ a : Nat, x = a := ⟨x.toNat, by have := hx.1; omega⟩;obtain ⟨b, rfl⟩ : ∃ b : Nat, y = b := ⟨y.toNat, by have := hy.1; omega⟩;have ha : a < 2 ^ 20 := by have := hx.2; omega
 have hb : b < 2 ^ 20 := by have := hy.2; omega
 have la : (b10 (b12 20 a)).length <= 1000 := by rw [c19]; have := C0b (k := 20) (n := a); omega
 have lb : (b10 (b12 20 b)).length <= 1000 := by rw [c19]; have := C0b (k := 20) (n := b); omega
 obtain ⟨r, h1, h2⟩ := B1z la lb;refine ⟨r, ?_, ?_⟩
 ·show c71 (a : Int) (b : Int) = some r
  unfold c71;rw [z6j ha, bS9, z6j hb, bS9];rw [show B8x ((b12 20 a).map fun i : Nat => (i : Int)) ((b12 20 b).map fun i : Nat => (i : Int)) = some r from h1]; rfl
 ·show b16 (b10 (b12 20 ((a : Int).toNat))) (b10 (b12 20 ((b : Int).toNat))) = _
  rw [Int.toNat_natCast, Int.toNat_natCast, h2]
end
end Go.Nw.WM
namespace Go.Nw.WM
open Go.Nw.Ft2
noncomputable section
def onB (b : Nat) (a : List Nat) : Bool := a.any fun k => b.testBit k
def b31 (A : List (List Nat)) (seen : List Bool) (b i : Nat) : Bool := (onB b (A.getD i [])) != seen.getD i false
def exN (P : Nat) (A : List (List Nat)) (seen : List Bool) (b : Nat) : Nat -> Nat
 | 0 => b
 | k + 1 => if b31 A seen b k then exN P A seen b k ||| 2 ^ (P + k) else exN P A seen b k
theorem B13 {P : Nat} {A : List (List Nat)} {seen : List Bool} {b k : Nat} : exN P A seen b (k + 1) = if b31 A seen b k then exN P A seen b k ||| 2 ^ (P + k) else exN P A seen b k := rfl
theorem z71 {P : Nat} {A : List (List Nat)} {seen : List Bool} {b : Nat} (hb : b < 2 ^ P) : ∀ k, exN P A seen b k < 2 ^ (P + k)
 | 0 => hb
 | k + 1 => by
  have h := z71 (A := A) (seen := seen) hb k;have hp := Nat.pow_lt_pow_right (show 1 < 2 by omega) (show P + k < P + (k + 1) by omega);unfold exN;split
  ·exact Nat.or_lt_two_pow vc9 hp
  ·omega
theorem s79 {P : Nat} {A : List (List Nat)} {seen : List Bool} {b : Nat} (hb : b < 2 ^ P) (i : Nat) : ∀ k, (exN P A seen b k).testBit i = if i < P then b.testBit i else decide (i - P < k) && b31 A seen b (i - P)
 | 0 => by
  unfold exN;split
  ·rfl
  ·rename_i h;rw [Nat.testBit_lt_two_pow (Nat.lt_of_lt_of_le hb (Nat.pow_le_pow_right vc9 vc9))]; simp
 | k + 1 => by
  have h := s79 (A := A) (seen := seen) hb i k;unfold exN;by_cases c : i < P
  ·rw [if_pos c] at h ⊢
   split
   ·rw [Nat.testBit_or, h, Nat.testBit_two_pow]; have : ¬ P + k = i := by omega
    simp [this]
   ·exact h
  ·rw [if_neg c] at h ⊢
   by_cases e : i - P = k
   ·have e2 : i = P + k := by omega
    have h0 : ¬ i - P < k := by omega
    have h1 : i - P < k + 1 := by omega
    rw [decide_eq_true h1, Bool.true_and, e];split
    ·rename_i hm; rw [Nat.testBit_or, Nat.testBit_two_pow, e2, hm]; simp
    ·rename_i hm; rw [h, decide_eq_false h0]; simpa using hm
   ·have h2 : decide (i - P < k + 1) = decide (i - P < k) := by congr 1; simp only [eq_iff_iff]; omega
    rw [h2];split
    ·rw [Nat.testBit_or, h, Nat.testBit_two_pow]; have : ¬ P + k = i := by omega
     simp [this]
    ·exact h
structure OkAl (P : Nat) (A : List (List Nat)) : Prop where
 p : P <= 10
 n : A.length <= 10
 lt : ∀ a ∈ A, ∀ k ∈ a, k < P
 asc : ∀ a ∈ A, a.Pairwise (· < ·)
 len : ∀ a ∈ A, a.length <= 20
section
variable {P : Nat} {A : List (List Nat)} {seen : List Bool} (hA : OkAl P A) (hs : seen.length = A.length)
include hA
theorem B31 {b : Nat} (hb : b < 2 ^ P) {a : List Nat} (ha : a ∈ A) : b45 (b10 a) (fun z12 => s50 z12 (b : Int)) = some (onB b a) := by
 have hp := hA.p;have hq := Nat.pow_le_pow_right (n := 2) (show 0 < 2 by omega) hp
 obtain ⟨r, h1, h2⟩ := c20 (g := b45 (b10 a) (fun z12 => s50 z12 (b : Int))) (s := b10 a) (f := fun z12 => s50 z12 (b : Int)) (p := fun x => ∃ k : Nat, x = k /\ b.testBit k = true) rfl
  (by rw [c19]; exact Nat.le_trans (hA.len a ha) (by decide)) (fun x hx => by
   obtain ⟨k, hk, rfl⟩ := List.mem_map.1 hx;have hkP := hA.lt a ha k hk
   refine ⟨b.testBit k, ?_, ⟨fun h => ⟨k, rfl, h⟩, fun ⟨k', e, h⟩ => by have : k = k' := by omega
                                                                        subst this; exact h⟩⟩
   show s50 (k : Int) (b : Int) = _
   unfold s50;rw [g29 vc9, bS9, u6r vc9 vc9]
   cases b.testBit k <;> rfl)
 rw [h1];congr 1
 have e : onB b a = true ↔ r = true := by
  rw [h2];unfold onB;rw [List.any_eq_true];constructor
  ·rintro ⟨k, hk, h⟩; exact ⟨(k : Int), List.mem_map.2 ⟨k, hk, rfl⟩, k, rfl, h⟩
  ·rintro ⟨x, hx, k, rfl, h⟩;obtain ⟨k', hk', e⟩ := List.mem_map.1 hx;have : k' = k := by omega
   subst this; exact ⟨k', hk', h⟩
 cases r <;> cases h : onB b a <;> simp_all
include hs
theorem B14 {b : Nat} (hb : b < 2 ^ P) : z27 ⟨(P : Int), A.map b10⟩ seen (b : Int) = some ((exN P A seen b A.length : Nat) : Int) := by
 have hp := hA.p;have hn := hA.n
 have h := j7z (f := z49 ⟨(P : Int), A.map b10⟩ seen (b : Int)) A.length (fun s k => (s, k)) (fun k => ((exN P A seen b k : Nat) : Int)) ((exN P A seen b A.length : Nat) : Int) (fun k hk => by
   obtain ⟨a, ha⟩ := b3b hk;obtain ⟨sb, hsb⟩ := b3b (show k < seen.length by omega);have hlt := z71 (A := A) (seen := seen) hb k;have hq := Nat.pow_le_pow_right (n := 2) (show 0 < 2 by omega) (show P + k <= 20 by omega);unfold z49;show (if decide ((k : Int) < ((A.map b10).length : Int)) then _ else _) = _
   rw [if_pos (by simp; exact hk)];have hg : get (A.map b10) (k : Int) = some (b10 a) := b1h (by rw [List.getElem?_map, ha]; rfl);simp only [hg, bS9, B31 hA hb (mG9 ha), b1h hsb]
   have em : b31 A seen b k = (onB b a != sb) := by
    unfold b31; rw [List.getD_eq_getElem?_getD, List.getD_eq_getElem?_getD, ha, hsb]; rfl
   have ew : wr ((P : Int) + (k : Int)) = ((P + k : Nat) : Int) := by rw [b3t vc9 vc9]; omega
   have eb : (!(b5c (onB b a) sb)) = b31 A seen b k := by rw [em]; cases onB b a <;> cases sb <;> rfl
   rw [eb];have ek : wr ((k : Int) + 1) = (k : Int) + 1 := b3t vc9 vc9;show _ = some (Out.nx (((exN P A seen b (k + 1) : Nat) : Int), (k : Int) + 1))
   rw [B13]
   cases b31 A seen b k with
   | true =>
    simp only [if_true];rw [ew, u1e vc9, bS9];unfold C82;rw [ek, u22 vc9 (by have := u3z (y := P + k) vc9; omega)]
   | false =>
    simp only [fT9, if_false];unfold C82
    rw [ek])
  (by unfold z49; simp)
 unfold z27;rw [show ((exN P A seen b 0 : Nat) : Int) = (b : Int) from rfl] at h;rw [h]; rfl
theorem B33 : z5a ⟨(P : Int), A.map b10⟩ seen = some 0 := by
 have hp := hA.p;have hn := hA.n
 have inner : ∀ a ∈ A, b0w (B8p ⟨(P : Int), A.map b10⟩ (b10 a)) (-1, 0) = some (.inl ()) := by
  intro a ha;have hlen := hA.len a ha;have asc := List.pairwise_iff_getElem.1 (hA.asc a ha)
  obtain ⟨b, e, rfl⟩ := j7u (f := B8p ⟨(P : Int), A.map b10⟩ (b10 a)) a.length (fun s k => (s, k)) (fun k s => -1 <= s /\ s <= 10 /\ ∀ j x, k <= j -> a[j]? = some x -> s < (x : Int)) (fun b => b = Sum.inl ()) (fun s k hk hi => by
    obtain ⟨h1, h2, h3⟩ := hi;obtain ⟨x, hx⟩ := b3b hk;have hxP := hA.lt a ha x (mG9 hx);have h4 := h3 k x (Nat.le_refl _) hx;refine .inl ⟨(x : Int), ?_, by omega, by omega, fun j y hj hy => ?_⟩
    ·unfold B8p;show (if decide ((k : Int) < ((b10 a).length : Int)) then _ else _) = _
     rw [if_pos (by rw [c19]; simp; exact hk)];simp only [z90 hx, bS9];rw [b3t (n := s + 1) vc9 vc9, b3t (n := (P : Int) - 1) vc9 vc9]
     have : s39 (x : Int) (s + 1) ((P : Int) - 1) = true := by
      unfold s39; rw [decide_eq_true vc9, decide_eq_true vc9]; rfl
     rw [this, b3t (n := (k : Int) + 1) vc9 vc9]; rfl
    ·have hjl := b1k hy
     have hkl := b1k hx;have := asc k j hkl hjl vc9;rw [gG9 hkl] at hx;rw [gG9 hjl] at hy;have e1 := Option.some.inj hx;have e2 := Option.some.inj hy
     omega)
   (fun s hi => ⟨_, by
    unfold B8p;show (if decide ((a.length : Int) < ((b10 a).length : Int)) then _ else _) = _
    rw [if_neg (by rw [c19]; simp)], rfl⟩) (s := -1) 0 (Nat.zero_le _) ⟨by omega, by omega, fun j x _ _ => by omega⟩
  exact e
 have outer := b4h (f := z5b ⟨(P : Int), A.map b10⟩) A.length (fun (_ : Unit) k => k) (fun _ => ()) (Sum.inl () : Unit ⊕ Int) (s0 := ()) rfl (fun k hk => by
   obtain ⟨a, ha⟩ := b3b hk;unfold z5b;show (if decide ((k : Int) < ((A.map b10).length : Int)) then _ else _) = _
   rw [if_pos (by simp; exact hk)];have hg : get (A.map b10) (k : Int) = some (b10 a) := b1h (by rw [List.getElem?_map, ha]; rfl);simp only [hg, bS9, inner a (mG9 ha)];unfold z54
   rw [b3t (n := (k : Int) + 1) vc9 vc9])
  (by unfold z5b; simp)
 unfold z5a;have e1 : s39 (P : Int) 0 10 = true := by unfold s39; rw [decide_eq_true vc9, decide_eq_true vc9]; rfl
 have e2 : ¬ (10 : Int) < ((A.map b10).length : Int) := by rw [List.length_map]; omega
 simp only [e1, e2, Bool.not_true, decide_false, Bool.or_self, fT9, if_false, outer, bS9];unfold z55;simp only [List.length_map, hs, not_true_eq_false, decide_false, fT9, if_false]
end
def b21 (s : Nat) : Nat := (b12 20 s).length
def B8h : List Nat -> Nat -> List Nat
 | [], s => [s]
 | x :: xs, s => if b21 s < b21 x then [s] else if b21 s = b21 x then (x :: xs) ++ [s] else x :: xs
theorem z88 {x s : Nat} {xs : List Nat} : B8h (x :: xs) s = if b21 s < b21 x then [s] else if b21 s = b21 x then (x :: xs) ++ [s] else x :: xs := rfl
def b22 (f : Nat -> Nat) : Nat -> List Nat
 | 0 => []
 | i + 1 => B8h (b22 f i) (f i)
theorem B4c (l : List Nat) (s : Nat) : (B8h l s).length <= l.length + 1 := by
 cases l with
 | nil => simp [B8h]
 | cons x xs =>
  rw [z88];by_cases c : b21 s < b21 x
  ·rw [if_pos c]; simp
  ·rw [if_neg c];by_cases d : b21 s = b21 x
   ·rw [if_pos d]; simp
   ·rw [if_neg d]; simp
theorem z9z (f : Nat -> Nat) : ∀ i, (b22 f i).length <= i
 | 0 => by simp [b22]
 | i + 1 => by have := z9z f i; have := B4c (b22 f i) (f i); unfold b22; omega
theorem z6c (f : Nat -> Nat) : ∀ i, ∃ m, b22 f (i + 1) = ((List.range (i + 1)).map f).filter (fun s => decide (b21 s = m)) /\ (∀ j, j < i + 1 -> m <= b21 (f j)) /\ ∃ j, j < i + 1 /\ b21 (f j) = m
 | 0 => ⟨b21 (f 0), by simp [b22, B8h], fun j hj => by rw [show j = 0 by omega]; exact Nat.le_refl _, 0, by omega, rfl⟩
 | i + 1 => by
  obtain ⟨m, h1, h2, j0, hj0, h3⟩ := z6c f i;have hmem : f j0 ∈ b22 f (i + 1) := by rw [h1, List.mem_filter]; exact ⟨List.mem_map.2 ⟨j0, List.mem_range.2 hj0, rfl⟩, by simp [h3]⟩
  have hall : ∀ x ∈ b22 f (i + 1), b21 x = m := fun x hx => by rw [h1, List.mem_filter] at hx; simpa using hx.2
  have e : b22 f (i + 1 + 1) = B8h (b22 f (i + 1)) (f (i + 1)) := rfl;rw [List.range_succ, List.map_append, e]
  cases hl : b22 f (i + 1) with
  | nil => rw [hl] at hmem; cases hmem
  | cons x xs =>
   have hx := hall x (by rw [hl]; exact List.mem_cons_self);rw [z88, hx];by_cases c : b21 (f (i + 1)) < m
   ·refine ⟨b21 (f (i + 1)), ?_, fun j hj => ?_, i + 1, by omega, rfl⟩
    ·rw [if_pos c, List.filter_append]
     have : ((List.range (i + 1)).map f).filter (fun s => decide (b21 s = b21 (f (i + 1)))) = [] := by
      rw [List.filter_eq_nil_iff];intro s hs;obtain ⟨j, hj, rfl⟩ := List.mem_map.1 hs;have := h2 j (List.mem_range.1 hj);simp; omega
     rw [this]; simp
    ·by_cases z : j = i + 1
     ·rw [z]; exact Nat.le_refl _
     ·have := h2 j vc9; omega
   ·rw [if_neg c];refine ⟨m, ?_, fun j hj => ?_, j0, by omega, h3⟩
    ·rw [List.filter_append, <- h1, hl];by_cases g : b21 (f (i + 1)) = m
     ·rw [if_pos g]; simp [g]
     ·rw [if_neg g]; simp [g]
    ·by_cases z : j = i + 1
     ·rw [z]; omega
     ·exact h2 j vc9
section
variable {P : Nat} {A : List (List Nat)} {seen : List Bool} (hA : OkAl P A) (hs : seen.length = A.length)
def fA (P : Nat) (A : List (List Nat)) (seen : List Bool) (i : Nat) : Nat := exN P A seen i A.length
include hA
theorem s93 {i : Nat} (hi : i < 2 ^ P) : fA P A seen i < 2 ^ 20 := by
 have h := z71 (A := A) (seen := seen) hi A.length;have hp := hA.p;have hn := hA.n;exact Nat.lt_of_lt_of_le h (Nat.pow_le_pow_right vc9 vc9)
include hs
theorem B16 : b0w (B8o ⟨(P : Int), A.map b10⟩ seen ((2 ^ P : Nat) : Int)) ([], 0) = some (b10 (b22 (fA P A seen) (2 ^ P))) := by
 have hp := hA.p;have hq := Nat.pow_le_pow_right (n := 2) (show 0 < 2 by omega) hp;refine b4h (f := B8o ⟨(P : Int), A.map b10⟩ seen ((2 ^ P : Nat) : Int)) (2 ^ P) (fun s k => (s, k)) (fun k => b10 (b22 (fA P A seen) k)) _ (s0 := []) rfl (fun k hk => ?_) (by unfold B8o; simp);have ek : wr ((k : Int) + 1) = (k : Int) + 1 := b3t vc9 vc9;have hlt := s93 (seen := seen) hA hk
 have hall : ∀ x ∈ b22 (fA P A seen) k, x < 2 ^ 20 := by
  intro x hx
  cases k with
  | zero => cases hx
  | succ k =>
   obtain ⟨m, h1, _, _⟩ := z6c (fA P A seen) k;rw [h1, List.mem_filter] at hx;obtain ⟨j, hj, rfl⟩ := List.mem_map.1 hx.1;exact s93 hA (by have := List.mem_range.1 hj; omega)
 have hlen := z9z (fA P A seen) k;unfold B8o;show (if decide ((k : Int) < ((2 ^ P : Nat) : Int)) then _ else _) = _
 rw [if_pos (by simp only [decide_eq_true_eq]; omega), B14 hA hs hk, bS9, ek];show _ = some (Out.nx (b10 (B8h (b22 (fA P A seen) k) (fA P A seen k)), (k : Int) + 1))
 have hfa : ((exN P A seen k A.length : Nat) : Int) = ((fA P A seen k : Nat) : Int) := rfl;rw [hfa]
 cases hl : b22 (fA P A seen) k with
 | nil => rfl
 | cons x xs =>
  have hx := hall x (by rw [hl]; exact List.mem_cons_self);rw [hl] at hlen
  show ((l13 (IntKind.wrap .u64 ((fA P A seen k : Nat) : Int))).bind fun c1 => (l13 (IntKind.wrap .u64 (x : Int))).bind fun c2 => if decide (c1 < c2) then some (Out.nx ([((fA P A seen k : Nat) : Int)], (k : Int) + 1))
    else if decide (c1 = c2) then (ap 8 (b10 (x :: xs)) [((fA P A seen k : Nat) : Int)]).bind fun l2 => some (.nx (l2, (k : Int) + 1)) else some (.nx (b10 (x :: xs), (k : Int) + 1))) = _
  rw [u4e vc9, u4e vc9, z92 hlt, z92 hx, bS9, bS9];have c1 : (((b12 20 (fA P A seen k)).length : Int) < ((b12 20 x).length : Int)) ↔ b21 (fA P A seen k) < b21 x := by unfold b21; omega
  have c2 : (((b12 20 (fA P A seen k)).length : Int) = ((b12 20 x).length : Int)) ↔ b21 (fA P A seen k) = b21 x := by unfold b21; omega
  rw [z88];simp only [c1, c2];by_cases g : b21 (fA P A seen k) < b21 x
  ·simp only [g, decide_true, if_true]; rfl
  ·simp only [g, decide_false, fT9, if_false];by_cases g2 : b21 (fA P A seen k) = b21 x
   ·simp only [g2, decide_true, if_true];rw [b9k (by rw [c19]; simp only [List.length_cons, List.length_nil] at hlen ⊢; omega), bS9, B3x]; rfl
   ·simp only [g2, decide_false, fT9, if_false]
end
end
end Go.Nw.WM
namespace Go.Nw.WM
open Go.Nw.Ft2
noncomputable section
theorem D2d : ∀ (a b : List Nat), a.Pairwise (· < ·) -> b.Pairwise (· < ·) -> (∀ x, x ∈ a ↔ x ∈ b) -> a = b
 | [], [], _, _, _ => rfl
 | [], y :: b, _, _, h => by have := (h y).2 (by simp); cases this
 | x :: a, [], _, _, h => by have := (h x).1 (by simp); cases this
 | x :: a, y :: b, ha, hb, h => by
  rw [List.pairwise_cons] at ha hb
  have e : x = y := by
   have h1 := (h x).1 (by simp);have h2 := (h y).2 (by simp);rw [List.mem_cons] at h1 h2;rcases h1 with h1 | h1
   ·exact h1
   ·rcases h2 with h2 | h2
    ·exact h2.symm
    ·have := hb.1 x h1; have := ha.1 y h2; omega
  subst e;congr 1;refine D2d a b ha.2 hb.2 fun z => ?_;constructor
  ·intro hz;have h1 := (h z).1 (List.mem_cons_of_mem _ hz);rw [List.mem_cons] at h1;rcases h1 with h1 | h1
   ·have := ha.1 z hz; omega
   ·exact h1
  ·intro hz;have h1 := (h z).2 (List.mem_cons_of_mem _ hz);rw [List.mem_cons] at h1;rcases h1 with h1 | h1
   ·have := hb.1 z hz; omega
   ·exact h1
theorem D2z (k n : Nat) : (b12 k n).Pairwise (· < ·) := List.Pairwise.filter _ List.pairwise_lt_range
theorem D20 {k a b : Nat} (ha : a < 2 ^ k) (hb : b < 2 ^ k) (h : b12 k a = b12 k b) : a = b := by
 apply Nat.eq_of_testBit_eq;intro i;by_cases hi : i < k
 ·have : i ∈ b12 k a ↔ i ∈ b12 k b := by rw [h]
  rw [B0v, B0v] at this
  cases h1 : a.testBit i <;> cases h2 : b.testBit i <;> simp_all
 ·rw [Nat.testBit_lt_two_pow (Nat.lt_of_lt_of_le ha (Nat.pow_le_pow_right vc9 vc9)), Nat.testBit_lt_two_pow (Nat.lt_of_lt_of_le hb (Nat.pow_le_pow_right vc9 vc9))]
theorem D51 {a b : List Nat} (h : b10 a = b10 b) : a = b := by
 have := congrArg (List.map Int.toNat) h;unfold b10 at this;simpa [List.map_map, Function.comp_def] using this
theorem D3b : ∀ x y : List Int, b16 x y = false -> b16 y x = false -> x = y
 | [], [], _, _ => rfl
 | [], _ :: _, h, _ => by simp [b16] at h
 | _ :: _, [], _, h => by simp [b16] at h
 | a :: x, b :: y, h1, h2 => by
  simp only [b16] at h1 h2;by_cases e : a = b
  ·subst e;rw [if_pos rfl] at h1 h2;rw [D3b x y h1 h2]
  ·rw [if_neg e] at h1;rw [if_neg (fun h => e h.symm)] at h2;have := of_decide_eq_false h1;have := of_decide_eq_false h2;omega
theorem D5y {l : List Nat} {k : Nat} {x : Int} (h : (b10 l)[k]? = some x) : ∃ n : Nat, l[k]? = some n /\ x = (n : Int) := by
 unfold b10 at h;rw [List.getElem?_map] at h
 cases hk : l[k]? with
 | none => rw [hk] at h; cases h
 | some n => rw [hk] at h; exact ⟨n, rfl, (Option.some.inj h).symm⟩
theorem B8q {n a b : Int} : b98 n a b = decide (a <= n /\ n <= b) := by unfold b98; simp
def C80 (P : Int) (a : List Int) (k : Nat) (x : Int) : Prop := ¬ (0 <= x /\ x <= P - 1) \/ ∃ y, 0 < k /\ a[k - 1]? = some y /\ x <= y
theorem D3n {p : Plant} {i : Nat} {a : List Int} (hp0 : 0 <= p.Parts) (hp1 : p.Parts <= 10) (ha : p.Alarms[i]? = some a) (hal : a.length <= maxLen) :
  ((∀ k x, a[k]? = some x -> ¬ C80 p.Parts a k x) /\ b0w (C8j p (i : Int)) 0 = some (.inl ())) \/ ((∃ k x, a[k]? = some x /\ C80 p.Parts a k x) /\ b0w (C8j p (i : Int)) 0 = some (.inr 101)) := by
 have wN : wr (p.Parts - 1) = p.Parts - 1 := b3t vc9 vc9;refine c3v (f := C8j p (i : Int)) a (C80 p.Parts a) (Sum.inr 101 : Unit ⊕ Int) (Sum.inl ()) (fun k x hx hb => ?_) (fun k x hx hb => ?_) ?_
 ·have hk := b1k hx
  unfold C8j;rw [b1h ha, bS9, if_pos vd9, b1h hx, bS9, wN, B8q];by_cases g : 0 <= x /\ x <= p.Parts - 1
  ·obtain ⟨y, h0, h1, h2⟩ := hb.resolve_left fun h => h g;have e1 : wr ((k : Int) - 1) = ((k - 1 : Nat) : Int) := by rw [b3t vc9 (by simp only [maxLen] at hal; omega)]; omega
   have e2 : (0 : Int) < (k : Int) := by omega
   simp only [g, and_self, decide_true, Bool.not_true, fT9, if_false, e2, if_true, e1, b1h h1, bS9, h2]
  ·rw [decide_eq_false g]; rfl
 ·have hk := b1k hx
  have g : 0 <= x /\ x <= p.Parts - 1 := Classical.byContradiction fun h => hb (.inl h);unfold C8j;rw [b1h ha, bS9, if_pos vd9, b1h hx, bS9, wN, B8q];simp only [g, and_self, decide_true, Bool.not_true, fT9, if_false];rw [b2r hk hal];by_cases e2 : (0 : Int) < (k : Int)
  ·obtain ⟨y, hy⟩ := b3b (show k - 1 < a.length by omega);have e1 : wr ((k : Int) - 1) = ((k - 1 : Nat) : Int) := by rw [b3t vc9 (by simp only [maxLen] at hal; omega)]; omega
   have h2 : ¬ x <= y := fun h => hb (.inr ⟨y, by omega, hy, h⟩);simp only [e2, decide_true, if_true, e1, b1h hy, bS9, h2, decide_false, fT9, if_false]
  ·simp only [e2, decide_false, fT9, if_false, bS9]
 ·unfold C8j;rw [b1h ha, bS9, if_neg (by simp)]
theorem D2e {a : List Int} {P : Int} (h : ∀ k x, a[k]? = some x -> ¬ C80 P a k x) : (a.map Int.toNat).Pairwise (· < ·) /\ b10 (a.map Int.toNat) = a /\ ∀ x ∈ a, 0 <= x /\ x <= P - 1 := by
 have h1 : ∀ x ∈ a, 0 <= x /\ x <= P - 1 := fun x hx => by
  obtain ⟨k, hk, e⟩ := List.getElem_of_mem hx;exact Classical.byContradiction fun hc => h k x (by rw [gG9 hk, e]) (.inl hc)
 have step : ∀ k x y, a[k]? = some x -> a[k + 1]? = some y -> x < y := fun k x y hx hy => Classical.byContradiction fun hc => h (k + 1) y hy (.inr ⟨x, by omega, by simpa using hx, by omega⟩)
 have far : ∀ (d k : Nat) (x y : Int), a[k]? = some x -> a[k + d + 1]? = some y -> x < y := by
  intro d;induction d with
  | zero => intro k x y hx hy; exact step k x y hx hy
  | succ d ih =>
   intro k x y hx hy;obtain ⟨z, hz⟩ := b3b (l := a) (k := k + d + 1) (by have := b1k hy; omega);have h1 := ih k x z hx hz;have h2 := step (k + d + 1) z y hz (by rw [show k + d + 1 + 1 = k + (d + 1) + 1 by omega]; exact hy);omega
 refine ⟨?_, ?_, h1⟩
 ·rw [List.pairwise_iff_getElem];intro i j hi hj hij;rw [List.length_map] at hi hj;rw [List.getElem_map, List.getElem_map];have := far (j - i - 1) i a[i] a[j] (gG9 hi) (by rw [show i + (j - i - 1) + 1 = j by omega]; exact gG9 hj);have := h1 a[i] (List.getElem_mem hi);omega
 ·unfold b10;rw [List.map_map]
  conv => rhs; rw [<- List.map_id a]
  refine List.map_congr_left fun x hx => ?_;have := (h1 x hx).1;show ((x.toNat : Nat) : Int) = x
  omega
theorem D5s {P : Nat} {a : List Nat} (h : a.Pairwise (· < ·)) (hl : ∀ x ∈ a, x < P) (hP : P <= 20) : a.length <= 20 := by
 have e : a = (List.range P).filter fun i => a.contains i := by
  refine D2d _ _ h (List.Pairwise.filter _ List.pairwise_lt_range) fun x => ?_;rw [List.mem_filter, List.mem_range];exact ⟨fun hx => ⟨hl x hx, by simpa using hx⟩, fun hx => by simpa using hx.2⟩
 rw [e];exact Nat.le_trans (List.length_filter_le _ _) vd9
theorem D4w {p : Plant} {seen : List Bool} (hin : p.Alarms.length <= maxLen /\ ∀ a ∈ p.Alarms, a.length <= maxLen) : ∃ r, D0f p seen = some r /\ (r = 0 -> ∃ (P : Nat) (A : List (List Nat)), p = ⟨(P : Int), A.map b10⟩ /\ OkAl P A /\ seen.length = A.length) := by
 unfold D0f;by_cases c : ((!(b98 p.Parts 0 10)) || (decide (10 < (List.length p.Alarms : Int)))) = true
 ·rw [if_pos c]; exact ⟨101, rfl, fun h => by cases h⟩
 rw [if_neg c];simp only [B8q, Bool.or_eq_true, Bool.not_eq_true', decide_eq_false_iff_not, decide_eq_true_eq] at c;have hp0 : 0 <= p.Parts := by omega
 have hp1 : p.Parts <= 10 := by omega
 have hn : p.Alarms.length <= 10 := by omega
 rcases c3v (f := C87 p) p.Alarms (fun _ a => ∃ k x, a[k]? = some x /\ C80 p.Parts a k x) (Sum.inr 101 : Unit ⊕ Int) (Sum.inl ())
  (fun i a ha hb => by
   have hi := b1k ha;unfold C87;rw [if_pos vd9];rcases D3n hp0 hp1 ha (hin.2 a (mG9 ha)) with ⟨h1, h2⟩ | ⟨h1, h2⟩
   ·obtain ⟨k, x, g1, g2⟩ := hb; exact absurd g2 (h1 k x g1)
   ·rw [h2]; rfl)
  (fun i a ha hb => by
   have hi := b1k ha;unfold C87;rw [if_pos vd9];rcases D3n hp0 hp1 ha (hin.2 a (mG9 ha)) with ⟨h1, h2⟩ | ⟨h1, h2⟩
   ·rw [h2];show D0g (i : Int) = _
    unfold D0g;rw [b3t (n := (i : Int) + 1) vc9 vc9]
   ·exact absurd h1 hb)
  (by unfold C87; simp) with ⟨h1, h2⟩ | ⟨_, h2⟩
 ·rw [h2];show ∃ r, D0h p seen = some r /\ _
  unfold D0h;by_cases g : (seen.length : Int) = (p.Alarms.length : Int)
  ·refine ⟨0, by simp [g], fun _ => ⟨p.Parts.toNat, p.Alarms.map fun a => a.map Int.toNat, ?_, ?_, by rw [List.length_map]; omega⟩⟩
   ·have e1 : ((p.Parts.toNat : Nat) : Int) = p.Parts := by omega
    rw [e1, List.map_map]
    have e2 : p.Alarms.map (b10 ∘ fun a => a.map Int.toNat) = p.Alarms := by
     conv => rhs; rw [<- List.map_id p.Alarms]
     refine List.map_congr_left fun a ha => ?_;obtain ⟨i, hi, e⟩ := List.getElem_of_mem ha;exact (D2e (P := p.Parts) fun k x hx hb => h1 i a (by rw [gG9 hi, e]) ⟨k, x, hx, hb⟩).2.1
    rw [e2]
   ·have key : ∀ a ∈ p.Alarms, (a.map Int.toNat).Pairwise (· < ·) /\ b10 (a.map Int.toNat) = a /\ ∀ x ∈ a, 0 <= x /\ x <= p.Parts - 1 := fun a ha => by
     obtain ⟨i, hi, e⟩ := List.getElem_of_mem ha;exact D2e (P := p.Parts) fun k x hx hb => h1 i a (by rw [gG9 hi, e]) ⟨k, x, hx, hb⟩
    have hlt : ∀ a ∈ p.Alarms.map (fun a => a.map Int.toNat), ∀ k ∈ a, k < p.Parts.toNat := fun a ha k hk => by
     obtain ⟨b, hb, rfl⟩ := List.mem_map.1 ha;obtain ⟨x, hx, rfl⟩ := List.mem_map.1 hk;have := (key b hb).2.2 x hx;omega
    have hasc : ∀ a ∈ p.Alarms.map (fun a => a.map Int.toNat), a.Pairwise (· < ·) := fun a ha => by
     obtain ⟨b, hb, rfl⟩ := List.mem_map.1 ha;exact (key b hb).1
    exact ⟨by omega, by rw [List.length_map]; exact hn, hlt, hasc, fun a ha => D5s (hasc a ha) (hlt a ha) vc9⟩
  ·exact ⟨1, by simp [g], fun h => by cases h⟩
 ·rw [h2]; exact ⟨101, rfl, fun h => by cases h⟩
section
variable {P : Nat} {A : List (List Nat)} {seen : List Bool} (hA : OkAl P A) (hs : seen.length = A.length)
include hA
theorem C9v {b i : Nat} (hb : b < 2 ^ P) : (fA P A seen b).testBit i = if i < P then b.testBit i else decide (i - P < A.length) && b31 A seen b (i - P) := s79 hb i A.length
theorem D41 {b c : Nat} (hb : b < 2 ^ P) (hc : c < 2 ^ P) (h : fA P A seen b = fA P A seen c) : b = c := by
 apply Nat.eq_of_testBit_eq;intro i;by_cases hi : i < P
 ·have h1 := C9v (seen := seen) hA (i := i) hb
  have h2 := C9v (seen := seen) hA (i := i) hc;rw [if_pos hi] at h1 h2;rw [<- h1, <- h2, h]
 ·rw [Nat.testBit_lt_two_pow (Nat.lt_of_lt_of_le hb (Nat.pow_le_pow_right vc9 vc9)), Nat.testBit_lt_two_pow (Nat.lt_of_lt_of_le hc (Nat.pow_le_pow_right vc9 vc9))]
include hs
theorem B15 : ∃ (m : Nat) (r : List Nat), B8n ⟨(P : Int), A.map b10⟩ seen = some (b10 r) /\ r ≠ [] /\ r.length <= 1024 /\
  (∀ s, s ∈ r ↔ ∃ b, b < 2 ^ P /\ s = fA P A seen b /\ b21 s = m) /\ (∀ b, b < 2 ^ P -> m <= b21 (fA P A seen b)) /\
  ∀ k x y, r[k]? = some x -> r[k + 1]? = some y -> b16 (b10 (b12 20 x)) (b10 (b12 20 y)) = true := by
 have hp := hA.p;have hq := Nat.two_pow_pos P;have hq10 := Nat.pow_le_pow_right (n := 2) (show 0 < 2 by omega) hp;obtain ⟨m, h1, h2, j, hj, hj2⟩ := z6c (fA P A seen) (2 ^ P - 1);rw [show 2 ^ P - 1 + 1 = 2 ^ P by omega] at h1 hj h2
 have hmem : ∀ s, s ∈ b22 (fA P A seen) (2 ^ P) ↔ ∃ b, b < 2 ^ P /\ s = fA P A seen b /\ b21 s = m := fun s => by
  rw [h1, List.mem_filter];constructor
  ·rintro ⟨ha, hb⟩;obtain ⟨i, hi, rfl⟩ := List.mem_map.1 ha;exact ⟨i, List.mem_range.1 hi, rfl, by simpa using hb⟩
  ·rintro ⟨b, hb, rfl, hpm⟩;exact ⟨List.mem_map.2 ⟨b, List.mem_range.2 hb, rfl⟩, by simpa using hpm⟩
 have hin : ∀ x ∈ b22 (fA P A seen) (2 ^ P), x < 2 ^ 20 := fun x hx => by
  obtain ⟨b, hb, rfl, _⟩ := (hmem x).1 hx;exact s93 hA hb
 have hne : b22 (fA P A seen) (2 ^ P) ≠ [] := fun e => by
  have := (hmem (fA P A seen j)).2 ⟨j, hj, rfl, hj2⟩;rw [e] at this; cases this
 have hnd : (b22 (fA P A seen) (2 ^ P)).Nodup := by
  rw [h1];rw [List.nodup_iff_pairwise_ne];refine List.Pairwise.filter _ ?_;rw [List.pairwise_map];refine List.Pairwise.imp_of_mem ?_ List.pairwise_lt_range;intro a b ha hb hlt e;have := D41 hA (List.mem_range.1 ha) (List.mem_range.1 hb) e;omega
 have hln := z9z (fA P A seen) (2 ^ P)
 obtain ⟨ri, e1, e2, e3⟩ := D6j B1y B4d (x := b10 (b22 (fA P A seen) (2 ^ P))) (by unfold b10; simpa using hne) (by rw [c19]; omega) (fun a ha => by
  obtain ⟨s, hs', rfl⟩ := List.mem_map.1 ha;have := hin s hs'
  exact ⟨by omega, by omega⟩)
 obtain ⟨r, hr⟩ : ∃ r : List Nat, r = ri.map Int.toNat := ⟨_, rfl⟩
 have hri : ri = b10 r := by
  rw [hr]; unfold b10; rw [List.map_map]
  conv => lhs; rw [<- List.map_id ri]
  refine List.map_congr_left fun x hx => ?_;obtain ⟨s, _, rfl⟩ := List.mem_map.1 (e2.mem_iff.1 hx);show ((s : Nat) : Int) = (((s : Nat) : Int).toNat : Int)
  rw [Int.toNat_natCast]
 have hperm : r.Perm (b22 (fA P A seen) (2 ^ P)) := by
  have := e2.map Int.toNat;rw [<- hr] at this;unfold b10 at this;rw [List.map_map] at this;refine this.trans (List.Perm.of_eq ?_)
  conv => rhs; rw [<- List.map_id (b22 (fA P A seen) (2 ^ P))]
  exact List.map_congr_left fun x _ => by show ((x : Nat) : Int).toNat = x; rw [Int.toNat_natCast]
 refine ⟨m, r, ?_, fun e => ?_, by rw [hperm.length_eq]; omega, fun s => by rw [hperm.mem_iff]; exact hmem s, h2, fun k x y hx hy => ?_⟩
 ·unfold B8n;show (shl .i64 1 (P : Int)).bind _ = _
  rw [u1e vc9, bS9, B16 hA hs, bS9, e1, hri]
 ·rw [e] at hperm; exact hne (List.nil_perm.1 hperm)
 ·have hkx := b1k hx
  have hky := b1k hy;have hxm : x < 2 ^ 20 := hin x (hperm.mem_iff.1 (mG9 hx));have hym : y < 2 ^ 20 := hin y (hperm.mem_iff.1 (mG9 hy));have hsz : ri.toArray.size = r.length := by rw [hri]; simp [b10]
  have hgx : ri.toArray[k]! = (x : Int) := by
   rw [getElem!_pos _ k vc9];have : ri[k]? = some (x : Int) := by rw [hri]; unfold b10; rw [List.getElem?_map, hx]; rfl
   rw [List.getElem_toArray];exact (gS9.1 this).2
  have hgy : ri.toArray[k + 1]! = (y : Int) := by
   rw [getElem!_pos _ (k + 1) vc9];have : ri[k + 1]? = some (y : Int) := by rw [hri]; unfold b10; rw [List.getElem?_map, hy]; rfl
   rw [List.getElem_toArray];exact (gS9.1 this).2
  have hso := e3 k (k + 1) (Nat.zero_le _) vc9 vc9;rw [hgx, hgy] at hso;unfold ltS at hso;rw [Int.toNat_natCast, Int.toNat_natCast] at hso
  cases hl : b16 (b10 (b12 20 x)) (b10 (b12 20 y)) with
  | true => rfl
  | false =>
   have e := D20 hxm hym (D51 (D3b _ _ hl hso));subst e;have hrn := hperm.nodup_iff.2 hnd;have := (List.nodup_iff_pairwise_ne.1 hrn);rw [List.pairwise_iff_getElem] at this;have g := this k (k + 1) hkx hky vc9;rw [gG9 hkx] at hx;rw [gG9 hky] at hy;exact absurd ((Option.some.inj hx).trans (Option.some.inj hy).symm) g
end
end
end Go.Nw.WM
namespace Go.Nw.WM
open Go.Nw.Ft2
noncomputable section
def ofB (l : List Nat) : Nat := l.foldl (fun s i => s ||| 2 ^ i) 0
theorem D25 (i : Nat) : ∀ (l : List Nat) (s : Nat), (l.foldl (fun s i => s ||| 2 ^ i) s).testBit i = (s.testBit i || l.contains i)
 | [], s => by simp
 | x :: l, s => by
  rw [List.foldl_cons, D25 i l, Nat.testBit_or, Nat.testBit_two_pow, List.contains_cons];by_cases e : x = i
  ·subst e; simp
  ·have e2 : ¬ i = x := fun h => e h.symm
   have e3 : (i == x) = false := beq_false_of_ne e2;rw [e3, decide_eq_false e]; simp
theorem D2p (l : List Nat) (i : Nat) : (ofB l).testBit i = l.contains i := by unfold ofB; rw [D25]; simp
theorem D3e {l : List Nat} {N : Nat} (h : ∀ x ∈ l, x < N) : ofB l < 2 ^ N := by
 apply Nat.lt_pow_two_of_testBit;intro i hi;rw [D2p]
 cases hc : l.contains i with
 | false => rfl
 | true => have := h i (by simpa using hc); omega
theorem D4a {l : List Nat} {k : Nat} (h : ∀ x ∈ l, x < k) (ha : l.Pairwise (· < ·)) : b12 k (ofB l) = l := by
 refine D2d _ _ (D2z _ _) ha fun x => ?_;rw [B0v, D2p];exact ⟨fun g => by simpa using g.2, fun g => ⟨h x g, by simpa using g⟩⟩
theorem D53 {k s : Nat} (h : s < 2 ^ k) : ofB (b12 k s) = s := by
 apply Nat.eq_of_testBit_eq;intro i;rw [D2p, Bool.eq_iff_iff, List.contains_iff_mem, B0v];constructor
 ·exact fun g => g.2
 ·intro g;refine ⟨?_, g⟩;apply Classical.byContradiction; intro hc;rw [Nat.testBit_lt_two_pow (Nat.lt_of_lt_of_le h (Nat.pow_le_pow_right vc9 vc9))] at g; cases g
theorem D2f {p q : Nat -> Bool} : ∀ l : List Nat, (∀ x, p x = true -> q x = true) -> (l.filter p).length = (l.filter q).length -> l.filter p = l.filter q
 | [], _, _ => rfl
 | x :: l, h, e => by
  have hle : (l.filter p).length <= (l.filter q).length := by
   rw [<- List.countP_eq_length_filter, <- List.countP_eq_length_filter]; exact List.countP_mono_left fun x _ => h x
  cases hp : p x with
  | true =>
   have hq := h x hp;rw [List.filter_cons_of_pos hp, List.filter_cons_of_pos hq] at e ⊢
   rw [D2f l h (by simpa using e)]
  | false =>
   cases hq : q x with
   | false =>
    rw [List.filter_cons_of_neg (by simp [hp]), List.filter_cons_of_neg (by simp [hq])] at e ⊢
    exact D2f l h e
   | true =>
    rw [List.filter_cons_of_neg (by simp [hp]), List.filter_cons_of_pos hq, List.length_cons] at e;omega
theorem p68 {l : List Int} (hl : l.length <= 100) (n : Int) : C8q l n = some (decide (n ∈ l)) := by
 unfold C8q
 rcases c3v (f := C85 l n) l (fun _ x => x = n) (Sum.inr true : Unit ⊕ Bool) (Sum.inl ())
  (fun k x hx hb => by
   unfold C85
   rw [if_pos (by have := b1k hx; simp; omega), b1h hx, bS9, if_pos (by simpa using hb)])
  (fun k x hx hb => by
   unfold C85;have hk := b1k hx
   rw [if_pos vd9, b1h hx, bS9, if_neg (by simpa using hb), b3t vc9 vc9])
  (by unfold C85; simp) with ⟨h1, h2⟩ | ⟨⟨k, x, h1, h3⟩, h2⟩
 ·rw [h2]
  have : ¬ n ∈ l := fun hm => by
   obtain ⟨k, hk, e⟩ := List.getElem_of_mem hm;exact h1 k n (by rw [gG9 hk, e]) rfl
  rw [decide_eq_false this]; rfl
 ·rw [h2];have : n ∈ l := h3 ▸ mG9 h1;rw [decide_eq_true this]; rfl
theorem D3o {a b : List Int} (ha : a.length <= 100) : u0x a b = some (decide (a = b)) := by
 unfold u0x;by_cases hl : a.length = b.length
 ·rw [if_neg (by simp [hl])]
  rcases c3v (f := u0y a b) a (fun k x => ¬ b[k]? = some x) (Sum.inr false : Unit ⊕ Bool) (Sum.inl ())
   (fun k x hx hb => by
    have hk := b1k hx;obtain ⟨y, hy⟩ := b3b (show k < b.length by omega);have hne : ¬ x = y := fun e => hb (by rw [hy, e]);unfold u0y
    rw [if_pos vd9, b1h hx, bS9, b1h hy, bS9, if_pos (by simpa using hne)])
   (fun k x hx hb => by
    have hk := b1k hx;have hy : b[k]? = some x := Classical.byContradiction hb;unfold u0y
    rw [if_pos vd9, b1h hx, bS9, b1h hy, bS9, if_neg (by simp), b3t vc9 vc9])
   (by unfold u0y; simp) with ⟨h1, h2⟩ | ⟨⟨k, x, h1, h3⟩, h2⟩
  ·rw [h2]
   have : a = b := List.ext_getElem? fun k => by
    cases hk : a[k]? with
    | none => rw [List.getElem?_eq_none_iff] at hk; rw [List.getElem?_eq_none_iff.2 vc9]
    | some x => exact (Classical.byContradiction fun h => h1 k x hk h).symm
   rw [decide_eq_true this]; rfl
  ·rw [h2];have : ¬ a = b := fun e => h3 (by rw [<- e, h1]);rw [decide_eq_false this]; rfl
 ·rw [if_pos vd9];have : ¬ a = b := fun e => hl (by rw [e]);rw [decide_eq_false this]
theorem D3a : ∀ (k : Nat) (a b : List Int) (x y : Int), b16 a b = true -> (∀ j, j < k -> a[j]? = b[j]?) -> a[k]? = some x -> b[k]? = some y -> ¬ x = y -> x < y
 | _, [], _, _, _, _, _, hx, _, _ => by simp at hx
 | _, _ :: _, [], _, _, _, _, _, hy, _ => by simp at hy
 | 0, a :: l, b :: m, x, y, h, _, hx, hy, hne => by
  simp only [List.getElem?_cons_zero, iE9] at hx hy;subst hx; subst hy;simp only [b16, if_neg hne] at h;exact of_decide_eq_true h
 | k + 1, a :: l, b :: m, x, y, h, hj, hx, hy, hne => by
  have e := hj 0 vc9;simp only [List.getElem?_cons_zero, iE9] at e;subst e;simp only [b16, if_true] at h;simp only [List.getElem?_cons_succ] at hx hy;exact D3a k l m x y h (fun j hjk => by have := hj (j + 1) vc9; simpa using this) hx hy hne
theorem D5u {a b : List Int} (hl : a.length = b.length) (ha : a.length <= 100) (h : b16 a b = true) : x70 a b = some true := by
 unfold x70
 rcases D5v (f := C9a a b) a (fun k x => ¬ b[k]? = some x) (Sum.inr true : Unit ⊕ Bool) (Sum.inl ())
  (fun k x hj hx hb => by
   have hk := b1k hx;obtain ⟨y, hy⟩ := b3b (show k < b.length by omega);have hne : ¬ x = y := fun e => hb (by rw [hy, e])
   have hlt := D3a k a b x y h (fun j hjk => by
    obtain ⟨z, hz⟩ := b3b (show j < a.length by omega)
    rw [hz]; exact (Classical.byContradiction fun hh => hj j z hjk hz hh).symm) hx hy hne
   unfold C9a
   rw [if_pos vd9, b1h hx, bS9, b1h hy, bS9, if_pos (by simpa using hne), decide_eq_true hlt])
  (fun k x hj hx hb => by
   have hk := b1k hx;have hy : b[k]? = some x := Classical.byContradiction hb;unfold C9a
   rw [if_pos vd9, b1h hx, bS9, b1h hy, bS9, if_neg (by simp), b3t vc9 vc9])
  (by unfold C9a; simp) with ⟨h1, h2⟩ | ⟨_, h2⟩
 ·exfalso
  have : a = b := List.ext_getElem? fun k => by
   cases hk : a[k]? with
   | none => rw [List.getElem?_eq_none_iff] at hk; rw [List.getElem?_eq_none_iff.2 vc9]
   | some x => exact (Classical.byContradiction fun h => h1 k x hk h).symm
  subst this;rw [z9v] at h; cases h
 ·rw [h2]; rfl
section
variable {P : Nat} {A : List (List Nat)} {seen : List Bool} (hA : OkAl P A) (hs : seen.length = A.length)
include hA
theorem D3q (l : List Int) (hl : l.length <= maxLen) : (∃ s, s < 2 ^ (P + A.length) /\ l = b10 (b12 20 s) /\ s46 ⟨(P : Int), A.map b10⟩ l = some true) \/ s46 ⟨(P : Int), A.map b10⟩ l = some false := by
 have hp := hA.p;have hn := hA.n;have wN : wr ((P : Int) + ((A.map b10).length : Int)) = ((P + A.length : Nat) : Int) := by rw [List.length_map, b3t vc9 vc9]; omega
 unfold s46
 rcases c3v (f := x69 ⟨(P : Int), A.map b10⟩ l) l (C80 ((P + A.length : Nat) : Int) l) (Sum.inr false : Unit ⊕ Bool) (Sum.inl ())
  (fun k x hx hb => by
   have hk := b1k hx;unfold x69;rw [if_pos vd9, b1h hx, bS9];show ((if decide (x < 0) || decide (wr ((P : Int) + ((A.map b10).length : Int)) <= x) then some true else _).bind _) = _
   rw [wN];by_cases g : 0 <= x /\ x <= ((P + A.length : Nat) : Int) - 1
   ·obtain ⟨y, h0, h1, h2⟩ := hb.resolve_left fun h => h g;have e1 : wr ((k : Int) - 1) = ((k - 1 : Nat) : Int) := by rw [b3t vc9 (by simp only [maxLen] at hl; omega)]; omega
    have e2 : (0 : Int) < (k : Int) := by omega
    rw [if_neg (by simp only [Bool.or_eq_true, decide_eq_true_eq]; omega)];simp only [e2, decide_true, if_true, e1, b1h h1, bS9, h2]
   ·rw [if_pos (by simp only [Bool.or_eq_true, decide_eq_true_eq]; omega)]; rfl)
  (fun k x hx hb => by
   have hk := b1k hx;have g : 0 <= x /\ x <= ((P + A.length : Nat) : Int) - 1 := Classical.byContradiction fun h => hb (.inl h);unfold x69;rw [if_pos vd9, b1h hx, bS9];show ((if decide (x < 0) || decide (wr ((P : Int) + ((A.map b10).length : Int)) <= x) then some true else _).bind _) = _
   rw [wN, if_neg (by simp only [Bool.or_eq_true, decide_eq_true_eq]; omega), b2r hk hl];by_cases e2 : (0 : Int) < (k : Int)
   ·obtain ⟨y, hy⟩ := b3b (show k - 1 < l.length by omega);have e1 : wr ((k : Int) - 1) = ((k - 1 : Nat) : Int) := by rw [b3t vc9 (by simp only [maxLen] at hl; omega)]; omega
    have h2 : ¬ x <= y := fun h => hb (.inr ⟨y, by omega, hy, h⟩);simp only [e2, decide_true, if_true, e1, b1h hy, bS9, h2, decide_false, fT9, if_false]
   ·simp only [e2, decide_false, fT9, if_false, bS9])
  (by unfold x69; simp) with ⟨h1, h2⟩ | ⟨_, h2⟩
 ·rw [h2];obtain ⟨g1, g2, g3⟩ := D2e h1
  have hlt : ∀ x ∈ l.map Int.toNat, x < P + A.length := fun x hx => by
   obtain ⟨y, hy, rfl⟩ := List.mem_map.1 hx;have := g3 y hy;omega
  exact .inl ⟨ofB (l.map Int.toNat), D3e hlt, by rw [D4a (fun x hx => by have := hlt x hx; omega) g1, g2], rfl⟩
 ·rw [h2]; exact .inr rfl
theorem D6h {s : Nat} (h : s < 2 ^ (P + A.length)) : s46 ⟨(P : Int), A.map b10⟩ (b10 (b12 20 s)) = some true := by
 have hp := hA.p;have hn := hA.n;have hlen : (b10 (b12 20 s)).length <= 20 := by rw [c19]; exact C0b
 rcases D3q hA (b10 (b12 20 s)) (Nat.le_trans hlen (by decide)) with ⟨_, _, _, h3⟩ | h3
 ·exact h3
 ·exfalso;have wN : wr ((P : Int) + ((A.map b10).length : Int)) = ((P + A.length : Nat) : Int) := by rw [List.length_map, b3t vc9 vc9]; omega
  have asc := List.pairwise_iff_getElem.1 (D2z 20 s)
  have hbig : ∀ x ∈ b12 20 s, x < P + A.length := fun x hx => by
   apply Classical.byContradiction; intro hc;have := (B0v.1 hx).2;rw [Nat.testBit_lt_two_pow (Nat.lt_of_lt_of_le h (Nat.pow_le_pow_right vc9 vc9))] at this; cases this
  have := b4h (f := x69 ⟨(P : Int), A.map b10⟩ (b10 (b12 20 s))) (b10 (b12 20 s)).length (fun (_ : Unit) k => k) (fun _ => ()) (Sum.inl () : Unit ⊕ Bool) (s0 := ()) rfl (fun k hk => by
    obtain ⟨xi, hx⟩ := b3b hk;obtain ⟨x, hxn, rfl⟩ := D5y hx;have hxb := hbig x (mG9 hxn);unfold x69;rw [if_pos vd9, b1h hx, bS9];show ((if decide ((x : Int) < 0) || decide (wr ((P : Int) + ((A.map b10).length : Int)) <= (x : Int)) then some true else _).bind _) = _
    rw [wN, if_neg (by simp only [Bool.or_eq_true, decide_eq_true_eq]; omega), b3t (n := (k : Int) + 1) vc9 vc9];by_cases e2 : (0 : Int) < (k : Int)
    ·rw [c19] at hk;have hb20 := C0b (k := 20) (n := s);have hk1 : k - 1 < (b12 20 s).length := by omega
     have e1 : wr ((k : Int) - 1) = ((k - 1 : Nat) : Int) := by rw [b3t vc9 vc9]; omega
     have hy : (b12 20 s)[k - 1]? = some (b12 20 s)[k - 1] := gG9 hk1;have hlt := asc (k - 1) k hk1 hk vc9;rw [gG9 hk] at hxn;have hxe := Option.some.inj hxn;have h2 : ¬ (x : Int) <= (((b12 20 s)[k - 1] : Nat) : Int) := by omega
     simp only [e2, decide_true, if_true, e1, z90 hy, bS9, h2, decide_false, fT9, if_false]
    ·simp only [e2, decide_false, fT9, if_false, bS9])
   (by unfold x69; simp)
  unfold s46 at h3;rw [this] at h3
  cases h3
def C9t (P : Nat) (A : List (List Nat)) (seen : List Bool) (s : Nat) : Prop := ∀ i a, A[i]? = some a -> s.testBit (P + i) = true \/ onB s a = seen.getD i false
include hs
theorem D54 {s i : Nat} {a : List Nat} (h : s < 2 ^ 20) (ha : A[i]? = some a) : b0w (C8r ⟨(P : Int), A.map b10⟩ (s : Int) (i : Int)) (false, 0) = some (onB s a) := by
 have hp := hA.p;have hal := hA.len a (mG9 ha);have hg : get (A.map b10) (i : Int) = some (b10 a) := b1h (by rw [List.getElem?_map, ha]; rfl);refine b4h (f := C8r ⟨(P : Int), A.map b10⟩ (s : Int) (i : Int)) a.length (fun s k => (s, k)) (fun k => (a.take k).any fun j => s.testBit j) (onB s a) (s0 := false) (by simp) (fun k hk => ?_) ?_
 ·obtain ⟨x, hx⟩ := b3b hk;have hxP := hA.lt a (mG9 ha) x (mG9 hx);unfold C8r;show ((get (A.map b10) (i : Int)).bind fun x22 => if decide ((k : Int) < (x22.length : Int)) then _ else _) = _
  rw [hg, bS9, if_pos (by rw [c19]; simp; exact hk), b3t (n := (k : Int) + 1) vc9 vc9];rw [show a.take (k + 1) = a.take k ++ [x] by rw [List.take_succ, hx]; rfl, List.any_append]
  have e : ((if (a.take k).any (fun j => s.testBit j) = true then some true else (get (b10 a) (k : Int)).bind fun x29 => (shr .i64 (s : Int) (IntKind.wrap .u64 x29)).bind fun q30 => some (decide ((b6y q30 1) = 1)))) = some ((a.take k).any (fun j => s.testBit j) || [x].any fun j => s.testBit j) := by
   rw [z90 hx, bS9, u4e vc9, g29 vc9, bS9, u6r vc9 vc9]
   cases (a.take k).any fun j => s.testBit j with
   | true => rfl
   | false => simp only [fT9, if_false, Bool.false_or, List.any_cons, List.any_nil, Bool.or_false]; cases s.testBit x <;> rfl
  show ((if (a.take k).any (fun j => s.testBit j) = true then some true else (get (b10 a) (k : Int)).bind fun x29 => (shr .i64 (s : Int) (IntKind.wrap .u64 x29)).bind fun q30 => some (decide ((b6y q30 1) = 1))).bind fun c31 => some (Out.nx (c31, (k : Int) + 1))) = _
  rw [e]; rfl
 ·unfold C8r;show ((get (A.map b10) (i : Int)).bind fun x22 => if decide ((a.length : Int) < (x22.length : Int)) then _ else _) = _
  rw [hg, bS9, if_neg (by rw [c19]; simp), List.take_of_length_le (Nat.le_refl _)];rfl
theorem D24 {s : Nat} (h : s < 2 ^ (P + A.length)) : (C9t P A seen s /\ C8k ⟨(P : Int), A.map b10⟩ seen (b10 (b12 20 s)) = some true) \/ (¬ C9t P A seen s /\ C8k ⟨(P : Int), A.map b10⟩ seen (b10 (b12 20 s)) = some false) := by
 have hp := hA.p;have hn := hA.n;have h20 : s < 2 ^ 20 := Nat.lt_of_lt_of_le h (Nat.pow_le_pow_right vc9 vc9)
 have hor : b0w (C89 (b10 (b12 20 s))) (0, 0) = some (s : Int) := by
  have hb := C0b (k := 20) (n := s);have hlt : ∀ k, ofB ((b12 20 s).take k) < 2 ^ 20 := fun k => D3e fun x hx => D21 (List.mem_of_mem_take hx)
  have := b4h (f := C89 (b10 (b12 20 s))) (b12 20 s).length (fun s k => (s, k)) (fun k => ((ofB ((b12 20 s).take k) : Nat) : Int)) ((s : Nat) : Int) (s0 := 0) rfl (fun k hk => by
    obtain ⟨x, hx⟩ := b3b hk;have hx20 := D21 (mG9 hx);have hpx := Nat.pow_lt_pow_right (show 1 < 2 by omega) hx20;have h1 := hlt k;unfold C89;show (if decide ((k : Int) < ((b10 (b12 20 s)).length : Int)) then _ else _) = _
    rw [if_pos (by rw [c19]; simp; exact hk), z90 hx, bS9, u4e vc9, u1e vc9, bS9, u22 vc9 vc9, b3t (n := (k : Int) + 1) vc9 vc9];rw [show (b12 20 s).take (k + 1) = (b12 20 s).take k ++ [x] by rw [List.take_succ, hx]; rfl];congr 3;unfold ofB
    rw [List.foldl_append]; rfl)
   (by
    unfold C89;show (if decide (((b12 20 s).length : Int) < ((b10 (b12 20 s)).length : Int)) then _ else _) = _
    rw [if_neg (by rw [c19]; simp), List.take_of_length_le (Nat.le_refl _), D53 h20])
  exact this
 unfold C8k;rw [hor, bS9];unfold D1p
 have body : ∀ (i : Nat) (a : List Nat), A[i]? = some a -> C88 ⟨(P : Int), A.map b10⟩ seen (s : Int) (i : Int) = if s.testBit (P + i) = false /\ ¬ onB s a = seen.getD i false then some (.br (.inr false)) else some (.nx ((i : Int) + 1)) := by
  intro i a ha;have hi := b1k ha;obtain ⟨sb, hsb⟩ := b3b (show i < seen.length by omega);have hgd : seen.getD i false = sb := by rw [List.getD_eq_getElem?_getD, hsb]; rfl
  have ew : wr ((P : Int) + (i : Int)) = ((P + i : Nat) : Int) := by rw [b3t vc9 vc9]; omega
  unfold C88 D1o D1q;show (if decide ((i : Int) < ((A.map b10).length : Int)) then (b0w (C8r ⟨(P : Int), A.map b10⟩ (s : Int) (i : Int)) (false, 0)).bind (fun on_10 => (shr .i64 (s : Int) (IntKind.wrap .u64 (wr ((P : Int) + (i : Int))))).bind _) else _) = _
  rw [if_pos (by simp; exact hi), D54 hA hs h20 ha, bS9, ew, u4e vc9, g29 vc9, bS9, u6r vc9 vc9, b1h hsb, hgd, b3t (n := (i : Int) + 1) vc9 vc9]
  cases s.testBit (P + i) <;> cases onB s a <;> cases sb <;> rfl
 rcases c3v (f := C88 ⟨(P : Int), A.map b10⟩ seen (s : Int)) A (fun i a => s.testBit (P + i) = false /\ ¬ onB s a = seen.getD i false) (Sum.inr false : Unit ⊕ Bool) (Sum.inl ())
  (fun i a ha hb => by rw [body i a ha, if_pos hb]) (fun i a ha hb => by rw [body i a ha, if_neg hb])
  (by
   unfold C88;show (if decide ((A.length : Int) < ((A.map b10).length : Int)) then _ else _) = _
   rw [if_neg (by simp)]) with ⟨h1, h2⟩ | ⟨⟨i, a, ha, hb⟩, h2⟩
 ·rw [h2];refine .inl ⟨fun i a ha => ?_, rfl⟩;have := h1 i a ha
  cases ht : s.testBit (P + i) with
  | true => exact .inl rfl
  | false => exact .inr (Classical.byContradiction fun hc => this ⟨ht, hc⟩)
 ·rw [h2];refine .inr ⟨fun hE => ?_, rfl⟩;rcases hE i a ha with h | h
  ·rw [hb.1] at h; cases h
  ·exact hb.2 h
omit hs
theorem D3f {s b : Nat} {a : List Nat} (ha : a ∈ A) (h : ∀ i, i < P -> s.testBit i = b.testBit i) : onB s a = onB b a := by
 unfold onB;rw [Bool.eq_iff_iff, List.any_eq_true, List.any_eq_true];constructor
 ·rintro ⟨k, hk, g⟩; exact ⟨k, hk, by rw [<- h k (hA.lt a ha k hk)]; exact g⟩
 ·rintro ⟨k, hk, g⟩; exact ⟨k, hk, by rw [h k (hA.lt a ha k hk)]; exact g⟩
theorem D3d {b i : Nat} {a : List Nat} (ha : A[i]? = some a) : b31 A seen b i = (onB b a != seen.getD i false) := by
 unfold b31; rw [List.getD_eq_getElem?_getD, ha]; rfl
theorem D40 {b : Nat} (hb : b < 2 ^ P) : C9t P A seen (fA P A seen b) := by
 intro i a ha;have hbit := C9v (seen := seen) hA (i := P + i) hb;rw [if_neg vc9, show P + i - P = i by omega, decide_eq_true (b1k ha), Bool.true_and, D3d hA ha] at hbit;have hon := D3f hA (mG9 ha) (s := fA P A seen b) (b := b) fun j hj => by rw [C9v hA hb, if_pos hj]
 rw [hbit, hon]
 cases onB b a <;> cases seen.getD i false <;> simp
theorem D4z {s : Nat} (h : s < 2 ^ (P + A.length)) (hE : C9t P A seen s) : ∃ b, b < 2 ^ P /\ b21 (fA P A seen b) <= b21 s /\ (b21 s = b21 (fA P A seen b) -> s = fA P A seen b) := by
 have hp := hA.p;have hn := hA.n;have h20 : s < 2 ^ 20 := Nat.lt_of_lt_of_le h (Nat.pow_le_pow_right vc9 vc9);have hb : s % 2 ^ P < 2 ^ P := Nat.mod_lt _ (Nat.two_pow_pos P);have hlow : ∀ i, i < P -> s.testBit i = (s % 2 ^ P).testBit i := fun i hi => by rw [Nat.testBit_mod_two_pow]; simp [hi]
 have hsub : ∀ i, (fA P A seen (s % 2 ^ P)).testBit i = true -> s.testBit i = true := by
  intro i g;rw [C9v hA hb] at g;by_cases c : i < P
  ·rw [if_pos c] at g; rw [hlow i c]; exact g
  ·rw [if_neg c, Bool.and_eq_true, decide_eq_true_eq] at g;obtain ⟨a, ha⟩ := b3b g.1;have g2 := g.2;rw [D3d hA ha] at g2;rcases hE (i - P) a ha with q | q
   ·rw [show P + (i - P) = i by omega] at q; exact q
   ·rw [D3f hA (mG9 ha) hlow] at q;rw [q] at g2; simp at g2
 refine ⟨s % 2 ^ P, hb, ?_, fun e => ?_⟩
 ·unfold b21 b12;rw [<- List.countP_eq_length_filter, <- List.countP_eq_length_filter];exact List.countP_mono_left fun i _ => hsub i
 ·have := D2f (p := fun i => (fA P A seen (s % 2 ^ P)).testBit i) (q := fun i => s.testBit i) (List.range 20) hsub e.symm
  exact (D20 (s93 hA hb) h20 this).symm
end
end
end Go.Nw.WM
namespace Go.Nw.WM
open Go.Nw.Ft2
noncomputable section
def b14 (s : Nat) : List Int := b10 (b12 20 s)
theorem C86 (s : Nat) : (b14 s).length = b21 s := c19
theorem D5x {s n : Nat} : ((n : Int) ∈ b14 s) ↔ n < 20 /\ s.testBit n = true := by
 unfold b14 b10;rw [List.mem_map];constructor
 ·rintro ⟨k, hk, e⟩;have : k = n := by omega
  subst this; exact B0v.1 hk
 ·intro h; exact ⟨n, B0v.2 h, rfl⟩
theorem D39 {a : Nat} (h : a < 2 ^ 20) : b6y (-1) (a : Int) = (a : Int) := by
 show IntKind.wrap .i64 ((BitVec.ofInt 64 (-1) &&& BitVec.ofInt 64 (a : Int)).toNat : Int) = _
 rw [show BitVec.ofInt 64 (-1) = BitVec.allOnes 64 from by decide, BitVec.allOnes_and, s9p a vc9];exact u4f vc9
section
variable {P : Nat} {A : List (List Nat)} {seen : List Bool} (hA : OkAl P A) (hs : seen.length = A.length) {r : List Nat}
 (hf : B8n ⟨(P : Int), A.map b10⟩ seen = some (b10 r)) (hne : r ≠ []) (hlen : r.length <= 1024) (hin : ∀ s ∈ r, s < 2 ^ 20)
include hA hs hf hlen hin
theorem D36 : s94 ⟨(P : Int), A.map b10⟩ seen = some (r.map b14, 0) := by
 have hloop := b4h (f := z26 (b10 r)) r.length (fun s k => (s, k)) (fun k => (r.take k).map b14) (r.map b14) (s0 := []) (by simp) (fun k hk => by
   obtain ⟨s, hx⟩ := b3b hk;have hs := hin s (mG9 hx);unfold z26;show (if decide ((k : Int) < ((b10 r).length : Int)) then _ else _) = _
   rw [if_pos (by rw [c19]; simp; exact hk), z90 hx, bS9, z6j hs, bS9, b9k (by simp only [List.length_map, List.length_take, List.length_cons, List.length_nil]; omega), bS9, b3t vc9 vc9];rw [show r.take (k + 1) = r.take k ++ [s] by rw [List.take_succ, hx]; rfl, List.map_append]
   rfl)
  (by
   unfold z26;show (if decide ((r.length : Int) < ((b10 r).length : Int)) then _ else _) = _
   rw [if_neg (by rw [c19]; simp), List.take_of_length_le (Nat.le_refl _)])
 unfold s94;rw [B33 hA hs, bS9, hf, bS9, hloop]; rfl
theorem D37 {s0 : Nat} (h0 : r[0]? = some s0) : C9w ⟨(P : Int), A.map b10⟩ seen = some (b14 s0, 0) := by
 unfold C9w;rw [B33 hA hs, bS9, hf, bS9];have := z90 h0;rw [show ((0 : Nat) : Int) = 0 from rfl] at this;rw [this, bS9, z6j (hin s0 (mG9 h0))];rfl
include hne
theorem D38 : ∃ n : Nat, n < 2 ^ 20 /\ C9x ⟨(P : Int), A.map b10⟩ seen = some (b14 n, 0) /\ ∀ i, n.testBit i = true ↔ ∀ s ∈ r, s.testBit i = true := by
 obtain ⟨b, hb, n, rfl, hn, hbit⟩ := j7u (f := C81 (b10 r)) r.length (fun v k => (v, k)) (fun k v => (k = 0 /\ v = -1) \/ (0 < k /\ ∃ n : Nat, v = (n : Int) /\ n < 2 ^ 20 /\ ∀ i, n.testBit i = true ↔ ∀ s ∈ r.take k, s.testBit i = true))
  (fun v => ∃ n : Nat, v = (n : Int) /\ n < 2 ^ 20 /\ ∀ i, n.testBit i = true ↔ ∀ s ∈ r, s.testBit i = true) (fun v k hk hi => by
   obtain ⟨s, hx⟩ := b3b hk;have hs := hin s (mG9 hx);have et : r.take (k + 1) = r.take k ++ [s] := by rw [List.take_succ, hx]; rfl
   have hstep : C81 (b10 r) (v, (k : Int)) = some (.nx (b6y v (s : Int), (k : Int) + 1)) := by
    unfold C81;show (if decide ((k : Int) < ((b10 r).length : Int)) then _ else _) = _
    rw [if_pos (by rw [c19]; simp; exact hk), z90 hx, bS9, b3t (n := (k : Int) + 1) vc9 vc9]
   rcases hi with ⟨rfl, rfl⟩ | ⟨h0, n, rfl, hn, hb⟩
   ·refine .inl ⟨(s : Int), ?_, .inr ⟨by omega, s, rfl, hs, fun i => ?_⟩⟩
    ·rw [hstep, D39 hs]
    ·rw [et]; simp
   ·refine .inl ⟨((n &&& s : Nat) : Int), ?_, .inr ⟨by omega, n &&& s, rfl, Nat.lt_of_le_of_lt Nat.and_le_left hn, fun i => ?_⟩⟩
    ·rw [hstep, u6m vc9 vc9]
    ·rw [et, Nat.testBit_and, Bool.and_eq_true, hb i];constructor
     ·rintro ⟨g1, g2⟩ z hz;rw [List.mem_append] at hz;rcases hz with hz | hz
      ·exact g1 z hz
      ·rw [List.mem_singleton.1 hz]; exact g2
     ·intro g
      exact ⟨fun z hz => g z (List.mem_append.2 (.inl hz)), g s (List.mem_append.2 (.inr (by simp)))⟩)
  (fun v hi => by
   rcases hi with ⟨h, _⟩ | ⟨_, h⟩
   ·exact absurd (List.length_eq_zero_iff.1 h) hne
   ·rw [List.take_of_length_le (Nat.le_refl _)] at h
    exact ⟨v, by
     unfold C81;show (if decide ((r.length : Int) < ((b10 r).length : Int)) then _ else _) = _
     rw [if_neg (by rw [c19]; simp)], h⟩) (s := -1) 0 (Nat.zero_le _) (.inl ⟨rfl, rfl⟩)
 refine ⟨n, hn, ?_, hbit⟩;rw [show ((0 : Nat) : Int) = 0 from rfl] at hb;unfold C9x;rw [B33 hA hs, bS9, hf, bS9];simp only [not_true_eq_false, decide_false, fT9, if_false];rw [hb, bS9];unfold D1c;rw [z6j hn]; rfl
end
section
variable (hm : u10 = some true)
include hm
theorem D42 [Bd] (p : Plant) (seen : List Bool) (set : List Int) (hp0 : D1a p) (_h : OkL (fun _ : Bool => True) seen) (hset : OkL b5k set) : C98 p seen set = some true := by
 have hsl : set.length <= maxLen := Nat.le_trans hset.1 Bd.le;have hin0 : p.Alarms.length <= maxLen /\ ∀ a ∈ p.Alarms, a.length <= maxLen := ⟨Nat.le_trans hp0.2.1 Bd.le, fun a ha => Nat.le_trans (hp0.2.2 a ha).1 Bd.le⟩;obtain ⟨rc, hrc, hrc0⟩ := D4w (seen := seen) hin0;have hmm : ((u10).bind fun y6 => some y6) = some true := by rw [hm]; rfl
 unfold C98;rw [hrc, bS9, hmm];by_cases hz : rc = 0
 case neg => simp [hz]
 obtain ⟨P, A, rfl, hA, hs⟩ := hrc0 hz;simp only [hz, not_true_eq_false, decide_false, fT9, if_false];have hP := hA.p;have hn := hA.n;obtain ⟨m, r, hf, hne, hlen, hmem, hmin, hasc⟩ := B15 hA hs
 have hbig : ∀ s ∈ r, s < 2 ^ (P + A.length) := fun s h => by
  obtain ⟨b, hb, rfl, _⟩ := (hmem s).1 h;exact z71 hb A.length
 have hpop : ∀ s ∈ r, b21 s = m := fun s h => by obtain ⟨b, hb, _, e⟩ := (hmem s).1 h; exact e
 have hexp : ∀ s ∈ r, C9t P A seen s := fun s h => by
  obtain ⟨b, hb, rfl, _⟩ := (hmem s).1 h;exact D40 hA hb
 have hin : ∀ s ∈ r, s < 2 ^ 20 := fun s h => Nat.lt_of_lt_of_le (hbig s h) (Nat.pow_le_pow_right vc9 vc9);obtain ⟨s0, h0⟩ := b3b (show 0 < r.length from List.length_pos_iff.2 hne);have hs0 := mG9 h0;obtain ⟨sn, hsn, hsure, hsb⟩ := D38 hA hs hf hne hlen hin;rw [D36 hA hs hf hlen hin, bS9, D37 hA hs hf hlen hin h0, bS9, hsure, bS9];have hlenI : ∀ s : Nat, (b14 s).length <= 20 := fun s => by rw [C86]; exact C0b
 have gL : ∀ (k s : Nat), r[k]? = some s -> get (r.map b14) (k : Int) = some (b14 s) := fun k s h => b1h (by rw [List.getElem?_map, h]; rfl);have g0 := gL 0 s0 h0;rw [show ((0 : Nat) : Int) = 0 from rfl] at g0;have hl0 : ¬ ((r.map b14).length : Int) = 0 := by rw [List.length_map]; have := List.length_pos_iff.2 hne; omega
 simp only [not_true_eq_false, decide_false, hl0, Bool.or_self, fT9, if_false, g0, bS9, D3o (show (b14 s0).length <= 100 from Nat.le_trans (hlenI s0) (by decide)), decide_true, Bool.not_true]
 have hL13 := b4h (f := C99 ⟨(P : Int), A.map b10⟩ seen (r.map b14, 0) (b14 s0, 0)) r.length (fun (_ : Unit) k => k) (fun _ => ()) (Sum.inl () : Unit ⊕ Bool) (s0 := ()) rfl (fun k hk => by
   obtain ⟨s, hx⟩ := b3b hk;have hsr := mG9 hx
   have hE : C8k ⟨(P : Int), A.map b10⟩ seen (b14 s) = some true := by
    rcases D24 hA hs (hbig s hsr) with ⟨_, h⟩ | ⟨h, _⟩
    ·exact h
    ·exact absurd (hexp s hsr) h
   have hle : ((b14 s).length : Int) = ((b14 s0).length : Int) := by rw [C86, C86, hpop s hsr, hpop s0 hs0]
   have hset1 : s46 ⟨(P : Int), A.map b10⟩ (b14 s) = some true := D6h hA (hbig s hsr);unfold C99;show (if decide ((k : Int) < ((r.map b14).length : Int)) then _ else _) = _
   rw [if_pos (by simp; exact hk)];simp only [gL k s hx, bS9, hset1, Bool.not_true, fT9, if_false, hE, hle, not_true_eq_false, decide_false, Bool.or_self];rw [b3t (n := (k : Int) + 1) vc9 vc9];by_cases e2 : (0 : Int) < (k : Int)
   ·obtain ⟨x, hxx⟩ := b3b (show k - 1 < r.length by omega);have e1 : wr ((k : Int) - 1) = ((k - 1 : Nat) : Int) := by rw [b3t vc9 vc9]; omega
    have hlx := hasc (k - 1) x s hxx (by rw [show k - 1 + 1 = k by omega]; exact hx);have hless : x70 (b14 x) (b14 s) = some true := D5u (by rw [C86, C86, hpop s hsr, hpop x (mG9 hxx)]) (Nat.le_trans (hlenI x) (by decide)) hlx;simp only [e2, decide_true, if_true, e1, gL _ _ hxx, bS9, hless, Bool.not_true, fT9, if_false]
   ·simp only [e2, decide_false, fT9, if_false, bS9])
  (by
   unfold C99;show (if decide ((r.length : Int) < ((r.map b14).length : Int)) then _ else _) = _
   rw [if_neg (by simp)])
 rw [hL13, bS9];show D0d ⟨(P : Int), A.map b10⟩ seen set (r.map b14, 0) (b14 s0, 0) (b14 sn, 0) = some true
 unfold D0d;have wN : wr ((P : Int) + ((A.map b10).length : Int)) = ((P + A.length : Nat) : Int) := by rw [List.length_map, b3t vc9 vc9]; omega
 have hL25 := b4h (f := D0b ⟨(P : Int), A.map b10⟩ (r.map b14, 0) (b14 sn, 0)) (P + A.length) (fun (_ : Unit) k => k) (fun _ => ()) (Sum.inl () : Unit ⊕ Bool) (s0 := ()) rfl (fun n hn' => by
   have hhas : ∀ s : Nat, C8q (b14 s) (n : Int) = some (s.testBit n) := fun s => by
    rw [p68 (Nat.le_trans (hlenI s) (by decide))];congr 1;rw [Bool.eq_iff_iff, decide_eq_true_eq, D5x];exact ⟨fun h => h.2, fun h => ⟨by omega, h⟩⟩
   have hL21 := b4h (f := D0a (r.map b14, 0) (n : Int)) r.length (fun s k => (s, k)) (fun k => (r.take k).all fun s => s.testBit n) (r.all fun s => s.testBit n) (s0 := true) (by simp) (fun k hk => by
     obtain ⟨s, hx⟩ := b3b hk;unfold D0a;show (if decide ((k : Int) < ((r.map b14).length : Int)) then _ else _) = _
     rw [if_pos (by simp; exact hk), b3t (n := (k : Int) + 1) vc9 vc9];rw [show r.take (k + 1) = r.take k ++ [s] by rw [List.take_succ, hx]; rfl, List.all_append]
     cases (r.take k).all fun s => s.testBit n with
     | false => rfl
     | true =>
      simp only [if_true, gL k s hx, bS9, hhas, Bool.true_and]
      simp)
    (by
     unfold D0a;show (if decide ((r.length : Int) < ((r.map b14).length : Int)) then _ else _) = _
     rw [if_neg (by simp), List.take_of_length_le (Nat.le_refl _)])
   have hall : (r.all fun s => s.testBit n) = sn.testBit n := by
    rw [Bool.eq_iff_iff, List.all_eq_true, hsb n]
   unfold D0b;show (if decide ((n : Int) < wr ((P : Int) + ((A.map b10).length : Int))) then _ else _) = _
   rw [wN, if_pos (by simp only [decide_eq_true_eq]; omega), hL21, bS9];unfold D1m D1l;rw [hhas, bS9, hall, b3t (n := (n : Int) + 1) vc9 vc9]
   cases sn.testBit n <;> rfl)
  (by
   unfold D0b;show (if decide (((P + A.length : Nat) : Int) < wr ((P : Int) + ((A.map b10).length : Int))) then _ else _) = _
   rw [wN, if_neg (by simp)])
 rw [hL25, bS9];show D0e ⟨(P : Int), A.map b10⟩ seen set (r.map b14, 0) (b14 s0, 0) = some true
 unfold D0e;rw [show ((u10).bind fun y39 => some y39) = some true by rw [hm]; rfl];rcases D3q hA set hsl with ⟨s, hsN, rfl, hset1⟩ | hset0
 case inr => rw [hset0]; rfl
 rw [hset1, bS9];rcases D24 hA hs hsN with ⟨hE, he⟩ | ⟨_, he⟩
 case inr => rw [he]; rfl
 rw [he];simp only [Bool.not_true, fT9, if_false, bS9];obtain ⟨b, hb, hb1, hb2⟩ := D4z hA hsN hE;have hmb := hmin b hb;have hls : (b10 (b12 20 s)).length = b21 s := c19;have hl0' : (b14 s0).length = m := by rw [C86, hpop s0 hs0]
 rw [if_neg (by simp only [decide_eq_true_eq]; omega)]
 have hL35 := b4h (f := D0c (b10 (b12 20 s)) (r.map b14, 0)) r.length (fun s k => (s, k)) (fun k => decide (((b14 s0).length : Int) < ((b10 (b12 20 s)).length : Int)) || (r.take k).any fun x => decide (b14 x = b10 (b12 20 s))) true (s0 := decide (((b14 s0).length : Int) < ((b10 (b12 20 s)).length : Int))) (by simp) (fun k hk => by
   obtain ⟨x, hx⟩ := b3b hk;unfold D0c;show (if decide ((k : Int) < ((r.map b14).length : Int)) then _ else _) = _
   rw [if_pos (by simp; exact hk), b3t (n := (k : Int) + 1) vc9 vc9];rw [show r.take (k + 1) = r.take k ++ [x] by rw [List.take_succ, hx]; rfl, List.any_append, <- Bool.or_assoc]
   cases (decide (((b14 s0).length : Int) < ((b10 (b12 20 s)).length : Int)) || (r.take k).any fun x => decide (b14 x = b10 (b12 20 s))) with
   | true => rfl
   | false =>
    simp only [fT9, if_false, gL k x hx, bS9, D3o (show (b14 x).length <= 100 from Nat.le_trans (hlenI x) (by decide))]
    simp)
  (by
   unfold D0c;show (if decide ((r.length : Int) < ((r.map b14).length : Int)) then _ else _) = _
   rw [if_neg (by simp), List.take_of_length_le (Nat.le_refl _)]
   have : (decide (((b14 s0).length : Int) < ((b10 (b12 20 s)).length : Int)) || r.any fun x => decide (b14 x = b10 (b12 20 s))) = true := by
    by_cases g : b21 s = m
    ·have hsr : s ∈ r := by
      have e := hb2 vc9;exact (hmem s).2 ⟨b, hb, e, g⟩
     rw [Bool.or_eq_true]; right;rw [List.any_eq_true]; exact ⟨s, hsr, by unfold b14; simp⟩
    ·rw [Bool.or_eq_true]; left;rw [decide_eq_true_eq]; omega
   rw [this])
 rw [hL35, bS9];unfold D1k;rw [hm]; rfl
end
end
end Go.Nw.WM
