/- Plain laws on the models. -/
import Derived.Test.YtbmfnjehcnbpbaaDoorWN
import Derived.Test.YtbmfnjehcnbpbaaDoorNwPop
import Derived.Test.YtbmfnjehcnbpbaaDoorP3
import Derived.Test.YtbmfnjehcnbpbaaDoorNwPlain
import Derived.Test.YtbmfnjehcnbpbaaDoorP4
set_option linter.all false
namespace Go.Nw.WN
open Go.Nw.Ft3
noncomputable section
theorem C9b {a y : Nat} (hy : y <= 64) : shr .u64 (a : Int) (y : Int) = some ((a >>> y : Nat) : Int) := by
 rw [g29 vc9];have : Nat.min (y : Int).toNat IntKind.u64.bits = y := Nat.min_eq_left (by rw [show IntKind.u64.bits = 64 from rfl]; omega);unfold d45;rw [this, Nat.shiftRight_eq_div_pow];have h2 : (2 : Int) ^ y = ((2 ^ y : Nat) : Int) := by simp
 rw [h2, Int.fdiv_eq_ediv_of_nonneg _ (Int.natCast_nonneg _)]; rfl
theorem B8m {a b : Nat} (ha : a < 18446744073709551616) (hb : b < 18446744073709551616) : d05 .u64 (a : Int) (b : Int) = ((a &&& b : Nat) : Int) := by
 show IntKind.wrap .u64 ((BitVec.ofInt 64 (a : Int) &&& BitVec.ofInt 64 (b : Int)).toNat : Int) = _
 rw [BitVec.toNat_and, s9p a ha, s9p b hb];exact u4e (Nat.lt_of_le_of_lt Nat.and_le_left ha)
theorem s43 {a b : Nat} (h : a + b < 18446744073709551616) : IntKind.wrap .u64 ((a : Int) + (b : Int)) = ((a + b : Nat) : Int) := u4e h
theorem z92 {x : Nat} (h : x < 2 ^ 20) : l13 (x : Int) = some ((b12 20 x).length : Int) := by
 obtain ⟨y, hy⟩ : ∃ y, y = ((x >>> 1) &&& 6148914691236517205) + (x &&& 6148914691236517205) := ⟨_, rfl⟩;obtain ⟨z, hz⟩ : ∃ z, z = ((y >>> 2) &&& 3689348814741910323) + (y &&& 3689348814741910323) := ⟨_, rfl⟩;obtain ⟨s, hs⟩ : ∃ s, s = ((z >>> 4) + z) &&& 1085102592571150095 := ⟨_, rfl⟩;obtain ⟨t, ht⟩ : ∃ t, t = s + s >>> 8 := ⟨_, rfl⟩;obtain ⟨v, hv⟩ : ∃ v, v = t + t >>> 16 := ⟨_, rfl⟩;have hx : x = 2 ^ 8 * (2 ^ 8 * (x / 65536) + x / 256 % 256) + x % 256 := by omega
 obtain ⟨gy, gz, gs, gt, gv, e⟩ := B34 (b0 := x % 256) (b1 := x / 256 % 256) (b2 := x / 65536) vc9 vc9 vc9 x y z s t v hx hy hz hs ht hv;have sl : ∀ a b : Nat, a < 2 ^ 24 -> a >>> b < 2 ^ 24 := fun a b ha => by rw [Nat.shiftRight_eq_div_pow]; exact Nat.lt_of_le_of_lt (Nat.div_le_self _ _) ha
 have hl : (b12 20 x).length = (b12 8 (x % 256)).length + ((b12 8 (x / 256 % 256)).length + (b12 4 (x / 65536)).length) := by
  have h1 := z9i (k := 12) (a := 2 ^ 8 * (x / 65536) + x / 256 % 256) (b := x % 256) vc9;have h2 := z9i (k := 4) (a := x / 65536) (b := x / 256 % 256) vc9;rw [<- hx] at h1;rw [h1, h2]
 have a1 : shr .u64 (x : Int) 1 = some ((x >>> 1 : Nat) : Int) := C9b (a := x) (y := 1) vc9;have a2 : d05 .u64 ((x >>> 1 : Nat) : Int) 6148914691236517205 = (((x >>> 1) &&& 6148914691236517205 : Nat) : Int) := B8m (b := 6148914691236517205) (by have := sl x 1 vc9; omega) vc9;have a3 : d05 .u64 (x : Int) 6148914691236517205 = ((x &&& 6148914691236517205 : Nat) : Int) := B8m (b := 6148914691236517205) vc9 vc9;have a4 : IntKind.wrap .u64 ((((x >>> 1) &&& 6148914691236517205 : Nat) : Int) + ((x &&& 6148914691236517205 : Nat) : Int)) = (y : Int) := by rw [hy]; exact s43 (by rw [<- hy]; omega)
 have b1 : shr .u64 (y : Int) 2 = some ((y >>> 2 : Nat) : Int) := C9b (a := y) (y := 2) vc9;have b2 : d05 .u64 ((y >>> 2 : Nat) : Int) 3689348814741910323 = (((y >>> 2) &&& 3689348814741910323 : Nat) : Int) := B8m (b := 3689348814741910323) (by have := sl y 2 gy; omega) vc9;have b3 : d05 .u64 (y : Int) 3689348814741910323 = ((y &&& 3689348814741910323 : Nat) : Int) := B8m (b := 3689348814741910323) vc9 vc9;have b4 : IntKind.wrap .u64 ((((y >>> 2) &&& 3689348814741910323 : Nat) : Int) + ((y &&& 3689348814741910323 : Nat) : Int)) = (z : Int) := by rw [hz]; exact s43 (by rw [<- hz]; omega)
 have c1 : shr .u64 (z : Int) 4 = some ((z >>> 4 : Nat) : Int) := C9b (a := z) (y := 4) vc9;have c2 : IntKind.wrap .u64 (((z >>> 4 : Nat) : Int) + (z : Int)) = ((z >>> 4 + z : Nat) : Int) := s43 (by have := sl z 4 gz; omega);have c3 : d05 .u64 ((z >>> 4 + z : Nat) : Int) 1085102592571150095 = (s : Int) := by rw [hs]; exact B8m (b := 1085102592571150095) (by have := sl z 4 gz; omega) vc9
 have d1 : shr .u64 (s : Int) 8 = some ((s >>> 8 : Nat) : Int) := C9b (a := s) (y := 8) vc9;have d2 : IntKind.wrap .u64 ((s : Int) + ((s >>> 8 : Nat) : Int)) = (t : Int) := by rw [ht]; exact s43 (by rw [<- ht]; omega)
 have f1 : shr .u64 (t : Int) 16 = some ((t >>> 16 : Nat) : Int) := C9b (a := t) (y := 16) vc9;have f2 : IntKind.wrap .u64 ((t : Int) + ((t >>> 16 : Nat) : Int)) = (v : Int) := by rw [hv]; exact s43 (by rw [<- hv]; omega)
 have g1 : shr .u64 (v : Int) 32 = some ((v >>> 32 : Nat) : Int) := C9b (a := v) (y := 32) vc9;have g2 : IntKind.wrap .u64 ((v : Int) + ((v >>> 32 : Nat) : Int)) = ((v + v >>> 32 : Nat) : Int) := s43 (by have := sl v 32 gv; omega);have g3 : IntKind.wrap .i64 ((v + v >>> 32 : Nat) : Int) = ((v + v >>> 32 : Nat) : Int) := u4f (by have := sl v 32 gv; omega);have g4 : b6y ((v + v >>> 32 : Nat) : Int) 127 = (((v + v >>> 32) &&& 127 : Nat) : Int) := u6m (b := 127) (by have := sl v 32 gv; omega) vc9;unfold l13 z6h;rw [a1, bS9, a2, a3, a4];rw [b1, bS9, b2, b3, b4];rw [c1, bS9, c2, c3];rw [d1, bS9, d2];rw [f1, bS9, f2];rw [g1, bS9, g2, g3, g4, bS9, e, hl]
theorem B4g : ((List.range 20).all fun j => decide (((shr .u64 (IntKind.wrap .u64 (((2 ^ j : Nat) : Int) * 285870213051353865)) 58).bind fun q5 => (get u3d q5).bind fun x6 => some (IntKind.wrap .i64 x6)) = some (j : Int))) = true := by decide +kernel
theorem z9a {j q : Nat} (h : 2 ^ j * (2 * q + 1) < 2 ^ 20) : j < 20 /\ B86 ((2 ^ j * (2 * q + 1) : Nat) : Int) = some (j : Int) := by
 have hp := Nat.two_pow_pos j
 have hj : j < 20 := by
  apply Classical.byContradiction; intro hc;have : 2 ^ 20 <= 2 ^ j := Nat.pow_le_pow_right vc9 vc9;have : 2 ^ j * 1 <= 2 ^ j * (2 * q + 1) := Nat.mul_le_mul_left _ vc9;omega
 refine ⟨hj, ?_⟩;have hx0 : 0 < 2 ^ j * (2 * q + 1) := Nat.mul_pos hp vc9;have lo := B3t (j := j) (q := q) vc9;generalize he : 2 ^ j * (2 * q + 1) = x at *
 have w1 : IntKind.wrap .u64 (0 - (x : Int)) = ((2 ^ 64 - x : Nat) : Int) := by
  show (0 - (x : Int)) % 18446744073709551616 = _
  omega
 have b1 : d05 .u64 (x : Int) ((2 ^ 64 - x : Nat) : Int) = ((2 ^ j : Nat) : Int) := by rw [B8m vc9 vc9, lo]
 have tb := of_decide_eq_true (List.all_eq_true.1 B4g j (List.mem_range.2 hj));unfold B86 z6i;rw [if_neg vi9, w1, b1, tb]; rfl
theorem B3u : ∀ (n x : Nat) (out : List Int), (b12 20 x).length = n -> x < 2 ^ 20 -> out.length + n <= 100 -> b0w C83 ((x : Int), out) = some (out ++ (b12 20 x).map fun i : Nat => (i : Int)) := by
 intro n;induction n with
 | zero =>
  intro x out hn hx ho
  have hz : x = 0 := by
   apply Classical.byContradiction; intro hc;obtain ⟨j, q, e⟩ := z80 x hc;subst e;rw [z52 (z9a hx).1] at hn;simp at hn
  subst hz;rw [y28];exact b3d (by unfold C83; simp)
 | succ n ih =>
  intro x out hn hx ho
  have hc : x ≠ 0 := by
   intro e; subst e; rw [y28] at hn; simp at hn
  obtain ⟨j, q, e⟩ := z80 x hc;have ht := z9a (e ▸ hx);have hb := z52 (q := q) ht.1;rw [<- e] at hb ht;have hcl : x &&& (x - 1) = 2 ^ (j + 1) * q := by rw [e]; exact B3s j q
  have hlt : 2 ^ (j + 1) * q < 2 ^ 20 := by rw [<- hcl]; exact Nat.lt_of_le_of_lt Nat.and_le_left hx
  rw [hb] at hn
  have st : C83 ((x : Int), out) = some (.nx (((2 ^ (j + 1) * q : Nat) : Int), out ++ [(j : Int)])) := by
   unfold C83;show (if decide (¬(x : Int) = 0) then _ else _) = _
   rw [if_pos vi9, u4e vc9, ht.2, bS9, b9k (by simp only [List.length_cons, List.length_nil]; omega), bS9, b3t vc9 vc9, show (x : Int) - 1 = ((x - 1 : Nat) : Int) by omega];rw [show b6y (x : Int) ((x - 1 : Nat) : Int) = ((x &&& (x - 1) : Nat) : Int) from u6m vc9 vc9, hcl]
  rw [w91 st, ih _ _ (by simpa using hn) hlt vi9, hb];simp
theorem z6j {x : Nat} (hx : x < 2 ^ 20) : x49 (x : Int) = some ((b12 20 x).map fun i : Nat => (i : Int)) := by
 unfold x49;rw [B3u _ x [] rfl hx (by have := C0b (k := 20) (n := x); simp; omega), bS9];rfl
end
end Go.Nw.WN
namespace Go.Nw.WN
open Go.Nw.Ft3
noncomputable section
def b16 : List Int -> List Int -> Bool
 | [], [] => false
 | [], _ :: _ => true
 | _ :: _, [] => false
 | a :: x, b :: y => if a = b then b16 x y else decide (a < b)
theorem z70 (x y : Int) : c12 x y = if x < y then -1 else if y < x then 1 else 0 := by
 unfold c12 D9f;by_cases h1 : x < y
 ·simp [h1]
 ·by_cases h2 : y < x <;> simp [h1, h2]
theorem B1z {a b : List Int} (ha : a.length <= 1000) (hb : b.length <= 1000) : ∃ r, B8x a b = some r /\ decide (r < 0) = b16 a b := by
 have hm : (1000 : Nat) <= maxLen := by decide
 have key : ∀ (x y : List Int) (k : Nat), a.drop k = x -> b.drop k = y -> k <= a.length -> k <= b.length -> ∃ r, b0w (D9e a b) (k : Int) = some r /\
   ∃ v, (match r with | .inl () => z5o a b | .inr r' => some r') = some v /\ decide (v < 0) = b16 x y := by
  intro x;induction x with
  | nil =>
   intro y k h1 h2 h3 h4;have hk : k = a.length := by have := List.drop_eq_nil_iff.1 h1; omega
   refine ⟨.inl (), b3d ?_, ?_⟩
   ·unfold D9e;have : ¬ (k : Int) < (a.length : Int) := by omega
    simp only [this, decide_false, fT9, if_false]
   ·simp only [z5o]
    cases y with
    | nil =>
     have hk2 := List.drop_eq_nil_iff.1 h2;have : ¬ (a.length : Int) < (b.length : Int) := by omega
     exact ⟨0, by simp [this], by simp [b16]⟩
    | cons c y =>
     have hlt : k < b.length := by
      rcases Nat.lt_or_ge k b.length with h | h
      ·exact h
      ·rw [List.drop_eq_nil_of_le h] at h2; cases h2
     have : (a.length : Int) < (b.length : Int) := by omega
     exact ⟨-1, by simp [this], by simp [b16]⟩
  | cons c x ih =>
   intro y k h1 h2 h3 h4;obtain ⟨g1, g2, g3, _⟩ := g9x h1
   cases y with
   | nil =>
    have hk2 := List.drop_eq_nil_iff.1 h2;refine ⟨.inr 1, b3d ?_, 1, rfl, by simp [b16]⟩;unfold D9e;have : (b.length : Int) <= (k : Int) := by omega
    simp only [g2, decide_true, if_true, g1, bS9, this]
   | cons d y =>
    obtain ⟨q1, q2, q3, _⟩ := g9x h2;have hn : ¬ (b.length : Int) <= (k : Int) := by omega
    by_cases e : c = d
    ·subst e
     have hstep : D9e a b (k : Int) = some (.nx ((k + 1 : Nat) : Int)) := by
      unfold D9e;simp only [g2, decide_true, if_true, g1, bS9, hn, decide_false, fT9, if_false, q1, z70, Int.lt_irrefl, not_true_eq_false];rw [l23 g2 (Nat.le_trans ha hm)]; rfl
     rw [w91 hstep];have hk1 : k + 1 <= a.length := by omega
     have hk2 : k + 1 <= b.length := by omega
     obtain ⟨r, e1, v, e2, e3⟩ := ih y (k + 1) g3 q3 hk1 hk2;exact ⟨r, e1, v, e2, by rw [e3]; simp [b16]⟩
    ·have hne : ¬ c12 c d = 0 := by
      rw [z70];by_cases z : c < d
      ·simp [z]
      ·have : d < c := by omega
       simp [z, this]
     refine ⟨.inr (c12 c d), b3d ?_, c12 c d, rfl, ?_⟩
     ·unfold D9e;simp only [g2, decide_true, if_true, g1, bS9, hn, decide_false, fT9, if_false, q1, hne, not_false_eq_true]
     ·simp only [b16, e, if_false, z70];by_cases z : c < d
      ·simp [z]
      ·have : d < c := by omega
       simp [z, this]
 obtain ⟨r, e1, v, e2, e3⟩ := key a b 0 rfl rfl (Nat.zero_le _) (Nat.zero_le _);refine ⟨v, ?_, e3⟩;unfold B8x;rw [show ((0 : Nat) : Int) = 0 from rfl] at e1;rw [e1]
 cases r <;> exact e2
theorem z9v : ∀ a, b16 a a = false
 | [] => rfl
 | a :: x => by simp [b16, z9v x]
theorem z9x : ∀ x y z, b16 x y = true -> b16 y z = true -> b16 x z = true
 | [], [], _, h, _ => by simp [b16] at h
 | [], _ :: _, [], _, h => by simp [b16] at h
 | [], _ :: _, _ :: _, _, _ => rfl
 | _ :: _, [], _, h, _ => by simp [b16] at h
 | _ :: _, _ :: _, [], _, h => by simp [b16] at h
 | a :: x, b :: y, c :: z, h1, h2 => by
  simp only [b16] at h1 h2 ⊢
  by_cases ab : a = b
  ·subst ab;rw [if_pos rfl] at h1;by_cases bc : a = c
   ·rw [if_pos bc] at h2 ⊢; exact z9x x y z h1 h2
   ·rw [if_neg bc] at h2 ⊢; exact h2
  ·rw [if_neg ab] at h1;have g1 := of_decide_eq_true h1;by_cases bc : b = c
   ·subst bc; rw [if_neg ab]; exact h1
   ·rw [if_neg bc] at h2;have g2 := of_decide_eq_true h2;rw [if_neg vc9]; exact decide_eq_true vc9
theorem z9w : ∀ x y z, b16 x y = false -> b16 y z = false -> b16 x z = false
 | [], [], _, _, h => h
 | [], _ :: _, _, h, _ => by simp [b16] at h
 | _ :: _, [], [], _, _ => rfl
 | _ :: _, [], _ :: _, _, h => by simp [b16] at h
 | _ :: _, _ :: _, [], _, _ => rfl
 | a :: x, b :: y, c :: z, h1, h2 => by
  simp only [b16] at h1 h2 ⊢
  by_cases ab : a = b
  ·subst ab;rw [if_pos rfl] at h1;by_cases bc : a = c
   ·rw [if_pos bc] at h2 ⊢; exact z9w x y z h1 h2
   ·rw [if_neg bc] at h2 ⊢; exact h2
  ·rw [if_neg ab] at h1;have g1 := of_decide_eq_false h1;by_cases bc : b = c
   ·subst bc; rw [if_neg ab]; exact h1
   ·rw [if_neg bc] at h2;have g2 := of_decide_eq_false h2;rw [if_neg vc9]; exact decide_eq_false vc9
def b10 (l : List Nat) : List Int := l.map fun i : Nat => (i : Int)
theorem y69 {l : List Nat} : (b10 l).length = l.length := by simp [b10]
theorem z90 {l : List Nat} {k : Nat} {x : Nat} (h : l[k]? = some x) : get (b10 l) (k : Int) = some (x : Int) := b1h (by unfold b10; rw [List.getElem?_map, h]; rfl)
theorem B3x {a b : List Nat} : b10 (a ++ b) = b10 a ++ b10 b := by simp [b10]
def ltS (x y : Int) : Bool := b16 (b10 (b12 20 x.toNat)) (b10 (b12 20 y.toNat))
theorem B4d : Go.Sort.SWO ltS := ⟨fun _ => z9v _, fun _ _ _ => z9x _ _ _, fun _ _ _ => z9w _ _ _⟩
def InS (x : Int) : Prop := 0 <= x /\ x < 2 ^ 20
theorem B1y : z9d InS (fun z0 z1 => c71 z0 z1) ltS := by
 intro x y hx hy;obtain ⟨a, rfl⟩ : ∃ a : Nat, x = a := ⟨x.toNat, by have := hx.1; omega⟩;obtain ⟨b, rfl⟩ : ∃ b : Nat, y = b := ⟨y.toNat, by have := hy.1; omega⟩;have ha : a < 2 ^ 20 := by have := hx.2; omega
 have hb : b < 2 ^ 20 := by have := hy.2; omega
 have la : (b10 (b12 20 a)).length <= 1000 := by rw [y69]; have := C0b (k := 20) (n := a); omega
 have lb : (b10 (b12 20 b)).length <= 1000 := by rw [y69]; have := C0b (k := 20) (n := b); omega
 obtain ⟨r, h1, h2⟩ := B1z la lb;refine ⟨r, ?_, ?_⟩
 ·show c71 (a : Int) (b : Int) = some r
  unfold c71;rw [z6j ha, bS9, z6j hb, bS9];rw [show B8x ((b12 20 a).map fun i : Nat => (i : Int)) ((b12 20 b).map fun i : Nat => (i : Int)) = some r from h1]; rfl
 ·show b16 (b10 (b12 20 ((a : Int).toNat))) (b10 (b12 20 ((b : Int).toNat))) = _
  rw [Int.toNat_natCast, Int.toNat_natCast, h2]
end
end Go.Nw.WN
namespace Go.Nw.WN
open Go.Nw.Ft3
noncomputable section
def onB (b : Nat) (a : List Nat) : Bool := a.any fun k => b.testBit k
def b31 (A : List (List Nat)) (seen : List Bool) (b i : Nat) : Bool := (onB b (A.getD i [])) != seen.getD i false
def exN (P : Nat) (A : List (List Nat)) (seen : List Bool) (b : Nat) : Nat -> Nat
 | 0 => b
 | k + 1 => if b31 A seen b k then exN P A seen b k ||| 2 ^ (P + k) else exN P A seen b k
theorem B13 {P : Nat} {A : List (List Nat)} {seen : List Bool} {b k : Nat} : exN P A seen b (k + 1) = if b31 A seen b k then exN P A seen b k ||| 2 ^ (P + k) else exN P A seen b k := rfl
theorem z71 {P : Nat} {A : List (List Nat)} {seen : List Bool} {b : Nat} (hb : b < 2 ^ P) : ∀ k, exN P A seen b k < 2 ^ (P + k)
 | 0 => hb
 | k + 1 => by
  have h := z71 (A := A) (seen := seen) hb k;have hp := Nat.pow_lt_pow_right (show 1 < 2 by omega) (show P + k < P + (k + 1) by omega);unfold exN;split
  ·exact Nat.or_lt_two_pow vc9 hp
  ·omega
theorem s79 {P : Nat} {A : List (List Nat)} {seen : List Bool} {b : Nat} (hb : b < 2 ^ P) (i : Nat) : ∀ k, (exN P A seen b k).testBit i = if i < P then b.testBit i else decide (i - P < k) && b31 A seen b (i - P)
 | 0 => by
  unfold exN;split
  ·rfl
  ·rename_i h;rw [Nat.testBit_lt_two_pow (Nat.lt_of_lt_of_le hb (Nat.pow_le_pow_right vc9 vc9))]; simp
 | k + 1 => by
  have h := s79 (A := A) (seen := seen) hb i k;unfold exN;by_cases c : i < P
  ·rw [if_pos c] at h ⊢
   split
   ·rw [Nat.testBit_or, h, Nat.testBit_two_pow]; have : ¬ P + k = i := by omega
    simp [this]
   ·exact h
  ·rw [if_neg c] at h ⊢
   by_cases e : i - P = k
   ·have e2 : i = P + k := by omega
    have h0 : ¬ i - P < k := by omega
    have h1 : i - P < k + 1 := by omega
    rw [decide_eq_true h1, Bool.true_and, e];split
    ·rename_i hm; rw [Nat.testBit_or, Nat.testBit_two_pow, e2, hm]; simp
    ·rename_i hm; rw [h, decide_eq_false h0]; simpa using hm
   ·have h2 : decide (i - P < k + 1) = decide (i - P < k) := by congr 1; simp only [eq_iff_iff]; omega
    rw [h2];split
    ·rw [Nat.testBit_or, h, Nat.testBit_two_pow]; have : ¬ P + k = i := by omega
     simp [this]
    ·exact h
structure OkAl (P : Nat) (A : List (List Nat)) : Prop where
 p : P <= 10
 n : A.length <= 10
 lt : ∀ a ∈ A, ∀ k ∈ a, k < P
 asc : ∀ a ∈ A, a.Pairwise (· < ·)
 len : ∀ a ∈ A, a.length <= 20
section
variable {P : Nat} {A : List (List Nat)} {seen : List Bool} (hA : OkAl P A) (hs : seen.length = A.length)
include hA
theorem B31 {b : Nat} (hb : b < 2 ^ P) {a : List Nat} (ha : a ∈ A) : b45 (b10 a) (fun z12 => s50 z12 (b : Int)) = some (onB b a) := by
 have hp := hA.p;have hq := Nat.pow_le_pow_right (n := 2) (show 0 < 2 by omega) hp
 obtain ⟨r, h1, h2⟩ := c20 (g := b45 (b10 a) (fun z12 => s50 z12 (b : Int))) (s := b10 a) (f := fun z12 => s50 z12 (b : Int)) (p := fun x => ∃ k : Nat, x = k /\ b.testBit k = true) rfl
  (by rw [y69]; exact Nat.le_trans (hA.len a ha) (by decide)) (fun x hx => by
   obtain ⟨k, hk, rfl⟩ := List.mem_map.1 hx;have hkP := hA.lt a ha k hk
   refine ⟨b.testBit k, ?_, ⟨fun h => ⟨k, rfl, h⟩, fun ⟨k', e, h⟩ => by have : k = k' := by omega
                                                                        subst this; exact h⟩⟩
   show s50 (k : Int) (b : Int) = _
   unfold s50;rw [g29 vc9, bS9, u6r vc9 vc9]
   cases b.testBit k <;> rfl)
 rw [h1];congr 1
 have e : onB b a = true ↔ r = true := by
  rw [h2];unfold onB;rw [List.any_eq_true];constructor
  ·rintro ⟨k, hk, h⟩; exact ⟨(k : Int), List.mem_map.2 ⟨k, hk, rfl⟩, k, rfl, h⟩
  ·rintro ⟨x, hx, k, rfl, h⟩;obtain ⟨k', hk', e⟩ := List.mem_map.1 hx;have : k' = k := by omega
   subst this; exact ⟨k', hk', h⟩
 cases r <;> cases h : onB b a <;> simp_all
include hs
theorem B14 {b : Nat} (hb : b < 2 ^ P) : z27 ⟨(P : Int), A.map b10⟩ seen (b : Int) = some ((exN P A seen b A.length : Nat) : Int) := by
 have hp := hA.p;have hn := hA.n
 have h := j7z (f := z49 ⟨(P : Int), A.map b10⟩ seen (b : Int)) A.length (fun s k => (s, k)) (fun k => ((exN P A seen b k : Nat) : Int)) ((exN P A seen b A.length : Nat) : Int) (fun k hk => by
   obtain ⟨a, ha⟩ := b3b hk;obtain ⟨sb, hsb⟩ := b3b (show k < seen.length by omega);have hlt := z71 (A := A) (seen := seen) hb k;have hq := Nat.pow_le_pow_right (n := 2) (show 0 < 2 by omega) (show P + k <= 20 by omega);unfold z49;show (if decide ((k : Int) < ((A.map b10).length : Int)) then _ else _) = _
   rw [if_pos (by simp; exact hk)];have hg : get (A.map b10) (k : Int) = some (b10 a) := b1h (by rw [List.getElem?_map, ha]; rfl);simp only [hg, bS9, B31 hA hb (mG9 ha), b1h hsb]
   have em : b31 A seen b k = (onB b a != sb) := by
    unfold b31; rw [List.getD_eq_getElem?_getD, List.getD_eq_getElem?_getD, ha, hsb]; rfl
   have ew : wr ((P : Int) + (k : Int)) = ((P + k : Nat) : Int) := by rw [b3t vc9 vc9]; omega
   have eb : (!(b5c (onB b a) sb)) = b31 A seen b k := by rw [em]; cases onB b a <;> cases sb <;> rfl
   rw [eb];have ek : wr ((k : Int) + 1) = (k : Int) + 1 := b3t vc9 vc9;show _ = some (Out.nx (((exN P A seen b (k + 1) : Nat) : Int), (k : Int) + 1))
   rw [B13]
   cases b31 A seen b k with
   | true =>
    simp only [if_true];rw [ew, u1e vc9, bS9];unfold C82;rw [ek, u22 vc9 (by have := u3z (y := P + k) vc9; omega)]
   | false =>
    simp only [fT9, if_false];unfold C82
    rw [ek])
  (by unfold z49; simp)
 unfold z27;rw [show ((exN P A seen b 0 : Nat) : Int) = (b : Int) from rfl] at h;rw [h]; rfl
theorem B33 : z5a ⟨(P : Int), A.map b10⟩ seen = some 0 := by
 have hp := hA.p;have hn := hA.n
 have inner : ∀ a ∈ A, b0w (B8p ⟨(P : Int), A.map b10⟩ (b10 a)) (-1, 0) = some (.inl ()) := by
  intro a ha;have hlen := hA.len a ha;have asc := List.pairwise_iff_getElem.1 (hA.asc a ha)
  obtain ⟨b, e, rfl⟩ := j7u (f := B8p ⟨(P : Int), A.map b10⟩ (b10 a)) a.length (fun s k => (s, k)) (fun k s => -1 <= s /\ s <= 10 /\ ∀ j x, k <= j -> a[j]? = some x -> s < (x : Int)) (fun b => b = Sum.inl ()) (fun s k hk hi => by
    obtain ⟨h1, h2, h3⟩ := hi;obtain ⟨x, hx⟩ := b3b hk;have hxP := hA.lt a ha x (mG9 hx);have h4 := h3 k x (Nat.le_refl _) hx;refine .inl ⟨(x : Int), ?_, by omega, by omega, fun j y hj hy => ?_⟩
    ·unfold B8p;show (if decide ((k : Int) < ((b10 a).length : Int)) then _ else _) = _
     rw [if_pos (by rw [y69]; simp; exact hk)];simp only [z90 hx, bS9];rw [b3t (n := s + 1) vc9 vc9, b3t (n := (P : Int) - 1) vc9 vc9]
     have : s39 (x : Int) (s + 1) ((P : Int) - 1) = true := by
      unfold s39; rw [decide_eq_true vc9, decide_eq_true vc9]; rfl
     rw [this, b3t (n := (k : Int) + 1) vc9 vc9]; rfl
    ·have hjl := b1k hy
     have hkl := b1k hx;have := asc k j hkl hjl vc9;rw [gG9 hkl] at hx;rw [gG9 hjl] at hy;have e1 := Option.some.inj hx;have e2 := Option.some.inj hy
     omega)
   (fun s hi => ⟨_, by
    unfold B8p;show (if decide ((a.length : Int) < ((b10 a).length : Int)) then _ else _) = _
    rw [if_neg (by rw [y69]; simp)], rfl⟩) (s := -1) 0 (Nat.zero_le _) ⟨by omega, by omega, fun j x _ _ => by omega⟩
  exact e
 have outer := b4h (f := z5b ⟨(P : Int), A.map b10⟩) A.length (fun (_ : Unit) k => k) (fun _ => ()) (Sum.inl () : Unit ⊕ Int) (s0 := ()) rfl (fun k hk => by
   obtain ⟨a, ha⟩ := b3b hk;unfold z5b;show (if decide ((k : Int) < ((A.map b10).length : Int)) then _ else _) = _
   rw [if_pos (by simp; exact hk)];have hg : get (A.map b10) (k : Int) = some (b10 a) := b1h (by rw [List.getElem?_map, ha]; rfl);simp only [hg, bS9, inner a (mG9 ha)];unfold z54
   rw [b3t (n := (k : Int) + 1) vc9 vc9])
  (by unfold z5b; simp)
 unfold z5a;have e1 : s39 (P : Int) 0 10 = true := by unfold s39; rw [decide_eq_true vc9, decide_eq_true vc9]; rfl
 have e2 : ¬ (10 : Int) < ((A.map b10).length : Int) := by rw [List.length_map]; omega
 simp only [e1, e2, Bool.not_true, decide_false, Bool.or_self, fT9, if_false, outer, bS9];unfold z55;simp only [List.length_map, hs, not_true_eq_false, decide_false, fT9, if_false]
end
def b21 (s : Nat) : Nat := (b12 20 s).length
def B8h : List Nat -> Nat -> List Nat
 | [], s => [s]
 | x :: xs, s => if b21 s < b21 x then [s] else if b21 s = b21 x then (x :: xs) ++ [s] else x :: xs
theorem z88 {x s : Nat} {xs : List Nat} : B8h (x :: xs) s = if b21 s < b21 x then [s] else if b21 s = b21 x then (x :: xs) ++ [s] else x :: xs := rfl
def b22 (f : Nat -> Nat) : Nat -> List Nat
 | 0 => []
 | i + 1 => B8h (b22 f i) (f i)
theorem B4c (l : List Nat) (s : Nat) : (B8h l s).length <= l.length + 1 := by
 cases l with
 | nil => simp [B8h]
 | cons x xs =>
  rw [z88];by_cases c : b21 s < b21 x
  ·rw [if_pos c]; simp
  ·rw [if_neg c];by_cases d : b21 s = b21 x
   ·rw [if_pos d]; simp
   ·rw [if_neg d]; simp
theorem z9z (f : Nat -> Nat) : ∀ i, (b22 f i).length <= i
 | 0 => by simp [b22]
 | i + 1 => by have := z9z f i; have := B4c (b22 f i) (f i); unfold b22; omega
theorem z6c (f : Nat -> Nat) : ∀ i, ∃ m, b22 f (i + 1) = ((List.range (i + 1)).map f).filter (fun s => decide (b21 s = m)) /\ (∀ j, j < i + 1 -> m <= b21 (f j)) /\ ∃ j, j < i + 1 /\ b21 (f j) = m
 | 0 => ⟨b21 (f 0), by simp [b22, B8h], fun j hj => by rw [show j = 0 by omega]; exact Nat.le_refl _, 0, by omega, rfl⟩
 | i + 1 => by
  obtain ⟨m, h1, h2, j0, hj0, h3⟩ := z6c f i;have hmem : f j0 ∈ b22 f (i + 1) := by rw [h1, List.mem_filter]; exact ⟨List.mem_map.2 ⟨j0, List.mem_range.2 hj0, rfl⟩, by simp [h3]⟩
  have hall : ∀ x ∈ b22 f (i + 1), b21 x = m := fun x hx => by rw [h1, List.mem_filter] at hx; simpa using hx.2
  have e : b22 f (i + 1 + 1) = B8h (b22 f (i + 1)) (f (i + 1)) := rfl;rw [List.range_succ, List.map_append, e]
  cases hl : b22 f (i + 1) with
  | nil => rw [hl] at hmem; cases hmem
  | cons x xs =>
   have hx := hall x (by rw [hl]; exact List.mem_cons_self);rw [z88, hx];by_cases c : b21 (f (i + 1)) < m
   ·refine ⟨b21 (f (i + 1)), ?_, fun j hj => ?_, i + 1, by omega, rfl⟩
    ·rw [if_pos c, List.filter_append]
     have : ((List.range (i + 1)).map f).filter (fun s => decide (b21 s = b21 (f (i + 1)))) = [] := by
      rw [List.filter_eq_nil_iff];intro s hs;obtain ⟨j, hj, rfl⟩ := List.mem_map.1 hs;have := h2 j (List.mem_range.1 hj);simp; omega
     rw [this]; simp
    ·by_cases z : j = i + 1
     ·rw [z]; exact Nat.le_refl _
     ·have := h2 j vc9; omega
   ·rw [if_neg c];refine ⟨m, ?_, fun j hj => ?_, j0, by omega, h3⟩
    ·rw [List.filter_append, <- h1, hl];by_cases g : b21 (f (i + 1)) = m
     ·rw [if_pos g]; simp [g]
     ·rw [if_neg g]; simp [g]
    ·by_cases z : j = i + 1
     ·rw [z]; omega
     ·exact h2 j vc9
section
variable {P : Nat} {A : List (List Nat)} {seen : List Bool} (hA : OkAl P A) (hs : seen.length = A.length)
def fA (P : Nat) (A : List (List Nat)) (seen : List Bool) (i : Nat) : Nat := exN P A seen i A.length
include hA
theorem s93 {i : Nat} (hi : i < 2 ^ P) : fA P A seen i < 2 ^ 20 := by
 have h := z71 (A := A) (seen := seen) hi A.length;have hp := hA.p;have hn := hA.n;exact Nat.lt_of_lt_of_le h (Nat.pow_le_pow_right vc9 vc9)
include hs
theorem B16 : b0w (B8o ⟨(P : Int), A.map b10⟩ seen ((2 ^ P : Nat) : Int)) ([], 0) = some (b10 (b22 (fA P A seen) (2 ^ P))) := by
 have hp := hA.p;have hq := Nat.pow_le_pow_right (n := 2) (show 0 < 2 by omega) hp;refine b4h (f := B8o ⟨(P : Int), A.map b10⟩ seen ((2 ^ P : Nat) : Int)) (2 ^ P) (fun s k => (s, k)) (fun k => b10 (b22 (fA P A seen) k)) _ (s0 := []) rfl (fun k hk => ?_) (by unfold B8o; simp);have ek : wr ((k : Int) + 1) = (k : Int) + 1 := b3t vc9 vc9;have hlt := s93 (seen := seen) hA hk
 have hall : ∀ x ∈ b22 (fA P A seen) k, x < 2 ^ 20 := by
  intro x hx
  cases k with
  | zero => cases hx
  | succ k =>
   obtain ⟨m, h1, _, _⟩ := z6c (fA P A seen) k;rw [h1, List.mem_filter] at hx;obtain ⟨j, hj, rfl⟩ := List.mem_map.1 hx.1;exact s93 hA (by have := List.mem_range.1 hj; omega)
 have hlen := z9z (fA P A seen) k;unfold B8o;show (if decide ((k : Int) < ((2 ^ P : Nat) : Int)) then _ else _) = _
 rw [if_pos (by simp only [decide_eq_true_eq]; omega), B14 hA hs hk, bS9, ek];show _ = some (Out.nx (b10 (B8h (b22 (fA P A seen) k) (fA P A seen k)), (k : Int) + 1))
 have hfa : ((exN P A seen k A.length : Nat) : Int) = ((fA P A seen k : Nat) : Int) := rfl;rw [hfa]
 cases hl : b22 (fA P A seen) k with
 | nil => rfl
 | cons x xs =>
  have hx := hall x (by rw [hl]; exact List.mem_cons_self);rw [hl] at hlen
  show ((l13 (IntKind.wrap .u64 ((fA P A seen k : Nat) : Int))).bind fun c1 => (l13 (IntKind.wrap .u64 (x : Int))).bind fun c2 => if decide (c1 < c2) then some (Out.nx ([((fA P A seen k : Nat) : Int)], (k : Int) + 1))
    else if decide (c1 = c2) then (ap 8 (b10 (x :: xs)) [((fA P A seen k : Nat) : Int)]).bind fun l2 => some (.nx (l2, (k : Int) + 1)) else some (.nx (b10 (x :: xs), (k : Int) + 1))) = _
  rw [u4e vc9, u4e vc9, z92 hlt, z92 hx, bS9, bS9];have c1 : (((b12 20 (fA P A seen k)).length : Int) < ((b12 20 x).length : Int)) ↔ b21 (fA P A seen k) < b21 x := by unfold b21; omega
  have c2 : (((b12 20 (fA P A seen k)).length : Int) = ((b12 20 x).length : Int)) ↔ b21 (fA P A seen k) = b21 x := by unfold b21; omega
  rw [z88];simp only [c1, c2];by_cases g : b21 (fA P A seen k) < b21 x
  ·simp only [g, decide_true, if_true]; rfl
  ·simp only [g, decide_false, fT9, if_false];by_cases g2 : b21 (fA P A seen k) = b21 x
   ·simp only [g2, decide_true, if_true];rw [b9k (by rw [y69]; simp only [List.length_cons, List.length_nil] at hlen ⊢; omega), bS9, B3x]; rfl
   ·simp only [g2, decide_false, fT9, if_false]
end
end
end Go.Nw.WN
namespace Go.Nw.WN
open Go.Nw.Ft3
noncomputable section
theorem D2d : ∀ (a b : List Nat), a.Pairwise (· < ·) -> b.Pairwise (· < ·) -> (∀ x, x ∈ a ↔ x ∈ b) -> a = b
 | [], [], _, _, _ => rfl
 | [], y :: b, _, _, h => by have := (h y).2 vk9; cases this
 | x :: a, [], _, _, h => by have := (h x).1 vk9; cases this
 | x :: a, y :: b, ha, hb, h => by
  rw [List.pairwise_cons] at ha hb
  have e : x = y := by
   have h1 := (h x).1 vk9;have h2 := (h y).2 vk9;rw [List.mem_cons] at h1 h2;rcases h1 with h1 | h1
   ·exact h1
   ·rcases h2 with h2 | h2
    ·exact h2.symm
    ·have := hb.1 x h1; have := ha.1 y h2; omega
  subst e;congr 1;refine D2d a b ha.2 hb.2 fun z => ?_;constructor
  ·intro hz;have h1 := (h z).1 (List.mem_cons_of_mem _ hz);rw [List.mem_cons] at h1;rcases h1 with h1 | h1
   ·have := ha.1 z hz; omega
   ·exact h1
  ·intro hz;have h1 := (h z).2 (List.mem_cons_of_mem _ hz);rw [List.mem_cons] at h1;rcases h1 with h1 | h1
   ·have := hb.1 z hz; omega
   ·exact h1
theorem D2z (k n : Nat) : (b12 k n).Pairwise (· < ·) := List.Pairwise.filter _ List.pairwise_lt_range
theorem D20 {k a b : Nat} (ha : a < 2 ^ k) (hb : b < 2 ^ k) (h : b12 k a = b12 k b) : a = b := by
 apply Nat.eq_of_testBit_eq;intro i;by_cases hi : i < k
 ·have : i ∈ b12 k a ↔ i ∈ b12 k b := by rw [h]
  rw [B0v, B0v] at this
  cases h1 : a.testBit i <;> cases h2 : b.testBit i <;> simp_all
 ·rw [Nat.testBit_lt_two_pow (Nat.lt_of_lt_of_le ha (Nat.pow_le_pow_right vc9 vc9)), Nat.testBit_lt_two_pow (Nat.lt_of_lt_of_le hb (Nat.pow_le_pow_right vc9 vc9))]
theorem D51 {a b : List Nat} (h : b10 a = b10 b) : a = b := by
 have := congrArg (List.map Int.toNat) h;unfold b10 at this;simpa [List.map_map, Function.comp_def] using this
theorem D3b : ∀ x y : List Int, b16 x y = false -> b16 y x = false -> x = y
 | [], [], _, _ => rfl
 | [], _ :: _, h, _ => by simp [b16] at h
 | _ :: _, [], _, h => by simp [b16] at h
 | a :: x, b :: y, h1, h2 => by
  simp only [b16] at h1 h2;by_cases e : a = b
  ·subst e;rw [if_pos rfl] at h1 h2;rw [D3b x y h1 h2]
  ·rw [if_neg e] at h1;rw [if_neg (fun h => e h.symm)] at h2;have := of_decide_eq_false h1;have := of_decide_eq_false h2;omega
theorem B8q {n a b : Int} : b98 n a b = decide (a <= n /\ n <= b) := by unfold b98; simp
def C80 (P : Int) (a : List Int) (k : Nat) (x : Int) : Prop := ¬ (0 <= x /\ x <= P - 1) \/ ∃ y, 0 < k /\ a[k - 1]? = some y /\ x <= y
theorem D3n {p : Plant} {i : Nat} {a : List Int} (hp0 : 0 <= p.Parts) (hp1 : p.Parts <= 10) (ha : p.Alarms[i]? = some a) (hal : a.length <= maxLen) :
  ((∀ k x, a[k]? = some x -> ¬ C80 p.Parts a k x) /\ b0w (C8j p (i : Int)) 0 = some (.inl ())) \/ ((∃ k x, a[k]? = some x /\ C80 p.Parts a k x) /\ b0w (C8j p (i : Int)) 0 = some (.inr 101)) := by
 have wN : wr (p.Parts - 1) = p.Parts - 1 := b3t vc9 vc9;refine c3v (f := C8j p (i : Int)) a (C80 p.Parts a) (Sum.inr 101 : Unit ⊕ Int) (Sum.inl ()) (fun k x hx hb => ?_) (fun k x hx hb => ?_) ?_
 ·have hk := b1k hx
  unfold C8j;rw [b1h ha, bS9, if_pos vi9, b1h hx, bS9, wN, B8q];by_cases g : 0 <= x /\ x <= p.Parts - 1
  ·obtain ⟨y, h0, h1, h2⟩ := hb.resolve_left fun h => h g;have e1 : wr ((k : Int) - 1) = ((k - 1 : Nat) : Int) := by rw [b3t vc9 (by simp only [maxLen] at hal; omega)]; omega
   have e2 : (0 : Int) < (k : Int) := by omega
   simp only [g, and_self, decide_true, Bool.not_true, fT9, if_false, e2, if_true, e1, b1h h1, bS9, h2]
  ·rw [decide_eq_false g]; rfl
 ·have hk := b1k hx
  have g : 0 <= x /\ x <= p.Parts - 1 := Classical.byContradiction fun h => hb (.inl h);unfold C8j;rw [b1h ha, bS9, if_pos vi9, b1h hx, bS9, wN, B8q];simp only [g, and_self, decide_true, Bool.not_true, fT9, if_false];rw [b2r hk hal];by_cases e2 : (0 : Int) < (k : Int)
  ·obtain ⟨y, hy⟩ := b3b (show k - 1 < a.length by omega);have e1 : wr ((k : Int) - 1) = ((k - 1 : Nat) : Int) := by rw [b3t vc9 (by simp only [maxLen] at hal; omega)]; omega
   have h2 : ¬ x <= y := fun h => hb (.inr ⟨y, by omega, hy, h⟩);simp only [e2, decide_true, if_true, e1, b1h hy, bS9, h2, decide_false, fT9, if_false]
  ·simp only [e2, decide_false, fT9, if_false, bS9]
 ·unfold C8j;rw [b1h ha, bS9, if_neg vk9]
theorem D2e {a : List Int} {P : Int} (h : ∀ k x, a[k]? = some x -> ¬ C80 P a k x) : (a.map Int.toNat).Pairwise (· < ·) /\ b10 (a.map Int.toNat) = a /\ ∀ x ∈ a, 0 <= x /\ x <= P - 1 := by
 have h1 : ∀ x ∈ a, 0 <= x /\ x <= P - 1 := fun x hx => by
  obtain ⟨k, hk, e⟩ := List.getElem_of_mem hx;exact Classical.byContradiction fun hc => h k x (by rw [gG9 hk, e]) (.inl hc)
 have step : ∀ k x y, a[k]? = some x -> a[k + 1]? = some y -> x < y := fun k x y hx hy => Classical.byContradiction fun hc => h (k + 1) y hy (.inr ⟨x, by omega, by simpa using hx, by omega⟩)
 have far : ∀ (d k : Nat) (x y : Int), a[k]? = some x -> a[k + d + 1]? = some y -> x < y := by
  intro d;induction d with
  | zero => intro k x y hx hy; exact step k x y hx hy
  | succ d ih =>
   intro k x y hx hy;obtain ⟨z, hz⟩ := b3b (l := a) (k := k + d + 1) (by have := b1k hy; omega);have h1 := ih k x z hx hz;have h2 := step (k + d + 1) z y hz (by rw [show k + d + 1 + 1 = k + (d + 1) + 1 by omega]; exact hy);omega
 refine ⟨?_, ?_, h1⟩
 ·rw [List.pairwise_iff_getElem];intro i j hi hj hij;rw [List.length_map] at hi hj;rw [List.getElem_map, List.getElem_map];have := far (j - i - 1) i a[i] a[j] (gG9 hi) (by rw [show i + (j - i - 1) + 1 = j by omega]; exact gG9 hj);have := h1 a[i] (List.getElem_mem hi);omega
 ·unfold b10;rw [List.map_map]
  conv => rhs; rw [<- List.map_id a]
  refine List.map_congr_left fun x hx => ?_;have := (h1 x hx).1;show ((x.toNat : Nat) : Int) = x
  omega
theorem D5s {P : Nat} {a : List Nat} (h : a.Pairwise (· < ·)) (hl : ∀ x ∈ a, x < P) (hP : P <= 20) : a.length <= 20 := by
 have e : a = (List.range P).filter fun i => a.contains i := by
  refine D2d _ _ h (List.Pairwise.filter _ List.pairwise_lt_range) fun x => ?_;rw [List.mem_filter, List.mem_range];exact ⟨fun hx => ⟨hl x hx, by simpa using hx⟩, fun hx => by simpa using hx.2⟩
 rw [e];exact Nat.le_trans (List.length_filter_le _ _) vi9
theorem D4w {p : Plant} {seen : List Bool} (hin : p.Alarms.length <= maxLen /\ ∀ a ∈ p.Alarms, a.length <= maxLen) : ∃ r, D0f p seen = some r /\ (r = 0 -> ∃ (P : Nat) (A : List (List Nat)), p = ⟨(P : Int), A.map b10⟩ /\ OkAl P A /\ seen.length = A.length) := by
 unfold D0f;by_cases c : ((!(b98 p.Parts 0 10)) || (decide (10 < (List.length p.Alarms : Int)))) = true
 ·rw [if_pos c]; exact ⟨101, rfl, fun h => by cases h⟩
 rw [if_neg c];simp only [B8q, Bool.or_eq_true, Bool.not_eq_true', decide_eq_false_iff_not, decide_eq_true_eq] at c;have hp0 : 0 <= p.Parts := by omega
 have hp1 : p.Parts <= 10 := by omega
 have hn : p.Alarms.length <= 10 := by omega
 rcases c3v (f := C87 p) p.Alarms (fun _ a => ∃ k x, a[k]? = some x /\ C80 p.Parts a k x) (Sum.inr 101 : Unit ⊕ Int) (Sum.inl ())
  (fun i a ha hb => by
   have hi := b1k ha;unfold C87;rw [if_pos vi9];rcases D3n hp0 hp1 ha (hin.2 a (mG9 ha)) with ⟨h1, h2⟩ | ⟨h1, h2⟩
   ·obtain ⟨k, x, g1, g2⟩ := hb; exact absurd g2 (h1 k x g1)
   ·rw [h2]; rfl)
  (fun i a ha hb => by
   have hi := b1k ha;unfold C87;rw [if_pos vi9];rcases D3n hp0 hp1 ha (hin.2 a (mG9 ha)) with ⟨h1, h2⟩ | ⟨h1, h2⟩
   ·rw [h2];show D0g (i : Int) = _
    unfold D0g;rw [b3t (n := (i : Int) + 1) vc9 vc9]
   ·exact absurd h1 hb)
  (by unfold C87; simp) with ⟨h1, h2⟩ | ⟨_, h2⟩
 ·rw [h2];show ∃ r, D0h p seen = some r /\ _
  unfold D0h;by_cases g : (seen.length : Int) = (p.Alarms.length : Int)
  ·refine ⟨0, by simp [g], fun _ => ⟨p.Parts.toNat, p.Alarms.map fun a => a.map Int.toNat, ?_, ?_, by rw [List.length_map]; omega⟩⟩
   ·have e1 : ((p.Parts.toNat : Nat) : Int) = p.Parts := by omega
    rw [e1, List.map_map]
    have e2 : p.Alarms.map (b10 ∘ fun a => a.map Int.toNat) = p.Alarms := by
     conv => rhs; rw [<- List.map_id p.Alarms]
     refine List.map_congr_left fun a ha => ?_;obtain ⟨i, hi, e⟩ := List.getElem_of_mem ha;exact (D2e (P := p.Parts) fun k x hx hb => h1 i a (by rw [gG9 hi, e]) ⟨k, x, hx, hb⟩).2.1
    rw [e2]
   ·have key : ∀ a ∈ p.Alarms, (a.map Int.toNat).Pairwise (· < ·) /\ b10 (a.map Int.toNat) = a /\ ∀ x ∈ a, 0 <= x /\ x <= p.Parts - 1 := fun a ha => by
     obtain ⟨i, hi, e⟩ := List.getElem_of_mem ha;exact D2e (P := p.Parts) fun k x hx hb => h1 i a (by rw [gG9 hi, e]) ⟨k, x, hx, hb⟩
    have hlt : ∀ a ∈ p.Alarms.map (fun a => a.map Int.toNat), ∀ k ∈ a, k < p.Parts.toNat := fun a ha k hk => by
     obtain ⟨b, hb, rfl⟩ := List.mem_map.1 ha;obtain ⟨x, hx, rfl⟩ := List.mem_map.1 hk;have := (key b hb).2.2 x hx;omega
    have hasc : ∀ a ∈ p.Alarms.map (fun a => a.map Int.toNat), a.Pairwise (· < ·) := fun a ha => by
     obtain ⟨b, hb, rfl⟩ := List.mem_map.1 ha;exact (key b hb).1
    exact ⟨by omega, by rw [List.length_map]; exact hn, hlt, hasc, fun a ha => D5s (hasc a ha) (hlt a ha) vc9⟩
  ·exact ⟨1, by simp [g], fun h => by cases h⟩
 ·rw [h2]; exact ⟨101, rfl, fun h => by cases h⟩
section
variable {P : Nat} {A : List (List Nat)} {seen : List Bool} (hA : OkAl P A) (hs : seen.length = A.length)
include hA
theorem C9v {b i : Nat} (hb : b < 2 ^ P) : (fA P A seen b).testBit i = if i < P then b.testBit i else decide (i - P < A.length) && b31 A seen b (i - P) := s79 hb i A.length
theorem D41 {b c : Nat} (hb : b < 2 ^ P) (hc : c < 2 ^ P) (h : fA P A seen b = fA P A seen c) : b = c := by
 apply Nat.eq_of_testBit_eq;intro i;by_cases hi : i < P
 ·have h1 := C9v (seen := seen) hA (i := i) hb
  have h2 := C9v (seen := seen) hA (i := i) hc;rw [if_pos hi] at h1 h2;rw [<- h1, <- h2, h]
 ·rw [Nat.testBit_lt_two_pow (Nat.lt_of_lt_of_le hb (Nat.pow_le_pow_right vc9 vc9)), Nat.testBit_lt_two_pow (Nat.lt_of_lt_of_le hc (Nat.pow_le_pow_right vc9 vc9))]
include hs
theorem B15 : ∃ (m : Nat) (r : List Nat), B8n ⟨(P : Int), A.map b10⟩ seen = some (b10 r) /\ r ≠ [] /\ r.length <= 1024 /\
  (∀ s, s ∈ r ↔ ∃ b, b < 2 ^ P /\ s = fA P A seen b /\ b21 s = m) /\ (∀ b, b < 2 ^ P -> m <= b21 (fA P A seen b)) /\
  ∀ k x y, r[k]? = some x -> r[k + 1]? = some y -> b16 (b10 (b12 20 x)) (b10 (b12 20 y)) = true := by
 have hp := hA.p;have hq := Nat.two_pow_pos P;have hq10 := Nat.pow_le_pow_right (n := 2) (show 0 < 2 by omega) hp;obtain ⟨m, h1, h2, j, hj, hj2⟩ := z6c (fA P A seen) (2 ^ P - 1);rw [show 2 ^ P - 1 + 1 = 2 ^ P by omega] at h1 hj h2
 have hmem : ∀ s, s ∈ b22 (fA P A seen) (2 ^ P) ↔ ∃ b, b < 2 ^ P /\ s = fA P A seen b /\ b21 s = m := fun s => by
  rw [h1, List.mem_filter];constructor
  ·rintro ⟨ha, hb⟩;obtain ⟨i, hi, rfl⟩ := List.mem_map.1 ha;exact ⟨i, List.mem_range.1 hi, rfl, by simpa using hb⟩
  ·rintro ⟨b, hb, rfl, hpm⟩;exact ⟨List.mem_map.2 ⟨b, List.mem_range.2 hb, rfl⟩, by simpa using hpm⟩
 have hin : ∀ x ∈ b22 (fA P A seen) (2 ^ P), x < 2 ^ 20 := fun x hx => by
  obtain ⟨b, hb, rfl, _⟩ := (hmem x).1 hx;exact s93 hA hb
 have hne : b22 (fA P A seen) (2 ^ P) ≠ [] := fun e => by
  have := (hmem (fA P A seen j)).2 ⟨j, hj, rfl, hj2⟩;rw [e] at this; cases this
 have hnd : (b22 (fA P A seen) (2 ^ P)).Nodup := by
  rw [h1];rw [List.nodup_iff_pairwise_ne];refine List.Pairwise.filter _ ?_;rw [List.pairwise_map];refine List.Pairwise.imp_of_mem ?_ List.pairwise_lt_range;intro a b ha hb hlt e;have := D41 hA (List.mem_range.1 ha) (List.mem_range.1 hb) e;omega
 have hln := z9z (fA P A seen) (2 ^ P)
 obtain ⟨ri, e1, e2, e3⟩ := D6j B1y B4d (x := b10 (b22 (fA P A seen) (2 ^ P))) (by unfold b10; simpa using hne) (by rw [y69]; omega) (fun a ha => by
  obtain ⟨s, hs', rfl⟩ := List.mem_map.1 ha;have := hin s hs'
  exact ⟨by omega, by omega⟩)
 obtain ⟨r, hr⟩ : ∃ r : List Nat, r = ri.map Int.toNat := ⟨_, rfl⟩
 have hri : ri = b10 r := by
  rw [hr]; unfold b10; rw [List.map_map]
  conv => lhs; rw [<- List.map_id ri]
  refine List.map_congr_left fun x hx => ?_;obtain ⟨s, _, rfl⟩ := List.mem_map.1 (e2.mem_iff.1 hx);show ((s : Nat) : Int) = (((s : Nat) : Int).toNat : Int)
  rw [Int.toNat_natCast]
 have hperm : r.Perm (b22 (fA P A seen) (2 ^ P)) := by
  have := e2.map Int.toNat;rw [<- hr] at this;unfold b10 at this;rw [List.map_map] at this;refine this.trans (List.Perm.of_eq ?_)
  conv => rhs; rw [<- List.map_id (b22 (fA P A seen) (2 ^ P))]
  exact List.map_congr_left fun x _ => by show ((x : Nat) : Int).toNat = x; rw [Int.toNat_natCast]
 refine ⟨m, r, ?_, fun e => ?_, by rw [hperm.length_eq]; omega, fun s => by rw [hperm.mem_iff]; exact hmem s, h2, fun k x y hx hy => ?_⟩
 ·unfold B8n;show (shl .i64 1 (P : Int)).bind _ = _
  rw [u1e vc9, bS9, B16 hA hs, bS9, e1, hri]
 ·rw [e] at hperm; exact hne (List.nil_perm.1 hperm)
 ·have hkx := b1k hx
  have hky := b1k hy;have hxm : x < 2 ^ 20 := hin x (hperm.mem_iff.1 (mG9 hx));have hym : y < 2 ^ 20 := hin y (hperm.mem_iff.1 (mG9 hy));have hsz : ri.toArray.size = r.length := by rw [hri]; simp [b10]
  have hgx : ri.toArray[k]! = (x : Int) := by
   rw [getElem!_pos _ k vc9];have : ri[k]? = some (x : Int) := by rw [hri]; unfold b10; rw [List.getElem?_map, hx]; rfl
   rw [List.getElem_toArray];exact (gS9.1 this).2
  have hgy : ri.toArray[k + 1]! = (y : Int) := by
   rw [getElem!_pos _ (k + 1) vc9];have : ri[k + 1]? = some (y : Int) := by rw [hri]; unfold b10; rw [List.getElem?_map, hy]; rfl
   rw [List.getElem_toArray];exact (gS9.1 this).2
  have hso := e3 k (k + 1) (Nat.zero_le _) vc9 vc9;rw [hgx, hgy] at hso;unfold ltS at hso;rw [Int.toNat_natCast, Int.toNat_natCast] at hso
  cases hl : b16 (b10 (b12 20 x)) (b10 (b12 20 y)) with
  | true => rfl
  | false =>
   have e := D20 hxm hym (D51 (D3b _ _ hl hso));subst e;have hrn := hperm.nodup_iff.2 hnd;have := (List.nodup_iff_pairwise_ne.1 hrn);rw [List.pairwise_iff_getElem] at this;have g := this k (k + 1) hkx hky vc9;rw [gG9 hkx] at hx;rw [gG9 hky] at hy;exact absurd ((Option.some.inj hx).trans (Option.some.inj hy).symm) g
end
end
end Go.Nw.WN
namespace Go.Nw.WN
open Go.Nw.Ft3
noncomputable section
theorem D3o {a b : List Int} (ha : a.length <= 100) : u0x a b = some (decide (a = b)) := by
 unfold u0x;by_cases hl : a.length = b.length
 ·rw [if_neg (by simp [hl])]
  rcases c3v (f := u0y a b) a (fun k x => ¬ b[k]? = some x) (Sum.inr false : Unit ⊕ Bool) (Sum.inl ())
   (fun k x hx hb => by
    have hk := b1k hx;obtain ⟨y, hy⟩ := b3b (show k < b.length by omega);have hne : ¬ x = y := fun e => hb (by rw [hy, e]);unfold u0y
    rw [if_pos vi9, b1h hx, bS9, b1h hy, bS9, if_pos (by simpa using hne)])
   (fun k x hx hb => by
    have hk := b1k hx;have hy : b[k]? = some x := Classical.byContradiction hb;unfold u0y
    rw [if_pos vi9, b1h hx, bS9, b1h hy, bS9, if_neg vk9, b3t vc9 vc9])
   (by unfold u0y; simp) with ⟨h1, h2⟩ | ⟨⟨k, x, h1, h3⟩, h2⟩
  ·rw [h2]
   have : a = b := List.ext_getElem? fun k => by
    cases hk : a[k]? with
    | none => rw [List.getElem?_eq_none_iff] at hk; rw [List.getElem?_eq_none_iff.2 vc9]
    | some x => exact (Classical.byContradiction fun h => h1 k x hk h).symm
   rw [decide_eq_true this]; rfl
  ·rw [h2];have : ¬ a = b := fun e => h3 (by rw [<- e, h1]);rw [decide_eq_false this]; rfl
 ·rw [if_pos vi9];have : ¬ a = b := fun e => hl (by rw [e]);rw [decide_eq_false this]
theorem D3a : ∀ (k : Nat) (a b : List Int) (x y : Int), b16 a b = true -> (∀ j, j < k -> a[j]? = b[j]?) -> a[k]? = some x -> b[k]? = some y -> ¬ x = y -> x < y
 | _, [], _, _, _, _, _, hx, _, _ => by simp at hx
 | _, _ :: _, [], _, _, _, _, _, hy, _ => by simp at hy
 | 0, a :: l, b :: m, x, y, h, _, hx, hy, hne => by
  simp only [List.getElem?_cons_zero, iE9] at hx hy;subst hx; subst hy;simp only [b16, if_neg hne] at h;exact of_decide_eq_true h
 | k + 1, a :: l, b :: m, x, y, h, hj, hx, hy, hne => by
  have e := hj 0 vc9;simp only [List.getElem?_cons_zero, iE9] at e;subst e;simp only [b16, if_true] at h;simp only [List.getElem?_cons_succ] at hx hy;exact D3a k l m x y h (fun j hjk => by have := hj (j + 1) vc9; simpa using this) hx hy hne
theorem D5u {a b : List Int} (hl : a.length = b.length) (ha : a.length <= 100) (h : b16 a b = true) : x70 a b = some true := by
 unfold x70
 rcases D5v (f := C9a a b) a (fun k x => ¬ b[k]? = some x) (Sum.inr true : Unit ⊕ Bool) (Sum.inl ())
  (fun k x hj hx hb => by
   have hk := b1k hx;obtain ⟨y, hy⟩ := b3b (show k < b.length by omega);have hne : ¬ x = y := fun e => hb (by rw [hy, e])
   have hlt := D3a k a b x y h (fun j hjk => by
    obtain ⟨z, hz⟩ := b3b (show j < a.length by omega)
    rw [hz]; exact (Classical.byContradiction fun hh => hj j z hjk hz hh).symm) hx hy hne
   unfold C9a
   rw [if_pos vi9, b1h hx, bS9, b1h hy, bS9, if_pos (by simpa using hne), decide_eq_true hlt])
  (fun k x hj hx hb => by
   have hk := b1k hx;have hy : b[k]? = some x := Classical.byContradiction hb;unfold C9a
   rw [if_pos vi9, b1h hx, bS9, b1h hy, bS9, if_neg vk9, b3t vc9 vc9])
  (by unfold C9a; simp) with ⟨h1, h2⟩ | ⟨_, h2⟩
 ·exfalso
  have : a = b := List.ext_getElem? fun k => by
   cases hk : a[k]? with
   | none => rw [List.getElem?_eq_none_iff] at hk; rw [List.getElem?_eq_none_iff.2 vc9]
   | some x => exact (Classical.byContradiction fun h => h1 k x hk h).symm
  subst this;rw [z9v] at h; cases h
 ·rw [h2]; rfl
section
variable {P : Nat} {A : List (List Nat)} {seen : List Bool} (hA : OkAl P A) (hs : seen.length = A.length)
include hA
include hs
theorem D54 {s i : Nat} {a : List Nat} (h : s < 2 ^ 20) (ha : A[i]? = some a) : b0w (C8r ⟨(P : Int), A.map b10⟩ (s : Int) (i : Int)) (false, 0) = some (onB s a) := by
 have hp := hA.p;have hal := hA.len a (mG9 ha);have hg : get (A.map b10) (i : Int) = some (b10 a) := b1h (by rw [List.getElem?_map, ha]; rfl);refine b4h (f := C8r ⟨(P : Int), A.map b10⟩ (s : Int) (i : Int)) a.length (fun s k => (s, k)) (fun k => (a.take k).any fun j => s.testBit j) (onB s a) (s0 := false) vk9 (fun k hk => ?_) ?_
 ·obtain ⟨x, hx⟩ := b3b hk;have hxP := hA.lt a (mG9 ha) x (mG9 hx);unfold C8r;show ((get (A.map b10) (i : Int)).bind fun x22 => if decide ((k : Int) < (x22.length : Int)) then _ else _) = _
  rw [hg, bS9, if_pos (by rw [y69]; simp; exact hk), b3t (n := (k : Int) + 1) vc9 vc9];rw [show a.take (k + 1) = a.take k ++ [x] by rw [List.take_succ, hx]; rfl, List.any_append]
  have e : ((if (a.take k).any (fun j => s.testBit j) = true then some true else (get (b10 a) (k : Int)).bind fun x29 => (shr .i64 (s : Int) (IntKind.wrap .u64 x29)).bind fun q30 => some (decide ((b6y q30 1) = 1)))) = some ((a.take k).any (fun j => s.testBit j) || [x].any fun j => s.testBit j) := by
   rw [z90 hx, bS9, u4e vc9, g29 vc9, bS9, u6r vc9 vc9]
   cases (a.take k).any fun j => s.testBit j with
   | true => rfl
   | false => simp only [fT9, if_false, Bool.false_or, List.any_cons, List.any_nil, Bool.or_false]; cases s.testBit x <;> rfl
  show ((if (a.take k).any (fun j => s.testBit j) = true then some true else (get (b10 a) (k : Int)).bind fun x29 => (shr .i64 (s : Int) (IntKind.wrap .u64 x29)).bind fun q30 => some (decide ((b6y q30 1) = 1))).bind fun c31 => some (Out.nx (c31, (k : Int) + 1))) = _
  rw [e]; rfl
 ·unfold C8r;show ((get (A.map b10) (i : Int)).bind fun x22 => if decide ((a.length : Int) < (x22.length : Int)) then _ else _) = _
  rw [hg, bS9, if_neg (by rw [y69]; simp), List.take_of_length_le (Nat.le_refl _)];rfl
omit hs
theorem D3d {b i : Nat} {a : List Nat} (ha : A[i]? = some a) : b31 A seen b i = (onB b a != seen.getD i false) := by
 unfold b31; rw [List.getD_eq_getElem?_getD, ha]; rfl
end
end
end Go.Nw.WN
namespace Go.Nw.WN
open Go.Nw.Ft3
noncomputable section
def b14 (s : Nat) : List Int := b10 (b12 20 s)
theorem C86 (s : Nat) : (b14 s).length = b21 s := y69
theorem D39 {a : Nat} (h : a < 2 ^ 20) : b6y (-1) (a : Int) = (a : Int) := by
 show IntKind.wrap .i64 ((BitVec.ofInt 64 (-1) &&& BitVec.ofInt 64 (a : Int)).toNat : Int) = _
 rw [show BitVec.ofInt 64 (-1) = BitVec.allOnes 64 from by decide, BitVec.allOnes_and, s9p a vc9];exact u4f vc9
section
variable {P : Nat} {A : List (List Nat)} {seen : List Bool} (hA : OkAl P A) (hs : seen.length = A.length) {r : List Nat}
 (hf : B8n ⟨(P : Int), A.map b10⟩ seen = some (b10 r)) (hne : r ≠ []) (hlen : r.length <= 1024) (hin : ∀ s ∈ r, s < 2 ^ 20)
include hA hs hf hlen hin
theorem D36 : s94 ⟨(P : Int), A.map b10⟩ seen = some (r.map b14, 0) := by
 have hloop := b4h (f := z26 (b10 r)) r.length (fun s k => (s, k)) (fun k => (r.take k).map b14) (r.map b14) (s0 := []) vk9 (fun k hk => by
   obtain ⟨s, hx⟩ := b3b hk;have hs := hin s (mG9 hx);unfold z26;show (if decide ((k : Int) < ((b10 r).length : Int)) then _ else _) = _
   rw [if_pos (by rw [y69]; simp; exact hk), z90 hx, bS9, z6j hs, bS9, b9k (by simp only [List.length_map, List.length_take, List.length_cons, List.length_nil]; omega), bS9, b3t vc9 vc9];rw [show r.take (k + 1) = r.take k ++ [s] by rw [List.take_succ, hx]; rfl, List.map_append]
   rfl)
  (by
   unfold z26;show (if decide ((r.length : Int) < ((b10 r).length : Int)) then _ else _) = _
   rw [if_neg (by rw [y69]; simp), List.take_of_length_le (Nat.le_refl _)])
 unfold s94;rw [B33 hA hs, bS9, hf, bS9, hloop]; rfl
theorem D37 {s0 : Nat} (h0 : r[0]? = some s0) : C9w ⟨(P : Int), A.map b10⟩ seen = some (b14 s0, 0) := by
 unfold C9w;rw [B33 hA hs, bS9, hf, bS9];have := z90 h0;rw [show ((0 : Nat) : Int) = 0 from rfl] at this;rw [this, bS9, z6j (hin s0 (mG9 h0))];rfl
include hne
theorem D38 : ∃ n : Nat, n < 2 ^ 20 /\ C9x ⟨(P : Int), A.map b10⟩ seen = some (b14 n, 0) /\ ∀ i, n.testBit i = true ↔ ∀ s ∈ r, s.testBit i = true := by
 obtain ⟨b, hb, n, rfl, hn, hbit⟩ := j7u (f := C81 (b10 r)) r.length (fun v k => (v, k)) (fun k v => (k = 0 /\ v = -1) \/ (0 < k /\ ∃ n : Nat, v = (n : Int) /\ n < 2 ^ 20 /\ ∀ i, n.testBit i = true ↔ ∀ s ∈ r.take k, s.testBit i = true))
  (fun v => ∃ n : Nat, v = (n : Int) /\ n < 2 ^ 20 /\ ∀ i, n.testBit i = true ↔ ∀ s ∈ r, s.testBit i = true) (fun v k hk hi => by
   obtain ⟨s, hx⟩ := b3b hk;have hs := hin s (mG9 hx);have et : r.take (k + 1) = r.take k ++ [s] := by rw [List.take_succ, hx]; rfl
   have hstep : C81 (b10 r) (v, (k : Int)) = some (.nx (b6y v (s : Int), (k : Int) + 1)) := by
    unfold C81;show (if decide ((k : Int) < ((b10 r).length : Int)) then _ else _) = _
    rw [if_pos (by rw [y69]; simp; exact hk), z90 hx, bS9, b3t (n := (k : Int) + 1) vc9 vc9]
   rcases hi with ⟨rfl, rfl⟩ | ⟨h0, n, rfl, hn, hb⟩
   ·refine .inl ⟨(s : Int), ?_, .inr ⟨by omega, s, rfl, hs, fun i => ?_⟩⟩
    ·rw [hstep, D39 hs]
    ·rw [et]; simp
   ·refine .inl ⟨((n &&& s : Nat) : Int), ?_, .inr ⟨by omega, n &&& s, rfl, Nat.lt_of_le_of_lt Nat.and_le_left hn, fun i => ?_⟩⟩
    ·rw [hstep, u6m vc9 vc9]
    ·rw [et, Nat.testBit_and, Bool.and_eq_true, hb i];constructor
     ·rintro ⟨g1, g2⟩ z hz;rw [List.mem_append] at hz;rcases hz with hz | hz
      ·exact g1 z hz
      ·rw [List.mem_singleton.1 hz]; exact g2
     ·intro g
      exact ⟨fun z hz => g z (List.mem_append.2 (.inl hz)), g s (List.mem_append.2 (.inr vk9))⟩)
  (fun v hi => by
   rcases hi with ⟨h, _⟩ | ⟨_, h⟩
   ·exact absurd (List.length_eq_zero_iff.1 h) hne
   ·rw [List.take_of_length_le (Nat.le_refl _)] at h
    exact ⟨v, by
     unfold C81;show (if decide ((r.length : Int) < ((b10 r).length : Int)) then _ else _) = _
     rw [if_neg (by rw [y69]; simp)], h⟩) (s := -1) 0 (Nat.zero_le _) (.inl ⟨rfl, rfl⟩)
 refine ⟨n, hn, ?_, hbit⟩;rw [show ((0 : Nat) : Int) = 0 from rfl] at hb;unfold C9x;rw [B33 hA hs, bS9, hf, bS9];simp only [not_true_eq_false, decide_false, fT9, if_false];rw [hb, bS9];unfold D1c;rw [z6j hn]; rfl
end
section
variable (hm : u10 = some true)
include hm
end
end
end Go.Nw.WN
namespace Go.Nw.WN
open Go.Nw.Ft3
noncomputable section
set_option maxHeartbeats 1000000
def E0f (p : Plant) : Prop := ∀ (i : Nat) (a : List Int), p.Alarms[i]? = some a -> ¬ ∃ k x, a[k]? = some x /\ C80 p.Parts a k x
theorem E2e {p : Plant} (hp0 : 0 <= p.Parts) (hp1 : p.Parts <= 10) (hn : p.Alarms.length <= 10) (hin : ∀ a ∈ p.Alarms, a.length <= maxLen) : (E0f p /\ b0w (C87 p) 0 = some (.inl ())) \/ (¬ E0f p /\ b0w (C87 p) 0 = some (.inr 101)) := by
 rcases c3v (f := C87 p) p.Alarms (fun _ a => ∃ k x, a[k]? = some x /\ C80 p.Parts a k x) (Sum.inr 101 : Unit ⊕ Int) (Sum.inl ())
  (fun i a ha hb => by
   have hi := b1k ha;unfold C87;rw [if_pos vi9];rcases D3n hp0 hp1 ha (hin a (mG9 ha)) with ⟨h1, h2⟩ | ⟨h1, h2⟩
   ·obtain ⟨k, x, g1, g2⟩ := hb; exact absurd g2 (h1 k x g1)
   ·rw [h2]; rfl)
  (fun i a ha hb => by
   have hi := b1k ha;unfold C87;rw [if_pos vi9];rcases D3n hp0 hp1 ha (hin a (mG9 ha)) with ⟨h1, h2⟩ | ⟨h1, h2⟩
   ·rw [h2];show D0g (i : Int) = _
    unfold D0g;rw [b3t (n := (i : Int) + 1) vc9 vc9]
   ·exact absurd h1 hb)
  (by unfold C87; simp) with ⟨h1, h2⟩ | ⟨⟨i, a, ha, hb⟩, h2⟩
 ·exact .inl ⟨h1, h2⟩
 ·exact .inr ⟨fun h => h i a ha hb, h2⟩
theorem E1g {p : Plant} {a : List Int} (hp0 : 0 <= p.Parts) (hp1 : p.Parts <= 10) (hal : a.length <= maxLen) :
  ((¬ ∃ k x, a[k]? = some x /\ C80 p.Parts a k x) /\ b0w (B8p p a) (-1, 0) = some (.inl ())) \/ ((∃ k x, a[k]? = some x /\ C80 p.Parts a k x) /\ b0w (B8p p a) (-1, 0) = some (.inr 101)) := by
 have wN : wr (p.Parts - 1) = p.Parts - 1 := b3t vc9 vc9
 obtain ⟨b, e, hb⟩ := j7u (f := B8p p a) a.length (fun s k => (s, k)) (fun k s => (∀ j x, j < k -> a[j]? = some x -> ¬ C80 p.Parts a j x) /\ ((k = 0 /\ s = -1) \/ (0 < k /\ a[k - 1]? = some s))) (fun b => (b = Sum.inl () /\ ¬ ∃ k x, a[k]? = some x /\ C80 p.Parts a k x) \/ (b = Sum.inr 101 /\ ∃ k x, a[k]? = some x /\ C80 p.Parts a k x)) (fun s k hk hi => by
   obtain ⟨hall, hs⟩ := hi;obtain ⟨x, hx⟩ := b3b hk
   have hs1 : -1 <= s /\ s <= 9 := by
    rcases hs with ⟨_, rfl⟩ | ⟨h0, h1⟩
    ·omega
    ·have g : 0 <= s /\ s <= p.Parts - 1 := Classical.byContradiction fun h => hall (k - 1) s vc9 h1 (.inl h)
     omega
   have ws : wr (s + 1) = s + 1 := b3t vc9 vc9
   have hL : B8p p a (s, (k : Int)) = if s + 1 <= x /\ x <= p.Parts - 1 then some (.nx (x, (k : Int) + 1)) else some (.br (.inr 101)) := by
    unfold B8p s39;show (if decide ((k : Int) < (a.length : Int)) then _ else _) = _
    rw [if_pos vi9, b1h hx, bS9, ws, wN, b2r hk hal];by_cases g : s + 1 <= x /\ x <= p.Parts - 1
    ·rw [if_pos g, decide_eq_true g.1, decide_eq_true g.2]; rfl
    ·rw [if_neg g];by_cases g1 : s + 1 <= x
     ·rw [decide_eq_true g1, decide_eq_false (fun h => g ⟨g1, h⟩)]; rfl
     ·rw [decide_eq_false g1]; rfl
   have hiff : C80 p.Parts a k x ↔ ¬ (s + 1 <= x /\ x <= p.Parts - 1) := by
    unfold C80;rcases hs with ⟨rfl, rfl⟩ | ⟨h0, h1⟩
    ·constructor
     ·rintro (h | ⟨y, h, _⟩)
      ·omega
      ·omega
     ·intro h; left; omega
    ·have g : 0 <= s /\ s <= p.Parts - 1 := Classical.byContradiction fun h => hall (k - 1) s vc9 h1 (.inl h)
     constructor
     ·rintro (h | ⟨y, _, hy, h⟩)
      ·omega
      ·rw [h1] at hy; have := Option.some.inj hy; omega
     ·intro h;by_cases c : 0 <= x /\ x <= p.Parts - 1
      ·right; exact ⟨s, h0, h1, by omega⟩
      ·exact .inl c
   by_cases hbad : C80 p.Parts a k x
   ·exact .inr ⟨.inr 101, by rw [hL, if_neg (hiff.1 hbad)], .inr ⟨rfl, k, x, hx, hbad⟩⟩
   ·refine .inl ⟨x, by rw [hL, if_pos (Classical.byContradiction fun h => hbad (hiff.2 h))], fun j y hj hy => ?_, .inr ⟨by omega, by simpa using hx⟩⟩;by_cases e : j = k
    ·subst e; rw [hx] at hy; cases hy; exact hbad
    ·exact hall j y vc9 hy)
  (fun s hi => ⟨.inl (), by unfold B8p; simp, .inl ⟨rfl, fun ⟨k, x, hx, hb⟩ => hi.1 k x (b1k hx) hx hb⟩⟩) (s := -1) 0 (Nat.zero_le _) ⟨fun j x h => by omega, .inl ⟨rfl, rfl⟩⟩
 rw [show ((0 : Nat) : Int) = 0 from rfl] at e;rcases hb with ⟨rfl, h⟩ | ⟨rfl, h⟩
 ·exact .inl ⟨h, e⟩
 ·exact .inr ⟨h, e⟩
theorem E2y {p : Plant} {seen : List Bool} (hin : p.Alarms.length <= maxLen /\ ∀ a ∈ p.Alarms, a.length <= maxLen) : z5a p seen = D0f p seen := by
 unfold z5a D0f;have ew : s39 p.Parts 0 10 = b98 p.Parts 0 10 := rfl;rw [ew];by_cases c : ((!(b98 p.Parts 0 10)) || (decide (10 < (List.length p.Alarms : Int)))) = true
 ·rw [if_pos c, if_pos c]
 rw [if_neg c, if_neg c];simp only [B8q, Bool.or_eq_true, Bool.not_eq_true', decide_eq_false_iff_not, decide_eq_true_eq] at c;have hp0 : 0 <= p.Parts := by omega
 have hp1 : p.Parts <= 10 := by omega
 have hn : p.Alarms.length <= 10 := by omega
 have prog : (E0f p /\ b0w (z5b p) 0 = some (.inl ())) \/ (¬ E0f p /\ b0w (z5b p) 0 = some (.inr 101)) := by
  rcases c3v (f := z5b p) p.Alarms (fun _ a => ∃ k x, a[k]? = some x /\ C80 p.Parts a k x) (Sum.inr 101 : Unit ⊕ Int) (Sum.inl ())
   (fun i a ha hb => by
    have hi := b1k ha;unfold z5b;rw [if_pos vi9, b1h ha, bS9];rcases E1g hp0 hp1 (hin.2 a (mG9 ha)) with ⟨h1, h2⟩ | ⟨h1, h2⟩
    ·exact absurd hb h1
    ·rw [h2]; rfl)
   (fun i a ha hb => by
    have hi := b1k ha;unfold z5b;rw [if_pos vi9, b1h ha, bS9];rcases E1g hp0 hp1 (hin.2 a (mG9 ha)) with ⟨h1, h2⟩ | ⟨h1, h2⟩
    ·rw [h2];show z54 (i : Int) = _
     unfold z54;rw [b3t (n := (i : Int) + 1) vc9 vc9]
    ·exact absurd h1 hb)
   (by unfold z5b; simp) with ⟨h1, h2⟩ | ⟨⟨i, a, ha, hb⟩, h2⟩
  ·exact .inl ⟨h1, h2⟩
  ·exact .inr ⟨fun h => h i a ha hb, h2⟩
 rcases prog with ⟨h1, h2⟩ | ⟨h1, h2⟩ <;> rcases E2e hp0 hp1 hn hin.2 with ⟨g1, g2⟩ | ⟨g1, g2⟩
 ·rw [h2, g2]; rfl
 ·exact absurd h1 g1
 ·exact absurd g1 h1
 ·rw [h2, g2]; rfl
theorem E2b {p : Plant} (h : p.Alarms.length <= 100) (hin : ∀ a ∈ p.Alarms, a.length <= 1048576) : D92 p = some p := by
 have := b4h (f := D93 p) p.Alarms.length (fun s k => (s, k)) (fun k => p.Alarms.take k) p.Alarms (s0 := []) vk9 (fun k hk => by
   obtain ⟨a, ha⟩ := b3b hk;have hal := hin a (mG9 ha);unfold D93;show (if decide ((k : Int) < (p.Alarms.length : Int)) then _ else _) = _
   rw [if_pos (by simp; exact hk), b1h ha, bS9, b9k (by simp only [List.length_nil]; omega), bS9, b9k (by simp only [List.length_take, List.length_cons, List.length_nil]; omega), bS9, b3t (n := (k : Int) + 1) vc9 vc9]
   rw [show p.Alarms.take (k + 1) = p.Alarms.take k ++ [a] by rw [List.take_succ, ha]; rfl, List.nil_append])
  (by
   unfold D93;show (if decide ((p.Alarms.length : Int) < (p.Alarms.length : Int)) then _ else _) = _
   rw [if_neg vk9, List.take_of_length_le (Nat.le_refl _)])
 unfold D92;rw [this]; rfl
theorem E11 (i b : Nat) : b12 (i + 1) b = b12 i b ++ if b.testBit i then [i] else [] := by
 unfold b12;rw [List.range_succ, List.filter_append]
 cases h : b.testBit i <;> simp [h]
theorem E1z {b i : Nat} (h : b < 2 ^ i) (hi : i <= 20) : b12 i b = b12 20 b := by
 refine D2d _ _ (D2z _ _) (D2z _ _) fun x => ?_;rw [B0v, B0v];constructor
 ·exact fun g => ⟨by omega, g.2⟩
 ·intro g;refine ⟨?_, g.2⟩;apply Classical.byContradiction; intro hc;have := g.2;rw [Nat.testBit_lt_two_pow (Nat.lt_of_lt_of_le h (Nat.pow_le_pow_right vc9 vc9))] at this; cases this
theorem E1y {b : Nat} (hb : b < 2 ^ 20) : ∀ (d i : Nat), 20 - i = d -> i <= 20 -> b0w (D9r (b : Int)) (b10 (b12 i b), (i : Int)) = some (b10 (b12 20 b)) := by
 intro d;induction d with
 | zero =>
  intro i hd hi;have : i = 20 := by omega
  subst this;have z : b >>> 20 = 0 := by rw [Nat.shiftRight_eq_div_pow]; exact Nat.div_eq_of_lt hb
  refine b3d ?_;unfold D9r;show ((shr .i64 (b : Int) (IntKind.wrap .u64 ((20 : Nat) : Int))).bind _) = _
  rw [u4e vc9, g29 vc9, u9n vc9, z];rfl
 | succ d ih =>
  intro i hd hi;have hlen : (b12 i b).length <= 20 := Nat.le_trans C0b hi;by_cases z : b >>> i = 0
  ·have hbi : b < 2 ^ i := by rw [Nat.shiftRight_eq_div_pow] at z; exact (Nat.div_eq_zero_iff_lt (Nat.two_pow_pos i)).1 z
   rw [E1z hbi hi];refine b3d ?_;unfold D9r;show ((shr .i64 (b : Int) (IntKind.wrap .u64 (i : Int))).bind _) = _
   rw [u4e vc9, g29 vc9, u9n vc9, z];rfl
  ·have zp : 0 < b >>> i := Nat.pos_of_ne_zero z
   refine (w91 (s' := (b10 (b12 (i + 1) b), ((i + 1 : Nat) : Int))) ?_).trans (ih (i + 1) vc9 vc9);have hbit := u6r (a := b) (y := i) vc9 vc9;rw [u9n vc9] at hbit;unfold D9r;show ((shr .i64 (b : Int) (IntKind.wrap .u64 (i : Int))).bind _) = _
   rw [u4e vc9, g29 vc9, bS9, u9n vc9, if_pos (by simp only [decide_eq_true_eq]; omega), hbit, E11];unfold D97;rw [b3t (n := (i : Int) + 1) vc9 vc9]
   cases b.testBit i with
   | true =>
    rw [if_pos vk9, b9k (by rw [y69]; simp only [List.length_cons, List.length_nil]; omega), bS9, if_pos rfl, B3x]; rfl
   | false =>
    rw [if_neg vk9, if_neg vk9, List.append_nil]; rfl
theorem E1x {b : Nat} (hb : b < 2 ^ 20) : D96 (b : Int) = some (b14 b) := by
 have := E1y hb _ 0 rfl vc9;unfold D96;rw [show b10 (b12 0 b) = [] from rfl, show ((0 : Nat) : Int) = 0 from rfl] at this;rw [this]; rfl
theorem E10 {s m : Nat} (hs : s < 2 ^ m) (hm : m < 20) : b12 20 (s ||| 2 ^ m) = b12 20 s ++ [m] := by
 refine D2d _ _ (D2z _ _) ?_ fun x => ?_
 ·rw [List.pairwise_append];refine ⟨D2z _ _, by simp, fun x hx y hy => ?_⟩;rw [List.mem_singleton.1 hy];apply Classical.byContradiction; intro hc;have := (B0v.1 hx).2;rw [Nat.testBit_lt_two_pow (Nat.lt_of_lt_of_le hs (Nat.pow_le_pow_right vc9 vc9))] at this; cases this
 ·rw [B0v, List.mem_append, B0v, List.mem_singleton, Nat.testBit_or, Nat.testBit_two_pow, Bool.or_eq_true, decide_eq_true_eq];constructor
  ·rintro ⟨h1, h2 | h2⟩
   ·exact .inl ⟨h1, h2⟩
   ·exact .inr h2.symm
  ·rintro (⟨h1, h2⟩ | rfl)
   ·exact ⟨h1, .inl h2⟩
   ·exact ⟨hm, .inr rfl⟩
theorem E2w {a b : List Int} (hl : a.length = b.length) (ha : a.length <= 100) : x70 a b = some (b16 a b) := by
 cases h : b16 a b with
 | true => exact D5u hl ha h
 | false =>
  unfold x70
  rcases D5v (f := C9a a b) a (fun k x => ¬ b[k]? = some x) (Sum.inr false : Unit ⊕ Bool) (Sum.inl ())
   (fun k x hj hx hb => by
    have hk := b1k hx;obtain ⟨y, hy⟩ := b3b (show k < b.length by omega);have hne : ¬ x = y := fun e => hb (by rw [hy, e])
    have hba : b16 b a = true := by
     cases g : b16 b a with
     | true => rfl
     | false =>
      have e := D3b _ _ h g;rw [e] at hx; rw [hx] at hy; exact absurd (Option.some.inj hy) hne
    have hlt := D3a k b a y x hba (fun j hjk => by
     obtain ⟨z, hz⟩ := b3b (show j < a.length by omega)
     rw [hz]; exact Classical.byContradiction fun hh => hj j z hjk hz hh) hy hx (fun e => hne e.symm)
    unfold C9a
    rw [if_pos vi9, b1h hx, bS9, b1h hy, bS9, if_pos (by simpa using hne), decide_eq_false vc9])
   (fun k x hj hx hb => by
    have hk := b1k hx;have hy : b[k]? = some x := Classical.byContradiction hb;unfold C9a
    rw [if_pos vi9, b1h hx, bS9, b1h hy, bS9, if_neg vk9, b3t vc9 vc9])
   (by unfold C9a; simp) with ⟨_, h2⟩ | ⟨_, h2⟩
  ·rw [h2];show x8z a b = _
   unfold x8z;rw [decide_eq_false vc9]
  ·rw [h2]; rfl
def Asc (l : List Nat) : Prop := l.Pairwise fun x y => b16 (b14 x) (b14 y) = true
theorem E08 : ∀ (a b : List Nat), Asc a -> Asc b -> (∀ x, x ∈ a ↔ x ∈ b) -> a = b
 | [], [], _, _, _ => rfl
 | [], y :: b, _, _, h => by have := (h y).2 vk9; cases this
 | x :: a, [], _, _, h => by have := (h x).1 vk9; cases this
 | x :: a, y :: b, ha, hb, h => by
  unfold Asc at ha hb;rw [List.pairwise_cons] at ha hb
  have no : ∀ u v, b16 (b14 u) (b14 v) = true -> b16 (b14 v) (b14 u) = true -> False := fun u v g1 g2 => by
   have := z9x _ _ _ g1 g2;rw [z9v] at this; cases this
  have e : x = y := by
   have h1 := (h x).1 vk9;have h2 := (h y).2 vk9;rw [List.mem_cons] at h1 h2;rcases h1 with h1 | h1
   ·exact h1
   ·rcases h2 with h2 | h2
    ·exact h2.symm
    ·exact (no _ _ (hb.1 x h1) (ha.1 y h2)).elim
  subst e;congr 1;refine E08 a b ha.2 hb.2 fun z => ?_;constructor
  ·intro hz;have h1 := (h z).1 (List.mem_cons_of_mem _ hz);rw [List.mem_cons] at h1;rcases h1 with h1 | h1
   ·subst h1; exact (no _ _ (ha.1 z hz) (ha.1 z hz)).elim
   ·exact h1
  ·intro hz;have h1 := (h z).2 (List.mem_cons_of_mem _ hz);rw [List.mem_cons] at h1;rcases h1 with h1 | h1
   ·subst h1; exact (no _ _ (hb.1 z hz) (hb.1 z hz)).elim
   ·exact h1
theorem E1f {L : List Nat} {x m : Nat} (hA : Asc L) (hL : L.length <= 2000) (hx : x ∉ L) (hp : ∀ s ∈ L, b21 s = m) (hxm : b21 x = m) (hin : ∀ s ∈ L, s < 2 ^ 20) (hx20 : x < 2 ^ 20) :
  ∃ L' : List Nat, D9s (L.map b14) (b14 x) = some (L'.map b14) /\ Asc L' /\ L'.length = L.length + 1 /\ ∀ s, s ∈ L' ↔ s ∈ L \/ s = x := by
 have hm20 : m <= 20 := by rw [<- hxm]; exact C0b
 obtain ⟨c, hc0, q2⟩ := j7u (f := D9t (L.map b14) (b14 x)) L.length (fun (_ : Unit) k => k) (fun k _ => ∀ j s, j < k -> L[j]? = some s -> b16 (b14 s) (b14 x) = true) (fun c => ∃ n : Nat, c = (n : Int) /\ n <= L.length /\ (∀ j s, j < n -> L[j]? = some s -> b16 (b14 s) (b14 x) = true) /\ ∀ s, L[n]? = some s -> b16 (b14 s) (b14 x) = false) (fun _ k hk hi => by
   obtain ⟨s, hs⟩ := b3b hk;have hsm := hp s (mG9 hs);have hg : get (L.map b14) (k : Int) = some (b14 s) := b1h (by rw [List.getElem?_map, hs]; rfl);have hle : x70 (b14 s) (b14 x) = some (b16 (b14 s) (b14 x)) := E2w (by rw [C86, C86, hsm, hxm]) (by rw [C86, hsm]; omega)
   have hLk : D9t (L.map b14) (b14 x) (k : Int) = if b16 (b14 s) (b14 x) then some (.nx ((k : Int) + 1)) else some (.br (k : Int)) := by
    unfold D9t;show ((if decide ((k : Int) < ((L.map b14).length : Int)) then _ else _ : Option Bool).bind _) = _
    rw [if_pos (by simp; exact hk), hg, bS9, hle, bS9, bS9, b3t (n := (k : Int) + 1) vc9 vc9]
   cases hl : b16 (b14 s) (b14 x) with
   | true =>
    refine .inl ⟨(), by rw [hLk, hl]; rfl, fun j t hj ht => ?_⟩;by_cases e : j = k
    ·subst e; rw [hs] at ht; cases ht; exact hl
    ·exact hi j t vc9 ht
   | false => exact .inr ⟨(k : Int), by rw [hLk, hl]; rfl, k, rfl, by omega, hi, fun t ht => by rw [hs] at ht; cases ht; exact hl⟩)
  (fun _ hi => ⟨(L.length : Int), by unfold D9t; simp, L.length, rfl, Nat.le_refl _, hi, fun s hs => by have := b1k hs; omega⟩) (s := ()) 0 (Nat.zero_le _) (fun j s h => by omega)
 obtain ⟨n, rfl, hn, hlow, hhi⟩ := q2;rw [show ((0 : Nat) : Int) = 0 from rfl] at hc0;have tr : ∀ u v w : Nat, b16 (b14 u) (b14 v) = true -> b16 (b14 v) (b14 w) = true -> b16 (b14 u) (b14 w) = true := fun u v w => z9x _ _ _
 have hbig : ∀ s ∈ L.drop n, b16 (b14 x) (b14 s) = true := by
  intro s hs;have hd : Asc (L.drop n) := List.Pairwise.sublist (List.drop_sublist n L) hA
  cases hdn : L.drop n with
  | nil => rw [hdn] at hs; cases hs
  | cons y ys =>
   have hy : L[n]? = some y := by
    have := List.getElem?_drop (xs := L) (i := n) (j := 0);rw [hdn] at this; simpa using this.symm
   have hyL := mG9 hy
   have hxy : b16 (b14 x) (b14 y) = true := by
    cases g : b16 (b14 x) (b14 y) with
    | true => rfl
    | false =>
     have := D3b _ _ (hhi y hy) g;have := D20 (hin y hyL) hx20 (D51 this);subst this; exact absurd hyL hx
   rw [hdn] at hs hd;unfold Asc at hd;rw [List.pairwise_cons] at hd;rw [List.mem_cons] at hs;rcases hs with rfl | hs
   ·exact hxy
   ·exact tr _ _ _ hxy (hd.1 s hs)
 have hsmall : ∀ s ∈ L.take n, b16 (b14 s) (b14 x) = true := by
  intro s hs;obtain ⟨j, hj, e⟩ := List.getElem_of_mem hs;rw [List.length_take] at hj;rw [List.getElem_take] at e;exact hlow j s vc9 (by rw [gG9 vc9, e])
 refine ⟨L.take n ++ [x] ++ L.drop n, ?_, ?_, ?_, fun s => ?_⟩
 ·unfold D9s;rw [hc0, bS9];unfold E0j;have hll : (L.map b14).length = L.length := List.length_map _;rw [u9o vc9 vc9 vc9, bS9, b9k (by simp only [List.length_nil, List.length_drop, List.length_take, List.length_map]; omega), bS9, b9k (by simp only [List.length_append, List.length_nil, List.length_drop, List.length_take, List.length_map, List.length_cons]; omega), bS9, u9o vc9 vc9 vc9, bS9, b9k (by simp only [List.length_append, List.length_nil, List.length_drop, List.length_take, List.length_map, List.length_cons]; omega), bS9];congr 1;simp only [Int.toNat_natCast, Int.toNat_zero, List.drop_zero, List.nil_append, List.map_append, List.map_take, List.map_drop, List.map_cons, List.map_nil];rw [List.take_length]
 ·unfold Asc at hA ⊢
  rw [List.pairwise_append, List.pairwise_append];refine ⟨⟨List.Pairwise.sublist (List.take_sublist n L) hA, by simp, fun a ha b hb => ?_⟩, List.Pairwise.sublist (List.drop_sublist n L) hA, fun a ha b hb => ?_⟩
  ·rw [List.mem_singleton.1 hb]; exact hsmall a ha
  ·rw [List.mem_append, List.mem_singleton] at ha;rcases ha with ha | rfl
   ·exact tr _ _ _ (hsmall a ha) (hbig b hb)
   ·exact hbig b hb
 ·simp only [List.length_append, List.length_take, List.length_drop, List.length_cons, List.length_nil]; omega
 ·rw [List.mem_append, List.mem_append, List.mem_singleton];have : s ∈ L ↔ s ∈ L.take n \/ s ∈ L.drop n := by rw [<- List.mem_append, List.take_append_drop]
  rw [this];constructor
  ·rintro ((h | h) | h)
   ·exact .inl (.inl h)
   ·exact .inr h
   ·exact .inl (.inr h)
  ·rintro ((h | h) | h)
   ·exact .inl (.inl h)
   ·exact .inr h
   ·exact .inl (.inr h)
section
variable {P : Nat} {A : List (List Nat)} {seen : List Bool} (hA : OkAl P A) (hs : seen.length = A.length)
include hA hs
theorem E2x {s i : Nat} {a : List Nat} (h : s < 2 ^ 20) (ha : A[i]? = some a) : b0w (E0g ⟨(P : Int), A.map b10⟩ (s : Int) (i : Int)) (false, 0) = some (onB s a) := D54 hA hs h ha
theorem E2g {b : Nat} (hb : b < 2 ^ P) : b0w (D9o ⟨(P : Int), A.map b10⟩ seen (b : Int)) (b14 b, 0) = some (b14 (fA P A seen b)) := by
 have hp := hA.p;have hn := hA.n;have h20 : b < 2 ^ 20 := Nat.lt_of_lt_of_le hb (Nat.pow_le_pow_right vc9 vc9);refine b4h (f := D9o ⟨(P : Int), A.map b10⟩ seen (b : Int)) A.length (fun s k => (s, k)) (fun k => b14 (exN P A seen b k)) _ (s0 := b14 b) rfl (fun k hk => ?_) ?_
 ·obtain ⟨a, ha⟩ := b3b hk;obtain ⟨sb, hsb⟩ := b3b (show k < seen.length by omega);have hgd : seen.getD k false = sb := by rw [List.getD_eq_getElem?_getD, hsb]; rfl
  have hlt := z71 (A := A) (seen := seen) hb k;have hlen : (b14 (exN P A seen b k)).length <= 20 := by rw [C86]; exact C0b
  have ew : wr ((P : Int) + (k : Int)) = ((P + k : Nat) : Int) := by rw [b3t vc9 vc9]; omega
  have em : b31 A seen b k = (onB b a != sb) := by rw [D3d hA ha, hgd]
  unfold D9o;show (if decide ((k : Int) < ((A.map b10).length : Int)) then (b0w (E0g ⟨(P : Int), A.map b10⟩ (b : Int) (k : Int)) (false, 0)).bind _ else _) = _
  rw [if_pos (by simp; exact hk), E2x hA hs h20 ha, bS9];unfold E0h D9z;rw [b1h hsb, bS9, B13, em, b3t (n := (k : Int) + 1) vc9 vc9];have eb : (!(b5c (onB b a) sb)) = (onB b a != sb) := by cases onB b a <;> cases sb <;> rfl
  rw [eb]
  cases (onB b a != sb) with
  | true =>
   simp only [if_true];rw [b9k (by simp only [List.length_cons, List.length_nil]; omega), bS9];show some (Out.nx (b14 (exN P A seen b k) ++ [wr ((P : Int) + (k : Int))], (k : Int) + 1)) = _
   rw [ew];congr 3;unfold b14;rw [E10 hlt vc9, B3x]; rfl
  | false => simp only [fT9, if_false]
 ·unfold D9o;show (if decide ((A.length : Int) < ((A.map b10).length : Int)) then _ else _) = _
  rw [if_neg vk9]; rfl
theorem E2c (hc : D0f ⟨(P : Int), A.map b10⟩ seen = some 0) : ∃ (m : Nat) (L : List Nat), D89 ⟨(P : Int), A.map b10⟩ seen = some (L.map b14, 0) /\ 0 < L.length /\ Asc L /\
  (∀ s, s ∈ L ↔ ∃ b, b < 2 ^ P /\ s = fA P A seen b /\ b21 s = m) /\ (∀ b, b < 2 ^ P -> m <= b21 (fA P A seen b)) := by
 have hp := hA.p;have hq := Nat.two_pow_pos P;have hq10 := Nat.pow_le_pow_right (n := 2) (show 0 < 2 by omega) hp
 obtain ⟨c, e, hP⟩ := j7u (f := D9a ⟨(P : Int), A.map b10⟩ seen) (2 ^ P) (fun (x : Option (List (List Int)) × Int) k => (x.1, x.2, k)) (fun k x => (k = 0 /\ x = (none, -1)) \/ (0 < k /\ ∃ (m : Nat) (L : List Nat), x = (some (L.map b14), (m : Int)) /\ 0 < L.length /\ L.length <= k /\ Asc L /\ (∀ s, s ∈ L ↔ ∃ b, b < k /\ s = fA P A seen b /\ b21 s = m) /\ ∀ b, b < k -> m <= b21 (fA P A seen b)))
  (fun o => ∃ (m : Nat) (L : List Nat), o = some (L.map b14) /\ 0 < L.length /\ Asc L /\ (∀ s, s ∈ L ↔ ∃ b, b < 2 ^ P /\ s = fA P A seen b /\ b21 s = m) /\ (∀ b, b < 2 ^ P -> m <= b21 (fA P A seen b))) (fun x k hk hi => by
   have hk20 : k < 2 ^ 20 := Nat.lt_of_lt_of_le hk (Nat.pow_le_pow_right vc9 vc9);have ek : wr ((k : Int) + 1) = (k : Int) + 1 := b3t vc9 vc9;have hpop : b21 (fA P A seen k) <= 20 := C0b;have hx20 : fA P A seen k < 2 ^ 20 := s93 hA hk
   have hstep : D9a ⟨(P : Int), A.map b10⟩ seen (x.1, x.2, (k : Int)) = D9p x.1 x.2 (k : Int) (b14 (fA P A seen k)) := by
    unfold D9a;show ((shl .i64 1 (IntKind.wrap .u64 (P : Int))).bind _) = _
    rw [u4e vc9, u1e vc9, bS9, if_pos (by simp only [decide_eq_true_eq]; omega), E1x hk20, bS9, E2g hA hs hk, bS9]
   have hone : D9s [] (b14 (fA P A seen k)) = some [b14 (fA P A seen k)] := by
    obtain ⟨L', h1, h2, h3, h4⟩ := E1f (L := []) (x := fA P A seen k) (m := b21 (fA P A seen k)) List.Pairwise.nil vk9 vk9 vk9 rfl vk9 hx20;obtain ⟨y, hy⟩ := List.length_eq_one_iff.1 h3;have : y = fA P A seen k := by have := (h4 y).1 (by rw [hy]; simp); simpa using this
    rw [hy, this] at h1;exact h1
   have new : ∀ o l, (l < 0 \/ ((b21 (fA P A seen k) : Nat) : Int) < l) -> x = (o, l) -> D9a ⟨(P : Int), A.map b10⟩ seen (x.1, x.2, (k : Int)) = some (.nx (some ([fA P A seen k].map b14), ((b21 (fA P A seen k) : Nat) : Int), (k : Int) + 1)) := by
    intro o l hl hx;rw [hstep, hx];unfold D9p;show (if (decide (l < 0)) || (decide (((List.length (b14 (fA P A seen k)) : Nat) : Int) < l)) then _ else _) = _
    rw [C86, if_pos (by simp only [Bool.or_eq_true, decide_eq_true_eq]; exact hl)];unfold D9c D9h;rw [C86, if_pos vk9, Option.getD_none, hone, bS9, ek];rfl
   have single : Asc [fA P A seen k] := List.pairwise_singleton _ _;rcases hi with ⟨rfl, rfl⟩ | ⟨h0, m, L, rfl, hpos, hlen, hasc, hmem, hmin⟩
   ·refine .inl ⟨(some ([fA P A seen 0].map b14), ((b21 (fA P A seen 0) : Nat) : Int)), new none (-1) (.inl vc9) rfl, .inr ⟨by omega, b21 (fA P A seen 0), [fA P A seen 0], rfl, by simp, by simp, single, fun s => ?_, fun b hb => ?_⟩⟩
    ·rw [List.mem_singleton];exact ⟨fun h => ⟨0, by omega, h, by rw [h]⟩, fun ⟨b, hb, h, _⟩ => by rw [h, show b = 0 by omega]⟩
    ·rw [show b = 0 by omega]; exact Nat.le_refl _
   ·by_cases c1 : b21 (fA P A seen k) < m
    ·refine .inl ⟨(some ([fA P A seen k].map b14), ((b21 (fA P A seen k) : Nat) : Int)), new _ _ (.inr vc9) rfl, .inr ⟨by omega, b21 (fA P A seen k), [fA P A seen k], rfl, by simp, by simp, single, fun s => ?_, fun b hb => ?_⟩⟩
     ·rw [List.mem_singleton];constructor
      ·intro h; exact ⟨k, by omega, h, by rw [h]⟩
      ·rintro ⟨b, hb, h, hpm⟩;by_cases z : b = k
       ·rw [h, z]
       ·have := hmin b vc9; rw [h] at hpm; omega
     ·by_cases z : b = k
      ·rw [z]; exact Nat.le_refl _
      ·have := hmin b vc9; omega
    ·have hj17 : D9a ⟨(P : Int), A.map b10⟩ seen (some (L.map b14), (m : Int), (k : Int)) = D9c (k : Int) (b14 (fA P A seen k)) (some (L.map b14)) (m : Int) := by
      have := hstep;rw [show ((some (L.map b14), (m : Int)) : Option (List (List Int)) × Int).1 = some (L.map b14) from rfl, show ((some (L.map b14), (m : Int)) : Option (List (List Int)) × Int).2 = (m : Int) from rfl] at this;rw [this];unfold D9p;rw [C86, if_neg (by simp only [Bool.or_eq_true, decide_eq_true_eq]; omega)]
     by_cases c2 : b21 (fA P A seen k) = m
     ·have hnot : fA P A seen k ∉ L := fun h => by
       obtain ⟨b, hb, hbe, _⟩ := (hmem _).1 h;have := D41 hA hk vc9 hbe;omega
      obtain ⟨L', h1, h2, h3, h4⟩ := E1f hasc vc9 hnot (fun s hs' => by obtain ⟨_, _, _, h⟩ := (hmem s).1 hs'; exact h) c2 (fun s hs' => by obtain ⟨b, hb, rfl, _⟩ := (hmem s).1 hs'; exact s93 hA vc9) hx20;refine .inl ⟨(some (L'.map b14), (m : Int)), ?_, .inr ⟨by omega, m, L', rfl, by omega, by omega, h2, fun s => ?_, fun b hb => ?_⟩⟩
      ·show D9a ⟨(P : Int), A.map b10⟩ seen (some (L.map b14), (m : Int), (k : Int)) = _
       rw [hj17];unfold D9c D9h;rw [C86, c2, if_pos vk9, Option.getD_some, h1, bS9, ek]
      ·rw [h4 s, hmem s];constructor
       ·rintro (⟨b, hb, h, hpm⟩ | h)
        ·exact ⟨b, by omega, h, hpm⟩
        ·exact ⟨k, by omega, h, by rw [h, c2]⟩
       ·rintro ⟨b, hb, h, hpm⟩;by_cases z : b = k
        ·right; rw [h, z]
        ·left; exact ⟨b, by omega, h, hpm⟩
      ·by_cases z : b = k
       ·rw [z]; omega
       ·exact hmin b vc9
     ·refine .inl ⟨(some (L.map b14), (m : Int)), ?_, .inr ⟨by omega, m, L, rfl, hpos, by omega, hasc, fun s => ?_, fun b hb => ?_⟩⟩
      ·show D9a ⟨(P : Int), A.map b10⟩ seen (some (L.map b14), (m : Int), (k : Int)) = _
       rw [hj17];unfold D9c D9h;rw [C86, if_neg (by simp only [decide_eq_true_eq]; omega), ek]
      ·rw [hmem s];constructor
       ·rintro ⟨b, hb, h, hpm⟩; exact ⟨b, by omega, h, hpm⟩
       ·rintro ⟨b, hb, h, hpm⟩;by_cases z : b = k
        ·rw [h, z] at hpm; exact absurd hpm c2
        ·exact ⟨b, by omega, h, hpm⟩
      ·by_cases z : b = k
       ·rw [z]; omega
       ·exact hmin b vc9)
  (fun x hi => by
   rcases hi with ⟨h, _⟩ | ⟨_, m, L, rfl, h1, _, h2, h3, h4⟩
   ·omega
   ·refine ⟨some (L.map b14), ?_, m, L, rfl, h1, h2, h3, h4⟩;unfold D9a;show ((shl .i64 1 (IntKind.wrap .u64 (P : Int))).bind _) = _
    rw [u4e vc9, u1e vc9, bS9, if_neg vk9]) (s := (none, -1)) 0 (Nat.zero_le _) (.inl ⟨rfl, rfl⟩)
 obtain ⟨m, L, rfl, h1, h2, h3, h4⟩ := hP;refine ⟨m, L, ?_, h1, h2, h3, h4⟩;unfold D89;rw [hc, bS9];simp only [not_true_eq_false, decide_false, fT9, if_false];rw [show ((0 : Nat) : Int) = 0 from rfl] at e;rw [e]; rfl
end
theorem E1w {r : List Nat} (h : ∀ (k x y : Nat), r[k]? = some x -> r[k + 1]? = some y -> b16 (b10 (b12 20 x)) (b10 (b12 20 y)) = true) : Asc r := by
 have far : ∀ (d k x y : Nat), r[k]? = some x -> r[k + d + 1]? = some y -> b16 (b14 x) (b14 y) = true := by
  intro d;induction d with
  | zero => intro k x y hx hy; exact h k x y hx hy
  | succ d ih =>
   intro k x y hx hy;obtain ⟨z, hz⟩ := b3b (l := r) (k := k + d + 1) (by have := b1k hy; omega);exact z9x _ _ _ (ih k x z hx hz) (h (k + d + 1) z y hz (by rw [show k + d + 1 + 1 = k + (d + 1) + 1 by omega]; exact hy))
 unfold Asc;rw [List.pairwise_iff_getElem];intro i j hi hj hij;exact far (j - i - 1) i r[i] r[j] (gG9 hi) (by rw [show i + (j - i - 1) + 1 = j by omega]; exact gG9 hj)
end
end Go.Nw.WN
namespace Go.Nw.WN
open Go.Nw.Ft3
noncomputable section
set_option maxHeartbeats 1000000
theorem E1b (n : Nat) : ∀ l : List Nat, l.Pairwise (· < ·) -> l.count n = if n ∈ l then 1 else 0
 | [], _ => rfl
 | x :: l, h => by
  rw [List.pairwise_cons] at h;have ih := E1b n l h.2;by_cases e : x = n
  ·subst e;have : x ∉ l := fun hx => by have := h.1 x hx; omega
   rw [List.count_cons_self, ih, if_neg this, if_pos vk9]
  ·rw [List.count_cons_of_ne e, ih];have : (n ∈ x :: l) ↔ n ∈ l := by rw [List.mem_cons]; exact ⟨fun h => h.resolve_left fun g => e g.symm, .inr⟩
   simp only [this]
def c14 (r : List Nat) (n : Nat) : Nat := r.countP fun s => s.testBit n
theorem E1h {r : List Nat} {n k s : Nat} (h : r[k]? = some s) : c14 (r.take (k + 1)) n = c14 (r.take k) n + if s.testBit n then 1 else 0 := by
 unfold c14;rw [show r.take (k + 1) = r.take k ++ [s] by rw [List.take_succ, h]; rfl, List.countP_append]
 cases g : s.testBit n <;> simp [g]
theorem C00 (r : List Nat) (n : Nat) : c14 r n <= r.length := List.countP_le_length
theorem E1d {r : List Nat} (hlen : r.length <= 1024) {n : Nat} (hn : n < 20) : D9d (r.map b14) (n : Int) = some ((c14 r n : Nat) : Int) := by
 have := b4h (f := D98 (r.map b14) (n : Int)) r.length (fun s k => (s, k)) (fun k => ((c14 (r.take k) n : Nat) : Int)) ((c14 r n : Nat) : Int) (s0 := 0) (by simp [c14]) (fun k hk => by
   obtain ⟨s, hx⟩ := b3b hk;have hcl : c14 (r.take k) n <= 1024 := Nat.le_trans (C00 _ _) vi9;have hg : get (r.map b14) (k : Int) = some (b14 s) := b1h (by rw [List.getElem?_map, hx]; rfl);have hbl := C0b (k := 20) (n := s)
   have inner := b4h (f := D99 (r.map b14) (n : Int) (k : Int)) (b12 20 s).length (fun s k => (s, k)) (fun j => ((c14 (r.take k) n + ((b12 20 s).take j).count n : Nat) : Int)) ((c14 (r.take (k + 1)) n : Nat) : Int) (s0 := ((c14 (r.take k) n : Nat) : Int)) vk9 (fun j hj => by
     obtain ⟨y, hy⟩ := b3b hj;have hcj : ((b12 20 s).take j).count n <= 20 := Nat.le_trans List.count_le_length vi9;have hgy : get (b14 s) (j : Int) = some (y : Int) := z90 hy;unfold D99;show ((get (r.map b14) (k : Int)).bind fun x10 => if decide ((j : Int) < (x10.length : Int)) then _ else _) = _
     rw [hg, bS9, if_pos (by rw [C86]; unfold b21; simp; exact hj), hgy, bS9];unfold E0a;rw [b3t (n := (j : Int) + 1) vc9 vc9, show (b12 20 s).take (j + 1) = (b12 20 s).take j ++ [y] by rw [List.take_succ, hy]; rfl, List.count_append];by_cases e : y = n
     ·subst e;rw [if_pos vk9, b3t vc9 vc9];simp only [List.count_singleton_self];congr 3
     ·have e2 : ¬ (y : Int) = (n : Int) := by omega
      rw [if_neg (by simpa using e2), List.count_singleton]
      simp [e])
    (by
     unfold D99;show ((get (r.map b14) (k : Int)).bind fun x10 => if decide (((b12 20 s).length : Int) < (x10.length : Int)) then _ else _) = _
     rw [hg, bS9, if_neg (by rw [C86]; unfold b21; simp), List.take_of_length_le (Nat.le_refl _), E1h hx, E1b n _ (D2z 20 s)];congr 3;have : n ∈ b12 20 s ↔ s.testBit n = true := by rw [B0v]; exact ⟨fun h => h.2, fun h => ⟨hn, h⟩⟩
     simp only [this])
   unfold D98;show (if decide ((k : Int) < ((r.map b14).length : Int)) then _ else _) = _
   rw [if_pos (by simp; exact hk), inner, bS9];unfold E0i
   rw [b3t (n := (k : Int) + 1) vc9 vc9])
  (by
   unfold D98;show (if decide ((r.length : Int) < ((r.map b14).length : Int)) then _ else _) = _
   rw [if_neg vk9, List.take_of_length_le (Nat.le_refl _)])
 unfold D9d;rw [this]; rfl
theorem E1e {a : List Nat} (h : a.length <= 1024) : D9n (a.map b14) (a.map b14) = some true := by
 have := b4h (f := D9y (a.map b14) (a.map b14)) a.length (fun (_ : Unit) k => k) (fun _ => ()) (Sum.inl () : Unit ⊕ Bool) (s0 := ()) rfl (fun k hk => by
   obtain ⟨s, hx⟩ := b3b hk;have hg : get (a.map b14) (k : Int) = some (b14 s) := b1h (by rw [List.getElem?_map, hx]; rfl);unfold D9y;rw [if_pos (by simp; exact hk)];simp only [hg, bS9, D3o (show (b14 s).length <= 100 by rw [C86]; exact Nat.le_trans C0b (by decide)), decide_true, Bool.not_true, fT9, if_false]
   rw [b3t (n := (k : Int) + 1) vc9 vc9])
  (by unfold D9y; simp)
 unfold D9n;rw [if_neg vk9, this]; rfl
def c80 (r : List Nat) : Nat -> Int × Int
 | 0 => (-1, (r.length : Int))
 | k + 1 => if max ((c14 r k : Nat) : Int) ((r.length : Int) - ((c14 r k : Nat) : Int)) < (c80 r k).2 then ((k : Int), max ((c14 r k : Nat) : Int) ((r.length : Int) - ((c14 r k : Nat) : Int))) else c80 r k
theorem E09 (r : List Nat) : ∀ k, ((c80 r k).1 = -1 /\ (c80 r k).2 = (r.length : Int)) \/ (0 <= (c80 r k).1 /\ (c80 r k).2 < (r.length : Int))
 | 0 => .inl ⟨rfl, rfl⟩
 | k + 1 => by
  have ih := E09 r k;unfold c80;split
  ·right;refine ⟨by simp, ?_⟩;rename_i h;show max _ _ < _
   rcases ih with ⟨_, h2⟩ | ⟨_, h2⟩ <;> omega
  ·exact ih
section
variable {P : Nat} {A : List (List Nat)} {seen : List Bool} (hA : OkAl P A) (hs : seen.length = A.length) {r : List Nat}
 (hf : B8n ⟨(P : Int), A.map b10⟩ seen = some (b10 r)) (hne : r ≠ []) (hlen : r.length <= 1024) (hin : ∀ s ∈ r, s < 2 ^ 20)
 (hd : D89 ⟨(P : Int), A.map b10⟩ seen = some (r.map b14, 0))
include hA hlen hd
theorem E2f : ∃ l, D9k ⟨(P : Int), A.map b10⟩ seen = some (b10 l, 0) /\ l = (List.range (P + A.length)).filter fun n => decide (c14 r n = r.length) := by
 have hp := hA.p;have hn := hA.n;have wN : wr ((P : Int) + ((A.map b10).length : Int)) = ((P + A.length : Nat) : Int) := by rw [List.length_map, b3t vc9 vc9]; omega
 have := C2h (f := D94 ⟨(P : Int), A.map b10⟩ (r.map b14, 0)) (P + A.length) (fun n => decide (c14 r n = r.length)) (fun n => (n : Int)) (fun l k hk hl => by
   unfold D94;show (if decide ((k : Int) < wr ((P : Int) + ((A.map b10).length : Int))) then (D9d (r.map b14) (k : Int)).bind _ else _) = _
   rw [wN, if_pos (by simp only [decide_eq_true_eq]; omega), E1d hlen (show k < 20 by omega), bS9];unfold D95;rw [b3t (n := (k : Int) + 1) vc9 vc9];by_cases g : c14 r k = r.length
   ·rw [if_pos (by simp [g]), b9k (by simp only [List.length_cons, List.length_nil]; omega), bS9, if_pos (by simp [g])]
   ·have g2 : ¬ ((c14 r k : Nat) : Int) = (r.length : Int) := by omega
    rw [if_neg (by simpa using g2), if_neg (by simp [g])])
  (fun l => by
   unfold D94;show (if decide (((P + A.length : Nat) : Int) < wr ((P : Int) + ((A.map b10).length : Int))) then _ else _) = _
   rw [wN, if_neg vk9])
 refine ⟨_, ?_, rfl⟩;unfold D9k;rw [hd, bS9];simp only [not_true_eq_false, decide_false, fT9, if_false];rw [this]; rfl
theorem E2d : D9i ⟨(P : Int), A.map b10⟩ seen = some (if (c80 r P).1 < 0 then (0, 3) else ((c80 r P).1, 0)) := by
 have hp := hA.p;have hlr : ((r.map b14).length : Int) = (r.length : Int) := by rw [List.length_map]
 have := b4h (f := D9q ⟨(P : Int), A.map b10⟩ (r.map b14, 0)) P (fun (s : Int × Int) k => (s.1, s.2, k)) (fun k => (if (c80 r k).1 < 0 then 0 else (c80 r k).1, (c80 r k).2)) (if (c80 r P).1 < 0 then 0 else (c80 r P).1, (c80 r P).2) (s0 := (0, (r.length : Int))) rfl (fun k hk => by
   have hcl := C00 r k;unfold D9q;show (if decide ((k : Int) < (P : Int)) then (D9d (r.map b14) (k : Int)).bind _ else _) = _
   rw [if_pos (by simp only [decide_eq_true_eq]; omega), E1d hlen (show k < 20 by omega), bS9];have w1 : wr (((r.map b14).length : Int) - ((c14 r k : Nat) : Int)) = (r.length : Int) - ((c14 r k : Nat) : Int) := by rw [hlr]; exact b3t vc9 vc9
   have hmx : ∀ a b : Int, mx a b = max a b := fun a b => by unfold mx; rw [Int.max_def]; split <;> split <;> omega
   unfold D90;simp only [w1, hmx];rw [b3t (n := (k : Int) + 1) vc9 vc9];have eg : c80 r (k + 1) = if max ((c14 r k : Nat) : Int) ((r.length : Int) - ((c14 r k : Nat) : Int)) < (c80 r k).2 then ((k : Int), max ((c14 r k : Nat) : Int) ((r.length : Int) - ((c14 r k : Nat) : Int))) else c80 r k := rfl
   rw [eg];by_cases g : max ((c14 r k : Nat) : Int) ((r.length : Int) - ((c14 r k : Nat) : Int)) < (c80 r k).2
   ·rw [if_pos g, if_pos (by simpa using g), if_neg (show ¬ ((k : Int)) < 0 by omega)]
   ·rw [if_neg g, if_neg (by simpa using g)])
  (by
   unfold D9q;show (if decide ((P : Int) < (P : Int)) then _ else _) = _
   rw [if_neg vk9])
 unfold D9i;rw [hd, bS9];simp only [not_true_eq_false, decide_false, fT9, if_false, hlr];have this' : b0w (D9q ⟨(P : Int), A.map b10⟩ (r.map b14, 0)) (0, (r.length : Int), 0) = some (if (c80 r P).1 < 0 then 0 else (c80 r P).1, (c80 r P).2) := this;rw [this', bS9];show D91 (r.map b14, 0) (if (c80 r P).1 < 0 then 0 else (c80 r P).1) (c80 r P).2 = _
 unfold D91;rcases E09 r P with ⟨h1, h2⟩ | ⟨h1, h2⟩
 ·rw [if_pos (by rw [h2]; simp), if_pos vc9]
 ·rw [if_neg (by simp only [decide_eq_true_eq]; rw [hlr]; omega), if_neg vc9, if_neg vc9]
omit hd
include hs hf hin
theorem E2z : D9g ⟨(P : Int), A.map b10⟩ seen = some (if (c80 r P).1 < 0 then (0, 3) else ((c80 r P).1, 0)) := by
 have hp := hA.p;have hlr : ((b10 r).length : Int) = (r.length : Int) := by rw [y69]
 have := b4h (f := D9m ⟨(P : Int), A.map b10⟩ (b10 r)) P (fun (s : Int × Int) k => (s.1, s.2, k)) (fun k => c80 r k) (c80 r P).1 (s0 := (-1, (r.length : Int))) rfl (fun k hk => by
   have hcl := C00 r k
   have inner := b4h (f := D9u (b10 r) (k : Int)) r.length (fun s k => (s, k)) (fun j => ((c14 (r.take j) k : Nat) : Int)) ((c14 r k : Nat) : Int) (s0 := 0) (by simp [c14]) (fun j hj => by
     obtain ⟨s, hx⟩ := b3b hj;have hs20 := hin s (mG9 hx);have hcj : c14 (r.take j) k <= 1024 := Nat.le_trans (C00 _ _) vi9;unfold D9u;show (if decide ((j : Int) < ((b10 r).length : Int)) then _ else _) = _
     rw [if_pos (by rw [y69]; simp; exact hj), z90 hx, bS9, g29 vc9, bS9, u6r vc9 vc9, E1h hx, b3t (n := (j : Int) + 1) vc9 vc9]
     cases s.testBit k with
     | true => rw [if_pos rfl, if_pos rfl, b3t vc9 vc9]; congr 3
     | false => rw [if_neg vk9, if_neg vk9, b3t vc9 vc9]; congr 3)
    (by
     unfold D9u;show (if decide ((r.length : Int) < ((b10 r).length : Int)) then _ else _) = _
     rw [if_neg (by rw [y69]; simp), List.take_of_length_le (Nat.le_refl _)])
   have w1 : wr (((b10 r).length : Int) - ((c14 r k : Nat) : Int)) = (r.length : Int) - ((c14 r k : Nat) : Int) := by rw [hlr]; exact b3t vc9 vc9
   have hmx : ∀ a b : Int, mx a b = max a b := fun a b => by unfold mx; rw [Int.max_def]; split <;> split <;> omega
   unfold D9m;show (if decide ((k : Int) < (P : Int)) then _ else _) = _
   rw [if_pos (by simp only [decide_eq_true_eq]; omega), inner, bS9];unfold E0d D9v;simp only [w1, hmx];rw [b3t (n := (k : Int) + 1) vc9 vc9];have eg : c80 r (k + 1) = if max ((c14 r k : Nat) : Int) ((r.length : Int) - ((c14 r k : Nat) : Int)) < (c80 r k).2 then ((k : Int), max ((c14 r k : Nat) : Int) ((r.length : Int) - ((c14 r k : Nat) : Int))) else c80 r k := rfl
   rw [eg];by_cases g : max ((c14 r k : Nat) : Int) ((r.length : Int) - ((c14 r k : Nat) : Int)) < (c80 r k).2
   ·rw [if_pos g, if_pos (by simpa using g)]
   ·rw [if_neg g, if_neg (by simpa using g)])
  (by
   unfold D9m;show (if decide ((P : Int) < (P : Int)) then _ else _) = _
   rw [if_neg vk9])
 unfold D9g;rw [B33 hA hs, bS9];simp only [not_true_eq_false, decide_false, fT9, if_false];rw [hf, bS9, hlr];have this' : b0w (D9m ⟨(P : Int), A.map b10⟩ (b10 r)) (-1, (r.length : Int), 0) = some (c80 r P).1 := this;rw [this', bS9];unfold E0e;by_cases g : (c80 r P).1 < 0
 ·rw [if_pos (by simpa using g), if_pos g]
 ·rw [if_neg (by simpa using g), if_neg g]
end
section
variable (hm : u10 = some true)
include hm
theorem E1v [Bd] (hB : Bd.B <= 1048576) (p : Plant) (seen : List Bool) (hp0 : D1a p) (hs0 : OkL (fun _ : Bool => True) seen) : D9x p seen = some true := by
 have hin0 : p.Alarms.length <= maxLen /\ ∀ a ∈ p.Alarms, a.length <= maxLen := ⟨Nat.le_trans hp0.2.1 Bd.le, fun a ha => Nat.le_trans (hp0.2.2 a ha).1 Bd.le⟩;have hmm : ∀ x : Option Bool, x = (u10).bind (fun y4 => some y4) -> x = some true := fun x h => by rw [h, hm]; rfl
 unfold D9x;by_cases c : (12 : Int) < (p.Alarms.length : Int)
 ·rw [if_pos (by simpa using c), hm]; rfl
 rw [if_neg (by simpa using c), E2b vc9 (fun a ha => Nat.le_trans (hp0.2.2 a ha).1 hB), bS9, b9k (by have := hs0.1; simp only [List.length_nil]; omega), bS9, List.nil_append];obtain ⟨rc, hrc, hrc0⟩ := D4w (seen := seen) hin0;have hpc : z5a p seen = some rc := by rw [E2y hin0, hrc]
 by_cases hz : rc = 0
 case neg =>
  have a1 : s94 p seen = some ([], rc) := by unfold s94; rw [hpc, bS9, if_pos (by simpa using hz)]
  have a2 : C9w p seen = some ([], rc) := by unfold C9w; rw [hpc, bS9, if_pos (by simpa using hz)]
  have a3 : C9x p seen = some ([], rc) := by unfold C9x; rw [hpc, bS9, if_pos (by simpa using hz)]
  have a4 : D9g p seen = some (0, rc) := by unfold D9g; rw [hpc, bS9, if_pos (by simpa using hz)]
  have b1 : D89 p seen = some ([], rc) := by unfold D89; rw [hrc, bS9, if_pos (by simpa using hz)]
  have b2 : D9j p seen = some ([], rc) := by unfold D9j; rw [b1, bS9, if_pos (by simpa using hz)]
  have b3 : D9k p seen = some ([], rc) := by unfold D9k; rw [b1, bS9, if_pos (by simpa using hz)]
  have b4 : D9i p seen = some (0, rc) := by unfold D9i; rw [b1, bS9, if_pos (by simpa using hz)]
  have e1 : D9n ([] : List (List Int)) [] = some true := E1e (a := []) vk9;have e2 : u0x ([] : List Int) [] = some true := by rw [D3o vk9]; simp
  simp only [a1, a2, a3, a4, b1, b2, b3, b4, e1, e2, bS9, not_true_eq_false, decide_false, fT9, if_false, Bool.not_true, decide_true, Bool.and_self, if_true];rw [hm]; rfl
 obtain ⟨P, A, rfl, hA, hs⟩ := hrc0 hz;rw [hz] at hrc;have hP := hA.p;have hn := hA.n;obtain ⟨m, r, hf, hne, hlen, hmem, hmin, hasc⟩ := B15 hA hs;obtain ⟨m2, L, hL, hLp, hLa, hLm, hLn⟩ := E2c hA hs hrc
 have hin : ∀ s ∈ r, s < 2 ^ 20 := fun s h => by
  obtain ⟨b, hb, rfl, _⟩ := (hmem s).1 h;exact s93 hA hb
 obtain ⟨s0, h0⟩ := b3b (show 0 < r.length from List.length_pos_iff.2 hne);have hs0' := mG9 h0;obtain ⟨b0, hb0, _, hb0m⟩ := (hmem s0).1 hs0'
 have hm12 : m2 = m := by
  have g1 := hLn b0 hb0;have : m2 <= m := by obtain ⟨b, hb, e, h⟩ := (hmem s0).1 hs0'; rw [e] at h; have := hLn b hb; omega
  have g2 : m <= m2 := by
   obtain ⟨y, hy⟩ := b3b hLp;obtain ⟨b, hb, e, h⟩ := (hLm y).1 (mG9 hy);have := hmin b hb;rw [e] at h; omega
  omega
 have hrasc : Asc r := E1w hasc;have hrL : r = L := E08 r L hrasc hLa fun s => by rw [hmem s, hLm s, hm12]
 rw [<- hrL] at hL;obtain ⟨sn, hsn, hsure, hsb⟩ := D38 hA hs hf hne hlen hin;obtain ⟨ls, hds, hls⟩ := E2f hA hlen hL
 have hlsn : b14 sn = b10 ls := by
  unfold b14;congr 1;rw [hls];refine D2d _ _ (D2z _ _) (List.Pairwise.filter _ List.pairwise_lt_range) fun x => ?_;rw [B0v, List.mem_filter, List.mem_range, decide_eq_true_eq, hsb x];have hall : (∀ s ∈ r, s.testBit x = true) ↔ c14 r x = r.length := by unfold c14; rw [List.countP_eq_length]
  rw [hall];constructor
  ·rintro ⟨h1, h2⟩;refine ⟨?_, h2⟩;apply Classical.byContradiction; intro hc;have := hall.2 h2 s0 hs0';obtain ⟨b, hb, e, _⟩ := (hmem s0).1 hs0';have hlt : s0 < 2 ^ (P + A.length) := by rw [e]; exact z71 hb A.length
   rw [Nat.testBit_lt_two_pow (Nat.lt_of_lt_of_le hlt (Nat.pow_le_pow_right vc9 vc9))] at this; cases this
  ·rintro ⟨h1, h2⟩; exact ⟨by omega, h2⟩
 have d2 : D9j ⟨(P : Int), A.map b10⟩ seen = some (b14 s0, 0) := by
  unfold D9j;rw [hL, bS9];simp only [not_true_eq_false, decide_false, fT9, if_false];have : get (r.map b14) 0 = some (b14 s0) := b1h (k := 0) (by rw [List.getElem?_map, h0]; rfl);rw [this]; rfl
 have hl20 : ∀ s : Nat, (b14 s).length <= 100 := fun s => by rw [C86]; exact Nat.le_trans C0b (by decide)
 rw [D36 hA hs hf hlen hin, hL, D37 hA hs hf hlen hin h0, d2, hsure, hds, E2z hA hs hf hlen hin, E2d hA hlen hL, <- hlsn];simp only [bS9, E1e hlen, D3o (hl20 s0), D3o (hl20 sn), not_true_eq_false, decide_false, fT9, if_false, Bool.not_true, decide_true, Bool.and_self, if_true];rw [hm]; rfl
end
end
end Go.Nw.WN
