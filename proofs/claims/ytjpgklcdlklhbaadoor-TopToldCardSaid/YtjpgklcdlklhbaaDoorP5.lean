/- Plain laws on the models. -/
import Derived.Test.YtjpgklcdlklhbaaDoorVM
import Derived.Test.YtjpgklcdlklhbaaDoorNwPop
import Derived.Test.YtjpgklcdlklhbaaDoorP3
import Derived.Test.YtjpgklcdlklhbaaDoorNwPlain
import Derived.Test.YtjpgklcdlklhbaaDoorP4
set_option linter.all false
namespace Go.Nw.VM
open Go.Nw.Tp4
noncomputable section
theorem x67 {a y : Nat} (hy : y <= 64) : shr .u64 (a : Int) (y : Int) = some ((a >>> y : Nat) : Int) := by
 rw [g29 vc9];have : Nat.min (y : Int).toNat IntKind.u64.bits = y := Nat.min_eq_left (by rw [show IntKind.u64.bits = 64 from rfl]; omega);unfold d45;rw [this, Nat.shiftRight_eq_div_pow];have h2 : (2 : Int) ^ y = ((2 ^ y : Nat) : Int) := by simp
 rw [h2, Int.fdiv_eq_ediv_of_nonneg _ (Int.natCast_nonneg _)]; rfl
theorem s46 {a b : Nat} (ha : a < 18446744073709551616) (hb : b < 18446744073709551616) : d05 .u64 (a : Int) (b : Int) = ((a &&& b : Nat) : Int) := by
 show IntKind.wrap .u64 ((BitVec.ofInt 64 (a : Int) &&& BitVec.ofInt 64 (b : Int)).toNat : Int) = _
 rw [BitVec.toNat_and, s9p a ha, s9p b hb];exact u4e (Nat.lt_of_le_of_lt Nat.and_le_left ha)
theorem s43 {a b : Nat} (h : a + b < 18446744073709551616) : IntKind.wrap .u64 ((a : Int) + (b : Int)) = ((a + b : Nat) : Int) := u4e h
theorem z92 {x : Nat} (h : x < 2 ^ 20) : l13 (x : Int) = some ((b12 20 x).length : Int) := by
 obtain ⟨y, hy⟩ : ∃ y, y = ((x >>> 1) &&& 6148914691236517205) + (x &&& 6148914691236517205) := ⟨_, rfl⟩;obtain ⟨z, hz⟩ : ∃ z, z = ((y >>> 2) &&& 3689348814741910323) + (y &&& 3689348814741910323) := ⟨_, rfl⟩;obtain ⟨s, hs⟩ : ∃ s, s = ((z >>> 4) + z) &&& 1085102592571150095 := ⟨_, rfl⟩;obtain ⟨t, ht⟩ : ∃ t, t = s + s >>> 8 := ⟨_, rfl⟩;obtain ⟨v, hv⟩ : ∃ v, v = t + t >>> 16 := ⟨_, rfl⟩;have hx : x = 2 ^ 8 * (2 ^ 8 * (x / 65536) + x / 256 % 256) + x % 256 := by omega
 obtain ⟨gy, gz, gs, gt, gv, e⟩ := B34 (b0 := x % 256) (b1 := x / 256 % 256) (b2 := x / 65536) vc9 vc9 vc9 x y z s t v hx hy hz hs ht hv;have sl : ∀ a b : Nat, a < 2 ^ 24 -> a >>> b < 2 ^ 24 := fun a b ha => by rw [Nat.shiftRight_eq_div_pow]; exact Nat.lt_of_le_of_lt (Nat.div_le_self _ _) ha
 have hl : (b12 20 x).length = (b12 8 (x % 256)).length + ((b12 8 (x / 256 % 256)).length + (b12 4 (x / 65536)).length) := by
  have h1 := z9i (k := 12) (a := 2 ^ 8 * (x / 65536) + x / 256 % 256) (b := x % 256) vc9;have h2 := z9i (k := 4) (a := x / 65536) (b := x / 256 % 256) vc9;rw [<- hx] at h1;rw [h1, h2]
 have a1 : shr .u64 (x : Int) 1 = some ((x >>> 1 : Nat) : Int) := x67 (a := x) (y := 1) vc9;have a2 : d05 .u64 ((x >>> 1 : Nat) : Int) 6148914691236517205 = (((x >>> 1) &&& 6148914691236517205 : Nat) : Int) := s46 (b := 6148914691236517205) (by have := sl x 1 vc9; omega) vc9;have a3 : d05 .u64 (x : Int) 6148914691236517205 = ((x &&& 6148914691236517205 : Nat) : Int) := s46 (b := 6148914691236517205) vc9 vc9;have a4 : IntKind.wrap .u64 ((((x >>> 1) &&& 6148914691236517205 : Nat) : Int) + ((x &&& 6148914691236517205 : Nat) : Int)) = (y : Int) := by rw [hy]; exact s43 (by rw [<- hy]; omega)
 have b1 : shr .u64 (y : Int) 2 = some ((y >>> 2 : Nat) : Int) := x67 (a := y) (y := 2) vc9;have b2 : d05 .u64 ((y >>> 2 : Nat) : Int) 3689348814741910323 = (((y >>> 2) &&& 3689348814741910323 : Nat) : Int) := s46 (b := 3689348814741910323) (by have := sl y 2 gy; omega) vc9;have b3 : d05 .u64 (y : Int) 3689348814741910323 = ((y &&& 3689348814741910323 : Nat) : Int) := s46 (b := 3689348814741910323) vc9 vc9;have b4 : IntKind.wrap .u64 ((((y >>> 2) &&& 3689348814741910323 : Nat) : Int) + ((y &&& 3689348814741910323 : Nat) : Int)) = (z : Int) := by rw [hz]; exact s43 (by rw [<- hz]; omega)
 have c1 : shr .u64 (z : Int) 4 = some ((z >>> 4 : Nat) : Int) := x67 (a := z) (y := 4) vc9;have c2 : IntKind.wrap .u64 (((z >>> 4 : Nat) : Int) + (z : Int)) = ((z >>> 4 + z : Nat) : Int) := s43 (by have := sl z 4 gz; omega);have c3 : d05 .u64 ((z >>> 4 + z : Nat) : Int) 1085102592571150095 = (s : Int) := by rw [hs]; exact s46 (b := 1085102592571150095) (by have := sl z 4 gz; omega) vc9
 have d1 : shr .u64 (s : Int) 8 = some ((s >>> 8 : Nat) : Int) := x67 (a := s) (y := 8) vc9;have d2 : IntKind.wrap .u64 ((s : Int) + ((s >>> 8 : Nat) : Int)) = (t : Int) := by rw [ht]; exact s43 (by rw [<- ht]; omega)
 have f1 : shr .u64 (t : Int) 16 = some ((t >>> 16 : Nat) : Int) := x67 (a := t) (y := 16) vc9;have f2 : IntKind.wrap .u64 ((t : Int) + ((t >>> 16 : Nat) : Int)) = (v : Int) := by rw [hv]; exact s43 (by rw [<- hv]; omega)
 have g1 : shr .u64 (v : Int) 32 = some ((v >>> 32 : Nat) : Int) := x67 (a := v) (y := 32) vc9;have g2 : IntKind.wrap .u64 ((v : Int) + ((v >>> 32 : Nat) : Int)) = ((v + v >>> 32 : Nat) : Int) := s43 (by have := sl v 32 gv; omega);have g3 : IntKind.wrap .i64 ((v + v >>> 32 : Nat) : Int) = ((v + v >>> 32 : Nat) : Int) := u4f (by have := sl v 32 gv; omega);have g4 : b6y ((v + v >>> 32 : Nat) : Int) 127 = (((v + v >>> 32) &&& 127 : Nat) : Int) := u6m (b := 127) (by have := sl v 32 gv; omega) vc9;unfold l13 z6h;rw [a1, bS9, a2, a3, a4];rw [b1, bS9, b2, b3, b4];rw [c1, bS9, c2, c3];rw [d1, bS9, d2];rw [f1, bS9, f2];rw [g1, bS9, g2, g3, g4, bS9, e, hl]
theorem B4g : ((List.range 20).all fun j => decide (((shr .u64 (IntKind.wrap .u64 (((2 ^ j : Nat) : Int) * 285870213051353865)) 58).bind fun q5 => (get u3d q5).bind fun x6 => some (IntKind.wrap .i64 x6)) = some (j : Int))) = true := by decide +kernel
theorem z9a {j q : Nat} (h : 2 ^ j * (2 * q + 1) < 2 ^ 20) : j < 20 /\ x30 ((2 ^ j * (2 * q + 1) : Nat) : Int) = some (j : Int) := by
 have hp := Nat.two_pow_pos j
 have hj : j < 20 := by
  apply Classical.byContradiction; intro hc;have : 2 ^ 20 <= 2 ^ j := Nat.pow_le_pow_right vc9 vc9;have : 2 ^ j * 1 <= 2 ^ j * (2 * q + 1) := Nat.mul_le_mul_left _ vc9;omega
 refine ⟨hj, ?_⟩;have hx0 : 0 < 2 ^ j * (2 * q + 1) := Nat.mul_pos hp vc9;have lo := B3t (j := j) (q := q) vc9;generalize he : 2 ^ j * (2 * q + 1) = x at *
 have w1 : IntKind.wrap .u64 (0 - (x : Int)) = ((2 ^ 64 - x : Nat) : Int) := by
  show (0 - (x : Int)) % 18446744073709551616 = _
  omega
 have b1 : d05 .u64 (x : Int) ((2 ^ 64 - x : Nat) : Int) = ((2 ^ j : Nat) : Int) := by rw [s46 vc9 vc9, lo]
 have tb := of_decide_eq_true (List.all_eq_true.1 B4g j (List.mem_range.2 hj));unfold x30 z6i;rw [if_neg (by simp; omega), w1, b1, tb]; rfl
theorem B3u : ∀ (n x : Nat) (out : List Int), (b12 20 x).length = n -> x < 2 ^ 20 -> out.length + n <= 100 -> b0w x19 ((x : Int), out) = some (out ++ (b12 20 x).map fun i : Nat => (i : Int)) := by
 intro n;induction n with
 | zero =>
  intro x out hn hx ho
  have hz : x = 0 := by
   apply Classical.byContradiction; intro hc;obtain ⟨j, q, e⟩ := z80 x hc;subst e;rw [z52 (z9a hx).1] at hn;simp at hn
  subst hz;rw [y28];exact b3d (by unfold x19; simp)
 | succ n ih =>
  intro x out hn hx ho
  have hc : x ≠ 0 := by
   intro e; subst e; rw [y28] at hn; simp at hn
  obtain ⟨j, q, e⟩ := z80 x hc;have ht := z9a (e ▸ hx);have hb := z52 (q := q) ht.1;rw [<- e] at hb ht;have hcl : x &&& (x - 1) = 2 ^ (j + 1) * q := by rw [e]; exact B3s j q
  have hlt : 2 ^ (j + 1) * q < 2 ^ 20 := by rw [<- hcl]; exact Nat.lt_of_le_of_lt Nat.and_le_left hx
  rw [hb] at hn
  have st : x19 ((x : Int), out) = some (.nx (((2 ^ (j + 1) * q : Nat) : Int), out ++ [(j : Int)])) := by
   unfold x19;show (if decide (¬(x : Int) = 0) then _ else _) = _
   rw [if_pos (by simp; omega), u4e vc9, ht.2, bS9, b9k (by simp only [List.length_cons, List.length_nil]; omega), bS9, b3t vc9 vc9, show (x : Int) - 1 = ((x - 1 : Nat) : Int) by omega];rw [show b6y (x : Int) ((x - 1 : Nat) : Int) = ((x &&& (x - 1) : Nat) : Int) from u6m vc9 vc9, hcl]
  rw [w91 st, ih _ _ (by simpa using hn) hlt (by simp; omega), hb];simp
theorem z6j {x : Nat} (hx : x < 2 ^ 20) : s30 (x : Int) = some ((b12 20 x).map fun i : Nat => (i : Int)) := by
 unfold s30;rw [B3u _ x [] rfl hx (by have := y27 (k := 20) (n := x); simp; omega), bS9];rfl
end
end Go.Nw.VM
namespace Go.Nw.VM
open Go.Nw.Tp4
noncomputable section
def b20 : List Int -> List Int -> Bool
 | [], [] => false
 | [], _ :: _ => true
 | _ :: _, [] => false
 | a :: x, b :: y => if a = b then b20 x y else decide (a < b)
theorem z70 (x y : Int) : c12 x y = if x < y then -1 else if y < x then 1 else 0 := by
 unfold c12 s26;by_cases h1 : x < y
 ·simp [h1]
 ·by_cases h2 : y < x <;> simp [h1, h2]
theorem B1z {a b : List Int} (ha : a.length <= 1000) (hb : b.length <= 1000) : ∃ r, x69 a b = some r /\ decide (r < 0) = b20 a b := by
 have hm : (1000 : Nat) <= maxLen := by decide
 have key : ∀ (x y : List Int) (k : Nat), a.drop k = x -> b.drop k = y -> k <= a.length -> k <= b.length -> ∃ r, b0w (l16 a b) (k : Int) = some r /\
   ∃ v, (match r with | .inl () => z5o a b | .inr r' => some r') = some v /\ decide (v < 0) = b20 x y := by
  intro x;induction x with
  | nil =>
   intro y k h1 h2 h3 h4;have hk : k = a.length := by have := List.drop_eq_nil_iff.1 h1; omega
   refine ⟨.inl (), b3d ?_, ?_⟩
   ·unfold l16;have : ¬ (k : Int) < (a.length : Int) := by omega
    simp only [this, decide_false, fT9, if_false]
   ·simp only [z5o]
    cases y with
    | nil =>
     have hk2 := List.drop_eq_nil_iff.1 h2;have : ¬ (a.length : Int) < (b.length : Int) := by omega
     exact ⟨0, by simp [this], by simp [b20]⟩
    | cons c y =>
     have hlt : k < b.length := by
      rcases Nat.lt_or_ge k b.length with h | h
      ·exact h
      ·rw [List.drop_eq_nil_of_le h] at h2; cases h2
     have : (a.length : Int) < (b.length : Int) := by omega
     exact ⟨-1, by simp [this], by simp [b20]⟩
  | cons c x ih =>
   intro y k h1 h2 h3 h4;obtain ⟨g1, g2, g3, _⟩ := g9x h1
   cases y with
   | nil =>
    have hk2 := List.drop_eq_nil_iff.1 h2;refine ⟨.inr 1, b3d ?_, 1, rfl, by simp [b20]⟩;unfold l16;have : (b.length : Int) <= (k : Int) := by omega
    simp only [g2, decide_true, if_true, g1, bS9, this]
   | cons d y =>
    obtain ⟨q1, q2, q3, _⟩ := g9x h2;have hn : ¬ (b.length : Int) <= (k : Int) := by omega
    by_cases e : c = d
    ·subst e
     have hstep : l16 a b (k : Int) = some (.nx ((k + 1 : Nat) : Int)) := by
      unfold l16;simp only [g2, decide_true, if_true, g1, bS9, hn, decide_false, fT9, if_false, q1, z70, Int.lt_irrefl, not_true_eq_false];rw [l23 g2 (Nat.le_trans ha hm)]; rfl
     rw [w91 hstep];have hk1 : k + 1 <= a.length := by omega
     have hk2 : k + 1 <= b.length := by omega
     obtain ⟨r, e1, v, e2, e3⟩ := ih y (k + 1) g3 q3 hk1 hk2;exact ⟨r, e1, v, e2, by rw [e3]; simp [b20]⟩
    ·have hne : ¬ c12 c d = 0 := by
      rw [z70];by_cases z : c < d
      ·simp [z]
      ·have : d < c := by omega
       simp [z, this]
     refine ⟨.inr (c12 c d), b3d ?_, c12 c d, rfl, ?_⟩
     ·unfold l16;simp only [g2, decide_true, if_true, g1, bS9, hn, decide_false, fT9, if_false, q1, hne, not_false_eq_true]
     ·simp only [b20, e, if_false, z70];by_cases z : c < d
      ·simp [z]
      ·have : d < c := by omega
       simp [z, this]
 obtain ⟨r, e1, v, e2, e3⟩ := key a b 0 rfl rfl (Nat.zero_le _) (Nat.zero_le _);refine ⟨v, ?_, e3⟩;unfold x69;rw [show ((0 : Nat) : Int) = 0 from rfl] at e1;rw [e1]
 cases r <;> exact e2
theorem z9v : ∀ a, b20 a a = false
 | [] => rfl
 | a :: x => by simp [b20, z9v x]
theorem z9x : ∀ x y z, b20 x y = true -> b20 y z = true -> b20 x z = true
 | [], [], _, h, _ => by simp [b20] at h
 | [], _ :: _, [], _, h => by simp [b20] at h
 | [], _ :: _, _ :: _, _, _ => rfl
 | _ :: _, [], _, h, _ => by simp [b20] at h
 | _ :: _, _ :: _, [], _, h => by simp [b20] at h
 | a :: x, b :: y, c :: z, h1, h2 => by
  simp only [b20] at h1 h2 ⊢
  by_cases ab : a = b
  ·subst ab;rw [if_pos rfl] at h1;by_cases bc : a = c
   ·rw [if_pos bc] at h2 ⊢; exact z9x x y z h1 h2
   ·rw [if_neg bc] at h2 ⊢; exact h2
  ·rw [if_neg ab] at h1;have g1 := of_decide_eq_true h1;by_cases bc : b = c
   ·subst bc; rw [if_neg ab]; exact h1
   ·rw [if_neg bc] at h2;have g2 := of_decide_eq_true h2;rw [if_neg vc9]; exact decide_eq_true vc9
theorem z9w : ∀ x y z, b20 x y = false -> b20 y z = false -> b20 x z = false
 | [], [], _, _, h => h
 | [], _ :: _, _, h, _ => by simp [b20] at h
 | _ :: _, [], [], _, _ => rfl
 | _ :: _, [], _ :: _, _, h => by simp [b20] at h
 | _ :: _, _ :: _, [], _, _ => rfl
 | a :: x, b :: y, c :: z, h1, h2 => by
  simp only [b20] at h1 h2 ⊢
  by_cases ab : a = b
  ·subst ab;rw [if_pos rfl] at h1;by_cases bc : a = c
   ·rw [if_pos bc] at h2 ⊢; exact z9w x y z h1 h2
   ·rw [if_neg bc] at h2 ⊢; exact h2
  ·rw [if_neg ab] at h1;have g1 := of_decide_eq_false h1;by_cases bc : b = c
   ·subst bc; rw [if_neg ab]; exact h1
   ·rw [if_neg bc] at h2;have g2 := of_decide_eq_false h2;rw [if_neg vc9]; exact decide_eq_false vc9
def b10 (l : List Nat) : List Int := l.map fun i : Nat => (i : Int)
theorem c14 {l : List Nat} : (b10 l).length = l.length := by simp [b10]
theorem z90 {l : List Nat} {k : Nat} {x : Nat} (h : l[k]? = some x) : get (b10 l) (k : Int) = some (x : Int) := b1h (by unfold b10; rw [List.getElem?_map, h]; rfl)
theorem B3x {a b : List Nat} : b10 (a ++ b) = b10 a ++ b10 b := by simp [b10]
def ltS (x y : Int) : Bool := b20 (b10 (b12 20 x.toNat)) (b10 (b12 20 y.toNat))
theorem B4d : Go.Sort.SWO ltS := ⟨fun _ => z9v _, fun _ _ _ => z9x _ _ _, fun _ _ _ => z9w _ _ _⟩
def InS (x : Int) : Prop := 0 <= x /\ x < 2 ^ 20
theorem B1y : z9d InS (fun z0 z1 => c71 z0 z1) ltS := by
 intro x y hx hy;obtain ⟨a, rfl⟩ : ∃ a : Nat, x = a := ⟨x.toNat, by have := hx.1; omega⟩;obtain ⟨b, rfl⟩ : ∃ b : Nat, y = b := ⟨y.toNat, by have := hy.1; omega⟩;have ha : a < 2 ^ 20 := by have := hx.2; omega
 have hb : b < 2 ^ 20 := by have := hy.2; omega
 have la : (b10 (b12 20 a)).length <= 1000 := by rw [c14]; have := y27 (k := 20) (n := a); omega
 have lb : (b10 (b12 20 b)).length <= 1000 := by rw [c14]; have := y27 (k := 20) (n := b); omega
 obtain ⟨r, h1, h2⟩ := B1z la lb;refine ⟨r, ?_, ?_⟩
 ·show c71 (a : Int) (b : Int) = some r
  unfold c71;rw [z6j ha, bS9, z6j hb, bS9];rw [show x69 ((b12 20 a).map fun i : Nat => (i : Int)) ((b12 20 b).map fun i : Nat => (i : Int)) = some r from h1]; rfl
 ·show b20 (b10 (b12 20 ((a : Int).toNat))) (b10 (b12 20 ((b : Int).toNat))) = _
  rw [Int.toNat_natCast, Int.toNat_natCast, h2]
end
end Go.Nw.VM
namespace Go.Nw.VM
open Go.Nw.Tp4
noncomputable section
def onB (b : Nat) (a : List Nat) : Bool := a.any fun k => b.testBit k
def b31 (A : List (List Nat)) (seen : List Bool) (b i : Nat) : Bool := (onB b (A.getD i [])) != seen.getD i false
def exN (P : Nat) (A : List (List Nat)) (seen : List Bool) (b : Nat) : Nat -> Nat
 | 0 => b
 | k + 1 => if b31 A seen b k then exN P A seen b k ||| 2 ^ (P + k) else exN P A seen b k
theorem B13 {P : Nat} {A : List (List Nat)} {seen : List Bool} {b k : Nat} : exN P A seen b (k + 1) = if b31 A seen b k then exN P A seen b k ||| 2 ^ (P + k) else exN P A seen b k := rfl
theorem z71 {P : Nat} {A : List (List Nat)} {seen : List Bool} {b : Nat} (hb : b < 2 ^ P) : ∀ k, exN P A seen b k < 2 ^ (P + k)
 | 0 => hb
 | k + 1 => by
  have h := z71 (A := A) (seen := seen) hb k;have hp := Nat.pow_lt_pow_right (show 1 < 2 by omega) (show P + k < P + (k + 1) by omega);unfold exN;split
  ·exact Nat.or_lt_two_pow vc9 hp
  ·omega
theorem s79 {P : Nat} {A : List (List Nat)} {seen : List Bool} {b : Nat} (hb : b < 2 ^ P) (i : Nat) : ∀ k, (exN P A seen b k).testBit i = if i < P then b.testBit i else decide (i - P < k) && b31 A seen b (i - P)
 | 0 => by
  unfold exN;split
  ·rfl
  ·rename_i h;rw [Nat.testBit_lt_two_pow (Nat.lt_of_lt_of_le hb (Nat.pow_le_pow_right vc9 vc9))]; simp
 | k + 1 => by
  have h := s79 (A := A) (seen := seen) hb i k;unfold exN;by_cases c : i < P
  ·rw [if_pos c] at h ⊢
   split
   ·rw [Nat.testBit_or, h, Nat.testBit_two_pow]; have : ¬ P + k = i := by omega
    simp [this]
   ·exact h
  ·rw [if_neg c] at h ⊢
   by_cases e : i - P = k
   ·have e2 : i = P + k := by omega
    have h0 : ¬ i - P < k := by omega
    have h1 : i - P < k + 1 := by omega
    rw [decide_eq_true h1, Bool.true_and, e];split
    ·rename_i hm; rw [Nat.testBit_or, Nat.testBit_two_pow, e2, hm]; simp
    ·rename_i hm; rw [h, decide_eq_false h0]; simpa using hm
   ·have h2 : decide (i - P < k + 1) = decide (i - P < k) := by congr 1; simp only [eq_iff_iff]; omega
    rw [h2];split
    ·rw [Nat.testBit_or, h, Nat.testBit_two_pow]; have : ¬ P + k = i := by omega
     simp [this]
    ·exact h
structure OkAl (P : Nat) (A : List (List Nat)) : Prop where
 p : P <= 10
 n : A.length <= 10
 lt : ∀ a ∈ A, ∀ k ∈ a, k < P
 asc : ∀ a ∈ A, a.Pairwise (· < ·)
 len : ∀ a ∈ A, a.length <= 20
section
variable {P : Nat} {A : List (List Nat)} {seen : List Bool} (hA : OkAl P A) (hs : seen.length = A.length)
include hA
theorem B31 {b : Nat} (hb : b < 2 ^ P) {a : List Nat} (ha : a ∈ A) : b45 (b10 a) (fun z12 => c28 z12 (b : Int)) = some (onB b a) := by
 have hp := hA.p;have hq := Nat.pow_le_pow_right (n := 2) (show 0 < 2 by omega) hp
 obtain ⟨r, h1, h2⟩ := c20 (g := b45 (b10 a) (fun z12 => c28 z12 (b : Int))) (s := b10 a) (f := fun z12 => c28 z12 (b : Int)) (p := fun x => ∃ k : Nat, x = k /\ b.testBit k = true) rfl
  (by rw [c14]; exact Nat.le_trans (hA.len a ha) (by decide)) (fun x hx => by
   obtain ⟨k, hk, rfl⟩ := List.mem_map.1 hx;have hkP := hA.lt a ha k hk
   refine ⟨b.testBit k, ?_, ⟨fun h => ⟨k, rfl, h⟩, fun ⟨k', e, h⟩ => by have : k = k' := by omega
                                                                        subst this; exact h⟩⟩
   show c28 (k : Int) (b : Int) = _
   unfold c28;rw [g29 vc9, bS9, u6r vc9 vc9]
   cases b.testBit k <;> rfl)
 rw [h1];congr 1
 have e : onB b a = true ↔ r = true := by
  rw [h2];unfold onB;rw [List.any_eq_true];constructor
  ·rintro ⟨k, hk, h⟩; exact ⟨(k : Int), List.mem_map.2 ⟨k, hk, rfl⟩, k, rfl, h⟩
  ·rintro ⟨x, hx, k, rfl, h⟩;obtain ⟨k', hk', e⟩ := List.mem_map.1 hx;have : k' = k := by omega
   subst this; exact ⟨k', hk', h⟩
 cases r <;> cases h : onB b a <;> simp_all
include hs
theorem B14 {b : Nat} (hb : b < 2 ^ P) : z27 ⟨(P : Int), A.map b10⟩ seen (b : Int) = some ((exN P A seen b A.length : Nat) : Int) := by
 have hp := hA.p;have hn := hA.n
 have h := j7z (f := z49 ⟨(P : Int), A.map b10⟩ seen (b : Int)) A.length (fun s k => (s, k)) (fun k => ((exN P A seen b k : Nat) : Int)) ((exN P A seen b A.length : Nat) : Int) (fun k hk => by
   obtain ⟨a, ha⟩ := b3b hk;obtain ⟨sb, hsb⟩ := b3b (show k < seen.length by omega);have hlt := z71 (A := A) (seen := seen) hb k;have hq := Nat.pow_le_pow_right (n := 2) (show 0 < 2 by omega) (show P + k <= 20 by omega);unfold z49;show (if decide ((k : Int) < ((A.map b10).length : Int)) then _ else _) = _
   rw [if_pos (by simp; exact hk)];have hg : get (A.map b10) (k : Int) = some (b10 a) := b1h (by rw [List.getElem?_map, ha]; rfl);simp only [hg, bS9, B31 hA hb (mG9 ha), b1h hsb]
   have em : b31 A seen b k = (onB b a != sb) := by
    unfold b31; rw [List.getD_eq_getElem?_getD, List.getD_eq_getElem?_getD, ha, hsb]; rfl
   have ew : wr ((P : Int) + (k : Int)) = ((P + k : Nat) : Int) := by rw [b3t vc9 vc9]; omega
   have eb : (!(b5c (onB b a) sb)) = b31 A seen b k := by rw [em]; cases onB b a <;> cases sb <;> rfl
   rw [eb];have ek : wr ((k : Int) + 1) = (k : Int) + 1 := b3t vc9 vc9;show _ = some (Out.nx (((exN P A seen b (k + 1) : Nat) : Int), (k : Int) + 1))
   rw [B13]
   cases b31 A seen b k with
   | true =>
    simp only [if_true];rw [ew, u1e vc9, bS9];unfold x12;rw [ek, u22 vc9 (by have := u3z (y := P + k) vc9; omega)]
   | false =>
    simp only [fT9, if_false];unfold x12
    rw [ek])
  (by unfold z49; simp)
 unfold z27;rw [show ((exN P A seen b 0 : Nat) : Int) = (b : Int) from rfl] at h;rw [h]; rfl
theorem B33 : z5a ⟨(P : Int), A.map b10⟩ seen = some 0 := by
 have hp := hA.p;have hn := hA.n
 have inner : ∀ a ∈ A, b0w (x21 ⟨(P : Int), A.map b10⟩ (b10 a)) (-1, 0) = some (.inl ()) := by
  intro a ha;have hlen := hA.len a ha;have asc := List.pairwise_iff_getElem.1 (hA.asc a ha)
  obtain ⟨b, e, rfl⟩ := j7u (f := x21 ⟨(P : Int), A.map b10⟩ (b10 a)) a.length (fun s k => (s, k)) (fun k s => -1 <= s /\ s <= 10 /\ ∀ j x, k <= j -> a[j]? = some x -> s < (x : Int)) (fun b => b = Sum.inl ()) (fun s k hk hi => by
    obtain ⟨h1, h2, h3⟩ := hi;obtain ⟨x, hx⟩ := b3b hk;have hxP := hA.lt a ha x (mG9 hx);have h4 := h3 k x (Nat.le_refl _) hx;refine .inl ⟨(x : Int), ?_, by omega, by omega, fun j y hj hy => ?_⟩
    ·unfold x21;show (if decide ((k : Int) < ((b10 a).length : Int)) then _ else _) = _
     rw [if_pos (by rw [c14]; simp; exact hk)];simp only [z90 hx, bS9];rw [b3t (n := s + 1) vc9 vc9, b3t (n := (P : Int) - 1) vc9 vc9]
     have : c19 (x : Int) (s + 1) ((P : Int) - 1) = true := by
      unfold c19; rw [decide_eq_true vc9, decide_eq_true vc9]; rfl
     rw [this, b3t (n := (k : Int) + 1) vc9 vc9]; rfl
    ·have hjl := b1k hy
     have hkl := b1k hx;have := asc k j hkl hjl vc9;rw [gG9 hkl] at hx;rw [gG9 hjl] at hy;have e1 := Option.some.inj hx;have e2 := Option.some.inj hy
     omega)
   (fun s hi => ⟨_, by
    unfold x21;show (if decide ((a.length : Int) < ((b10 a).length : Int)) then _ else _) = _
    rw [if_neg (by rw [c14]; simp)], rfl⟩) (s := -1) 0 (Nat.zero_le _) ⟨by omega, by omega, fun j x _ _ => by omega⟩
  exact e
 have outer := b4h (f := z5b ⟨(P : Int), A.map b10⟩) A.length (fun (_ : Unit) k => k) (fun _ => ()) (Sum.inl () : Unit ⊕ Int) (s0 := ()) rfl (fun k hk => by
   obtain ⟨a, ha⟩ := b3b hk;unfold z5b;show (if decide ((k : Int) < ((A.map b10).length : Int)) then _ else _) = _
   rw [if_pos (by simp; exact hk)];have hg : get (A.map b10) (k : Int) = some (b10 a) := b1h (by rw [List.getElem?_map, ha]; rfl);simp only [hg, bS9, inner a (mG9 ha)];unfold z54
   rw [b3t (n := (k : Int) + 1) vc9 vc9])
  (by unfold z5b; simp)
 unfold z5a;have e1 : c19 (P : Int) 0 10 = true := by unfold c19; rw [decide_eq_true vc9, decide_eq_true vc9]; rfl
 have e2 : ¬ (10 : Int) < ((A.map b10).length : Int) := by rw [List.length_map]; omega
 simp only [e1, e2, Bool.not_true, decide_false, Bool.or_self, fT9, if_false, outer, bS9];unfold z55;simp only [List.length_map, hs, not_true_eq_false, decide_false, fT9, if_false]
end
def b14 (s : Nat) : Nat := (b12 20 s).length
def s39 : List Nat -> Nat -> List Nat
 | [], s => [s]
 | x :: xs, s => if b14 s < b14 x then [s] else if b14 s = b14 x then (x :: xs) ++ [s] else x :: xs
theorem z88 {x s : Nat} {xs : List Nat} : s39 (x :: xs) s = if b14 s < b14 x then [s] else if b14 s = b14 x then (x :: xs) ++ [s] else x :: xs := rfl
def b22 (f : Nat -> Nat) : Nat -> List Nat
 | 0 => []
 | i + 1 => s39 (b22 f i) (f i)
theorem B4c (l : List Nat) (s : Nat) : (s39 l s).length <= l.length + 1 := by
 cases l with
 | nil => simp [s39]
 | cons x xs =>
  rw [z88];by_cases c : b14 s < b14 x
  ·rw [if_pos c]; simp
  ·rw [if_neg c];by_cases d : b14 s = b14 x
   ·rw [if_pos d]; simp
   ·rw [if_neg d]; simp
theorem z9z (f : Nat -> Nat) : ∀ i, (b22 f i).length <= i
 | 0 => by simp [b22]
 | i + 1 => by have := z9z f i; have := B4c (b22 f i) (f i); unfold b22; omega
theorem z6c (f : Nat -> Nat) : ∀ i, ∃ m, b22 f (i + 1) = ((List.range (i + 1)).map f).filter (fun s => decide (b14 s = m)) /\ (∀ j, j < i + 1 -> m <= b14 (f j)) /\ ∃ j, j < i + 1 /\ b14 (f j) = m
 | 0 => ⟨b14 (f 0), by simp [b22, s39], fun j hj => by rw [show j = 0 by omega]; exact Nat.le_refl _, 0, by omega, rfl⟩
 | i + 1 => by
  obtain ⟨m, h1, h2, j0, hj0, h3⟩ := z6c f i;have hmem : f j0 ∈ b22 f (i + 1) := by rw [h1, List.mem_filter]; exact ⟨List.mem_map.2 ⟨j0, List.mem_range.2 hj0, rfl⟩, by simp [h3]⟩
  have hall : ∀ x ∈ b22 f (i + 1), b14 x = m := fun x hx => by rw [h1, List.mem_filter] at hx; simpa using hx.2
  have e : b22 f (i + 1 + 1) = s39 (b22 f (i + 1)) (f (i + 1)) := rfl;rw [List.range_succ, List.map_append, e]
  cases hl : b22 f (i + 1) with
  | nil => rw [hl] at hmem; cases hmem
  | cons x xs =>
   have hx := hall x (by rw [hl]; exact List.mem_cons_self);rw [z88, hx];by_cases c : b14 (f (i + 1)) < m
   ·refine ⟨b14 (f (i + 1)), ?_, fun j hj => ?_, i + 1, by omega, rfl⟩
    ·rw [if_pos c, List.filter_append]
     have : ((List.range (i + 1)).map f).filter (fun s => decide (b14 s = b14 (f (i + 1)))) = [] := by
      rw [List.filter_eq_nil_iff];intro s hs;obtain ⟨j, hj, rfl⟩ := List.mem_map.1 hs;have := h2 j (List.mem_range.1 hj);simp; omega
     rw [this]; simp
    ·by_cases z : j = i + 1
     ·rw [z]; exact Nat.le_refl _
     ·have := h2 j vc9; omega
   ·rw [if_neg c];refine ⟨m, ?_, fun j hj => ?_, j0, by omega, h3⟩
    ·rw [List.filter_append, <- h1, hl];by_cases g : b14 (f (i + 1)) = m
     ·rw [if_pos g]; simp [g]
     ·rw [if_neg g]; simp [g]
    ·by_cases z : j = i + 1
     ·rw [z]; omega
     ·exact h2 j vc9
section
variable {P : Nat} {A : List (List Nat)} {seen : List Bool} (hA : OkAl P A) (hs : seen.length = A.length)
def fA (P : Nat) (A : List (List Nat)) (seen : List Bool) (i : Nat) : Nat := exN P A seen i A.length
include hA
theorem s93 {i : Nat} (hi : i < 2 ^ P) : fA P A seen i < 2 ^ 20 := by
 have h := z71 (A := A) (seen := seen) hi A.length;have hp := hA.p;have hn := hA.n;exact Nat.lt_of_lt_of_le h (Nat.pow_le_pow_right vc9 vc9)
include hs
theorem B16 : b0w (x17 ⟨(P : Int), A.map b10⟩ seen ((2 ^ P : Nat) : Int)) ([], 0) = some (b10 (b22 (fA P A seen) (2 ^ P))) := by
 have hp := hA.p;have hq := Nat.pow_le_pow_right (n := 2) (show 0 < 2 by omega) hp;refine b4h (f := x17 ⟨(P : Int), A.map b10⟩ seen ((2 ^ P : Nat) : Int)) (2 ^ P) (fun s k => (s, k)) (fun k => b10 (b22 (fA P A seen) k)) _ (s0 := []) rfl (fun k hk => ?_) (by unfold x17; simp);have ek : wr ((k : Int) + 1) = (k : Int) + 1 := b3t vc9 vc9;have hlt := s93 (seen := seen) hA hk
 have hall : ∀ x ∈ b22 (fA P A seen) k, x < 2 ^ 20 := by
  intro x hx
  cases k with
  | zero => cases hx
  | succ k =>
   obtain ⟨m, h1, _, _⟩ := z6c (fA P A seen) k;rw [h1, List.mem_filter] at hx;obtain ⟨j, hj, rfl⟩ := List.mem_map.1 hx.1;exact s93 hA (by have := List.mem_range.1 hj; omega)
 have hlen := z9z (fA P A seen) k;unfold x17;show (if decide ((k : Int) < ((2 ^ P : Nat) : Int)) then _ else _) = _
 rw [if_pos (by simp only [decide_eq_true_eq]; omega), B14 hA hs hk, bS9, ek];show _ = some (Out.nx (b10 (s39 (b22 (fA P A seen) k) (fA P A seen k)), (k : Int) + 1))
 have hfa : ((exN P A seen k A.length : Nat) : Int) = ((fA P A seen k : Nat) : Int) := rfl;rw [hfa]
 cases hl : b22 (fA P A seen) k with
 | nil => rfl
 | cons x xs =>
  have hx := hall x (by rw [hl]; exact List.mem_cons_self);rw [hl] at hlen
  show ((l13 (IntKind.wrap .u64 ((fA P A seen k : Nat) : Int))).bind fun c1 => (l13 (IntKind.wrap .u64 (x : Int))).bind fun c2 => if decide (c1 < c2) then some (Out.nx ([((fA P A seen k : Nat) : Int)], (k : Int) + 1))
    else if decide (c1 = c2) then (ap 8 (b10 (x :: xs)) [((fA P A seen k : Nat) : Int)]).bind fun l2 => some (.nx (l2, (k : Int) + 1)) else some (.nx (b10 (x :: xs), (k : Int) + 1))) = _
  rw [u4e vc9, u4e vc9, z92 hlt, z92 hx, bS9, bS9];have c1 : (((b12 20 (fA P A seen k)).length : Int) < ((b12 20 x).length : Int)) ↔ b14 (fA P A seen k) < b14 x := by unfold b14; omega
  have c2 : (((b12 20 (fA P A seen k)).length : Int) = ((b12 20 x).length : Int)) ↔ b14 (fA P A seen k) = b14 x := by unfold b14; omega
  rw [z88];simp only [c1, c2];by_cases g : b14 (fA P A seen k) < b14 x
  ·simp only [g, decide_true, if_true]; rfl
  ·simp only [g, decide_false, fT9, if_false];by_cases g2 : b14 (fA P A seen k) = b14 x
   ·simp only [g2, decide_true, if_true];rw [b9k (by rw [c14]; simp only [List.length_cons, List.length_nil] at hlen ⊢; omega), bS9, B3x]; rfl
   ·simp only [g2, decide_false, fT9, if_false]
end
end
end Go.Nw.VM
namespace Go.Nw.VM
open Go.Nw.Tp4
noncomputable section
theorem B4b {l : List Nat} (h0 : l ≠ []) (h12 : l.length <= 12) (hl : ∀ x ∈ l, x < 2 ^ 20) : ∃ r, z5q (b10 l) (fun z0 z1 => c71 z0 z1) = some r /\ r.Perm (b10 l) := by
 have hd : ∀ i, i < (b10 l).toArray.size -> InS (b10 l).toArray[i]! := by
  intro i hi;have hi' : i < l.length := by simpa [b10] using hi
  have : (b10 l).toArray[i]! = ((l[i] : Nat) : Int) := by
   rw [getElem!_pos _ i hi]; simp [b10]
  rw [this];have := hl l[i] (List.getElem_mem hi');exact ⟨by omega, by omega⟩
 obtain ⟨e1, e2, e3⟩ := B3g B1y 0 (b10 l).toArray.size (b10 l).toArray hd (Nat.le_refl _) (Nat.zero_le _) (by simp [b10]; omega);obtain ⟨⟨p1, p2, p3⟩, _⟩ := Go.Sort.insertionSort_holds B4d (b10 l).toArray 0 (b10 l).toArray.size (Nat.zero_le _) (Nat.le_refl _);refine ⟨(Go.Sort.insertionSort ltS (b10 l).toArray 0 (b10 l).toArray.size).toList, ?_, ?_⟩
 ·unfold z5q
  have hp : 0 < (b10 l).length /\ (b10 l).length <= 12 := by
   rw [c14];exact ⟨List.length_pos_iff.2 h0, h12⟩
  rw [if_pos hp];rw [<- e1]; rfl
 ·have q1 : ∀ (a : Array Int) (n : Nat), a.size = n -> a.extract 0 n = a := fun a n h => by subst h; simp
  rw [q1 _ _ p1, q1 _ _ rfl] at p3;exact p3
section
variable {P : Nat} {A : List (List Nat)} {seen : List Bool} (hA : OkAl P A) (hs : seen.length = A.length)
include hA hs
theorem B17 (h12 : (b22 (fA P A seen) (2 ^ P)).length <= 12) : ∃ r, x16 ⟨(P : Int), A.map b10⟩ seen = some r /\ r.Perm (b10 (b22 (fA P A seen) (2 ^ P))) := by
 have hp := hA.p;have hq := Nat.two_pow_pos P;obtain ⟨m, h1, _, j, hj, hj2⟩ := z6c (fA P A seen) (2 ^ P - 1);rw [show 2 ^ P - 1 + 1 = 2 ^ P by omega] at h1 hj
 have hin : ∀ x ∈ b22 (fA P A seen) (2 ^ P), x < 2 ^ 20 := by
  intro x hx;rw [h1, List.mem_filter] at hx;obtain ⟨i, hi, rfl⟩ := List.mem_map.1 hx.1;exact s93 hA (List.mem_range.1 hi)
 have hne : b22 (fA P A seen) (2 ^ P) ≠ [] := by
  intro e;have : fA P A seen j ∈ b22 (fA P A seen) (2 ^ P) := by rw [h1, List.mem_filter]; exact ⟨List.mem_map.2 ⟨j, List.mem_range.2 hj, rfl⟩, by simp [hj2]⟩
  rw [e] at this; cases this
 obtain ⟨r, e1, e2⟩ := B4b hne h12 hin;refine ⟨r, ?_, e2⟩;unfold x16;show (shl .i64 1 (P : Int)).bind _ = _
 rw [u1e vc9, bS9, B16 hA hs, bS9, e1]
theorem B0u {l : List Nat} {r : List Int} (hf : x16 ⟨(P : Int), A.map b10⟩ seen = some r) (hr : r.Perm (b10 l)) (hl : ∀ x ∈ l, x < 2 ^ 20) (hn : l.length <= 2000) :
  ∃ q, s94 ⟨(P : Int), A.map b10⟩ seen = some (q, 0) /\ q.Perm (l.map fun s => b10 (b12 20 s)) := by
 have hrl : r.length = l.length := by rw [hr.length_eq, c14]
 have hmem : ∀ x ∈ r, ∃ s : Nat, s < 2 ^ 20 /\ x = (s : Int) := fun x hx => by
  obtain ⟨s, hs, rfl⟩ := List.mem_map.1 (hr.mem_iff.1 hx);exact ⟨s, hl s hs, rfl⟩
 have hloop := b4h (f := z26 r) r.length (fun s k => (s, k)) (fun k => (r.take k).map fun x => b10 (b12 20 x.toNat)) (r.map fun x => b10 (b12 20 x.toNat)) (s0 := []) (by simp) (fun k hk => by
   obtain ⟨x, hx⟩ := b3b hk;obtain ⟨s, hs, rfl⟩ := hmem x (mG9 hx);unfold z26;show (if decide ((k : Int) < (r.length : Int)) then _ else _) = _
   rw [if_pos (by simp; exact hk), b1h hx, bS9, z6j hs, bS9, b9k (by simp only [List.length_map, List.length_take, List.length_cons, List.length_nil]; omega), bS9, b3t vc9 vc9];rw [show r.take (k + 1) = r.take k ++ [(s : Int)] by rw [List.take_succ, hx]; rfl, List.map_append]
   rfl)
  (by unfold z26; simp)
 refine ⟨r.map fun x => b10 (b12 20 x.toNat), ?_, ?_⟩
 ·unfold s94;rw [B33 hA hs, bS9, hf, bS9, hloop]; rfl
 ·have := hr.map fun x : Int => b10 (b12 20 x.toNat)
  refine this.trans (List.Perm.of_eq ?_);unfold b10;rw [List.map_map]; rfl
end
theorem z83 {j : Nat} (h : j < 20) : b12 20 (2 ^ j) = [j] := by
 have := z52 (j := j) (q := 0) (k := 20) h;rw [show 2 ^ j * (2 * 0 + 1) = 2 ^ j by omega, show 2 ^ (j + 1) * 0 = 0 by omega, y28] at this;exact this
theorem z5j {s : Nat} (hs : s < 2 ^ 20) (h : b14 s = 0) : s = 0 := by
 apply Classical.byContradiction; intro hc;obtain ⟨j, q, e⟩ := z80 s hc;subst e;unfold b14 at h;rw [z52 (z9a hs).1] at h;simp at h
theorem B15 : ((List.range 11).all fun P => decide (((List.range (2 ^ P)).countP fun i => decide (b14 i <= 1)) <= 11)) = true := by decide +kernel
section
variable {P : Nat} {A : List (List Nat)} {sw : Nat} (hA : OkAl P A) (hsw : sw < P)
def b16 (A : List (List Nat)) (sw : Nat) : List Bool := A.map fun a => a.contains sw
include hA hsw
theorem z91 : fA P A (b16 A sw) (2 ^ sw) = 2 ^ sw := by
 have hlt : 2 ^ sw < 2 ^ P := Nat.pow_lt_pow_right vc9 hsw;apply Nat.eq_of_testBit_eq;intro i;unfold fA;rw [s79 hlt i];split
 ·rfl
 ·rename_i c
  have hm : b31 A (b16 A sw) (2 ^ sw) (i - P) = false := by
   unfold b31 b16 onB;rw [List.getD_eq_getElem?_getD, List.getD_eq_getElem?_getD, List.getElem?_map]
   cases A[i - P]? with
   | none => rfl
   | some a =>
    show ((a.any fun k => (2 ^ sw).testBit k) != a.contains sw) = false
    have : (a.any fun k => (2 ^ sw).testBit k) = a.contains sw := by
     rw [List.contains_eq_any_beq];congr 1; funext k; rw [Nat.testBit_two_pow];by_cases e : sw = k <;> simp [e]
    rw [this]; simp
  rw [hm, Nat.testBit_lt_two_pow (Nat.lt_of_lt_of_le hlt (Nat.pow_le_pow_right vc9 vc9))]; simp
theorem z82 {i : Nat} (hi : i < 2 ^ P) (seen : List Bool) : b14 i <= b14 (fA P A seen i) := by
 unfold b14 b12;rw [<- List.countP_eq_length_filter, <- List.countP_eq_length_filter];refine List.countP_mono_left fun j hj h => ?_;unfold fA;rw [s79 hi j];split
 ·exact h
 ·rename_i c;rw [Nat.testBit_lt_two_pow (Nat.lt_of_lt_of_le hi (Nat.pow_le_pow_right vc9 vc9))] at h; cases h
theorem B0i : ∃ q, s94 ⟨(P : Int), A.map b10⟩ (b16 A sw) = some (q, 0) /\ q ≠ [] /\ q.length <= 2000 /\
  ((∃ a ∈ A, sw ∈ a) -> (∀ x ∈ q, ∃ j : Nat, x = [(j : Int)]) /\ [(sw : Int)] ∈ q) /\ ((∀ a ∈ A, ¬ sw ∈ a) -> ∀ x ∈ q, x = []) := by
 have hp := hA.p;have hq := Nat.two_pow_pos P;have hs : (b16 A sw).length = A.length := by simp [b16]
 have hlt : 2 ^ sw < 2 ^ P := Nat.pow_lt_pow_right vc9 hsw;obtain ⟨m, h1, h2, j, hj, hj2⟩ := z6c (fA P A (b16 A sw)) (2 ^ P - 1);rw [show 2 ^ P - 1 + 1 = 2 ^ P by omega] at h1 hj h2
 have hm1 : m <= 1 := by
  have := h2 (2 ^ sw) hlt;rw [z91 hA hsw] at this;unfold b14 at this;rw [z83 vc9] at this;exact this
 have h12 : (b22 (fA P A (b16 A sw)) (2 ^ P)).length <= 11 := by
  rw [h1, <- List.countP_eq_length_filter, List.countP_map];refine Nat.le_trans (List.countP_mono_left (q := fun i => decide (b14 i <= 1)) fun i hi h => ?_) (of_decide_eq_true (List.all_eq_true.1 B15 P (List.mem_range.2 vc9)));have h := of_decide_eq_true h;have := z82 hA hsw (List.mem_range.1 hi) (b16 A sw);exact decide_eq_true vc9
 have hin : ∀ x ∈ b22 (fA P A (b16 A sw)) (2 ^ P), x < 2 ^ 20 /\ b14 x = m := by
  intro x hx;rw [h1, List.mem_filter] at hx;obtain ⟨i, hi, rfl⟩ := List.mem_map.1 hx.1;exact ⟨s93 hA (List.mem_range.1 hi), by simpa using hx.2⟩
 have hjm : fA P A (b16 A sw) j ∈ b22 (fA P A (b16 A sw)) (2 ^ P) := by rw [h1, List.mem_filter]; exact ⟨List.mem_map.2 ⟨j, List.mem_range.2 hj, rfl⟩, by simp [hj2]⟩
 obtain ⟨r, e1, e2⟩ := B17 hA hs vc9;obtain ⟨q, e3, e4⟩ := B0u hA hs e1 e2 (fun x hx => (hin x hx).1) vc9;refine ⟨q, e3, ?_, by rw [e4.length_eq, List.length_map]; omega, fun hsome => ⟨?_, ?_⟩, fun hno => ?_⟩
 ·intro e; rw [e] at e4;have := e4.length_eq;rw [List.length_map] at this;have := List.length_pos_of_mem hjm;simp at *; omega
 ·have hm : m = 1 := by
   apply Classical.byContradiction; intro hc;have hm0 : m = 0 := by omega
   have hz := z5j (s93 hA hj) (by rw [hj2, hm0])
   have hj0 : j = 0 := by
    have := z82 hA hsw hj (b16 A sw);exact z5j (Nat.lt_of_lt_of_le hj (Nat.pow_le_pow_right vc9 vc9)) vc9
   obtain ⟨a, ha, hsa⟩ := hsome;obtain ⟨k, hk, hka⟩ := List.getElem_of_mem ha;have hb := s79 (A := A) (seen := b16 A sw) hj (P + k) A.length;rw [if_neg vc9, show P + k - P = k by omega] at hb;unfold fA at hz;rw [hz, hj0] at hb
   have hmis : b31 A (b16 A sw) 0 k = true := by
    unfold b31 b16 onB;rw [List.getD_eq_getElem?_getD, List.getD_eq_getElem?_getD, List.getElem?_map, gG9 hk, hka];show ((a.any fun k => (0 : Nat).testBit k) != a.contains sw) = true
    have h1 : (a.any fun k => (0 : Nat).testBit k) = false := by rw [List.any_eq_false]; simp
    have h2 : a.contains sw = true := by simpa using hsa
    rw [h1, h2]; rfl
   rw [hmis, decide_eq_true hk] at hb;simp at hb
  intro x hx;obtain ⟨s, hs', rfl⟩ := List.mem_map.1 (e4.mem_iff.1 hx);have hpm := (hin s hs').2;rw [hm] at hpm;unfold b14 at hpm;obtain ⟨k, hk⟩ := List.length_eq_one_iff.1 hpm;exact ⟨k, by rw [hk]; rfl⟩
 ·have hone := z91 hA hsw
  have hm : m = 1 \/ m = 0 := by omega
  have hsm : b14 (2 ^ sw) = m := by
   have hp1 : b14 (2 ^ sw) = 1 := by unfold b14; rw [z83 vc9]; rfl
   rcases hm with hm | hm
   ·rw [hp1, hm]
   ·exfalso;have hz := z5j (s93 hA hj) (by rw [hj2, hm])
    have hj0 : j = 0 := by
     have := z82 hA hsw hj (b16 A sw);exact z5j (Nat.lt_of_lt_of_le hj (Nat.pow_le_pow_right vc9 vc9)) vc9
    obtain ⟨a, ha, hsa⟩ := hsome;obtain ⟨k, hk, hka⟩ := List.getElem_of_mem ha;have hb := s79 (A := A) (seen := b16 A sw) hj (P + k) A.length;rw [if_neg vc9, show P + k - P = k by omega] at hb;unfold fA at hz;rw [hz, hj0] at hb
    have hmis : b31 A (b16 A sw) 0 k = true := by
     unfold b31 b16 onB;rw [List.getD_eq_getElem?_getD, List.getD_eq_getElem?_getD, List.getElem?_map, gG9 hk, hka];show ((a.any fun k => (0 : Nat).testBit k) != a.contains sw) = true
     have h1 : (a.any fun k => (0 : Nat).testBit k) = false := by rw [List.any_eq_false]; simp
     have h2 : a.contains sw = true := by simpa using hsa
     rw [h1, h2]; rfl
    rw [hmis, decide_eq_true hk] at hb;simp at hb
  have hin1 : 2 ^ sw ∈ b22 (fA P A (b16 A sw)) (2 ^ P) := by
   rw [h1, List.mem_filter];exact ⟨List.mem_map.2 ⟨2 ^ sw, List.mem_range.2 hlt, hone⟩, by simp [hsm]⟩
  refine e4.mem_iff.2 (List.mem_map.2 ⟨2 ^ sw, hin1, ?_⟩);rw [z83 vc9]; rfl
 ·have hz0 : fA P A (b16 A sw) 0 = 0 := by
   apply Nat.eq_of_testBit_eq;intro i;unfold fA;rw [s79 hq i];split
   ·rfl
   ·have hm : b31 A (b16 A sw) 0 (i - P) = false := by
     unfold b31 b16 onB;rw [List.getD_eq_getElem?_getD, List.getD_eq_getElem?_getD, List.getElem?_map]
     cases hx : A[i - P]? with
     | none => rfl
     | some a =>
      show ((a.any fun k => (0 : Nat).testBit k) != a.contains sw) = false
      have h1 : (a.any fun k => (0 : Nat).testBit k) = false := by rw [List.any_eq_false]; simp
      have h2 : a.contains sw = false := by simpa using hno a (mG9 hx)
      rw [h1, h2]; rfl
    rw [hm]; simp
  have hm : m = 0 := by
   have := h2 0 hq;rw [hz0] at this;unfold b14 at this;rw [y28] at this;exact Nat.le_zero.1 this
  intro x hx;obtain ⟨s, hs', rfl⟩ := List.mem_map.1 (e4.mem_iff.1 hx);have hpm := hin s hs';rw [hm] at hpm;rw [z5j hpm.1 hpm.2, y28]; rfl
end
end
end Go.Nw.VM
namespace Go.Nw.VM
noncomputable section
theorem B4l {k n : Nat} (h : k < n) (hn : n < 4611686018427387904) : wr ((k : Int) + 1) = (k : Int) + 1 := b3t vc9 vc9
def inR (n : Int) (k : Nat) : Bool := decide (0 <= n) && decide (n < 2 ^ k)
theorem B0l {c : Circuit} (hc : OkC c) (h : c.Switches.length <= 20 /\ c.Wires.length <= 40) :
  (b68 c = some 0 /\ c27 c = some 0 /\ Valid c) \/ (b68 c = some 30 /\ c27 c = some 30) := by
 obtain ⟨r, e1, e2, e3, e4⟩ := B0m hc vc9 vc9;rcases e3 with rfl | rfl
 ·exact .inl ⟨e1, e2, e4 rfl⟩
 ·exact .inr ⟨e1, e2⟩
section
variable {c : Circuit} (hc : OkC c) (hv : Valid c)
include hc hv
theorem B3i (n : Int) : s25 n c.Hazards = some (inR n c.Hazards.toNat) := by
 have h1 := hv.hz;exact z9u vc9 vc9
theorem B35 (n : Int) : x63 c n = some (inR n c.Hazards.toNat) := by
 have h1 := hv.hz;exact B3c vc9 vc9
end
def b33 (c : Circuit) (t : Trial) : Bool := inR t.Hazards c.Hazards.toNat && decide (0 <= t.Wire) && decide (t.Wire < (c.Wires.length : Int))
def chk (c : Circuit) (l : List Trial) : Int := if (12 : Int) < (l.length : Int) then 2 else if l.all (b33 c) then 0 else 31
section
variable {c : Circuit} (hc : OkC c) (hv : Valid c) (hk : b68 c = some 0) (hr : c27 c = some 0) {l : List Trial} (hl : z5y l)
include hc hv hl
include hk in
theorem B1w : y53 c l = some (chk c l) := by
 have h1 := hv.hz;have h3 := hv.wi;unfold y53 chk;simp only [hk, bS9, not_true_eq_false, decide_false, fT9, if_false];by_cases g : (12 : Int) < (l.length : Int)
 ·simp only [g, decide_true, if_true]
 ·simp only [g, decide_false, fT9, if_false]
  have h := j7v (f := y54 c l) l (fun (_ : Unit) k => k) (fun r _ => if r.all (b33 c) then Sum.inl () else Sum.inr (31 : Int)) (fun _ _ => True)
   (fun st k x r hd hg hk hm _ => by
    unfold y54;simp only [hk, decide_true, if_true, hg, bS9, B3i hc hv, l23 hk hl.1]
    have e : ((!(inR x.Hazards c.Hazards.toNat) || decide (x.Wire < 0)) || decide ((c.Wires.length : Int) <= x.Wire)) = !b33 c x := by
     unfold b33;by_cases a : 0 <= x.Wire <;> by_cases b : x.Wire < (c.Wires.length : Int)
     all_goals
      have a' : decide (x.Wire < 0) = !decide (0 <= x.Wire) := by by_cases z : 0 <= x.Wire <;> simp [z] <;> omega
      have b' : decide ((c.Wires.length : Int) <= x.Wire) = !decide (x.Wire < (c.Wires.length : Int)) := by by_cases z : x.Wire < (c.Wires.length : Int) <;> simp [z] <;> omega
      rw [a', b']; simp only [a, b]; cases inR x.Hazards c.Hazards.toNat <;> rfl
    rw [e, List.all_cons]
    cases b33 c x with
    | true => exact .inl ⟨(), rfl, trivial, rfl⟩
    | false => exact .inr rfl)
   (fun st _ => by unfold y54; simp) (s := ()) trivial
  rw [h]
  cases l.all (b33 c) <;> rfl
include hr in
theorem B0k : c31 c l = some (chk c l) := by
 have h1 := hv.hz;have h3 := hv.wi;unfold c31 chk;simp only [hr, bS9, not_true_eq_false, decide_false, fT9, if_false];by_cases g : (12 : Int) < (l.length : Int)
 ·simp only [g, decide_true, if_true]
 ·simp only [g, decide_false, fT9, if_false]
  have h := j7v (f := z5k c l) l (fun (_ : Unit) k => k) (fun r _ => if r.all (b33 c) then Sum.inl () else Sum.inr (31 : Int)) (fun _ _ => True)
   (fun st k x r hd hg hk hm _ => by
    unfold z5k;simp only [hk, decide_true, if_true, hg, bS9, B35 hc hv, l23 hk hl.1];rw [b3t (n := (c.Wires.length : Int) - 1) vc9 vc9]
    have e : (!(inR x.Hazards c.Hazards.toNat) || !(b17 x.Wire 0 ((c.Wires.length : Int) - 1))) = !b33 c x := by
     unfold b33 b17;have a' : decide (x.Wire <= (c.Wires.length : Int) - 1) = decide (x.Wire < (c.Wires.length : Int)) := by congr 1; simp only [eq_iff_iff]; omega
     rw [a', Bool.and_assoc]
     cases inR x.Hazards c.Hazards.toNat <;> simp
    rw [e, List.all_cons]
    cases b33 c x with
    | true => exact .inl ⟨(), rfl, trivial, rfl⟩
    | false => exact .inr rfl)
   (fun st _ => by unfold z5k; simp) (s := ()) trivial
  rw [h]
  cases l.all (b33 c) <;> rfl
end
theorem B1x {c : Circuit} {l : List Trial} (h : chk c l = 0) : l.length <= 12 /\ ∀ t ∈ l, b33 c t = true := by
 unfold chk at h;split at h
 ·cases h
 ·split at h
  ·rename_i h1 h2;exact ⟨by omega, List.all_eq_true.1 h2⟩
  ·cases h
theorem z9b {c : Circuit} (hc : OkC c) (hv : Valid c) (hz cl op : Int) : ∀ (n : Nat) (i : Int), 0 <= i -> i < c.Wires.length -> (c.Wires.length : Int) - i < n ->
  ∃ b, b43 n ⟨c, hz, cl, op⟩ i = some b
 | 0, i, h0, h1, h2 => by omega
 | n + 1, i, h0, h1, h2 => by
  have hok := hv.ok i h0 h1;obtain ⟨hk, hol, hof⟩ := hc.2.2.2 _ (z5i h0 h1);show ∃ b, y21 (b43 n) ⟨c, hz, cl, op⟩ i = some b
  unfold y21;simp only [c13 h0 h1, bS9];generalize nth c.Wires i = w at *
  have hsw := hv.sw;by_cases k1 : w.Kind = 1
  ·simp only [okW, k1, if_true, Bool.and_eq_true, decide_eq_true_eq] at hok;obtain ⟨o1, o2⟩ := hok;obtain ⟨y, hy⟩ : ∃ y, w.Of = [y] := List.length_eq_one_iff.1 o1;have hg : get w.Of 0 = some y := by rw [hy]; rfl
   obtain ⟨y0, y1⟩ := y26 o2 y (by rw [hy]; simp);simp only [k1, decide_true, if_true, hg, bS9, c9p (n := y) y0 vc9, z50, c13 y0 y1, g29 y0];by_cases g1 : b6y (d45 .i64 op y) 1 = 0 <;> by_cases g2 : b6y (d45 .i64 cl y) 1 = 1 <;> simp [g1, g2]
  ·simp only [okW, k1, if_false] at hok;split at hok
   ·rename_i k23;simp only [Bool.and_eq_true, decide_eq_true_eq] at hok
    have hin : ∀ z ∈ w.Of, ∃ b, b43 n ⟨c, hz, cl, op⟩ z = some b := fun z hzm => by
     have := y26 hok.2 z hzm;exact z9b hc hv hz cl op n z vc9 this.2 vc9
    have hp1 : ∀ z ∈ w.Of, b43 n ⟨c, hz, cl, op⟩ z = some ((b43 n ⟨c, hz, cl, op⟩ z).getD false) := fun z hzm => by
     obtain ⟨b, e⟩ := hin z hzm; rw [e]; rfl
    simp only [k1, decide_false, fT9, if_false];generalize hpp : (fun z => (b43 n ⟨c, hz, cl, op⟩ z).getD false) = p at *
    have hp1' : ∀ z ∈ w.Of, b43 n ⟨c, hz, cl, op⟩ z = some (p z) := fun z hzm => by rw [hp1 z hzm, <- hpp]
    rcases k23 with k2 | k3
    ·have k3 : ¬ w.Kind = 3 := by omega
     have ha := z57 (s := w.Of) (f := fun z16 => s41 (b43 n) z16 ⟨c, hz, cl, op⟩) (p := fun z => !p z) hol (fun z hzm => by
      unfold s41; rw [hp1' z hzm]; rfl)
     simp only [k3, decide_false, fT9, if_false, ha, bS9];exact ⟨_, rfl⟩
    ·have ha := z57 (s := w.Of) (f := fun z12 => b43 n ⟨c, hz, cl, op⟩ z12) (p := p) hol hp1'
     simp only [k3, decide_true, if_true, ha, bS9];exact ⟨_, rfl⟩
   ·cases hok
section
variable {c : Circuit} (hc : OkC c) (hv : Valid c)
include hc hv
theorem B4a {t : Trial} (ht : b33 c t = true) (cl : Int) : ∃ b, z25 c t cl = some b := by
 simp only [b33, Bool.and_eq_true, decide_eq_true_eq] at ht;have hw := hv.wi;obtain ⟨b1, e1⟩ := z9b hc hv t.Hazards cl 0 1000 t.Wire ht.1.2 ht.2 vc9;obtain ⟨b2, e2⟩ := z9b hc hv t.Hazards 0 0 1000 t.Wire ht.1.2 ht.2 vc9;unfold z25;simp only [e1, e2, bS9]
 cases b1 <;> exact ⟨_, rfl⟩
theorem B39 {t : Trial} (ht : b33 c t = true) : ∃ x : Nat, x < 2 ^ c.Switches.length /\ y70 c t = some (x : Int) := by
 have h2 := hv.sw
 obtain ⟨b, e, x, hx, rfl⟩ := j7u (f := y71 c t) c.Switches.length (fun s k => (s, k)) (fun k s => ∃ x : Nat, x < 2 ^ k /\ s = (x : Int)) (fun b => ∃ x : Nat, x < 2 ^ c.Switches.length /\ b = (x : Int)) (fun s k hk hi => by
   obtain ⟨x, hx, rfl⟩ := hi;have e1 : (k : Int) < (c.Switches.length : Int) := by omega
   have hp := Nat.pow_le_pow_right (n := 2) (show 0 < 2 by omega) (show k <= 12 by omega);have hp1 := Nat.pow_lt_pow_right (show 1 < 2 by omega) (show k < k + 1 by omega);obtain ⟨b, hb⟩ := B4a hc hv ht ((2 ^ k : Nat) : Int);refine .inl ⟨if b then ((x ||| 2 ^ k : Nat) : Int) else (x : Int), ?_, ?_⟩
   ·unfold y71;simp only [e1, decide_true, if_true, u1e (y := k) vc9, bS9, hb, z14, B4l hk (show c.Switches.length < 4611686018427387904 by omega)];rw [u22 vc9 vc9]
    cases b <;> rfl
   ·cases b
    ·exact ⟨x, by omega, rfl⟩
    ·exact ⟨x ||| 2 ^ k, Nat.or_lt_two_pow vc9 hp1, rfl⟩)
  (fun s hi => ⟨s, by unfold y71; simp, hi⟩) (s := 0) 0 (Nat.zero_le _) ⟨0, by simp, rfl⟩
 refine ⟨x, hx, ?_⟩;unfold y70;rw [show ((0 : Nat) : Int) = 0 from rfl] at e;rw [e]; rfl
end
theorem B12 {x : Nat} (hx : x < 2 ^ 20) : z53 (x : Int) = some ((b12 20 x).map fun i : Nat => (i : Int)) := z6j hx
theorem B0t {c : Circuit} (hc : OkC c) (hv : Valid c) (hk : b68 c = some 0) {l : List Trial} (hl : z5y l) (hz : chk c l = 0) {i : Nat} (hi : i < l.length) :
  ∃ x : Nat, x < 2 ^ c.Switches.length /\ s66 c l (i : Int) = some ((b12 20 x).map fun i : Nat => (i : Int), 0) := by
 obtain ⟨h12, ht⟩ := B1x hz;have hs := hv.sw;have h1 : ¬ (i : Int) < 0 := by omega
 have h2 : ¬ (l.length : Int) <= (i : Int) := by omega
 have hg : get l (i : Int) = some (nth l (i : Int)) := c13 vc9 vc9;obtain ⟨x, hx, e⟩ := B39 hc hv (ht _ (z5i vc9 vc9 : nth l (i : Int) ∈ l));have hp := Nat.pow_le_pow_right (n := 2) (show 0 < 2 by omega) (show c.Switches.length <= 20 by omega);refine ⟨x, hx, ?_⟩;unfold s66;simp only [B1w hc hv hk hl, hz, bS9, not_true_eq_false, decide_false, fT9, if_false, h1, h2, Bool.or_self, hg, e, B12 (show x < 2 ^ 20 by omega)]
end
end Go.Nw.VM
namespace Go.Nw.VM
open Go.Nw.Tp4
noncomputable section
theorem z6m {α : Type} [Bd] {p : α -> Prop} {l : List α} (h : OkL p l) : l.length <= maxLen := Nat.le_trans h.1 Bd.le
theorem B3z [Bd] {c : Circuit} (h : x82 c) : OkC c := ⟨h.1, ⟨z6m h.2.1, h.2.1.2⟩, z6m h.2.2, fun w hw => ⟨(h.2.2.2 w hw).1, z6m (h.2.2.2 w hw).2, (h.2.2.2 w hw).2.2⟩⟩
theorem B30 [Bd] {l : List Trial} (h : OkL l25 l) : z5y l := ⟨z6m h, fun t ht => h.2 t ht⟩
theorem B0j {c : Circuit} (hc : OkC c) {l : List Trial} (hl : z5y l) (hw : c.Wires.length <= 24) :
  (b68 c = some 0 /\ Valid c /\ c31 c l = some (chk c l)) \/ c31 c l = some 30 := by
 by_cases h : c.Switches.length <= 20
 ·rcases B0l hc ⟨h, by omega⟩ with ⟨h1, h2, h3⟩ | ⟨h1, h2⟩
  ·exact .inl ⟨h1, h3, B0k hc h3 h2 hl⟩
  ·refine .inr ?_;unfold c31; rw [h2]; rfl
 ·refine .inr ?_
  have h2 : c27 c = some 30 := by
   unfold c27;have : b17 (c.Switches.length : Int) 1 12 = false := by simp only [b17, Bool.and_eq_false_iff, decide_eq_false_iff_not]; omega
   rw [this]; simp
  unfold c31; rw [h2]; rfl
theorem B32 {x : Nat} {w : Nat} {n : Int} : b0w (x32 (w : Int) (b10 (b12 20 x), n)) (false, 0) = some ((b12 20 x).contains w) := by
 have hlen := y27 (k := 20) (n := x);generalize b12 20 x = a at *
 refine b4h (f := x32 (w : Int) (b10 a, n)) a.length (fun s k => (s, k)) (fun k => (a.take k).contains w) _ (s0 := false) (by simp) (fun k hk => ?_) ?_
 ·obtain ⟨y, hy⟩ := b3b hk;unfold x32;show (if decide ((k : Int) < ((b10 a).length : Int)) then _ else _) = _
  rw [if_pos (by rw [c14]; simp; exact hk), b3t vc9 vc9]
  have happ : (a.take (k + 1)).contains w = ((a.take k).contains w || [y].any fun a => w == a) := by
   rw [show a.take (k + 1) = a.take k ++ [y] by rw [List.take_succ, hy]; rfl];simp only [List.contains_eq_any_beq, List.any_append]
  rw [happ]
  have e : ((if (a.take k).contains w = true then some true else (get (b10 a) (k : Int)).bind fun x81 => some (decide (x81 = (w : Int))))) = some ((a.take k).contains w || [y].any fun a => w == a) := by
   rw [z90 hy, bS9]
   cases (a.take k).contains w with
   | true => rfl
   | false =>
    simp only [fT9, if_false, Bool.false_or, List.any_cons, List.any_nil, Bool.or_false];by_cases g : w = y
    ·subst g; simp
    ·have : ¬ (y : Int) = (w : Int) := by omega
     have g2 : ¬ w = y := g;simp [this, g2]
  show (((if (a.take k).contains w = true then some true else (get (b10 a) (k : Int)).bind fun x81 => some (decide (x81 = (w : Int))))).bind fun c82 => some (Out.nx (c82, (k : Int) + 1))) = _
  rw [e]; rfl
 ·unfold x32;show (if decide ((a.length : Int) < ((b10 a).length : Int)) then _ else _) = _
  rw [if_neg (by rw [c14]; simp)];simp
section
variable (hm : c46 = some true)
include hm
theorem B4h [Bd] (c : Circuit) (l : List Trial) (sw : Int) (hc0 : x82 c) (hl0 : OkL l25 l) (hsw : b5k sw) : z5f c l sw = some true := by
 have hc := B3z hc0;have hl := B30 hl0;unfold z5f;have hmm : ((c46).bind fun y13 => some y13) = some true := by rw [hm]; rfl
 rw [hmm];by_cases hw : (24 : Int) < (c.Wires.length : Int)
 ·simp only [hw, decide_true, if_true, bS9, Bool.true_or]
 simp only [hw, decide_false, fT9, if_false];rcases B0j hc hl vc9 with ⟨hk, hv, hct⟩ | hct
 case inr =>
  rw [hct];simp
 rw [hct, bS9, bS9];by_cases hz : chk c l = 0
 case neg => simp [hz]
 simp only [hz, not_true_eq_false, decide_false, Bool.false_or];by_cases hb : (((decide (sw < 0) || decide ((c.Switches.length : Int) <= sw)) || decide ((10 : Int) < (c.Switches.length : Int))) || decide ((10 : Int) < (l.length : Int))) = true
 ·rw [if_pos hb]
 rw [if_neg hb];simp only [Bool.or_eq_true, decide_eq_true_eq] at hb;obtain ⟨w, rfl⟩ : ∃ w : Nat, sw = w := ⟨sw.toNat, by omega⟩;have hwP : w < c.Switches.length := by omega
 have hP : c.Switches.length <= 10 := by omega
 have hn : l.length <= 10 := by omega
 have H := fun (i : Nat) (hi : i < l.length) => B0t hc hv hk hl hz hi
 obtain ⟨X, hX⟩ : ∃ X : Nat -> Nat, ∀ i, i < l.length -> X i < 2 ^ c.Switches.length /\ s66 c l (i : Int) = some (b10 (b12 20 (X i)), 0) :=
  ⟨fun i => if h : i < l.length then (H i h).choose else 0, fun i hi => by simp only [hi, dif_pos]; exact (H i hi).choose_spec⟩
 clear H;obtain ⟨A, hAdef⟩ : ∃ A, A = tab l.length fun i => b12 20 (X i) := ⟨_, rfl⟩;have hAl : A.length = l.length := by rw [hAdef, b3y]
 have hAg : ∀ i, i < l.length -> A[i]? = some (b12 20 (X i)) := fun i hi => by rw [hAdef, c1l hi]
 have hAm : ∀ a ∈ A, ∃ i, i < l.length /\ a = b12 20 (X i) := fun a ha => by rw [hAdef] at ha; exact g3k ha
 have hA : OkAl c.Switches.length A := ⟨hP, by omega, (fun a ha k hk => by
   obtain ⟨i, hi, rfl⟩ := hAm a ha;have hb := (B0v.1 hk).2;apply Classical.byContradiction; intro hc;rw [Nat.testBit_lt_two_pow (Nat.lt_of_lt_of_le (hX i hi).1 (Nat.pow_le_pow_right vc9 vc9))] at hb
   cases hb), fun a ha => by
   obtain ⟨i, hi, rfl⟩ := hAm a ha
   exact List.Pairwise.filter _ List.pairwise_lt_range, fun a ha => by
   obtain ⟨i, hi, rfl⟩ := hAm a ha
   exact y27⟩
 have hsl : (b16 A w).length = l.length := by simp [b16, hAl]
 have hloop := b4h (f := z5g c l (w : Int)) l.length (fun (s : List (List Int) × List Bool × Bool) k => (s.1, s.2.1, s.2.2, k)) (fun k => ((A.take k).map b10, (b16 A w).take k, ((b16 A w).take k).any id)) (Sum.inl (A.map b10, b16 A w, (b16 A w).any id)) (s0 := ([], [], false)) (by simp) (fun k hk => by
   obtain ⟨x1, x2⟩ := hX k hk;have ha := hAg k hk;have hs : (b16 A w)[k]? = some ((b12 20 (X k)).contains w) := by unfold b16; rw [List.getElem?_map, ha]; rfl
   unfold z5g;show (if decide ((k : Int) < (l.length : Int)) then _ else _) = _
   rw [if_pos (by simp; exact hk), x2, bS9];simp only [not_true_eq_false, decide_false, fT9, if_false, B32, bS9];unfold z6l z6k;rw [b9k (by simp only [List.length_map, List.length_take, List.length_cons, List.length_nil]; omega), bS9, b9k (by simp only [List.length_map, List.length_take, List.length_cons, List.length_nil]; omega), bS9, b3t vc9 vc9];rw [show A.take (k + 1) = A.take k ++ [b12 20 (X k)] by rw [List.take_succ, ha]; rfl, show (b16 A w).take (k + 1) = (b16 A w).take k ++ [(b12 20 (X k)).contains w] by rw [List.take_succ, hs]; rfl, List.map_append, List.any_append]
   simp)
  (by
   unfold z5g;show (if decide ((l.length : Int) < (l.length : Int)) then _ else _) = _
   rw [if_neg (by simp), List.take_of_length_le vc9, List.take_of_length_le vc9])
 rw [hloop, bS9];show z5h c (w : Int) (A.map b10) (b16 A w) ((b16 A w).any id) = some true
 obtain ⟨q, e1, e2, hq2, e3, e4⟩ := B0i hA hwP;unfold z5h;rw [e1, bS9];have hq0 : ¬ (q.length : Int) = 0 := by have := List.length_pos_iff.2 e2; omega
 simp only [not_true_eq_false, decide_false, hq0, Bool.or_self, fT9, if_false];by_cases hB : ∃ a ∈ A, w ∈ a
 ·obtain ⟨f1, f2⟩ := e3 hB
  have hBt : (b16 A w).any id = true := by
   obtain ⟨a, ha, h⟩ := hB;rw [List.any_eq_true];exact ⟨true, List.mem_map.2 ⟨a, ha, by simpa using h⟩, rfl⟩
  rw [hBt]
  have hf := b4h (f := l14 (w : Int) true (q, 0)) q.length (fun s k => (s, k)) (fun k => (q.take k).any fun x => decide (x = [(w : Int)])) (Sum.inl (q.any fun x => decide (x = [(w : Int)]))) (s0 := false) (by simp) (fun k hk => by
    obtain ⟨x, hx⟩ := b3b hk;obtain ⟨j, rfl⟩ := f1 x (mG9 hx);have hql : q.length <= 2000 := hq2;unfold l14;show (if decide ((k : Int) < (q.length : Int)) then _ else _) = _
    rw [if_pos (by simp; exact hk)];rw [show q.take (k + 1) = q.take k ++ [[(j : Int)]] by rw [List.take_succ, hx]; rfl, List.any_append];have g0 : get [(j : Int)] 0 = some (j : Int) := rfl;simp only [if_true, b1h hx, bS9, List.length_cons, List.length_nil, Bool.not_true, fT9, if_false, g0];rw [b3t vc9 vc9]
    cases (q.take k).any fun x => decide (x = [(w : Int)]) with
    | true => simp
    | false => simp)
   (by
    unfold l14;show (if decide ((q.length : Int) < (q.length : Int)) then _ else _) = _
    rw [if_neg (by simp), List.take_of_length_le vc9])
  rw [hf, bS9]
  have : (q.any fun x => decide (x = [(w : Int)])) = true := by
   rw [List.any_eq_true]; exact ⟨_, f2, by simp⟩
  rw [this];show s35 true true = some true
  unfold s35;rw [hm]; rfl
 ·have f1 := e4 fun a ha h => hB ⟨a, ha, h⟩
  have hBt : (b16 A w).any id = false := by
   rw [List.any_eq_false];intro b hb;obtain ⟨a, ha, rfl⟩ := List.mem_map.1 hb;simpa using fun h => hB ⟨a, ha, h⟩
  rw [hBt]
  have hf := b4h (f := l14 (w : Int) false (q, 0)) q.length (fun s k => (s, k)) (fun k => false) (Sum.inl false) (s0 := false) rfl (fun k hk => by
    obtain ⟨x, hx⟩ := b3b hk;have := f1 x (mG9 hx);subst this;have hql : q.length <= 2000 := hq2;unfold l14;show (if decide ((k : Int) < (q.length : Int)) then _ else _) = _
    rw [if_pos (by simp; exact hk)];simp only [fT9, if_false, bS9, b1h hx, Bool.not_false, if_true, List.length_nil];rw [b3t vc9 vc9]
    rfl)
   (by
    unfold l14;show (if decide ((q.length : Int) < (q.length : Int)) then _ else _) = _
    rw [if_neg (by simp)])
  rw [hf, bS9];show s35 false false = some true
  unfold s35;rw [hm]; rfl
end
end
end Go.Nw.VM
