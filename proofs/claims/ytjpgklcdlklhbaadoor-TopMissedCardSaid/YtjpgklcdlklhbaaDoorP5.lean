/- Plain laws on the models. -/
import Derived.Test.YtjpgklcdlklhbaaDoorVM
import Derived.Test.YtjpgklcdlklhbaaDoorNwPop
import Derived.Test.YtjpgklcdlklhbaaDoorP3
import Derived.Test.YtjpgklcdlklhbaaDoorNwPlain
import Derived.Test.YtjpgklcdlklhbaaDoorP4
import Derived.Test.YtjpgklcdlklhbaaDoorP2
set_option linter.all false
namespace Go.Nw.VM
open Go.Nw.Tp4
noncomputable section
theorem x67 {a y : Nat} (hy : y <= 64) : shr .u64 (a : Int) (y : Int) = some ((a >>> y : Nat) : Int) := by
 rw [g29 vd9];have : Nat.min (y : Int).toNat IntKind.u64.bits = y := Nat.min_eq_left (by rw [show IntKind.u64.bits = 64 from rfl]; omega);unfold d45;rw [this, Nat.shiftRight_eq_div_pow];have h2 : (2 : Int) ^ y = ((2 ^ y : Nat) : Int) := by simp
 rw [h2, Int.fdiv_eq_ediv_of_nonneg _ (Int.natCast_nonneg _)]; rfl
theorem B8m {a b : Nat} (ha : a < 18446744073709551616) (hb : b < 18446744073709551616) : d05 .u64 (a : Int) (b : Int) = ((a &&& b : Nat) : Int) := by
 show IntKind.wrap .u64 ((BitVec.ofInt 64 (a : Int) &&& BitVec.ofInt 64 (b : Int)).toNat : Int) = _
 rw [BitVec.toNat_and, s9p a ha, s9p b hb];exact u4e (Nat.lt_of_le_of_lt Nat.and_le_left ha)
theorem s43 {a b : Nat} (h : a + b < 18446744073709551616) : IntKind.wrap .u64 ((a : Int) + (b : Int)) = ((a + b : Nat) : Int) := u4e h
theorem z92 {x : Nat} (h : x < 2 ^ 20) : l13 (x : Int) = some ((b12 20 x).length : Int) := by
 obtain ⟨y, hy⟩ : ∃ y, y = ((x >>> 1) &&& 6148914691236517205) + (x &&& 6148914691236517205) := ⟨_, rfl⟩;obtain ⟨z, hz⟩ : ∃ z, z = ((y >>> 2) &&& 3689348814741910323) + (y &&& 3689348814741910323) := ⟨_, rfl⟩;obtain ⟨s, hs⟩ : ∃ s, s = ((z >>> 4) + z) &&& 1085102592571150095 := ⟨_, rfl⟩;obtain ⟨t, ht⟩ : ∃ t, t = s + s >>> 8 := ⟨_, rfl⟩;obtain ⟨v, hv⟩ : ∃ v, v = t + t >>> 16 := ⟨_, rfl⟩;have hx : x = 2 ^ 8 * (2 ^ 8 * (x / 65536) + x / 256 % 256) + x % 256 := by omega
 obtain ⟨gy, gz, gs, gt, gv, e⟩ := B34 (b0 := x % 256) (b1 := x / 256 % 256) (b2 := x / 65536) vd9 vd9 vd9 x y z s t v hx hy hz hs ht hv;have sl : ∀ a b : Nat, a < 2 ^ 24 -> a >>> b < 2 ^ 24 := fun a b ha => by rw [Nat.shiftRight_eq_div_pow]; exact Nat.lt_of_le_of_lt (Nat.div_le_self _ _) ha
 have hl : (b12 20 x).length = (b12 8 (x % 256)).length + ((b12 8 (x / 256 % 256)).length + (b12 4 (x / 65536)).length) := by
  have h1 := z9i (k := 12) (a := 2 ^ 8 * (x / 65536) + x / 256 % 256) (b := x % 256) vd9;have h2 := z9i (k := 4) (a := x / 65536) (b := x / 256 % 256) vd9;rw [<- hx] at h1;rw [h1, h2]
 have a1 : shr .u64 (x : Int) 1 = some ((x >>> 1 : Nat) : Int) := x67 (a := x) (y := 1) vd9;have a2 : d05 .u64 ((x >>> 1 : Nat) : Int) 6148914691236517205 = (((x >>> 1) &&& 6148914691236517205 : Nat) : Int) := B8m (b := 6148914691236517205) (by have := sl x 1 vd9; omega) vd9;have a3 : d05 .u64 (x : Int) 6148914691236517205 = ((x &&& 6148914691236517205 : Nat) : Int) := B8m (b := 6148914691236517205) vd9 vd9;have a4 : IntKind.wrap .u64 ((((x >>> 1) &&& 6148914691236517205 : Nat) : Int) + ((x &&& 6148914691236517205 : Nat) : Int)) = (y : Int) := by rw [hy]; exact s43 (by rw [<- hy]; omega)
 have b1 : shr .u64 (y : Int) 2 = some ((y >>> 2 : Nat) : Int) := x67 (a := y) (y := 2) vd9;have b2 : d05 .u64 ((y >>> 2 : Nat) : Int) 3689348814741910323 = (((y >>> 2) &&& 3689348814741910323 : Nat) : Int) := B8m (b := 3689348814741910323) (by have := sl y 2 gy; omega) vd9;have b3 : d05 .u64 (y : Int) 3689348814741910323 = ((y &&& 3689348814741910323 : Nat) : Int) := B8m (b := 3689348814741910323) vd9 vd9;have b4 : IntKind.wrap .u64 ((((y >>> 2) &&& 3689348814741910323 : Nat) : Int) + ((y &&& 3689348814741910323 : Nat) : Int)) = (z : Int) := by rw [hz]; exact s43 (by rw [<- hz]; omega)
 have c1 : shr .u64 (z : Int) 4 = some ((z >>> 4 : Nat) : Int) := x67 (a := z) (y := 4) vd9;have c2 : IntKind.wrap .u64 (((z >>> 4 : Nat) : Int) + (z : Int)) = ((z >>> 4 + z : Nat) : Int) := s43 (by have := sl z 4 gz; omega);have c3 : d05 .u64 ((z >>> 4 + z : Nat) : Int) 1085102592571150095 = (s : Int) := by rw [hs]; exact B8m (b := 1085102592571150095) (by have := sl z 4 gz; omega) vd9
 have d1 : shr .u64 (s : Int) 8 = some ((s >>> 8 : Nat) : Int) := x67 (a := s) (y := 8) vd9;have d2 : IntKind.wrap .u64 ((s : Int) + ((s >>> 8 : Nat) : Int)) = (t : Int) := by rw [ht]; exact s43 (by rw [<- ht]; omega)
 have f1 : shr .u64 (t : Int) 16 = some ((t >>> 16 : Nat) : Int) := x67 (a := t) (y := 16) vd9;have f2 : IntKind.wrap .u64 ((t : Int) + ((t >>> 16 : Nat) : Int)) = (v : Int) := by rw [hv]; exact s43 (by rw [<- hv]; omega)
 have g1 : shr .u64 (v : Int) 32 = some ((v >>> 32 : Nat) : Int) := x67 (a := v) (y := 32) vd9;have g2 : IntKind.wrap .u64 ((v : Int) + ((v >>> 32 : Nat) : Int)) = ((v + v >>> 32 : Nat) : Int) := s43 (by have := sl v 32 gv; omega);have g3 : IntKind.wrap .i64 ((v + v >>> 32 : Nat) : Int) = ((v + v >>> 32 : Nat) : Int) := u4f (by have := sl v 32 gv; omega);have g4 : b6y ((v + v >>> 32 : Nat) : Int) 127 = (((v + v >>> 32) &&& 127 : Nat) : Int) := u6m (b := 127) (by have := sl v 32 gv; omega) vd9;unfold l13 z6h;rw [a1, bS9, a2, a3, a4];rw [b1, bS9, b2, b3, b4];rw [c1, bS9, c2, c3];rw [d1, bS9, d2];rw [f1, bS9, f2];rw [g1, bS9, g2, g3, g4, bS9, e, hl]
theorem B4g : ((List.range 20).all fun j => decide (((shr .u64 (IntKind.wrap .u64 (((2 ^ j : Nat) : Int) * 285870213051353865)) 58).bind fun q5 => (get u3d q5).bind fun x6 => some (IntKind.wrap .i64 x6)) = some (j : Int))) = true := by decide +kernel
theorem z9a {j q : Nat} (h : 2 ^ j * (2 * q + 1) < 2 ^ 20) : j < 20 /\ B86 ((2 ^ j * (2 * q + 1) : Nat) : Int) = some (j : Int) := by
 have hp := Nat.two_pow_pos j
 have hj : j < 20 := by
  apply Classical.byContradiction; intro hc;have : 2 ^ 20 <= 2 ^ j := Nat.pow_le_pow_right vd9 vd9;have : 2 ^ j * 1 <= 2 ^ j * (2 * q + 1) := Nat.mul_le_mul_left _ vd9;omega
 refine ⟨hj, ?_⟩;have hx0 : 0 < 2 ^ j * (2 * q + 1) := Nat.mul_pos hp vd9;have lo := B3t (j := j) (q := q) vd9;generalize he : 2 ^ j * (2 * q + 1) = x at *
 have w1 : IntKind.wrap .u64 (0 - (x : Int)) = ((2 ^ 64 - x : Nat) : Int) := by
  show (0 - (x : Int)) % 18446744073709551616 = _
  omega
 have b1 : d05 .u64 (x : Int) ((2 ^ 64 - x : Nat) : Int) = ((2 ^ j : Nat) : Int) := by rw [B8m vd9 vd9, lo]
 have tb := of_decide_eq_true (List.all_eq_true.1 B4g j (List.mem_range.2 hj));unfold B86 z6i;rw [if_neg (by simp; omega), w1, b1, tb]; rfl
theorem B3u : ∀ (n x : Nat) (out : List Int), (b12 20 x).length = n -> x < 2 ^ 20 -> out.length + n <= 100 -> b0w x19 ((x : Int), out) = some (out ++ (b12 20 x).map fun i : Nat => (i : Int)) := by
 intro n;induction n with
 | zero =>
  intro x out hn hx ho
  have hz : x = 0 := by
   apply Classical.byContradiction; intro hc;obtain ⟨j, q, e⟩ := z80 x hc;subst e;rw [z52 (z9a hx).1] at hn;simp at hn
  subst hz;rw [y28];exact b3d (by unfold x19; simp)
 | succ n ih =>
  intro x out hn hx ho
  have hc : x ≠ 0 := by
   intro e; subst e; rw [y28] at hn; simp at hn
  obtain ⟨j, q, e⟩ := z80 x hc;have ht := z9a (e ▸ hx);have hb := z52 (q := q) ht.1;rw [<- e] at hb ht;have hcl : x &&& (x - 1) = 2 ^ (j + 1) * q := by rw [e]; exact B3s j q
  have hlt : 2 ^ (j + 1) * q < 2 ^ 20 := by rw [<- hcl]; exact Nat.lt_of_le_of_lt Nat.and_le_left hx
  rw [hb] at hn
  have st : x19 ((x : Int), out) = some (.nx (((2 ^ (j + 1) * q : Nat) : Int), out ++ [(j : Int)])) := by
   unfold x19;show (if decide (¬(x : Int) = 0) then _ else _) = _
   rw [if_pos (by simp; omega), u4e vd9, ht.2, bS9, b9k (by simp only [List.length_cons, List.length_nil]; omega), bS9, b3t vd9 vd9, show (x : Int) - 1 = ((x - 1 : Nat) : Int) by omega];rw [show b6y (x : Int) ((x - 1 : Nat) : Int) = ((x &&& (x - 1) : Nat) : Int) from u6m vd9 vd9, hcl]
  rw [w91 st, ih _ _ (by simpa using hn) hlt (by simp; omega), hb];simp
theorem z6j {x : Nat} (hx : x < 2 ^ 20) : y31 (x : Int) = some ((b12 20 x).map fun i : Nat => (i : Int)) := by
 unfold y31;rw [B3u _ x [] rfl hx (by have := C0b (k := 20) (n := x); simp; omega), bS9];rfl
end
end Go.Nw.VM
namespace Go.Nw.VM
open Go.Nw.Tp4
noncomputable section
def b20 : List Int -> List Int -> Bool
 | [], [] => false
 | [], _ :: _ => true
 | _ :: _, [] => false
 | a :: x, b :: y => if a = b then b20 x y else decide (a < b)
theorem z70 (x y : Int) : c12 x y = if x < y then -1 else if y < x then 1 else 0 := by
 unfold c12 s26;by_cases h1 : x < y
 ·simp [h1]
 ·by_cases h2 : y < x <;> simp [h1, h2]
theorem B1z {a b : List Int} (ha : a.length <= 1000) (hb : b.length <= 1000) : ∃ r, B8x a b = some r /\ decide (r < 0) = b20 a b := by
 have hm : (1000 : Nat) <= maxLen := by decide
 have key : ∀ (x y : List Int) (k : Nat), a.drop k = x -> b.drop k = y -> k <= a.length -> k <= b.length -> ∃ r, b0w (l16 a b) (k : Int) = some r /\
   ∃ v, (match r with | .inl () => z5o a b | .inr r' => some r') = some v /\ decide (v < 0) = b20 x y := by
  intro x;induction x with
  | nil =>
   intro y k h1 h2 h3 h4;have hk : k = a.length := by have := List.drop_eq_nil_iff.1 h1; omega
   refine ⟨.inl (), b3d ?_, ?_⟩
   ·unfold l16;have : ¬ (k : Int) < (a.length : Int) := by omega
    simp only [this, decide_false, fT9, if_false]
   ·simp only [z5o]
    cases y with
    | nil =>
     have hk2 := List.drop_eq_nil_iff.1 h2;have : ¬ (a.length : Int) < (b.length : Int) := by omega
     exact ⟨0, by simp [this], by simp [b20]⟩
    | cons c y =>
     have hlt : k < b.length := by
      rcases Nat.lt_or_ge k b.length with h | h
      ·exact h
      ·rw [List.drop_eq_nil_of_le h] at h2; cases h2
     have : (a.length : Int) < (b.length : Int) := by omega
     exact ⟨-1, by simp [this], by simp [b20]⟩
  | cons c x ih =>
   intro y k h1 h2 h3 h4;obtain ⟨g1, g2, g3, _⟩ := g9x h1
   cases y with
   | nil =>
    have hk2 := List.drop_eq_nil_iff.1 h2;refine ⟨.inr 1, b3d ?_, 1, rfl, by simp [b20]⟩;unfold l16;have : (b.length : Int) <= (k : Int) := by omega
    simp only [g2, decide_true, if_true, g1, bS9, this]
   | cons d y =>
    obtain ⟨q1, q2, q3, _⟩ := g9x h2;have hn : ¬ (b.length : Int) <= (k : Int) := by omega
    by_cases e : c = d
    ·subst e
     have hstep : l16 a b (k : Int) = some (.nx ((k + 1 : Nat) : Int)) := by
      unfold l16;simp only [g2, decide_true, if_true, g1, bS9, hn, decide_false, fT9, if_false, q1, z70, Int.lt_irrefl, not_true_eq_false];rw [l23 g2 (Nat.le_trans ha hm)]; rfl
     rw [w91 hstep];have hk1 : k + 1 <= a.length := by omega
     have hk2 : k + 1 <= b.length := by omega
     obtain ⟨r, e1, v, e2, e3⟩ := ih y (k + 1) g3 q3 hk1 hk2;exact ⟨r, e1, v, e2, by rw [e3]; simp [b20]⟩
    ·have hne : ¬ c12 c d = 0 := by
      rw [z70];by_cases z : c < d
      ·simp [z]
      ·have : d < c := by omega
       simp [z, this]
     refine ⟨.inr (c12 c d), b3d ?_, c12 c d, rfl, ?_⟩
     ·unfold l16;simp only [g2, decide_true, if_true, g1, bS9, hn, decide_false, fT9, if_false, q1, hne, not_false_eq_true]
     ·simp only [b20, e, if_false, z70];by_cases z : c < d
      ·simp [z]
      ·have : d < c := by omega
       simp [z, this]
 obtain ⟨r, e1, v, e2, e3⟩ := key a b 0 rfl rfl (Nat.zero_le _) (Nat.zero_le _);refine ⟨v, ?_, e3⟩;unfold B8x;rw [show ((0 : Nat) : Int) = 0 from rfl] at e1;rw [e1]
 cases r <;> exact e2
theorem z9v : ∀ a, b20 a a = false
 | [] => rfl
 | a :: x => by simp [b20, z9v x]
theorem z9x : ∀ x y z, b20 x y = true -> b20 y z = true -> b20 x z = true
 | [], [], _, h, _ => by simp [b20] at h
 | [], _ :: _, [], _, h => by simp [b20] at h
 | [], _ :: _, _ :: _, _, _ => rfl
 | _ :: _, [], _, h, _ => by simp [b20] at h
 | _ :: _, _ :: _, [], _, h => by simp [b20] at h
 | a :: x, b :: y, c :: z, h1, h2 => by
  simp only [b20] at h1 h2 ⊢
  by_cases ab : a = b
  ·subst ab;rw [if_pos rfl] at h1;by_cases bc : a = c
   ·rw [if_pos bc] at h2 ⊢; exact z9x x y z h1 h2
   ·rw [if_neg bc] at h2 ⊢; exact h2
  ·rw [if_neg ab] at h1;have g1 := of_decide_eq_true h1;by_cases bc : b = c
   ·subst bc; rw [if_neg ab]; exact h1
   ·rw [if_neg bc] at h2;have g2 := of_decide_eq_true h2;rw [if_neg vd9]; exact decide_eq_true vd9
theorem z9w : ∀ x y z, b20 x y = false -> b20 y z = false -> b20 x z = false
 | [], [], _, _, h => h
 | [], _ :: _, _, h, _ => by simp [b20] at h
 | _ :: _, [], [], _, _ => rfl
 | _ :: _, [], _ :: _, _, h => by simp [b20] at h
 | _ :: _, _ :: _, [], _, _ => rfl
 | a :: x, b :: y, c :: z, h1, h2 => by
  simp only [b20] at h1 h2 ⊢
  by_cases ab : a = b
  ·subst ab;rw [if_pos rfl] at h1;by_cases bc : a = c
   ·rw [if_pos bc] at h2 ⊢; exact z9w x y z h1 h2
   ·rw [if_neg bc] at h2 ⊢; exact h2
  ·rw [if_neg ab] at h1;have g1 := of_decide_eq_false h1;by_cases bc : b = c
   ·subst bc; rw [if_neg ab]; exact h1
   ·rw [if_neg bc] at h2;have g2 := of_decide_eq_false h2;rw [if_neg vd9]; exact decide_eq_false vd9
def b10 (l : List Nat) : List Int := l.map fun i : Nat => (i : Int)
theorem c14 {l : List Nat} : (b10 l).length = l.length := by simp [b10]
theorem z90 {l : List Nat} {k : Nat} {x : Nat} (h : l[k]? = some x) : get (b10 l) (k : Int) = some (x : Int) := b1h (by unfold b10; rw [List.getElem?_map, h]; rfl)
theorem B3x {a b : List Nat} : b10 (a ++ b) = b10 a ++ b10 b := by simp [b10]
def ltS (x y : Int) : Bool := b20 (b10 (b12 20 x.toNat)) (b10 (b12 20 y.toNat))
theorem B4d : Go.Sort.SWO ltS := ⟨fun _ => z9v _, fun _ _ _ => z9x _ _ _, fun _ _ _ => z9w _ _ _⟩
def InS (x : Int) : Prop := 0 <= x /\ x < 2 ^ 20
theorem B1y : z9d InS (fun z0 z1 => c71 z0 z1) ltS := by
 intro x y hx hy;obtain ⟨a, rfl⟩ : ∃ a : Nat, x = a := ⟨x.toNat, by have := hx.1; omega⟩;obtain ⟨b, rfl⟩ : ∃ b : Nat, y = b := ⟨y.toNat, by have := hy.1; omega⟩;have ha : a < 2 ^ 20 := by have := hx.2; omega
 have hb : b < 2 ^ 20 := by have := hy.2; omega
 have la : (b10 (b12 20 a)).length <= 1000 := by rw [c14]; have := C0b (k := 20) (n := a); omega
 have lb : (b10 (b12 20 b)).length <= 1000 := by rw [c14]; have := C0b (k := 20) (n := b); omega
 obtain ⟨r, h1, h2⟩ := B1z la lb;refine ⟨r, ?_, ?_⟩
 ·show c71 (a : Int) (b : Int) = some r
  unfold c71;rw [z6j ha, bS9, z6j hb, bS9];rw [show B8x ((b12 20 a).map fun i : Nat => (i : Int)) ((b12 20 b).map fun i : Nat => (i : Int)) = some r from h1]; rfl
 ·show b20 (b10 (b12 20 ((a : Int).toNat))) (b10 (b12 20 ((b : Int).toNat))) = _
  rw [Int.toNat_natCast, Int.toNat_natCast, h2]
end
end Go.Nw.VM
namespace Go.Nw.VM
open Go.Nw.Tp4
noncomputable section
def c47 (p : Passage) : Bool := decide (p.Kind = 3) || decide (p.Kind = 4)
structure OkP (n : Int) (p : Passage) : Prop where
 a0 : 0 <= p.A
 a1 : p.A < n
 b0 : 0 <= p.B
 b1 : p.B < n
 ne : p.A ≠ p.B
 t0 : 1 <= p.Ticks
 t1 : p.Ticks <= 20
 w0 : 1 <= p.Wide
 w1 : p.Wide <= 50
 k0 : 1 <= p.Kind
 k1 : p.Kind <= 5
 m : if c47 p then 0 <= p.Machine /\ p.Machine <= 11 else p.Machine = -1
 s : if p.Kind = 3 then 1 <= p.Still /\ p.Still <= 20 else p.Still = 0
def b36 (l : List Passage) : List Int := (l.filter c47).map (·.Machine)
structure OkSt (s : Station) : Prop where
 n0 : 1 <= s.Places
 n1 : s.Places <= 10
 len : s.Passages.length <= 24
 p : ∀ p ∈ s.Passages, OkP s.Places p
 nd : (b36 s.Passages).Nodup
 e : ∀ (k : Nat) x, s.Exits[k]? = some x -> 0 <= x /\ x < s.Places /\ ∀ y, 0 < k -> s.Exits[k - 1]? = some y -> y < x
theorem B8q {n a b : Int} : b40 n a b = decide (a <= n /\ n <= b) := by unfold b40; simp
theorem B9q {n a b : Int} : b53 n a b = decide (a <= n /\ n <= b) := by unfold b53; simp
theorem p68 {l : List Int} (hl : l.length <= 100) (n : Int) : B9g l n = some (decide (n ∈ l)) := by
 unfold B9g
 rcases c3v (f := B8w l n) l (fun _ x => x = n) (Sum.inr true : Unit ⊕ Bool) (Sum.inl ())
  (fun k x hx hb => by
   unfold B8w
   rw [if_pos (by have := b1k hx; simp; omega), b1h hx, bS9, if_pos (by simpa using hb)])
  (fun k x hx hb => by
   unfold B8w;have hk := b1k hx
   rw [if_pos (by simp; omega), b1h hx, bS9, if_neg (by simpa using hb), b3t vd9 vd9])
  (by unfold B8w; simp) with ⟨h1, h2⟩ | ⟨⟨k, x, h1, h3⟩, h2⟩
 ·rw [h2]
  have : ¬ n ∈ l := fun hm => by
   obtain ⟨k, hk, e⟩ := List.getElem_of_mem hm;exact h1 k n (by rw [gG9 hk, e]) rfl
  rw [decide_eq_false this]; rfl
 ·rw [h2];have : n ∈ l := h3 ▸ mG9 h1;rw [decide_eq_true this]; rfl
theorem B9x {l : List Passage} {p : Passage} : b36 (l ++ [p]) = if c47 p then b36 l ++ [p.Machine] else b36 l := by
 unfold b36;rw [List.filter_append]
 cases h : c47 p <;> simp [h]
theorem C2j (l : List Passage) : (b36 l).length <= l.length := by unfold b36; rw [List.length_map]; exact List.length_filter_le _ _
theorem B8y {α : Type} {l : List α} {k : Nat} {x : α} (h : l[k]? = some x) : l.take (k + 1) = l.take k ++ [x] := by rw [List.take_succ, h]; rfl
theorem C2q {s : Station} (hex : s.Exits.length <= maxLen) : ∃ r, B9c s = some r /\ (r = 0 -> OkSt s) := by
 unfold B9c;by_cases c : ((!(b40 s.Places 1 10)) || (decide (24 < (List.length s.Passages : Int)))) = true
 ·rw [if_pos c]; exact ⟨80, rfl, fun h => by cases h⟩
 rw [if_neg c];simp only [B8q, Bool.or_eq_true, Bool.not_eq_true', decide_eq_false_iff_not, decide_eq_true_eq] at c;have n0 : 1 <= s.Places := by omega
 have n1 : s.Places <= 10 := by omega
 have hlen : s.Passages.length <= 24 := by omega
 have wN : wr (s.Places - 1) = s.Places - 1 := b3t vd9 vd9
 obtain ⟨b, hb, hP⟩ := j7u (f := B9d s) s.Passages.length (fun m k => (m, k)) (fun k m => m = b36 (s.Passages.take k) /\ (b36 (s.Passages.take k)).Nodup /\ ∀ p ∈ s.Passages.take k, OkP s.Places p) (fun b => b = Sum.inr 80 \/ (b = Sum.inl () /\ (b36 s.Passages).Nodup /\ ∀ p ∈ s.Passages, OkP s.Places p)) (fun m k hk hi => by
   obtain ⟨rfl, hnd, hall⟩ := hi;obtain ⟨p, hp⟩ := b3b hk;have hml : (b36 (s.Passages.take k)).length <= 24 := by have := C2j (s.Passages.take k); simp at this; omega
   unfold B9d;show (∃ s', (if decide ((k : Int) < (s.Passages.length : Int)) then _ else _) = _ /\ _) \/ ∃ b, (if decide ((k : Int) < (s.Passages.length : Int)) then _ else _) = _ /\ _
   simp only [show ((k : Int) < (s.Passages.length : Int)) by omega, decide_true, if_true, b1h hp, bS9, wN];by_cases c1 : (((((!(b40 p.A 0 (s.Places - 1))) || (!(b40 p.B 0 (s.Places - 1)))) || (decide (p.A = p.B))) || (!(b40 p.Ticks 1 20))) || (!(b40 p.Wide 1 50)) || (!(b40 p.Kind 1 5))) = true
   ·rw [if_pos c1]; exact .inr ⟨_, rfl, .inl rfl⟩
   rw [if_neg c1];simp only [B8q, Bool.or_eq_true, Bool.not_eq_true', decide_eq_false_iff_not, decide_eq_true_eq] at c1;have ek : wr ((k : Int) + 1) = (k : Int) + 1 := b3t vd9 vd9
   have fin : ∀ m' : List Int, (hm' : (if c47 p then 0 <= p.Machine /\ p.Machine <= 11 else p.Machine = -1)) -> (b36 (s.Passages.take (k + 1))).Nodup -> m' = b36 (s.Passages.take (k + 1)) ->
     (∃ s', B8f (k : Int) p m' = some (.nx (s', (k : Int) + 1)) /\ (s' = b36 (s.Passages.take (k + 1)) /\ (b36 (s.Passages.take (k + 1))).Nodup /\ ∀ p ∈ s.Passages.take (k + 1), OkP s.Places p)) \/ ∃ b, B8f (k : Int) p m' = some (.br b) /\ (b = Sum.inr 80 \/ (b = Sum.inl () /\ (b36 s.Passages).Nodup /\ ∀ p ∈ s.Passages, OkP s.Places p)) := by
    intro m' hm' hn' e;unfold B8f B9e
    have good : (if p.Kind = 3 then 1 <= p.Still /\ p.Still <= 20 else p.Still = 0) -> ∀ q ∈ s.Passages.take (k + 1), OkP s.Places q := fun hs q hq => by
     rw [B8y hp, List.mem_append] at hq;rcases hq with hq | hq
     ·exact hall q hq
     ·rw [List.mem_singleton.1 hq];exact ⟨by omega, by omega, by omega, by omega, by omega, by omega, by omega, by omega, by omega, by omega, by omega, hm', hs⟩
    by_cases k3 : p.Kind = 3
    ·simp only [k3, decide_true, if_true, B8q];by_cases g : 1 <= p.Still /\ p.Still <= 20
     ·simp only [g, and_self, decide_true, Bool.not_true, fT9, if_false, ek];exact .inl ⟨_, rfl, e, hn', good (by rw [if_pos k3]; exact g)⟩
     ·rw [decide_eq_false g];exact .inr ⟨_, rfl, .inl rfl⟩
    ·simp only [k3, decide_false, fT9, if_false];by_cases g : p.Still = 0
     ·simp only [g, not_true_eq_false, decide_false, fT9, if_false, ek];exact .inl ⟨_, rfl, e, hn', good (by rw [if_neg k3]; exact g)⟩
     ·simp only [g, not_false_eq_true, decide_true, if_true];exact .inr ⟨_, rfl, .inl rfl⟩
   have el : (decide (p.Kind = 3) || decide (p.Kind = 4)) = c47 p := rfl;rw [el]
   cases hL : c47 p with
   | true =>
    simp only [if_true, B8q, p68 (show (b36 (s.Passages.take k)).length <= 100 by omega), bS9];by_cases g : 0 <= p.Machine /\ p.Machine <= 11
    ·rw [decide_eq_true g];simp only [Bool.not_true, fT9, if_false, bS9];by_cases g2 : p.Machine ∈ b36 (s.Passages.take k)
     ·rw [decide_eq_true g2]; exact .inr ⟨_, rfl, .inl rfl⟩
     ·rw [decide_eq_false g2];simp only [fT9, if_false];rw [b9k (by simp only [List.length_cons, List.length_nil]; omega), bS9];have em : b36 (s.Passages.take (k + 1)) = b36 (s.Passages.take k) ++ [p.Machine] := by rw [B8y hp, B9x, hL]; rfl
      refine fin _ (by rw [hL]; exact g) ?_ em.symm;rw [em, List.nodup_append];exact ⟨hnd, List.nodup_cons.2 ⟨(by simp), List.nodup_nil⟩, fun x hx y hy e => by rw [List.mem_singleton.1 hy] at e; exact g2 (e ▸ hx)⟩
    ·rw [decide_eq_false g]; exact .inr ⟨_, rfl, .inl rfl⟩
   | false =>
    simp only [fT9, if_false];by_cases g : p.Machine = -1
    ·simp only [g, not_true_eq_false, decide_false, fT9, if_false];have em : b36 (s.Passages.take (k + 1)) = b36 (s.Passages.take k) := by rw [B8y hp, B9x, hL]; rfl
     exact fin _ (by rw [hL]; exact g) (by rw [em]; exact hnd) em.symm
    ·simp only [g, not_false_eq_true, decide_true, if_true]
     exact .inr ⟨_, rfl, .inl rfl⟩)
  (fun m hi => by
   obtain ⟨rfl, h1, h2⟩ := hi;rw [List.take_of_length_le (Nat.le_refl _)] at h1 h2
   exact ⟨_, by unfold B9d; simp, .inr ⟨rfl, h1, h2⟩⟩) (s := []) 0 (Nat.zero_le _) ⟨by simp [b36], by simp [b36], fun p hp => by simp at hp⟩
 rw [show ((0 : Nat) : Int) = 0 from rfl] at hb;rw [hb, bS9];rcases hP with rfl | ⟨rfl, hnd, hall⟩
 ·exact ⟨80, rfl, fun h => by cases h⟩
 show ∃ r, B9f s = some r /\ _
 unfold B9f;have em : (10 : Nat) <= maxLen := by decide
 rcases c3v (f := B8v s) s.Exits (fun k x => ¬ (0 <= x /\ x <= s.Places - 1) \/ ∃ y, 0 < k /\ s.Exits[k - 1]? = some y /\ x <= y) (Sum.inr 80 : Unit ⊕ Int) (Sum.inl ())
  (fun k x hx hb => by
   have hk := b1k hx;unfold B8v;rw [if_pos (by simp; omega), b1h hx, bS9, wN, B8q];by_cases g : 0 <= x /\ x <= s.Places - 1
   ·obtain ⟨y, h0, h1, h2⟩ := hb.resolve_left fun h => h g;have e1 : wr ((k : Int) - 1) = ((k - 1 : Nat) : Int) := by rw [b3t vd9 (by simp only [maxLen] at hex; omega)]; omega
    have e2 : (0 : Int) < (k : Int) := by omega
    simp only [g, and_self, decide_true, Bool.not_true, fT9, if_false, e2, if_true, e1, b1h h1, bS9, h2]
   ·rw [decide_eq_false g]; rfl)
  (fun k x hx hb => by
   have hk := b1k hx;have g : 0 <= x /\ x <= s.Places - 1 := Classical.byContradiction fun h => hb (.inl h);unfold B8v;rw [if_pos (by simp; omega), b1h hx, bS9, wN, B8q];simp only [g, and_self, decide_true, Bool.not_true, fT9, if_false];rw [b2r hk hex];by_cases e2 : (0 : Int) < (k : Int)
   ·obtain ⟨y, hy⟩ := b3b (show k - 1 < s.Exits.length by omega);have e1 : wr ((k : Int) - 1) = ((k - 1 : Nat) : Int) := by rw [b3t vd9 (by simp only [maxLen] at hex; omega)]; omega
    have h2 : ¬ x <= y := fun h => hb (.inr ⟨y, by omega, hy, h⟩);simp only [e2, decide_true, if_true, e1, b1h hy, bS9, h2, decide_false, fT9, if_false]
   ·simp only [e2, decide_false, fT9, if_false, bS9])
  (by unfold B8v; simp) with ⟨h1, h2⟩ | ⟨_, h2⟩
 ·rw [h2];refine ⟨0, rfl, fun _ => ⟨n0, n1, hlen, hall, hnd, fun k x hx => ?_⟩⟩;have := h1 k x hx;have g : 0 <= x /\ x <= s.Places - 1 := Classical.byContradiction fun h => this (.inl h);exact ⟨g.1, by omega, fun y h0 hy => Classical.byContradiction fun h => this (.inr ⟨y, h0, hy, by omega⟩)⟩
 ·rw [h2]; exact ⟨80, rfl, fun h => by cases h⟩
theorem o9k {l : List (Int × Int)} {k v x : Int} (h : x ∈ (b3w l k v).map (·.1)) : x ∈ l.map (·.1) \/ x = k := by
 unfold b3w at h;split at h
 ·obtain ⟨p, hp, rfl⟩ := List.mem_map.1 h;rcases List.mem_or_eq_of_mem_set hp with h | h
  ·exact .inl (List.mem_map.2 ⟨p, h, rfl⟩)
  ·exact .inr (by rw [h])
 ·rw [List.map_append, List.mem_append] at h;rcases h with h | h
  ·exact .inl h
  ·exact .inr (by simpa using h)
theorem C20 {s : Station} (hs : OkSt s) (hex : s.Exits.length <= maxLen) : B9i s = some 0 := by
 have n0 := hs.n0;have n1 := hs.n1;have hlen := hs.len;have wN : wr (s.Places - 1) = s.Places - 1 := b3t vd9 vd9;unfold B9i
 have c : ((!(b53 s.Places 1 10)) || (decide (24 < (List.length s.Passages : Int)))) = false := by
  rw [B9q, decide_eq_true vd9, decide_eq_false vd9]; rfl
 rw [c];simp only [fT9, if_false]
 obtain ⟨b, hb, rfl⟩ := j7u (f := B9j s) s.Passages.length (fun m k => (m, k)) (fun k m => ∀ x ∈ m.map (·.1), x ∈ b36 (s.Passages.take k) \/ x = -1) (fun b => b = Sum.inl ()) (fun m k hk hi => by
   obtain ⟨p, hp⟩ := b3b hk;have ok := hs.p p (mG9 hp);obtain ⟨a0, a1, b0, b1, ne, t0, t1, w0, w1, k0, k1, hm, hst⟩ := ok
   have hpass : B80 p s.Places = true := by
    unfold B80 B81;simp only [B9q, wN]
    have c1 : ((((!(decide (0 <= p.A /\ p.A <= s.Places - 1))) || (!(decide (0 <= p.B /\ p.B <= s.Places - 1)))) || (decide (p.A = p.B))) || (!(decide (1 <= p.Ticks /\ p.Ticks <= 20))) || (!(decide (1 <= p.Wide /\ p.Wide <= 50)))) = false := by
     rw [decide_eq_true vd9, decide_eq_true vd9, decide_eq_false ne, decide_eq_true vd9, decide_eq_true vd9]; rfl
    rw [c1];simp only [fT9, if_false];unfold c47 at hm;have hk : p.Kind = 1 \/ p.Kind = 2 \/ p.Kind = 3 \/ p.Kind = 4 \/ p.Kind = 5 := by omega
    rcases hk with e | e | e | e | e <;> rw [e] at hm hst ⊢ <;> simp at hm hst ⊢ <;> (try omega)
   have keep : ∀ v, ∀ x ∈ (b3w m p.Machine v).map (·.1), x ∈ b36 (s.Passages.take (k + 1)) \/ x = -1 := by
    intro v x hx;rw [B8y hp, B9x];rcases o9k hx with h | h
    ·rcases hi x h with h | h
     ·left; cases c47 p <;> simp [h]
     ·exact .inr h
    ·cases hL : c47 p with
     | true => left; simp [h]
     | false => right; rw [hL] at hm; simp at hm; omega
   refine .inl ⟨b3w m p.Machine (wr ((b2w m p.Machine 0) + 1)), ?_, keep _⟩;unfold B9j;show (if decide ((k : Int) < (s.Passages.length : Int)) then _ else _) = _
   rw [if_pos (by simp; omega), b1h hp, bS9, hpass];simp only [Bool.not_true, fT9, if_false]
   have hcond : ((decide (0 <= p.Machine)) && (decide (1 < (b2w (b3w m p.Machine (wr ((b2w m p.Machine 0) + 1))) p.Machine 0)))) = false := by
    rw [j77];by_cases g : 0 <= p.Machine
    ·have hL : c47 p = true := by cases h : c47 p with
      | true => rfl
      | false => rw [h] at hm; simp at hm; omega
     have hnd := hs.nd
     have hnk : p.Machine ∉ m.map (·.1) := fun h => by
      rcases hi _ h with h | h
      ·have : (b36 (s.Passages.take (k + 1))).Nodup := by
        have e : s.Passages = s.Passages.take (k + 1) ++ s.Passages.drop (k + 1) := (List.take_append_drop _ _).symm
        have e2 : b36 s.Passages = b36 (s.Passages.take (k + 1)) ++ b36 (s.Passages.drop (k + 1)) := by
         conv => lhs; rw [e]
         unfold b36; rw [List.filter_append, List.map_append]
        rw [e2] at hnd;exact (List.nodup_append.1 hnd).1
       rw [B8y hp, B9x, hL] at this;have := (List.nodup_append.1 this).2.2 _ h p.Machine (by simp);exact this rfl
      ·omega
     rw [g1o hnk, show wr (0 + 1) = 1 from rfl]; simp
    ·rw [decide_eq_false g]; rfl
   rw [hcond];simp only [fT9, if_false]
   rw [b3t (n := (k : Int) + 1) vd9 vd9])
  (fun m _ => ⟨_, by unfold B9j; simp, rfl⟩) (s := []) 0 (Nat.zero_le _) (fun x hx => by simp at hx)
 rw [show ((0 : Nat) : Int) = 0 from rfl] at hb;rw [hb, bS9];show B9l s = some 0
 unfold B9l
 obtain ⟨b, hb, rfl⟩ := j7u (f := B9k s) s.Exits.length (fun m k => (m, k)) (fun k m => (k = 0 /\ m = -1) \/ (0 < k /\ s.Exits[k - 1]? = some m)) (fun b => b = Sum.inl ()) (fun m k hk hi => by
   obtain ⟨x, hx⟩ := b3b hk;obtain ⟨h1, h2, h3⟩ := hs.e k x hx
   have hlow : -1 <= m /\ m + 1 <= x := by
    rcases hi with ⟨rfl, rfl⟩ | ⟨h0, hy⟩
    ·omega
    ·have := h3 m h0 hy
     have := (hs.e (k - 1) m hy).1;omega
   refine .inl ⟨x, ?_, .inr ⟨by omega, by simpa using hx⟩⟩;unfold B9k;show (if decide ((k : Int) < (s.Exits.length : Int)) then _ else _) = _
   rw [if_pos (by simp; omega), b1h hx, bS9, wN, b3t (n := m + 1) vd9 vd9, B9q, decide_eq_true vd9];simp only [Bool.not_true, fT9, if_false]
   rw [b2r hk hex])
  (fun m _ => ⟨_, by unfold B9k; simp, rfl⟩) (s := -1) 0 (Nat.zero_le _) (.inl ⟨rfl, rfl⟩)
 rw [show ((0 : Nat) : Int) = 0 from rfl] at hb;rw [hb]; rfl
end
end Go.Nw.VM
namespace Go.Nw.VM
open Go.Nw.Tp4
noncomputable section
theorem C2i {σ β : Type} {f : σ -> Option (Out σ β)} (μ : σ -> Nat) (J : σ -> Prop) (P : β -> Prop)
  (step : ∀ s, J s -> (∃ s', f s = some (.nx s') /\ J s' /\ μ s' < μ s) \/ ∃ b, f s = some (.br b) /\ P b) : ∀ (n : Nat) (s : σ), μ s <= n -> J s -> ∃ b, b0w f s = some b /\ P b := by
 intro n;induction n with
 | zero =>
  intro s hn hs;rcases step s hs with ⟨s', _, _, h⟩ | ⟨b, h1, h2⟩
  ·omega
  ·exact ⟨b, b3d h1, h2⟩
 | succ n ih =>
  intro s hn hs;rcases step s hs with ⟨s', h1, h2, h3⟩ | ⟨b, h1, h2⟩
  ·rw [w91 h1]; exact ih s' vd9 h2
  ·exact ⟨b, b3d h1, h2⟩
theorem C0r (g : Int -> Nat) : ∀ (l : List Int) (i : Nat) (a x : Int), l[i]? = some x -> ((l.set i a).map g).sum + g x = (l.map g).sum + g a
 | [], i, a, x, h => by simp at h
 | y :: l, 0, a, x, h => by
  simp only [List.getElem?_cons_zero, iE9] at h;subst h;simp only [List.set_cons_zero, List.map_cons, List.sum_cons]; omega
 | y :: l, i + 1, a, x, h => by
  simp only [List.getElem?_cons_succ] at h;have := C0r g l i a x h;simp only [List.set_cons_succ, List.map_cons, List.sum_cons]; omega
def j36 (l : List Int) : Nat := (l.map fun x => if 0 <= x then 1 else 0).sum
def c55 (l : List Int) : Nat := (l.map fun x => if 0 <= x then x.toNat else 1000).sum
theorem C00 : ∀ l : List Int, j36 l <= l.length
 | [] => by simp [j36]
 | x :: l => by
  have := C00 l;unfold j36 at this ⊢
  simp only [List.map_cons, List.sum_cons, List.length_cons];split <;> omega
structure OkT (n : Nat) (t : List Int) : Prop where
 len : t.length = n
 v : ∀ x ∈ t, -1 <= x /\ x <= 20 * (j36 t : Int)
section
variable {s : Station} (hs : OkSt s) {out : Nat} (ho : out < 4096) {help : Bool}
include hs ho
theorem C2o {p : Passage} (hp : p ∈ s.Passages) (fr : Int) : ∃ y, x81 ⟨s, (out : Int), help⟩ p fr = some y /\ (y = -1 \/ (0 <= y /\ y < s.Places)) := by
 have ok := hs.p p hp;have a0 := ok.a0; have a1 := ok.a1; have b0 := ok.b0; have b1 := ok.b1
 have hm := ok.m;unfold x81
 have key : ∃ c, ((if decide (p.Kind = 1) then some true else (if decide (p.Kind = 4) then (shr .i64 (out : Int) p.Machine).bind fun q4 => some (decide ((b6y q4 1) = 0)) else some false).bind fun c5 => some c5) : Option Bool) = some c := by
  by_cases k1 : p.Kind = 1
  ·simp [k1]
  ·by_cases k4 : p.Kind = 4
   ·have : c47 p = true := by unfold c47; simp [k4]
    rw [this] at hm;simp only [if_true] at hm;rw [g29 hm.1];simp [k4]
   ·simp [k1, k4]
 obtain ⟨c, hc⟩ := key;rw [hc, bS9];by_cases g : (!(c || ((decide (p.Kind = 5)) && help))) = true
 ·rw [if_pos g]; exact ⟨-1, rfl, .inl rfl⟩
 ·rw [if_neg g];by_cases e1 : p.A = fr
  ·simp only [e1, decide_true, if_true]; exact ⟨_, rfl, .inr ⟨b0, b1⟩⟩
  ·simp only [e1, decide_false, fT9, if_false];by_cases e2 : p.B = fr
   ·simp only [e2, decide_true, if_true]; exact ⟨_, rfl, .inr ⟨a0, a1⟩⟩
   ·simp only [e2, decide_false, fT9, if_false]; exact ⟨_, rfl, .inl rfl⟩
def Bet (n : Nat) (t0 : List Int) (x : List Int × Bool) : Prop := OkT n x.1 /\ ((x.2 = false /\ x.1 = t0) \/ c55 x.1 < c55 t0)
theorem C2v {N : Nat} (hN : s.Places = (N : Int)) {t0 t : List Int} {m : Bool} {fr : Nat} (hf : fr < N) (h : Bet N t0 (t, m)) : ∃ b, b0w (x18 ⟨s, (out : Int), help⟩ (fr : Int)) (t, m, 0) = some b /\ Bet N t0 b := by
 have n1 := hs.n1;have hlen := hs.len;have hN10 : N <= 10 := by omega
 obtain ⟨b, e, hb⟩ := j7u (f := x18 ⟨s, (out : Int), help⟩ (fr : Int)) s.Passages.length (fun (x : List Int × Bool) k => (x.1, x.2, k)) (fun _ x => Bet N t0 x) (fun b => Bet N t0 b) (fun x k hk hi => by
   obtain ⟨t, m⟩ := x;obtain ⟨p, hp⟩ := b3b hk;have ok := hs.p p (mG9 hp);obtain ⟨y, hy1, hy2⟩ := C2o hs ho (help := help) (mG9 hp) (fr : Int);have ek : wr ((k : Int) + 1) = (k : Int) + 1 := b3t vd9 vd9;obtain ⟨hT, hM⟩ := hi;have hT1 : t.length = N := hT.len;have hT2 : ∀ x ∈ t, -1 <= x /\ x <= 20 * (j36 t : Int) := hT.v;have stay : x52 (k : Int) t m = some (.nx (t, m, (k : Int) + 1)) := by unfold x52; rw [ek]
   unfold x18;show (∃ s', (if decide ((k : Int) < (s.Passages.length : Int)) then _ else _) = _ /\ _) \/ ∃ b, (if decide ((k : Int) < (s.Passages.length : Int)) then _ else _) = _ /\ _
   simp only [show ((k : Int) < (s.Passages.length : Int)) by omega, decide_true, if_true, b1h hp, bS9, hy1];by_cases g : y < 0
   ·simp only [g, decide_true, if_true, bS9];exact .inl ⟨(t, m), stay, hT, hM⟩
   obtain ⟨yn, rfl⟩ : ∃ yn : Nat, y = yn := ⟨y.toNat, by omega⟩;obtain ⟨v, hv⟩ := b3b (show yn < t.length by omega);obtain ⟨u, hu⟩ := b3b (show fr < t.length by omega);have v1 := hT2 v (mG9 hv);have u1 := hT2 u (mG9 hu);have hc := C00 t;simp only [g, decide_false, fT9, if_false, b1h hv, bS9, b1h hu];by_cases g2 : v < 0
   ·simp only [g2, decide_true, if_true];exact .inl ⟨(t, m), stay, hT, hM⟩
   simp only [g2, decide_false, fT9, if_false];have t0' := ok.t0;have t1' := ok.t1;have ew : wr (v + p.Ticks) = v + p.Ticks := b3t vd9 vd9;rw [ew];by_cases g3 : (decide (u < 0) || decide (v + p.Ticks < u)) = true
   ·rw [if_pos g3];simp only [Bool.or_eq_true, decide_eq_true_eq] at g3;have c1 := C0r (fun x => if 0 <= x then 1 else 0) t fr (v + p.Ticks) u hu;have m1 := C0r (fun x => if 0 <= x then x.toNat else 1000) t fr (v + p.Ticks) u hu;have hv0 : 0 <= v + p.Ticks := by omega
    simp only [hv0, if_true] at c1 m1;have hcs : j36 (t.set fr (v + p.Ticks)) + (if 0 <= u then 1 else 0) = j36 t + 1 := c1;have hms : c55 (t.set fr (v + p.Ticks)) + (if 0 <= u then u.toNat else 1000) = c55 t + (v + p.Ticks).toNat := m1
    have hcge : j36 t <= j36 (t.set fr (v + p.Ticks)) := by
     by_cases z : 0 <= u
     ·rw [if_pos z] at hcs; omega
     ·rw [if_neg z] at hcs; omega
    have hlt : c55 (t.set fr (v + p.Ticks)) < c55 t := by
     by_cases z : 0 <= u
     ·rw [if_pos z] at hms; omega
     ·rw [if_neg z] at hms; omega
    refine .inl ⟨(t.set fr (v + p.Ticks), true), ?_, ⟨by rw [List.length_set]; exact hT1, fun x hx => ?_⟩, .inr ?_⟩
    ·unfold x52;rw [ek, Int.toNat_natCast]
    ·show -1 <= x /\ x <= 20 * (j36 (t.set fr (v + p.Ticks)) : Int)
     rcases List.mem_or_eq_of_mem_set hx with hx | hx
     ·have := hT2 x hx
      exact ⟨this.1, by omega⟩
     ·rw [hx];refine ⟨by omega, ?_⟩;by_cases z : 0 <= u
      ·rcases g3 with g3 | g3
       ·omega
       ·have : v + p.Ticks <= 20 * (j36 t : Int) := by omega
        omega
      ·rw [if_neg z] at hcs; omega
    ·show c55 (t.set fr (v + p.Ticks)) < c55 t0
     rcases hM with ⟨_, h⟩ | h
     ·rw [show t = t0 from h] at hlt ⊢; exact hlt
     ·exact Nat.lt_trans hlt h
   ·rw [if_neg g3]
    exact .inl ⟨(t, m), stay, hT, hM⟩)
  (fun x hi => ⟨x, by unfold x18; simp, hi⟩) (s := (t, m)) 0 (Nat.zero_le _) h
 exact ⟨b, e, hb⟩
theorem C2p {N : Nat} (hN : s.Places = (N : Int)) {t : List Int} (h : OkT N t) : ∃ b, b0w (s17 ⟨s, (out : Int), help⟩) (t, false, 0) = some b /\ Bet N t b := by
 have n1 := hs.n1
 obtain ⟨b, e, hb⟩ := j7u (f := s17 ⟨s, (out : Int), help⟩) N (fun (x : List Int × Bool) k => (x.1, x.2, k)) (fun _ x => Bet N t x) (fun b => Bet N t b) (fun x k hk hi => by
   obtain ⟨t', m⟩ := x;obtain ⟨b, e1, e2⟩ := C2v hs ho (help := help) hN hk hi;refine .inl ⟨b, ?_, e2⟩;unfold s17;show (if decide ((k : Int) < s.Places) then _ else _) = _
   rw [if_pos (by rw [hN]; simp; omega), e1, bS9];obtain ⟨b1, b2⟩ := b;show B83 (k : Int) b1 b2 = _
   unfold B83
   rw [b3t (n := (k : Int) + 1) vd9 vd9])
  (fun x hi => ⟨x, by
   unfold s17;show (if decide ((N : Int) < s.Places) then _ else _) = _
   rw [if_neg (by rw [hN]; simp)], hi⟩) (s := (t, false)) 0 (Nat.zero_le _) ⟨h, .inl ⟨rfl, rfl⟩⟩
 exact ⟨b, e, hb⟩
theorem C1x {to : Int} (h0 : 0 <= to) (h1 : to < s.Places) : ∃ t : List Int, B8k ⟨s, (out : Int), help⟩ to = some t /\ (t.length : Int) = s.Places := by
 have n0 := hs.n0;have n1 := hs.n1;obtain ⟨N, hN⟩ : ∃ N : Nat, s.Places = (N : Int) := ⟨s.Places.toNat, by omega⟩;obtain ⟨tn, rfl⟩ : ∃ tn : Nat, to = tn := ⟨to.toNat, by omega⟩;unfold B8k;show ∃ t, ((mks 8 s.Places (0 : Int)).bind fun l2 => _) = some t /\ _
 rw [hN, g1q vd9 vd9, bS9]
 have hfill : b0w (B8l (tab N fun _ => (0 : Int))) ((tab N fun _ => (0 : Int)), 0) = some (tab N fun _ => (-1 : Int)) := by
  have e0 : (tab N fun _ => (0 : Int)) = fill N (fun _ => (-1 : Int)) 0 0 := by unfold fill; exact c1m fun i hi => by rw [if_neg vd9]
  refine b4h (f := B8l (tab N fun _ => (0 : Int))) N (fun t k => (t, k)) (fun k => fill N (fun _ => (-1 : Int)) 0 k) _ e0 (fun k hk => ?_) ?_
  ·unfold B8l;show (if decide ((k : Int) < (((tab N fun _ => (0 : Int)).length : Nat) : Int)) then _ else _) = _
   rw [if_pos (by rw [b3y]; simp; exact hk), d15 hk, bS9, Int.toNat_natCast, c2r rfl, b3t (n := (k : Int) + 1) vd9 vd9]
  ·unfold B8l;show (if decide ((N : Int) < (((tab N fun _ => (0 : Int)).length : Nat) : Int)) then _ else _) = _
   rw [if_neg (by rw [b3y]; simp), d1u (Nat.le_refl _)]
 rw [hfill, bS9];unfold B84;have htn : tn < N := by omega
 rw [c2y htn, bS9, Int.toNat_natCast];have hlen : ((tab N fun _ => (-1 : Int)).set tn 0).length = N := by rw [List.length_set, b3y]
 have hstart : OkT N ((tab N fun _ => (-1 : Int)).set tn 0) := ⟨hlen, fun x hx => by
  rcases List.mem_or_eq_of_mem_set hx with hx | hx
  ·obtain ⟨i, _, rfl⟩ := g3k hx; omega
  ·rw [hx]; omega⟩
 obtain ⟨t, e, ht⟩ := C2i (f := x45 ⟨s, (out : Int), help⟩) (fun x => 2 * c55 x.1 + if x.2 then 1 else 0) (fun x => OkT N x.1) (fun t => t.length = N) (fun x hx => by
   obtain ⟨t, m⟩ := x
   cases m with
   | false => exact .inr ⟨t, by unfold x45; rfl, hx.len⟩
   | true =>
    obtain ⟨⟨t', m'⟩, e1, e2, e3⟩ := C2p hs ho (help := help) hN hx;refine .inl ⟨(t', m'), ?_, e2, ?_⟩
    ·unfold x45;show (b0w (s17 ⟨s, (out : Int), help⟩) (t, false, 0)).bind _ = _
     rw [e1]; rfl
    ·show 2 * c55 t' + (if m' = true then 1 else 0) < 2 * c55 t + 1
     rcases e3 with ⟨h1, h2⟩ | h
     ·rw [show m' = false from h1, show t' = t from h2]; simp
     ·have : c55 t' < c55 t := h
      split <;> omega) _ ((tab N fun _ => (-1 : Int)).set tn 0, true) (Nat.le_refl _) hstart
 rw [e];exact ⟨t, rfl, by omega⟩
theorem C2e {fr to : Int} (f0 : 0 <= fr) (f1 : fr < s.Places) (h0 : 0 <= to) (h1 : to < s.Places) : ∃ b, b61 ⟨s, (out : Int), help⟩ fr to = some b := by
 obtain ⟨t, e, hl⟩ := C1x hs ho (help := help) h0 h1;obtain ⟨fn, rfl⟩ : ∃ fn : Nat, fr = fn := ⟨fr.toNat, by omega⟩;obtain ⟨x, hx⟩ := b3b (show fn < t.length by omega);unfold b61;rw [e, bS9, b1h hx];exact ⟨_, rfl⟩
end
theorem C2d {s : Station} {o1 o2 : Int} {help : Bool} (h : ∀ p ∈ s.Passages, ∀ fr, x81 ⟨s, o1, help⟩ p fr = x81 ⟨s, o2, help⟩ p fr) (fr to : Int) :
  b61 ⟨s, o1, help⟩ fr to = b61 ⟨s, o2, help⟩ fr to := by
 have h24 : ∀ x, x18 ⟨s, o1, help⟩ x = x18 ⟨s, o2, help⟩ x := by
  intro x;funext ⟨t, m, k⟩;unfold x18;show (if decide (k < (s.Passages.length : Int)) then (get s.Passages k).bind _ else _) = (if decide (k < (s.Passages.length : Int)) then (get s.Passages k).bind _ else _)
  cases hg : get s.Passages k with
  | none => rfl
  | some p =>
   have hp : p ∈ s.Passages := mG9 (b8j hg);simp only [bS9, h p hp x]
 have h26 : s17 ⟨s, o1, help⟩ = s17 ⟨s, o2, help⟩ := by
  funext ⟨t, m, k⟩;unfold s17;simp only [h24]
 have h27 : x45 ⟨s, o1, help⟩ = x45 ⟨s, o2, help⟩ := by
  funext ⟨t, m⟩;unfold x45;simp only [h26]
 unfold b61 B8k B84;rw [h27]
end
end Go.Nw.VM
namespace Go.Nw.VM
open Go.Nw.Tp4
noncomputable section
def onB (b : Nat) (a : List Nat) : Bool := a.any fun k => b.testBit k
def b31 (A : List (List Nat)) (seen : List Bool) (b i : Nat) : Bool := (onB b (A.getD i [])) != seen.getD i false
def exN (P : Nat) (A : List (List Nat)) (seen : List Bool) (b : Nat) : Nat -> Nat
 | 0 => b
 | k + 1 => if b31 A seen b k then exN P A seen b k ||| 2 ^ (P + k) else exN P A seen b k
theorem B13 {P : Nat} {A : List (List Nat)} {seen : List Bool} {b k : Nat} : exN P A seen b (k + 1) = if b31 A seen b k then exN P A seen b k ||| 2 ^ (P + k) else exN P A seen b k := rfl
theorem z71 {P : Nat} {A : List (List Nat)} {seen : List Bool} {b : Nat} (hb : b < 2 ^ P) : ∀ k, exN P A seen b k < 2 ^ (P + k)
 | 0 => hb
 | k + 1 => by
  have h := z71 (A := A) (seen := seen) hb k;have hp := Nat.pow_lt_pow_right (show 1 < 2 by omega) (show P + k < P + (k + 1) by omega);unfold exN;split
  ·exact Nat.or_lt_two_pow vd9 hp
  ·omega
theorem s79 {P : Nat} {A : List (List Nat)} {seen : List Bool} {b : Nat} (hb : b < 2 ^ P) (i : Nat) : ∀ k, (exN P A seen b k).testBit i = if i < P then b.testBit i else decide (i - P < k) && b31 A seen b (i - P)
 | 0 => by
  unfold exN;split
  ·rfl
  ·rename_i h;rw [Nat.testBit_lt_two_pow (Nat.lt_of_lt_of_le hb (Nat.pow_le_pow_right vd9 vd9))]; simp
 | k + 1 => by
  have h := s79 (A := A) (seen := seen) hb i k;unfold exN;by_cases c : i < P
  ·rw [if_pos c] at h ⊢
   split
   ·rw [Nat.testBit_or, h, Nat.testBit_two_pow]; have : ¬ P + k = i := by omega
    simp [this]
   ·exact h
  ·rw [if_neg c] at h ⊢
   by_cases e : i - P = k
   ·have e2 : i = P + k := by omega
    have h0 : ¬ i - P < k := by omega
    have h1 : i - P < k + 1 := by omega
    rw [decide_eq_true h1, Bool.true_and, e];split
    ·rename_i hm; rw [Nat.testBit_or, Nat.testBit_two_pow, e2, hm]; simp
    ·rename_i hm; rw [h, decide_eq_false h0]; simpa using hm
   ·have h2 : decide (i - P < k + 1) = decide (i - P < k) := by congr 1; simp only [eq_iff_iff]; omega
    rw [h2];split
    ·rw [Nat.testBit_or, h, Nat.testBit_two_pow]; have : ¬ P + k = i := by omega
     simp [this]
    ·exact h
structure OkAl (P : Nat) (A : List (List Nat)) : Prop where
 p : P <= 10
 n : A.length <= 10
 lt : ∀ a ∈ A, ∀ k ∈ a, k < P
 asc : ∀ a ∈ A, a.Pairwise (· < ·)
 len : ∀ a ∈ A, a.length <= 20
section
variable {P : Nat} {A : List (List Nat)} {seen : List Bool} (hA : OkAl P A) (hs : seen.length = A.length)
include hA
theorem B31 {b : Nat} (hb : b < 2 ^ P) {a : List Nat} (ha : a ∈ A) : b45 (b10 a) (fun z12 => c28 z12 (b : Int)) = some (onB b a) := by
 have hp := hA.p;have hq := Nat.pow_le_pow_right (n := 2) (show 0 < 2 by omega) hp
 obtain ⟨r, h1, h2⟩ := c20 (g := b45 (b10 a) (fun z12 => c28 z12 (b : Int))) (s := b10 a) (f := fun z12 => c28 z12 (b : Int)) (p := fun x => ∃ k : Nat, x = k /\ b.testBit k = true) rfl
  (by rw [c14]; exact Nat.le_trans (hA.len a ha) (by decide)) (fun x hx => by
   obtain ⟨k, hk, rfl⟩ := List.mem_map.1 hx;have hkP := hA.lt a ha k hk
   refine ⟨b.testBit k, ?_, ⟨fun h => ⟨k, rfl, h⟩, fun ⟨k', e, h⟩ => by have : k = k' := by omega
                                                                        subst this; exact h⟩⟩
   show c28 (k : Int) (b : Int) = _
   unfold c28;rw [g29 vd9, bS9, u6r vd9 vd9]
   cases b.testBit k <;> rfl)
 rw [h1];congr 1
 have e : onB b a = true ↔ r = true := by
  rw [h2];unfold onB;rw [List.any_eq_true];constructor
  ·rintro ⟨k, hk, h⟩; exact ⟨(k : Int), List.mem_map.2 ⟨k, hk, rfl⟩, k, rfl, h⟩
  ·rintro ⟨x, hx, k, rfl, h⟩;obtain ⟨k', hk', e⟩ := List.mem_map.1 hx;have : k' = k := by omega
   subst this; exact ⟨k', hk', h⟩
 cases r <;> cases h : onB b a <;> simp_all
include hs
theorem B14 {b : Nat} (hb : b < 2 ^ P) : z27 ⟨(P : Int), A.map b10⟩ seen (b : Int) = some ((exN P A seen b A.length : Nat) : Int) := by
 have hp := hA.p;have hn := hA.n
 have h := j7z (f := z49 ⟨(P : Int), A.map b10⟩ seen (b : Int)) A.length (fun s k => (s, k)) (fun k => ((exN P A seen b k : Nat) : Int)) ((exN P A seen b A.length : Nat) : Int) (fun k hk => by
   obtain ⟨a, ha⟩ := b3b hk;obtain ⟨sb, hsb⟩ := b3b (show k < seen.length by omega);have hlt := z71 (A := A) (seen := seen) hb k;have hq := Nat.pow_le_pow_right (n := 2) (show 0 < 2 by omega) (show P + k <= 20 by omega);unfold z49;show (if decide ((k : Int) < ((A.map b10).length : Int)) then _ else _) = _
   rw [if_pos (by simp; exact hk)];have hg : get (A.map b10) (k : Int) = some (b10 a) := b1h (by rw [List.getElem?_map, ha]; rfl);simp only [hg, bS9, B31 hA hb (mG9 ha), b1h hsb]
   have em : b31 A seen b k = (onB b a != sb) := by
    unfold b31; rw [List.getD_eq_getElem?_getD, List.getD_eq_getElem?_getD, ha, hsb]; rfl
   have ew : wr ((P : Int) + (k : Int)) = ((P + k : Nat) : Int) := by rw [b3t vd9 vd9]; omega
   have eb : (!(b5c (onB b a) sb)) = b31 A seen b k := by rw [em]; cases onB b a <;> cases sb <;> rfl
   rw [eb];have ek : wr ((k : Int) + 1) = (k : Int) + 1 := b3t vd9 vd9;show _ = some (Out.nx (((exN P A seen b (k + 1) : Nat) : Int), (k : Int) + 1))
   rw [B13]
   cases b31 A seen b k with
   | true =>
    simp only [if_true];rw [ew, u1e vd9, bS9];unfold x12;rw [ek, u22 vd9 (by have := u3z (y := P + k) vd9; omega)]
   | false =>
    simp only [fT9, if_false];unfold x12
    rw [ek])
  (by unfold z49; simp)
 unfold z27;rw [show ((exN P A seen b 0 : Nat) : Int) = (b : Int) from rfl] at h;rw [h]; rfl
theorem B33 : z5a ⟨(P : Int), A.map b10⟩ seen = some 0 := by
 have hp := hA.p;have hn := hA.n
 have inner : ∀ a ∈ A, b0w (B8p ⟨(P : Int), A.map b10⟩ (b10 a)) (-1, 0) = some (.inl ()) := by
  intro a ha;have hlen := hA.len a ha;have asc := List.pairwise_iff_getElem.1 (hA.asc a ha)
  obtain ⟨b, e, rfl⟩ := j7u (f := B8p ⟨(P : Int), A.map b10⟩ (b10 a)) a.length (fun s k => (s, k)) (fun k s => -1 <= s /\ s <= 10 /\ ∀ j x, k <= j -> a[j]? = some x -> s < (x : Int)) (fun b => b = Sum.inl ()) (fun s k hk hi => by
    obtain ⟨h1, h2, h3⟩ := hi;obtain ⟨x, hx⟩ := b3b hk;have hxP := hA.lt a ha x (mG9 hx);have h4 := h3 k x (Nat.le_refl _) hx;refine .inl ⟨(x : Int), ?_, by omega, by omega, fun j y hj hy => ?_⟩
    ·unfold B8p;show (if decide ((k : Int) < ((b10 a).length : Int)) then _ else _) = _
     rw [if_pos (by rw [c14]; simp; exact hk)];simp only [z90 hx, bS9];rw [b3t (n := s + 1) vd9 vd9, b3t (n := (P : Int) - 1) vd9 vd9]
     have : x11 (x : Int) (s + 1) ((P : Int) - 1) = true := by
      unfold x11; rw [decide_eq_true vd9, decide_eq_true vd9]; rfl
     rw [this, b3t (n := (k : Int) + 1) vd9 vd9]; rfl
    ·have hjl := b1k hy
     have hkl := b1k hx;have := asc k j hkl hjl vd9;rw [gG9 hkl] at hx;rw [gG9 hjl] at hy;have e1 := Option.some.inj hx;have e2 := Option.some.inj hy
     omega)
   (fun s hi => ⟨_, by
    unfold B8p;show (if decide ((a.length : Int) < ((b10 a).length : Int)) then _ else _) = _
    rw [if_neg (by rw [c14]; simp)], rfl⟩) (s := -1) 0 (Nat.zero_le _) ⟨by omega, by omega, fun j x _ _ => by omega⟩
  exact e
 have outer := b4h (f := z5b ⟨(P : Int), A.map b10⟩) A.length (fun (_ : Unit) k => k) (fun _ => ()) (Sum.inl () : Unit ⊕ Int) (s0 := ()) rfl (fun k hk => by
   obtain ⟨a, ha⟩ := b3b hk;unfold z5b;show (if decide ((k : Int) < ((A.map b10).length : Int)) then _ else _) = _
   rw [if_pos (by simp; exact hk)];have hg : get (A.map b10) (k : Int) = some (b10 a) := b1h (by rw [List.getElem?_map, ha]; rfl);simp only [hg, bS9, inner a (mG9 ha)];unfold z54
   rw [b3t (n := (k : Int) + 1) vd9 vd9])
  (by unfold z5b; simp)
 unfold z5a;have e1 : x11 (P : Int) 0 10 = true := by unfold x11; rw [decide_eq_true vd9, decide_eq_true vd9]; rfl
 have e2 : ¬ (10 : Int) < ((A.map b10).length : Int) := by rw [List.length_map]; omega
 simp only [e1, e2, Bool.not_true, decide_false, Bool.or_self, fT9, if_false, outer, bS9];unfold z55;simp only [List.length_map, hs, not_true_eq_false, decide_false, fT9, if_false]
end
def b21 (s : Nat) : Nat := (b12 20 s).length
def B8h : List Nat -> Nat -> List Nat
 | [], s => [s]
 | x :: xs, s => if b21 s < b21 x then [s] else if b21 s = b21 x then (x :: xs) ++ [s] else x :: xs
theorem z88 {x s : Nat} {xs : List Nat} : B8h (x :: xs) s = if b21 s < b21 x then [s] else if b21 s = b21 x then (x :: xs) ++ [s] else x :: xs := rfl
def b22 (f : Nat -> Nat) : Nat -> List Nat
 | 0 => []
 | i + 1 => B8h (b22 f i) (f i)
theorem B4c (l : List Nat) (s : Nat) : (B8h l s).length <= l.length + 1 := by
 cases l with
 | nil => simp [B8h]
 | cons x xs =>
  rw [z88];by_cases c : b21 s < b21 x
  ·rw [if_pos c]; simp
  ·rw [if_neg c];by_cases d : b21 s = b21 x
   ·rw [if_pos d]; simp
   ·rw [if_neg d]; simp
theorem z9z (f : Nat -> Nat) : ∀ i, (b22 f i).length <= i
 | 0 => by simp [b22]
 | i + 1 => by have := z9z f i; have := B4c (b22 f i) (f i); unfold b22; omega
theorem z6c (f : Nat -> Nat) : ∀ i, ∃ m, b22 f (i + 1) = ((List.range (i + 1)).map f).filter (fun s => decide (b21 s = m)) /\ (∀ j, j < i + 1 -> m <= b21 (f j)) /\ ∃ j, j < i + 1 /\ b21 (f j) = m
 | 0 => ⟨b21 (f 0), by simp [b22, B8h], fun j hj => by rw [show j = 0 by omega]; exact Nat.le_refl _, 0, by omega, rfl⟩
 | i + 1 => by
  obtain ⟨m, h1, h2, j0, hj0, h3⟩ := z6c f i;have hmem : f j0 ∈ b22 f (i + 1) := by rw [h1, List.mem_filter]; exact ⟨List.mem_map.2 ⟨j0, List.mem_range.2 hj0, rfl⟩, by simp [h3]⟩
  have hall : ∀ x ∈ b22 f (i + 1), b21 x = m := fun x hx => by rw [h1, List.mem_filter] at hx; simpa using hx.2
  have e : b22 f (i + 1 + 1) = B8h (b22 f (i + 1)) (f (i + 1)) := rfl;rw [List.range_succ, List.map_append, e]
  cases hl : b22 f (i + 1) with
  | nil => rw [hl] at hmem; cases hmem
  | cons x xs =>
   have hx := hall x (by rw [hl]; exact List.mem_cons_self);rw [z88, hx];by_cases c : b21 (f (i + 1)) < m
   ·refine ⟨b21 (f (i + 1)), ?_, fun j hj => ?_, i + 1, by omega, rfl⟩
    ·rw [if_pos c, List.filter_append]
     have : ((List.range (i + 1)).map f).filter (fun s => decide (b21 s = b21 (f (i + 1)))) = [] := by
      rw [List.filter_eq_nil_iff];intro s hs;obtain ⟨j, hj, rfl⟩ := List.mem_map.1 hs;have := h2 j (List.mem_range.1 hj);simp; omega
     rw [this]; simp
    ·by_cases z : j = i + 1
     ·rw [z]; exact Nat.le_refl _
     ·have := h2 j vd9; omega
   ·rw [if_neg c];refine ⟨m, ?_, fun j hj => ?_, j0, by omega, h3⟩
    ·rw [List.filter_append, <- h1, hl];by_cases g : b21 (f (i + 1)) = m
     ·rw [if_pos g]; simp [g]
     ·rw [if_neg g]; simp [g]
    ·by_cases z : j = i + 1
     ·rw [z]; omega
     ·exact h2 j vd9
section
variable {P : Nat} {A : List (List Nat)} {seen : List Bool} (hA : OkAl P A) (hs : seen.length = A.length)
def fA (P : Nat) (A : List (List Nat)) (seen : List Bool) (i : Nat) : Nat := exN P A seen i A.length
include hA
theorem s93 {i : Nat} (hi : i < 2 ^ P) : fA P A seen i < 2 ^ 20 := by
 have h := z71 (A := A) (seen := seen) hi A.length;have hp := hA.p;have hn := hA.n;exact Nat.lt_of_lt_of_le h (Nat.pow_le_pow_right vd9 vd9)
include hs
theorem B16 : b0w (B8o ⟨(P : Int), A.map b10⟩ seen ((2 ^ P : Nat) : Int)) ([], 0) = some (b10 (b22 (fA P A seen) (2 ^ P))) := by
 have hp := hA.p;have hq := Nat.pow_le_pow_right (n := 2) (show 0 < 2 by omega) hp;refine b4h (f := B8o ⟨(P : Int), A.map b10⟩ seen ((2 ^ P : Nat) : Int)) (2 ^ P) (fun s k => (s, k)) (fun k => b10 (b22 (fA P A seen) k)) _ (s0 := []) rfl (fun k hk => ?_) (by unfold B8o; simp);have ek : wr ((k : Int) + 1) = (k : Int) + 1 := b3t vd9 vd9;have hlt := s93 (seen := seen) hA hk
 have hall : ∀ x ∈ b22 (fA P A seen) k, x < 2 ^ 20 := by
  intro x hx
  cases k with
  | zero => cases hx
  | succ k =>
   obtain ⟨m, h1, _, _⟩ := z6c (fA P A seen) k;rw [h1, List.mem_filter] at hx;obtain ⟨j, hj, rfl⟩ := List.mem_map.1 hx.1;exact s93 hA (by have := List.mem_range.1 hj; omega)
 have hlen := z9z (fA P A seen) k;unfold B8o;show (if decide ((k : Int) < ((2 ^ P : Nat) : Int)) then _ else _) = _
 rw [if_pos (by simp only [decide_eq_true_eq]; omega), B14 hA hs hk, bS9, ek];show _ = some (Out.nx (b10 (B8h (b22 (fA P A seen) k) (fA P A seen k)), (k : Int) + 1))
 have hfa : ((exN P A seen k A.length : Nat) : Int) = ((fA P A seen k : Nat) : Int) := rfl;rw [hfa]
 cases hl : b22 (fA P A seen) k with
 | nil => rfl
 | cons x xs =>
  have hx := hall x (by rw [hl]; exact List.mem_cons_self);rw [hl] at hlen
  show ((l13 (IntKind.wrap .u64 ((fA P A seen k : Nat) : Int))).bind fun c1 => (l13 (IntKind.wrap .u64 (x : Int))).bind fun c2 => if decide (c1 < c2) then some (Out.nx ([((fA P A seen k : Nat) : Int)], (k : Int) + 1))
    else if decide (c1 = c2) then (ap 8 (b10 (x :: xs)) [((fA P A seen k : Nat) : Int)]).bind fun l2 => some (.nx (l2, (k : Int) + 1)) else some (.nx (b10 (x :: xs), (k : Int) + 1))) = _
  rw [u4e vd9, u4e vd9, z92 hlt, z92 hx, bS9, bS9];have c1 : (((b12 20 (fA P A seen k)).length : Int) < ((b12 20 x).length : Int)) ↔ b21 (fA P A seen k) < b21 x := by unfold b21; omega
  have c2 : (((b12 20 (fA P A seen k)).length : Int) = ((b12 20 x).length : Int)) ↔ b21 (fA P A seen k) = b21 x := by unfold b21; omega
  rw [z88];simp only [c1, c2];by_cases g : b21 (fA P A seen k) < b21 x
  ·simp only [g, decide_true, if_true]; rfl
  ·simp only [g, decide_false, fT9, if_false];by_cases g2 : b21 (fA P A seen k) = b21 x
   ·simp only [g2, decide_true, if_true];rw [b9k (by rw [c14]; simp only [List.length_cons, List.length_nil] at hlen ⊢; omega), bS9, B3x]; rfl
   ·simp only [g2, decide_false, fT9, if_false]
end
end
end Go.Nw.VM
namespace Go.Nw.VM
open Go.Nw.Tp4
noncomputable section
theorem B4b {l : List Nat} (h0 : l ≠ []) (h12 : l.length <= 12) (hl : ∀ x ∈ l, x < 2 ^ 20) : ∃ r, z5q (b10 l) (fun z0 z1 => c71 z0 z1) = some r /\ r.Perm (b10 l) := by
 have hd : ∀ i, i < (b10 l).toArray.size -> InS (b10 l).toArray[i]! := by
  intro i hi;have hi' : i < l.length := by simpa [b10] using hi
  have : (b10 l).toArray[i]! = ((l[i] : Nat) : Int) := by
   rw [getElem!_pos _ i hi]; simp [b10]
  rw [this];have := hl l[i] (List.getElem_mem hi');exact ⟨by omega, by omega⟩
 obtain ⟨e1, e2, e3⟩ := B3g B1y 0 (b10 l).toArray.size (b10 l).toArray hd (Nat.le_refl _) (Nat.zero_le _) (by simp [b10]; omega);obtain ⟨⟨p1, p2, p3⟩, _⟩ := Go.Sort.insertionSort_holds B4d (b10 l).toArray 0 (b10 l).toArray.size (Nat.zero_le _) (Nat.le_refl _);refine ⟨(Go.Sort.insertionSort ltS (b10 l).toArray 0 (b10 l).toArray.size).toList, ?_, ?_⟩
 ·unfold z5q
  have hp : 0 < (b10 l).length /\ (b10 l).length <= 12 := by
   rw [c14];exact ⟨List.length_pos_iff.2 h0, h12⟩
  rw [if_pos hp];rw [<- e1]; rfl
 ·have q1 : ∀ (a : Array Int) (n : Nat), a.size = n -> a.extract 0 n = a := fun a n h => by subst h; simp
  rw [q1 _ _ p1, q1 _ _ rfl] at p3;exact p3
section
variable {P : Nat} {A : List (List Nat)} {seen : List Bool} (hA : OkAl P A) (hs : seen.length = A.length)
include hA hs
theorem B17 (h12 : (b22 (fA P A seen) (2 ^ P)).length <= 12) : ∃ r, B8n ⟨(P : Int), A.map b10⟩ seen = some r /\ r.Perm (b10 (b22 (fA P A seen) (2 ^ P))) := by
 have hp := hA.p;have hq := Nat.two_pow_pos P;obtain ⟨m, h1, _, j, hj, hj2⟩ := z6c (fA P A seen) (2 ^ P - 1);rw [show 2 ^ P - 1 + 1 = 2 ^ P by omega] at h1 hj
 have hin : ∀ x ∈ b22 (fA P A seen) (2 ^ P), x < 2 ^ 20 := by
  intro x hx;rw [h1, List.mem_filter] at hx;obtain ⟨i, hi, rfl⟩ := List.mem_map.1 hx.1;exact s93 hA (List.mem_range.1 hi)
 have hne : b22 (fA P A seen) (2 ^ P) ≠ [] := by
  intro e;have : fA P A seen j ∈ b22 (fA P A seen) (2 ^ P) := by rw [h1, List.mem_filter]; exact ⟨List.mem_map.2 ⟨j, List.mem_range.2 hj, rfl⟩, by simp [hj2]⟩
  rw [e] at this; cases this
 obtain ⟨r, e1, e2⟩ := B4b hne h12 hin;refine ⟨r, ?_, e2⟩;unfold B8n;show (shl .i64 1 (P : Int)).bind _ = _
 rw [u1e vd9, bS9, B16 hA hs, bS9, e1]
theorem B0u {l : List Nat} {r : List Int} (hf : B8n ⟨(P : Int), A.map b10⟩ seen = some r) (hr : r.Perm (b10 l)) (hl : ∀ x ∈ l, x < 2 ^ 20) (hn : l.length <= 2000) :
  ∃ q, s94 ⟨(P : Int), A.map b10⟩ seen = some (q, 0) /\ q.Perm (l.map fun s => b10 (b12 20 s)) := by
 have hrl : r.length = l.length := by rw [hr.length_eq, c14]
 have hmem : ∀ x ∈ r, ∃ s : Nat, s < 2 ^ 20 /\ x = (s : Int) := fun x hx => by
  obtain ⟨s, hs, rfl⟩ := List.mem_map.1 (hr.mem_iff.1 hx);exact ⟨s, hl s hs, rfl⟩
 have hloop := b4h (f := z26 r) r.length (fun s k => (s, k)) (fun k => (r.take k).map fun x => b10 (b12 20 x.toNat)) (r.map fun x => b10 (b12 20 x.toNat)) (s0 := []) (by simp) (fun k hk => by
   obtain ⟨x, hx⟩ := b3b hk;obtain ⟨s, hs, rfl⟩ := hmem x (mG9 hx);unfold z26;show (if decide ((k : Int) < (r.length : Int)) then _ else _) = _
   rw [if_pos (by simp; exact hk), b1h hx, bS9, z6j hs, bS9, b9k (by simp only [List.length_map, List.length_take, List.length_cons, List.length_nil]; omega), bS9, b3t vd9 vd9];rw [show r.take (k + 1) = r.take k ++ [(s : Int)] by rw [List.take_succ, hx]; rfl, List.map_append]
   rfl)
  (by unfold z26; simp)
 refine ⟨r.map fun x => b10 (b12 20 x.toNat), ?_, ?_⟩
 ·unfold s94;rw [B33 hA hs, bS9, hf, bS9, hloop]; rfl
 ·have := hr.map fun x : Int => b10 (b12 20 x.toNat)
  refine this.trans (List.Perm.of_eq ?_);unfold b10;rw [List.map_map]; rfl
end
theorem z83 {j : Nat} (h : j < 20) : b12 20 (2 ^ j) = [j] := by
 have := z52 (j := j) (q := 0) (k := 20) h;rw [show 2 ^ j * (2 * 0 + 1) = 2 ^ j by omega, show 2 ^ (j + 1) * 0 = 0 by omega, y28] at this;exact this
theorem z5j {s : Nat} (hs : s < 2 ^ 20) (h : b21 s = 0) : s = 0 := by
 apply Classical.byContradiction; intro hc;obtain ⟨j, q, e⟩ := z80 s hc;subst e;unfold b21 at h;rw [z52 (z9a hs).1] at h;simp at h
theorem B15 : ((List.range 11).all fun P => decide (((List.range (2 ^ P)).countP fun i => decide (b21 i <= 1)) <= 11)) = true := by decide +kernel
section
variable {P : Nat} {A : List (List Nat)} {sw : Nat} (hA : OkAl P A) (hsw : sw < P)
def b28 (A : List (List Nat)) (sw : Nat) : List Bool := A.map fun a => a.contains sw
include hA hsw
theorem z91 : fA P A (b28 A sw) (2 ^ sw) = 2 ^ sw := by
 have hlt : 2 ^ sw < 2 ^ P := Nat.pow_lt_pow_right vd9 hsw;apply Nat.eq_of_testBit_eq;intro i;unfold fA;rw [s79 hlt i];split
 ·rfl
 ·rename_i c
  have hm : b31 A (b28 A sw) (2 ^ sw) (i - P) = false := by
   unfold b31 b28 onB;rw [List.getD_eq_getElem?_getD, List.getD_eq_getElem?_getD, List.getElem?_map]
   cases A[i - P]? with
   | none => rfl
   | some a =>
    show ((a.any fun k => (2 ^ sw).testBit k) != a.contains sw) = false
    have : (a.any fun k => (2 ^ sw).testBit k) = a.contains sw := by
     rw [List.contains_eq_any_beq];congr 1; funext k; rw [Nat.testBit_two_pow];by_cases e : sw = k <;> simp [e]
    rw [this]; simp
  rw [hm, Nat.testBit_lt_two_pow (Nat.lt_of_lt_of_le hlt (Nat.pow_le_pow_right vd9 vd9))]; simp
theorem z82 {i : Nat} (hi : i < 2 ^ P) (seen : List Bool) : b21 i <= b21 (fA P A seen i) := by
 unfold b21 b12;rw [<- List.countP_eq_length_filter, <- List.countP_eq_length_filter];refine List.countP_mono_left fun j hj h => ?_;unfold fA;rw [s79 hi j];split
 ·exact h
 ·rename_i c;rw [Nat.testBit_lt_two_pow (Nat.lt_of_lt_of_le hi (Nat.pow_le_pow_right vd9 vd9))] at h; cases h
theorem B0i : ∃ q, s94 ⟨(P : Int), A.map b10⟩ (b28 A sw) = some (q, 0) /\ q ≠ [] /\ q.length <= 2000 /\
  ((∃ a ∈ A, sw ∈ a) -> (∀ x ∈ q, ∃ j : Nat, x = [(j : Int)]) /\ [(sw : Int)] ∈ q) /\ ((∀ a ∈ A, ¬ sw ∈ a) -> ∀ x ∈ q, x = []) := by
 have hp := hA.p;have hq := Nat.two_pow_pos P;have hs : (b28 A sw).length = A.length := by simp [b28]
 have hlt : 2 ^ sw < 2 ^ P := Nat.pow_lt_pow_right vd9 hsw;obtain ⟨m, h1, h2, j, hj, hj2⟩ := z6c (fA P A (b28 A sw)) (2 ^ P - 1);rw [show 2 ^ P - 1 + 1 = 2 ^ P by omega] at h1 hj h2
 have hm1 : m <= 1 := by
  have := h2 (2 ^ sw) hlt;rw [z91 hA hsw] at this;unfold b21 at this;rw [z83 vd9] at this;exact this
 have h12 : (b22 (fA P A (b28 A sw)) (2 ^ P)).length <= 11 := by
  rw [h1, <- List.countP_eq_length_filter, List.countP_map];refine Nat.le_trans (List.countP_mono_left (q := fun i => decide (b21 i <= 1)) fun i hi h => ?_) (of_decide_eq_true (List.all_eq_true.1 B15 P (List.mem_range.2 vd9)));have h := of_decide_eq_true h;have := z82 hA hsw (List.mem_range.1 hi) (b28 A sw);exact decide_eq_true vd9
 have hin : ∀ x ∈ b22 (fA P A (b28 A sw)) (2 ^ P), x < 2 ^ 20 /\ b21 x = m := by
  intro x hx;rw [h1, List.mem_filter] at hx;obtain ⟨i, hi, rfl⟩ := List.mem_map.1 hx.1;exact ⟨s93 hA (List.mem_range.1 hi), by simpa using hx.2⟩
 have hjm : fA P A (b28 A sw) j ∈ b22 (fA P A (b28 A sw)) (2 ^ P) := by rw [h1, List.mem_filter]; exact ⟨List.mem_map.2 ⟨j, List.mem_range.2 hj, rfl⟩, by simp [hj2]⟩
 obtain ⟨r, e1, e2⟩ := B17 hA hs vd9;obtain ⟨q, e3, e4⟩ := B0u hA hs e1 e2 (fun x hx => (hin x hx).1) vd9;refine ⟨q, e3, ?_, by rw [e4.length_eq, List.length_map]; omega, fun hsome => ⟨?_, ?_⟩, fun hno => ?_⟩
 ·intro e; rw [e] at e4;have := e4.length_eq;rw [List.length_map] at this;have := List.length_pos_of_mem hjm;simp at *; omega
 ·have hm : m = 1 := by
   apply Classical.byContradiction; intro hc;have hm0 : m = 0 := by omega
   have hz := z5j (s93 hA hj) (by rw [hj2, hm0])
   have hj0 : j = 0 := by
    have := z82 hA hsw hj (b28 A sw);exact z5j (Nat.lt_of_lt_of_le hj (Nat.pow_le_pow_right vd9 vd9)) vd9
   obtain ⟨a, ha, hsa⟩ := hsome;obtain ⟨k, hk, hka⟩ := List.getElem_of_mem ha;have hb := s79 (A := A) (seen := b28 A sw) hj (P + k) A.length;rw [if_neg vd9, show P + k - P = k by omega] at hb;unfold fA at hz;rw [hz, hj0] at hb
   have hmis : b31 A (b28 A sw) 0 k = true := by
    unfold b31 b28 onB;rw [List.getD_eq_getElem?_getD, List.getD_eq_getElem?_getD, List.getElem?_map, gG9 hk, hka];show ((a.any fun k => (0 : Nat).testBit k) != a.contains sw) = true
    have h1 : (a.any fun k => (0 : Nat).testBit k) = false := by rw [List.any_eq_false]; simp
    have h2 : a.contains sw = true := by simpa using hsa
    rw [h1, h2]; rfl
   rw [hmis, decide_eq_true hk] at hb;simp at hb
  intro x hx;obtain ⟨s, hs', rfl⟩ := List.mem_map.1 (e4.mem_iff.1 hx);have hpm := (hin s hs').2;rw [hm] at hpm;unfold b21 at hpm;obtain ⟨k, hk⟩ := List.length_eq_one_iff.1 hpm;exact ⟨k, by rw [hk]; rfl⟩
 ·have hone := z91 hA hsw
  have hm : m = 1 \/ m = 0 := by omega
  have hsm : b21 (2 ^ sw) = m := by
   have hp1 : b21 (2 ^ sw) = 1 := by unfold b21; rw [z83 vd9]; rfl
   rcases hm with hm | hm
   ·rw [hp1, hm]
   ·exfalso;have hz := z5j (s93 hA hj) (by rw [hj2, hm])
    have hj0 : j = 0 := by
     have := z82 hA hsw hj (b28 A sw);exact z5j (Nat.lt_of_lt_of_le hj (Nat.pow_le_pow_right vd9 vd9)) vd9
    obtain ⟨a, ha, hsa⟩ := hsome;obtain ⟨k, hk, hka⟩ := List.getElem_of_mem ha;have hb := s79 (A := A) (seen := b28 A sw) hj (P + k) A.length;rw [if_neg vd9, show P + k - P = k by omega] at hb;unfold fA at hz;rw [hz, hj0] at hb
    have hmis : b31 A (b28 A sw) 0 k = true := by
     unfold b31 b28 onB;rw [List.getD_eq_getElem?_getD, List.getD_eq_getElem?_getD, List.getElem?_map, gG9 hk, hka];show ((a.any fun k => (0 : Nat).testBit k) != a.contains sw) = true
     have h1 : (a.any fun k => (0 : Nat).testBit k) = false := by rw [List.any_eq_false]; simp
     have h2 : a.contains sw = true := by simpa using hsa
     rw [h1, h2]; rfl
    rw [hmis, decide_eq_true hk] at hb;simp at hb
  have hin1 : 2 ^ sw ∈ b22 (fA P A (b28 A sw)) (2 ^ P) := by
   rw [h1, List.mem_filter];exact ⟨List.mem_map.2 ⟨2 ^ sw, List.mem_range.2 hlt, hone⟩, by simp [hsm]⟩
  refine e4.mem_iff.2 (List.mem_map.2 ⟨2 ^ sw, hin1, ?_⟩);rw [z83 vd9]; rfl
 ·have hz0 : fA P A (b28 A sw) 0 = 0 := by
   apply Nat.eq_of_testBit_eq;intro i;unfold fA;rw [s79 hq i];split
   ·rfl
   ·have hm : b31 A (b28 A sw) 0 (i - P) = false := by
     unfold b31 b28 onB;rw [List.getD_eq_getElem?_getD, List.getD_eq_getElem?_getD, List.getElem?_map]
     cases hx : A[i - P]? with
     | none => rfl
     | some a =>
      show ((a.any fun k => (0 : Nat).testBit k) != a.contains sw) = false
      have h1 : (a.any fun k => (0 : Nat).testBit k) = false := by rw [List.any_eq_false]; simp
      have h2 : a.contains sw = false := by simpa using hno a (mG9 hx)
      rw [h1, h2]; rfl
    rw [hm]; simp
  have hm : m = 0 := by
   have := h2 0 hq;rw [hz0] at this;unfold b21 at this;rw [y28] at this;exact Nat.le_zero.1 this
  intro x hx;obtain ⟨s, hs', rfl⟩ := List.mem_map.1 (e4.mem_iff.1 hx);have hpm := hin s hs';rw [hm] at hpm;rw [z5j hpm.1 hpm.2, y28]; rfl
end
end
end Go.Nw.VM
namespace Go.Nw.VM
open Go.Nw.Tp4
noncomputable section
section
variable {s : Station} (hs : OkSt s) (hex : s.Exits.length <= maxLen) {help : Bool} (hL : ∀ p ∈ s.Passages, p.Kind = 4 -> p.Machine < 10)
 {a b : Int} (a0 : 0 <= a) (a1 : a < s.Places) (b0 : 0 <= b) (b1 : b < s.Places)
include hs hex a0 a1 b0 b1
theorem C0a {out : Nat} (ho : out < 4096) : B8z s (out : Int) [a, b] = some 0 := by
 have n0 := hs.n0;have n1 := hs.n1;have wN : wr (s.Places - 1) = s.Places - 1 := b3t vd9 vd9
 have hpl : B9o s [a, b] = some true := by
  have hlen : ([a, b] : List Int).length = 2 := rfl
  have h := b4h (f := B9p s [a, b]) 2 (fun (_ : Unit) k => k) (fun _ => ()) (Sum.inl () : Unit ⊕ Bool) (s0 := ()) rfl (fun k hk => by
    obtain ⟨x, hx⟩ := b3b (l := [a, b]) (show k < ([a, b] : List Int).length by rw [hlen]; exact hk)
    have hxb : 0 <= x /\ x <= s.Places - 1 := by
     have := mG9 hx;simp only [List.mem_cons, List.not_mem_nil, or_false] at this;rcases this with rfl | rfl <;> omega
    unfold B9p;rw [if_pos (by rw [hlen]; simp; omega), b1h hx, bS9, wN, B9q, decide_eq_true hxb];simp only [Bool.not_true, fT9, if_false]
    rw [b3t (n := (k : Int) + 1) vd9 vd9])
   (by unfold B9p; simp)
  unfold B9o;rw [h]; rfl
 unfold B8z;rw [C20 hs hex, bS9, B9q, decide_eq_true (show 0 <= (out : Int) /\ (out : Int) <= 4095 by omega), hpl];rfl
theorem C02 {out : Nat} (ho : out < 4096) : ∃ j, b61 ⟨s, (out : Int), help⟩ a b = some j := C2e hs ho a0 a1 b0 b1
include hL in
theorem C21 {m : Nat} (h10 : 10 <= m) (h12 : m < 12) : b61 ⟨s, ((2 ^ m : Nat) : Int), help⟩ a b = b61 ⟨s, ((0 : Nat) : Int), help⟩ a b := by
 refine C2d (fun p hp fr => ?_) a b;have hq : 2 ^ m < 2 ^ 12 := Nat.pow_lt_pow_right vd9 h12
 have e : ((if decide (p.Kind = 4) then (shr .i64 ((2 ^ m : Nat) : Int) p.Machine).bind fun q4 => some (decide ((b6y q4 1) = 0)) else some false) : Option Bool) = (if decide (p.Kind = 4) then (shr .i64 ((0 : Nat) : Int) p.Machine).bind fun q4 => some (decide ((b6y q4 1) = 0)) else some false) := by
  by_cases k4 : p.Kind = 4
  ·have hm := (hs.p p hp).m
   have : c47 p = true := by unfold c47; simp [k4]
   rw [this] at hm;simp only [if_true] at hm;have hlt := hL p hp k4;obtain ⟨w, hw⟩ : ∃ w : Nat, p.Machine = w := ⟨p.Machine.toNat, by omega⟩;simp only [k4, decide_true, if_true];rw [hw, g29 vd9, g29 vd9, bS9, bS9, u6r vd9 vd9, u6r vd9 vd9, Nat.testBit_two_pow];have : ¬ m = w := by omega
   simp [this]
  ·simp [k4]
 unfold x81;show (((if decide (p.Kind = 1) then some true else (if decide (p.Kind = 4) then (shr .i64 ((2 ^ m : Nat) : Int) p.Machine).bind fun q4 => some (decide ((b6y q4 1) = 0)) else some false).bind fun c5 => some c5) : Option Bool)).bind _ = _
 rw [e]
theorem C2n {jb : Nat -> Bool} (hj : ∀ m, m < 12 -> b61 ⟨s, ((2 ^ m : Nat) : Int), help⟩ a b = some (jb m)) (hj0 : b61 ⟨s, ((0 : Nat) : Int), help⟩ a b = some true) :
  B8i s 0 help a b = some (b10 ((List.range 12).filter fun m => !jb m), 0) := by
 have hloop := C2h (f := B9m s 0 help a b) 12 (fun m => !jb m) (fun m => (m : Int)) (fun l k hk hl => by
   have hp : 2 ^ k < 2 ^ 12 := Nat.pow_lt_pow_right vd9 hk;unfold B9m;show (if decide ((k : Int) < 12) then _ else _) = _
   rw [if_pos (by simp; omega), g29 vd9, bS9];have z : b6y (d45 .i64 0 (k : Int)) 1 = 0 := by have := u6r (a := 0) (y := k) vd9 vd9; simpa using this
   have zb : bor 0 ((2 ^ k : Nat) : Int) = ((2 ^ k : Nat) : Int) := by have := u22 (a := 0) (b := 2 ^ k) vd9 vd9; simpa using this
   simp only [z, decide_true, if_true, u1e (y := k) vd9, bS9, zb, hj k hk];have ek : wr ((k : Int) + 1) = (k : Int) + 1 := b3t vd9 vd9;unfold B9n
   cases jb k with
   | true => simp only [Bool.not_true, fT9, if_false, ek]
   | false =>
    simp only [Bool.not_false, if_true]
    rw [b9k (by simp only [List.length_cons, List.length_nil]; omega), bS9, ek])
  (fun l => by unfold B9m; simp)
 unfold B8i;have ha := C0a hs hex a0 a1 b0 b1 (out := 0) vd9;rw [show ((0 : Nat) : Int) = 0 from rfl] at ha hj0;rw [ha, bS9, hj0, bS9, hloop, bS9];rfl
theorem x9b (hj0 : b61 ⟨s, ((0 : Nat) : Int), help⟩ a b = some false) : B8i s 0 help a b = some ([], 3) := by
 unfold B8i;have ha := C0a hs hex a0 a1 b0 b1 (out := 0) vd9;rw [show ((0 : Nat) : Int) = 0 from rfl] at ha hj0;rw [ha, bS9, hj0];rfl
theorem C1j {w : Nat} (hw : w < 10) {j : Bool} (hj : b61 ⟨s, ((2 ^ w : Nat) : Int), help⟩ a b = some j) : ∃ x y, B9h s ((2 ^ w : Nat) : Int) help [a, b] = some (x, y, !j, 0) := by
 have hp : 2 ^ w < 2 ^ 12 := Nat.pow_lt_pow_right vd9 vd9;unfold B9h;rw [C0a hs hex a0 a1 b0 b1 hp, bS9];have s1 : sub [a, b] 1 2 = some [b] := rfl;have s2 : sub [a, b] 2 2 = some [] := rfl
 cases j with
 | false =>
  have h14 : b0w (x37 s ((2 ^ w : Nat) : Int) help a [b]) 0 = some (.inr (a, b, true, 0)) := by
   refine b3d ?_;unfold x37;show (if decide ((0 : Int) < (([b] : List Int).length : Int)) then (get [b] 0).bind _ else _) = _
   rw [show get [b] 0 = some b from rfl, bS9, hj];rfl
  have h16 : b0w (y14 s ((2 ^ w : Nat) : Int) help [a, b]) 0 = some (.inr (a, b, true, 0)) := by
   refine b3d ?_;unfold y14;show (if decide ((0 : Int) < (([a, b] : List Int).length : Int)) then (get [a, b] 0).bind (fun x13 => (sub [a, b] 1 2).bind _) else _) = _
   rw [show get [a, b] 0 = some a from rfl, bS9, s1, bS9, h14];rfl
  refine ⟨a, b, ?_⟩;rw [h16]; rfl
 | true =>
  have h14 : b0w (x37 s ((2 ^ w : Nat) : Int) help a [b]) 0 = some (.inl ()) := by
   refine (w91 (s' := 1) ?_).trans (b3d ?_)
   ·unfold x37;show (if decide ((0 : Int) < (([b] : List Int).length : Int)) then (get [b] 0).bind _ else _) = _
    rw [show get [b] 0 = some b from rfl, bS9, hj];rfl
   ·unfold x37; simp
  have h15 : b0w (x37 s ((2 ^ w : Nat) : Int) help b []) 0 = some (.inl ()) := b3d (by unfold x37; simp)
  have h16 : b0w (y14 s ((2 ^ w : Nat) : Int) help [a, b]) 0 = some (.inl ()) := by
   refine (w91 (s' := 1) ?_).trans ((w91 (s' := 2) ?_).trans (b3d ?_))
   ·unfold y14;show (if decide ((0 : Int) < (([a, b] : List Int).length : Int)) then (get [a, b] 0).bind (fun x13 => (sub [a, b] 1 2).bind _) else _) = _
    rw [show get [a, b] 0 = some a from rfl, bS9, s1, bS9, h14];rfl
   ·unfold y14;show (if decide ((1 : Int) < (([a, b] : List Int).length : Int)) then (get [a, b] 1).bind (fun x13 => (sub [a, b] 2 2).bind _) else _) = _
    rw [show get [a, b] 1 = some b from rfl, bS9, s2, bS9, h15];rfl
   ·unfold y14; simp
  refine ⟨0, 0, ?_⟩;rw [h16]; rfl
end
structure OkA1 (a : List Nat) : Prop where
 lt : ∀ k ∈ a, k < 10
 asc : a.Pairwise (· < ·)
 len : a.length <= 20
theorem C2w {A : List (List Nat)} {a : List Nat} {w : Nat} : b28 (A ++ [a]) w = b28 A w ++ [a.contains w] := by unfold b28; simp
section
variable (hm : x28 = some true)
include hm
theorem C2k [Bd] (s : Station) (help : Bool) (x : neweltop_Missed) (hs0 : B9u s) (_ : True) (hx0 : B9v x) : B87 s help x = some true := by
 have hex : s.Exits.length <= maxLen := Nat.le_trans hs0.2.2.1 Bd.le;unfold B87;have hmm : ((x28).bind fun y12 => some y12) = some true := by rw [hm]; rfl
 rw [hmm];by_cases hp24 : (24 : Int) < (s.Passages.length : Int)
 ·simp only [hp24, decide_true, if_true, bS9, Bool.true_or]
 simp only [hp24, decide_false, fT9, if_false];obtain ⟨r, hr, hr0⟩ := C2q hex;rw [hr, bS9, bS9];by_cases hz : r = 0
 case neg => simp [hz]
 have hs := hr0 hz;simp only [hz, not_true_eq_false, decide_false, Bool.false_or];by_cases hb : ((decide (x.Lift < 0) || decide (10 <= x.Lift)) || decide ((10 : Int) < (x.Pairs.length : Int))) = true
 ·rw [if_pos hb]
 rw [if_neg hb];simp only [Bool.or_eq_true, decide_eq_true_eq] at hb;obtain ⟨w, hw⟩ : ∃ w : Nat, x.Lift = w := ⟨x.Lift.toNat, by omega⟩;have hw10 : w < 10 := by omega
 have hn10 : x.Pairs.length <= 10 := by omega
 have hp24' : s.Passages.length <= 24 := by omega
 -- whether a passage is a lift that is too high
 obtain ⟨b, hb1, hb2⟩ := j7u (f := B88 s x) s.Passages.length (fun l k => (l, k)) (fun k _ => ∀ p ∈ s.Passages.take k, p.Kind = 4 -> p.Machine < 10) (fun b => b = Sum.inr true \/ ((∃ l, b = Sum.inl l) /\ ∀ p ∈ s.Passages, p.Kind = 4 -> p.Machine < 10)) (fun l k hk hi => by
   obtain ⟨p, hp⟩ := b3b hk;unfold B88;show (∃ s', (if decide ((k : Int) < (s.Passages.length : Int)) then _ else _) = _ /\ _) \/ ∃ b, (if decide ((k : Int) < (s.Passages.length : Int)) then _ else _) = _ /\ _
   simp only [show ((k : Int) < (s.Passages.length : Int)) by omega, decide_true, if_true, b1h hp, bS9];by_cases c : (decide (p.Kind = 4) && decide (10 <= p.Machine)) = true
   ·rw [if_pos c, hm];exact .inr ⟨_, rfl, .inl rfl⟩
   ·rw [if_neg c, b3t (n := (k : Int) + 1) vd9 vd9];simp only [Bool.and_eq_true, decide_eq_true_eq] at c;refine .inl ⟨_, rfl, fun q hq k4 => ?_⟩;rw [B8y hp, List.mem_append] at hq;rcases hq with hq | hq
    ·exact hi q hq k4
    ·rw [List.mem_singleton.1 hq] at k4 ⊢
     omega)
  (fun l hi => by
   rw [List.take_of_length_le (Nat.le_refl _)] at hi
   exact ⟨Sum.inl l, by unfold B88; simp, .inr ⟨⟨l, rfl⟩, hi⟩⟩) (s := false) 0 (Nat.zero_le _) (fun p hp => by simp at hp)
 rw [show ((0 : Nat) : Int) = 0 from rfl] at hb1;rw [hb1, bS9];rcases hb2 with rfl | ⟨⟨l, rfl⟩, hL⟩
 ·rfl
 show B9a s help x l = some true
 unfold B9a
 cases l with
 | false => simp only [Bool.not_false, if_true]; rw [hm]; rfl
 | true =>
 simp only [Bool.not_true, fT9, if_false]
 obtain ⟨b, hb1, hb2⟩ := j7u (f := B89 s help x) x.Pairs.length (fun (s : List (List Int) × List Bool × Bool) k => (s.1, s.2.1, s.2.2, k)) (fun k s => ∃ A : List (List Nat), A.length = k /\ (∀ a ∈ A, OkA1 a) /\ s = (A.map b10, b28 A w, (b28 A w).any id)) (fun b => b = Sum.inr true \/ ∃ A : List (List Nat), A.length <= 10 /\ (∀ a ∈ A, OkA1 a) /\ b = Sum.inl (A.map b10, b28 A w, (b28 A w).any id)) (fun st k hk hi => by
   obtain ⟨A, hAl, hA, rfl⟩ := hi;obtain ⟨pr, hp⟩ := b3b hk;unfold B89;show (∃ s', (if decide ((k : Int) < (x.Pairs.length : Int)) then _ else _) = _ /\ _) \/ ∃ b, (if decide ((k : Int) < (x.Pairs.length : Int)) then _ else _) = _ /\ _
   simp only [show ((k : Int) < (x.Pairs.length : Int)) by omega, decide_true, if_true, b1h hp, bS9];by_cases c : (((decide (pr.1 < 0) || decide (s.Places <= pr.1)) || decide (pr.2 < 0)) || decide (s.Places <= pr.2)) = true
   ·rw [if_pos c, hm];exact .inr ⟨_, rfl, .inl rfl⟩
   rw [if_neg c];simp only [Bool.or_eq_true, decide_eq_true_eq] at c;have a0 : 0 <= pr.1 := by omega
   have a1 : pr.1 < s.Places := by omega
   have b0 : 0 <= pr.2 := by omega
   have b1 : pr.2 < s.Places := by omega
   obtain ⟨j0, hj0⟩ := C02 hs hex (help := help) a0 a1 b0 b1 (out := 0) vd9
   cases j0 with
   | false =>
    rw [x9b hs hex a0 a1 b0 b1 hj0, bS9];simp only [decide_true, if_true];rw [hm];exact .inr ⟨_, rfl, .inl rfl⟩
   | true =>
    have H := fun (m : Nat) (h : m < 12) => C02 hs hex (help := help) a0 a1 b0 b1 (out := 2 ^ m) (show 2 ^ m < 2 ^ 12 from Nat.pow_lt_pow_right (show 1 < 2 by omega) h)
    obtain ⟨jb, hjb⟩ : ∃ jb : Nat -> Bool, ∀ m, m < 12 -> b61 ⟨s, ((2 ^ m : Nat) : Int), help⟩ pr.1 pr.2 = some (jb m) :=
     ⟨fun m => if h : m < 12 then (H m h).choose else false, fun m h => by simp only [h, dif_pos]; exact (H m h).choose_spec⟩
    clear H;rw [C2n hs hex a0 a1 b0 b1 hjb hj0, bS9];have e3 : ¬ (0 : Int) = 3 := by decide
    obtain ⟨u, v, hap⟩ := C1j hs hex a0 a1 b0 b1 hw10 (hjb w vd9);simp only [e3, decide_false, fT9, if_false];rw [hw, u4e vd9, u1e vd9, bS9, hap, bS9];simp only [not_true_eq_false, decide_false, Bool.or_self, fT9, if_false]
    have hcw : ((List.range 12).filter fun m => !jb m).contains w = !jb w := by
     rw [Bool.eq_iff_iff, List.contains_iff_mem, List.mem_filter, List.mem_range];exact ⟨fun h => h.2, fun h => ⟨by omega, h⟩⟩
    rw [b9k (by simp only [List.length_map, List.length_cons, List.length_nil]; omega), bS9, b9k (by simp only [b28, List.length_map, List.length_cons, List.length_nil]; omega), bS9, b3t (n := (k : Int) + 1) vd9 vd9];refine .inl ⟨((A ++ [(List.range 12).filter fun m => !jb m]).map b10, b28 (A ++ [(List.range 12).filter fun m => !jb m]) w, (b28 (A ++ [(List.range 12).filter fun m => !jb m]) w).any id), ?_, A ++ [(List.range 12).filter fun m => !jb m], by rw [List.length_append, hAl]; rfl, fun a ha => ?_, rfl⟩
    ·rw [C2w, hcw, List.map_append, List.any_append];simp
    ·rw [List.mem_append] at ha;rcases ha with ha | ha
     ·exact hA a ha
     ·rw [List.mem_singleton.1 ha];refine ⟨fun m hm' => ?_, List.Pairwise.filter _ List.pairwise_lt_range, Nat.le_trans (List.length_filter_le _ _) (by simp)⟩;rw [List.mem_filter, List.mem_range] at hm';apply Classical.byContradiction; intro h10;have := C21 hs hex hL (help := help) a0 a1 b0 b1 (m := m) vd9 hm'.1;rw [hjb m hm'.1, hj0] at this;have e := Option.some.inj this;rw [e] at hm'
      simp at hm')
  (fun st hi => by
   obtain ⟨A, hAl, hA, rfl⟩ := hi
   exact ⟨_, by unfold B89; simp, .inr ⟨A, by omega, hA, rfl⟩⟩) (s := ([], [], false)) 0 (Nat.zero_le _) ⟨[], rfl, (fun a ha => by cases ha), rfl⟩
 rw [show ((0 : Nat) : Int) = 0 from rfl] at hb1;rw [hb1, bS9];rcases hb2 with rfl | ⟨A, hAl, hA1, rfl⟩
 ·rfl
 show B9b x (A.map b10) (b28 A w) ((b28 A w).any id) = some true
 have hA : OkAl 10 A := ⟨by omega, hAl, fun a ha => (hA1 a ha).lt, fun a ha => (hA1 a ha).asc, fun a ha => (hA1 a ha).len⟩;obtain ⟨q, e1, e2, hq2, e3, e4⟩ := B0i hA hw10;unfold B9b;rw [show (10 : Int) = ((10 : Nat) : Int) from rfl, e1, bS9];have hq0 : ¬ (q.length : Int) = 0 := by have := List.length_pos_iff.2 e2; omega
 simp only [not_true_eq_false, decide_false, hq0, Bool.or_self, fT9, if_false];by_cases hB : ∃ a ∈ A, w ∈ a
 ·obtain ⟨f1, f2⟩ := e3 hB
  have hBt : (b28 A w).any id = true := by
   obtain ⟨a, ha, h⟩ := hB;rw [List.any_eq_true];exact ⟨true, List.mem_map.2 ⟨a, ha, by simpa using h⟩, rfl⟩
  rw [hBt]
  have hf := b4h (f := y11 x true (q, 0)) q.length (fun s k => (s, k)) (fun k => (q.take k).any fun x => decide (x = [(w : Int)])) (Sum.inl (q.any fun x => decide (x = [(w : Int)]))) (s0 := false) (by simp) (fun k hk => by
    obtain ⟨x, hx⟩ := b3b hk;obtain ⟨j, rfl⟩ := f1 x (mG9 hx);have hql : q.length <= 2000 := hq2;unfold y11;show (if decide ((k : Int) < (q.length : Int)) then _ else _) = _
    rw [if_pos (by simp; exact hk)];rw [show q.take (k + 1) = q.take k ++ [[(j : Int)]] by rw [List.take_succ, hx]; rfl, List.any_append];have g0 : get [(j : Int)] 0 = some (j : Int) := rfl;simp only [if_true, b1h hx, bS9, List.length_cons, List.length_nil, Bool.not_true, fT9, if_false, g0, hw];rw [b3t vd9 vd9]
    cases (q.take k).any fun x => decide (x = [(w : Int)]) with
    | true => simp
    | false => simp)
   (by
    unfold y11;show (if decide ((q.length : Int) < (q.length : Int)) then _ else _) = _
    rw [if_neg (by simp), List.take_of_length_le vd9])
  rw [hf, bS9]
  have : (q.any fun x => decide (x = [(w : Int)])) = true := by
   rw [List.any_eq_true]; exact ⟨_, f2, by simp⟩
  rw [this];show B8e true true = some true
  unfold B8e;rw [hm]; rfl
 ·have f1 := e4 fun a ha h => hB ⟨a, ha, h⟩
  have hBt : (b28 A w).any id = false := by
   rw [List.any_eq_false];intro b hb;obtain ⟨a, ha, rfl⟩ := List.mem_map.1 hb;simpa using fun h => hB ⟨a, ha, h⟩
  rw [hBt]
  have hf := b4h (f := y11 x false (q, 0)) q.length (fun s k => (s, k)) (fun k => false) (Sum.inl false) (s0 := false) rfl (fun k hk => by
    obtain ⟨x, hx⟩ := b3b hk;have := f1 x (mG9 hx);subst this;have hql : q.length <= 2000 := hq2;unfold y11;show (if decide ((k : Int) < (q.length : Int)) then _ else _) = _
    rw [if_pos (by simp; exact hk)];simp only [fT9, if_false, bS9, b1h hx, Bool.not_false, if_true, List.length_nil];rw [b3t vd9 vd9]
    rfl)
   (by
    unfold y11;show (if decide ((q.length : Int) < (q.length : Int)) then _ else _) = _
    rw [if_neg (by simp)])
  rw [hf, bS9];show B8e false false = some true
  unfold B8e;rw [hm]; rfl
end
end
end Go.Nw.VM
