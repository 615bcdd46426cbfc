/- Bits of small numbers: how many, and which, as the library counts and finds them. -/
import Derived.Test.YtbmfnjehcnbpbaaDoorP3
set_option linter.all false
namespace Go.Nw
def b12 (k n : Nat) : List Nat := (List.range k).filter fun i => n.testBit i
theorem C8o {w hi lo mh ml : Nat} (h : lo < 2 ^ w) (hm : ml < 2 ^ w) : (2 ^ w * hi + lo) &&& (2 ^ w * mh + ml) = 2 ^ w * (hi &&& mh) + (lo &&& ml) := by
 have hl : lo &&& ml < 2 ^ w := Nat.lt_of_le_of_lt Nat.and_le_left h
 apply Nat.eq_of_testBit_eq
 intro i
 rw [Nat.testBit_and, Nat.testBit_two_pow_mul_add _ h, Nat.testBit_two_pow_mul_add _ hm, Nat.testBit_two_pow_mul_add _ hl]
 by_cases c : i < w
 ·simp only [c, if_true, Nat.testBit_and]
 ·simp only [c, if_false, Nat.testBit_and]
theorem z6q {w k hi lo mh ml : Nat} (h : lo < 2 ^ w) (hk : k <= w) (hm : ml < 2 ^ (w - k)) : ((2 ^ w * hi + lo) >>> k) &&& (2 ^ w * mh + ml) = 2 ^ w * ((hi >>> k) &&& mh) + ((lo >>> k) &&& ml) := by
 have hm2 : ml < 2 ^ w := Nat.lt_of_lt_of_le hm (Nat.pow_le_pow_right (by omega) (by omega))
 have hl : (lo >>> k) &&& ml < 2 ^ w := Nat.lt_of_le_of_lt Nat.and_le_right hm2
 apply Nat.eq_of_testBit_eq
 intro i
 rw [Nat.testBit_and, Nat.testBit_shiftRight, Nat.testBit_two_pow_mul_add _ h, Nat.testBit_two_pow_mul_add _ hm2, Nat.testBit_two_pow_mul_add _ hl]
 by_cases c : i < w
 ·by_cases c2 : k + i < w
  ·simp only [c, c2, if_true, Nat.testBit_and, Nat.testBit_shiftRight]
  ·have : ml.testBit i = false := Nat.testBit_lt_two_pow (Nat.lt_of_lt_of_le hm (Nat.pow_le_pow_right (by omega) (by omega)))
   simp only [c, if_true, Nat.testBit_and, this, Bool.and_false]
 ·have c2 : ¬ k + i < w := by omega
  simp only [c, c2, if_false, Nat.testBit_and, Nat.testBit_shiftRight]
  rw [show k + i - w = k + (i - w) by omega]
def u1 (b : Nat) : Nat := ((b >>> 1) &&& 85) + (b &&& 85)
def u2 (b : Nat) : Nat := ((b >>> 2) &&& 51) + (b &&& 51)
theorem by1 : ((List.range 256).all fun b => decide (u1 b < 256) && (decide (u2 (u1 b) < 256) && (decide ((u2 (u1 b)) % 16 <= 4) && (decide (u2 (u1 b) / 16 <= 4) && decide (u2 (u1 b) % 16 + u2 (u1 b) / 16 = (b12 8 b).length))))) = true := by decide +kernel
theorem z7u {b : Nat} (h : b < 256) : u1 b < 256 /\ u2 (u1 b) < 256 /\ u2 (u1 b) % 16 <= 4 /\ u2 (u1 b) / 16 <= 4 /\ u2 (u1 b) % 16 + u2 (u1 b) / 16 = (b12 8 b).length := by
 have g := List.all_eq_true.1 by1 b (List.mem_range.2 h)
 simpa only [Bool.and_eq_true, decide_eq_true_eq] using g
theorem by2 : ((List.range 16).all fun b => decide ((((b >>> 1) &&& 93824992236885) + (b &&& 93824992236885)) = u1 b) && (decide ((((u1 b >>> 2) &&& 56294995342131) + (u1 b &&& 56294995342131)) = u2 (u1 b)) && (decide (u2 (u1 b) % 16 + u2 (u1 b) / 16 = (b12 4 b).length)))) = true := by decide +kernel
theorem B0w {b : Nat} (h : b < 16) : (((b >>> 1) &&& 93824992236885) + (b &&& 93824992236885)) = u1 b /\ (((u1 b >>> 2) &&& 56294995342131) + (u1 b &&& 56294995342131)) = u2 (u1 b) /\ u2 (u1 b) % 16 + u2 (u1 b) / 16 = (b12 4 b).length := by
 have g := List.all_eq_true.1 by2 b (List.mem_range.2 h)
 simpa only [Bool.and_eq_true, decide_eq_true_eq] using g
theorem z9i {k a b : Nat} (hb : b < 2 ^ 8) : (b12 (8 + k) (2 ^ 8 * a + b)).length = (b12 8 b).length + (b12 k a).length := by
 unfold b12
 rw [List.range_add, List.filter_append, List.length_append, List.filter_map, List.length_map]
 congr 1
 ·congr 1
  refine List.filter_congr fun i hi => ?_
  rw [Nat.testBit_two_pow_mul_add _ hb, if_pos (List.mem_range.1 hi)]
 ·congr 1
  refine List.filter_congr fun i hi => ?_
  show (2 ^ 8 * a + b).testBit (8 + i) = _
  rw [Nat.testBit_two_pow_mul_add _ hb, if_neg (by omega)]
  congr 1; omega
theorem B34 {b0 b1 b2 : Nat} (h0 : b0 < 256) (h1 : b1 < 256) (h2 : b2 < 16) (x y z s t v : Nat) (hx : x = 2 ^ 8 * (2 ^ 8 * b2 + b1) + b0)
  (hy : y = ((x >>> 1) &&& 6148914691236517205) + (x &&& 6148914691236517205)) (hz : z = ((y >>> 2) &&& 3689348814741910323) + (y &&& 3689348814741910323)) (hs : s = ((z >>> 4) + z) &&& 1085102592571150095) (ht : t = s + s >>> 8) (hv : v = t + t >>> 16) :
  y < 2 ^ 24 /\ z < 2 ^ 24 /\ s < 2 ^ 24 /\ t < 2 ^ 24 /\ v < 2 ^ 24 /\ (v + v >>> 32) &&& 127 = (b12 8 b0).length + ((b12 8 b1).length + (b12 4 b2).length) := by
 obtain ⟨a1, a2, a3, a4, a5⟩ := z7u h0
 obtain ⟨c1, c2, c3, c4, c5⟩ := z7u h1
 obtain ⟨d1, d2, d3, d4, _⟩ := z7u (show b2 < 256 by omega)
 obtain ⟨e1, e2, e3⟩ := B0w h2
 have m1 : (6148914691236517205 : Nat) = 2 ^ 8 * (2 ^ 8 * 93824992236885 + 85) + 85 := by decide
 have m2 : (3689348814741910323 : Nat) = 2 ^ 8 * (2 ^ 8 * 56294995342131 + 51) + 51 := by decide
 have m3 : (1085102592571150095 : Nat) = 2 ^ 8 * (2 ^ 8 * 16557351571215 + 15) + 15 := by decide
 have y1 : y = 2 ^ 8 * (2 ^ 8 * u1 b2 + u1 b1) + u1 b0 := by
  rw [hy, hx, m1, z6q (w := 8) h0 (by omega) (by decide), z6q (w := 8) h1 (by omega) (by decide), C8o (w := 8) h0 (by decide), C8o (w := 8) h1 (by decide), <- e1]
  unfold u1; omega
 have z1 : z = 2 ^ 8 * (2 ^ 8 * u2 (u1 b2) + u2 (u1 b1)) + u2 (u1 b0) := by
  rw [hz, y1, m2, z6q (w := 8) a1 (by omega) (by decide), z6q (w := 8) c1 (by omega) (by decide), C8o (w := 8) a1 (by decide), C8o (w := 8) c1 (by decide), <- e2]
  show _ = 2 ^ 8 * (2 ^ 8 * _ + (((u1 b1 >>> 2) &&& 51) + (u1 b1 &&& 51))) + (((u1 b0 >>> 2) &&& 51) + (u1 b0 &&& 51))
  omega
 generalize u2 (u1 b0) = p0 at *
 generalize u2 (u1 b1) = p1 at *
 generalize u2 (u1 b2) = p2 at *
 generalize u1 b0 = q0 at *
 generalize u1 b1 = q1 at *
 generalize u1 b2 = q2 at *
 have zs : (z >>> 4) + z = 2 ^ 8 * (2 ^ 8 * (p2 % 16 + p2 / 16 + 16 * (p2 / 16)) + (p1 % 16 + p1 / 16 + 16 * (p1 / 16 + p2 % 16))) + (p0 % 16 + p0 / 16 + 16 * (p0 / 16 + p1 % 16)) := by
  rw [z1, Nat.shiftRight_eq_div_pow]; omega
 have s1 : s = 2 ^ 8 * (2 ^ 8 * (p2 % 16 + p2 / 16) + (p1 % 16 + p1 / 16)) + (p0 % 16 + p0 / 16) := by
  have k15 : ∀ n : Nat, n &&& 15 = n % 16 := fun n => Nat.and_two_pow_sub_one_eq_mod n 4
  have kt : ∀ n : Nat, n < 256 -> n &&& 16557351571215 = n % 16 := fun n hn => by
   have : ((List.range 256).all fun n => decide (n &&& 16557351571215 = n % 16)) = true := by decide +kernel
   exact of_decide_eq_true (List.all_eq_true.1 this n (List.mem_range.2 hn))
  rw [hs, zs, m3, C8o (w := 8) (by omega) (by decide), C8o (w := 8) (by omega) (by decide), k15, k15, kt _ (by omega)]
  rw [show (p2 % 16 + p2 / 16 + 16 * (p2 / 16)) % 16 = p2 % 16 + p2 / 16 by omega, show (p1 % 16 + p1 / 16 + 16 * (p1 / 16 + p2 % 16)) % 16 = p1 % 16 + p1 / 16 by omega, show (p0 % 16 + p0 / 16 + 16 * (p0 / 16 + p1 % 16)) % 16 = p0 % 16 + p0 / 16 by omega]
 have t1 : t = s + s / 256 := by rw [ht, Nat.shiftRight_eq_div_pow]
 have v1 : v = t + t / 65536 := by rw [hv, Nat.shiftRight_eq_div_pow]
 have w1 : (v + v >>> 32) &&& 127 = (v + v / 4294967296) % 128 := by
  rw [Nat.shiftRight_eq_div_pow]; exact Nat.and_two_pow_sub_one_eq_mod _ 7
 rw [w1, <- a5, <- c5, <- e3]
 have g0 : p0 % 16 + p0 / 16 <= 8 := by omega
 have g1 : p1 % 16 + p1 / 16 <= 8 := by omega
 have g2 : p2 % 16 + p2 / 16 <= 8 := by omega
 have gy : y < 2 ^ 24 := by omega
 have gz : z < 2 ^ 24 := by omega
 generalize p0 % 16 + p0 / 16 = r0 at *
 generalize p1 % 16 + p1 / 16 = r1 at *
 generalize p2 % 16 + p2 / 16 = r2 at *
 clear hs ht hv w1 zs hx hy hz y1 z1 e1 e2 a1 a2 a3 a4 a5 c1 c2 c3 c4 c5 d1 d2 d3 d4 e3
 have t2 : t = (r0 + r1) + 256 * (r1 + r2) + 65536 * r2 := by omega
 have v2 : v = (r0 + r1 + r2) + 256 * (r1 + r2) + 65536 * r2 := by omega
 have v3 : v / 4294967296 = 0 := Nat.div_eq_of_lt (by omega)
 refine ⟨gy, gz, by omega, by omega, by omega, ?_⟩
 rw [v3, Nat.add_zero]; omega
theorem z80 : ∀ (n : Nat), n ≠ 0 -> ∃ j q, n = 2 ^ j * (2 * q + 1) := by
 intro n
 induction n using Nat.strongRecOn with
 | _ n ih =>
  intro h
  by_cases o : n % 2 = 0
  ·obtain ⟨j, r, e⟩ := ih (n / 2) (by omega) (by omega)
   exact ⟨j + 1, r, by rw [Nat.pow_succ, Nat.mul_assoc, Nat.mul_left_comm, <- e]; omega⟩
  ·exact ⟨0, n / 2, by rw [Nat.pow_zero, Nat.one_mul]; omega⟩
theorem z5e (j q : Nat) : 2 ^ j * (2 * q + 1) = 2 ^ (j + 1) * q + 2 ^ j := by
 rw [Nat.pow_succ, Nat.mul_add, Nat.mul_one, Nat.mul_assoc]
theorem z6n (j : Nat) : 2 ^ j < 2 ^ (j + 1) := Nat.pow_lt_pow_right (by omega) (by omega)
theorem z6b {j q i : Nat} : (2 ^ j * (2 * q + 1)).testBit i = if i < j + 1 then decide (i = j) else q.testBit (i - (j + 1)) := by
 rw [z5e, Nat.testBit_two_pow_mul_add _ (z6n j)]
 by_cases c : i < j + 1
 ·rw [if_pos c, if_pos c, Nat.testBit_two_pow]; simp only [eq_comm]
 ·rw [if_neg c, if_neg c]
theorem B3s (j q : Nat) : (2 ^ j * (2 * q + 1)) &&& (2 ^ j * (2 * q + 1) - 1) = 2 ^ (j + 1) * q := by
 have h1 : 2 ^ j * (2 * q + 1) - 1 = 2 ^ (j + 1) * q + (2 ^ j - 1) := by
  have := Nat.two_pow_pos j
  rw [z5e]; omega
 have hp := Nat.two_pow_pos j
 rw [h1, z5e, C8o (z6n j) (Nat.lt_of_le_of_lt (Nat.sub_le _ _) (z6n j)), Nat.and_self, Nat.and_two_pow_sub_one_eq_mod, Nat.mod_self, Nat.add_zero]
theorem z52 {j q k : Nat} (h : j < k) : b12 k (2 ^ j * (2 * q + 1)) = j :: b12 k (2 ^ (j + 1) * q) := by
 obtain ⟨m, rfl⟩ : ∃ m, k = j + 1 + m := ⟨k - (j + 1), by omega⟩
 unfold b12
 rw [List.range_add, List.filter_append, List.filter_append]
 have h1 : (List.range (j + 1)).filter (fun i => (2 ^ j * (2 * q + 1)).testBit i) = [j] := by
  rw [List.range_succ, List.filter_append]
  have : (List.range j).filter (fun i => (2 ^ j * (2 * q + 1)).testBit i) = [] := by
   rw [List.filter_eq_nil_iff]
   intro i hi
   have := List.mem_range.1 hi
   rw [z6b, if_pos (by omega)]; simp; omega
  have hj : (2 ^ j * (2 * q + 1)).testBit j = true := by rw [z6b, if_pos (by omega)]; simp
  rw [this, List.nil_append, List.filter_cons_of_pos hj, List.filter_nil]
 have h2 : (List.range (j + 1)).filter (fun i => (2 ^ (j + 1) * q).testBit i) = [] := by
  rw [List.filter_eq_nil_iff]
  intro i hi
  have := List.mem_range.1 hi
  rw [Nat.testBit_two_pow_mul]; simp; omega
 rw [h1, h2, List.nil_append, List.singleton_append]
 congr 1
 refine List.filter_congr fun i hi => ?_
 obtain ⟨d, _, hd⟩ := List.mem_map.1 hi
 have hd : j + 1 + d = i := hd
 rw [z6b, if_neg (by omega), Nat.testBit_two_pow_mul, decide_eq_true (show j + 1 <= i by omega), Bool.true_and]
theorem y28 (k : Nat) : b12 k 0 = [] := by unfold b12; rw [List.filter_eq_nil_iff]; simp
theorem B0v {k n x : Nat} : x ∈ b12 k n ↔ x < k /\ n.testBit x = true := by unfold b12; rw [List.mem_filter, List.mem_range]
theorem C0b {k n : Nat} : (b12 k n).length <= k := by unfold b12; exact Nat.le_trans (List.length_filter_le _ _) (by simp)
theorem B3t {j q : Nat} (h : 2 ^ j * (2 * q + 1) < 2 ^ 64) : (2 ^ j * (2 * q + 1)) &&& (2 ^ 64 - 2 ^ j * (2 * q + 1)) = 2 ^ j := by
 apply Nat.eq_of_testBit_eq
 intro i
 have hp := Nat.two_pow_pos j
 have h1 : 2 ^ j * (2 * q + 1) - 1 = 2 ^ (j + 1) * q + (2 ^ j - 1) := by rw [z5e]; omega
 have h2 : 2 ^ 64 - 2 ^ j * (2 * q + 1) = 2 ^ 64 - ((2 ^ (j + 1) * q + (2 ^ j - 1)) + 1) := by rw [<- h1]; rw [z5e] at h1 ⊢; omega
 rw [Nat.testBit_and, h2, Nat.testBit_two_pow_sub_succ (by rw [<- h1]; omega), z6b, Nat.testBit_two_pow_mul_add _ (Nat.lt_of_le_of_lt (Nat.sub_le _ _) (z6n j)), Nat.testBit_two_pow, Nat.testBit_two_pow_sub_one]
 have hj : j < 64 := by
  apply Classical.byContradiction; intro hc
  have : 2 ^ 64 <= 2 ^ j := Nat.pow_le_pow_right (by omega) (by omega)
  have : 2 ^ j * 1 <= 2 ^ j * (2 * q + 1) := Nat.mul_le_mul_left _ (by omega)
  omega
 by_cases c : i < j + 1
 ·rw [if_pos c, if_pos c]
  by_cases e : i = j
  ·subst e; simp [hj]
  ·simp [e]; omega
 ·rw [if_neg c, if_neg c]
  have : ¬ j = i := by omega
  cases q.testBit (i - (j + 1)) <;> simp [this]
end Go.Nw
