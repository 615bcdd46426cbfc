/- Plain laws on the models. -/
import Derived.Test.YteoedeeljnboeaaP2
set_option linter.all false
set_option linter.unusedVariables false
set_option linter.unusedSimpArgs false
set_option linter.unusedSectionVars false
namespace Go.Nw.HM
def d36 (f t : Nat) (x : Train) : Prop := (f : Int) ≤ x.At.High ∧ x.At.Low ≤ (t : Int)
instance (f t : Nat) (x : Train) : Decidable (d36 f t x) := by unfold d36; infer_instance
section
variable {h : Hall} (hv : V h) {c : Nat} (hc : c < h.Combs.length) {t : Nat} (ht : t < T h)
include hv
include hc ht
end
end Go.Nw.HM
namespace Go.Nw.HM
section
variable {h : Hall} (hv : V h)
include hv
end
end Go.Nw.HM
namespace Go.Nw.HM
section
variable {h : Hall} {d : Day} (hv : V h) (hf : Fit h d)
include hv hf
end
end Go.Nw.HM
namespace Go.Nw.HM
def put (n : Nat) (f : Nat → List Int) (s : Nat) (r : List Int) : List (List Int) := (fill n f [] s).set s r
theorem c9k {n s : Nat} {f : Nat → List Int} {r : List Int} (hs : s < n) : get (put n f s r) (s : Int) = some r := b2f (by unfold put; rw [List.getElem?_set, if_pos rfl, if_pos (by rw [d4i]; exact hs)])
theorem d2m {n s : Nat} {f : Nat → List Int} {r r' : List Int} : (put n f s r).set s r' = put n f s r' := by unfold put; rw [List.set_set]
theorem d9t {n s : Nat} {f : Nat → List Int} {r : List Int} (e : r = f s) : put n f s r = fill n f [] (s + 1) := c0j e
theorem d4q {n s : Nat} {f : Nat → List Int} (hs : s < n) : get (fill n f [] s) (s : Int) = some [] := by rw [c0n hs, if_neg (by omega)]
section
variable {b : Bd} {n s t : Nat}
def b4f (b : Bd) (n s t : Nat) (a : Int) : List Int := (b3s b n s t).set t a
theorem d4r {a : Int} (ht : t < n) : get (b4f b n s t a) (t : Int) = some a := by unfold b4f b3s; rw [b63, b2c ht, if_pos rfl]
theorem g0i {a a' : Int} : (b4f b n s t a).set t a' = b4f b n s t a' := by unfold b4f; rw [List.set_set]
theorem j8d (hst : s ≤ t) : b4f b n s t (b.come s t) = b3s b n s (t + 1) := by
  unfold b4f b3s
  rw [b63]
  refine b5q fun i hi => ?_
  by_cases e : i = t
  · subst e; rw [if_pos rfl, if_pos (by omega)]
  · rw [if_neg e]
    by_cases q : s ≤ i ∧ i < t
    · rw [if_pos q, if_pos (by omega)]
    · rw [if_neg q, if_neg (by omega)]
theorem j8e : b4f b n s t 0 = b3s b n s t := by
  unfold b4f b3s
  rw [b63]
  refine b5q fun i hi => ?_
  by_cases e : i = t
  · subst e; rw [if_pos rfl, if_neg (by omega)]
  · rw [if_neg e]
end
def pz (b : Bd) (f t : Nat) : Int := if f ≤ t then b9n b f t else 0
abbrev sH (h : Hall) (S : List Shift) : Hall := ⟨h.Combs, h.Trains, S, h.Until⟩
def b2g (h : Hall) (R : Nat → Nat → Int) (c : Nat) : r06_Bounds := ⟨tab c fun u => tab (T h) (bd h R u).most, tab c fun u => tab (T h) (bd h R u).flow, tab c fun u => tab (T h) (b22 (T h) (bd h R u)), tab c fun u => tab (T h) fun f => tab (T h) (pz (bd h R u) f)⟩
section
variable {h : Hall} {R : Nat → Nat → Int} {S : List Shift} (hv : V h) (hR : Rt h R)
include hv
theorem j7j {c u : Nat} (hu : u < c) {f t : Int} (ht : t < T h) : b98 (b2g h R c) u f t = some (b6k (bd h R u) f t) := by
  unfold b98 b6k
  by_cases q : t < f ∨ t < 0
  · rw [if_pos (by rw [b9k]; simp; omega), if_pos q]
  · rw [if_neg (by rw [b9k]; simp; omega), if_neg q]
    obtain ⟨to, rfl⟩ : ∃ to : Nat, t = to := ⟨t.toNat, by omega⟩
    obtain ⟨a, ha⟩ : ∃ a : Nat, max f 0 = a := ⟨(max f 0).toNat, by omega⟩
    rw [b9k, ha]
    simp only [b2g]
    rw [b2c hu]
    simp only [Option.bind_some]
    rw [b2c (show a < T h by omega)]
    simp only [Option.bind_some]
    rw [b2c (show to < T h by omega)]
    simp only [Option.bind_some, pz]
    rw [if_pos (by omega)]
    congr 2
variable {c : Nat} (hc : c < h.Combs.length) {s t : Nat} (hst : s ≤ t) (ht : t < T h) (F : Nat → List Int)
include hst ht
theorem g55 {x : Train} {i : Nat} (hx : h.Trains[i]? = some x) {A : Int} (hA : 0 ≤ A) (hA' : A ≤ 1000000000) (b : Bd) :
    b02 (c1g c s t x) (put (T h) F s (b4f b (T h) s t A), 0) = some (put (T h) F s (b4f b (T h) s t (A + b4n c s t x))) := by
  have hl := (hv.2.2.1 i x hx).2.2.2.1
  have hm := List.mem_of_getElem? hx
  refine b3m (f := c1g c s t x) x.Crowds.length (fun p k => (p, k)) (fun k => put (T h) F s (b4f b (T h) s t (A + if x.At.High < (s : Int) ∨ (t : Int) < x.At.Low then 0 else b3y x.Crowds (b5v c) k))) _
    (s0 := put (T h) F s (b4f b (T h) s t A)) (by rw [c35]; simp) (fun k hk => ?_) (by
      simp only [c1g]
      rw [if_neg (by simp), c1e]
      unfold b4n; rfl)
  obtain ⟨y, hy⟩ := b2i hk
  have hc1 := c5j hv hm c k (by omega)
  have hg := (hv.2.2.1 i x hx).2.2.2.2 k y hy
  unfold b5k at hg
  simp only [c1g, b2f hy, Option.bind_some]
  rw [if_pos (by simpa using hk)]
  by_cases q : x.At.High < (s : Int) ∨ (t : Int) < x.At.Low
  · rw [if_neg (by simp; omega), if_pos q, if_pos q]
    simp only [b9o, b2l hk (show x.Crowds.length ≤ maxLen by simp only [maxLen]; omega)]
  · rw [if_neg q, if_neg q, c1f hy]
    by_cases e : y.Comb = (c : Int)
    · rw [if_pos (by simp; omega), c9k (by omega)]
      simp only [Option.bind_some]
      rw [d4r ht]
      simp only [Option.bind_some, b9o, b2l hk (show x.Crowds.length ≤ maxLen by simp only [maxLen]; omega), Int.toNat_natCast]
      rw [g0i, d2m, b1v (by omega) (by omega), show b5v c y = y.People.High from if_pos e, Int.add_assoc]
    · rw [if_neg (by simp; omega), show b5v c y = 0 from if_neg e, Int.add_zero]
      simp only [b9o, b2l hk (show x.Crowds.length ≤ maxLen by simp only [maxLen]; omega)]
theorem j9l (b : Bd) : b02 (c1h (sH h S) c s t) (put (T h) F s (b4f b (T h) s t 0), 0) = some (put (T h) F s (b4f b (T h) s t (b4i h c s t))) := by
  have hTr := hv.1.2.2.2.2.1
  refine b3m (f := c1h (sH h S) c s t) h.Trains.length (fun p k => (p, k)) (fun k => put (T h) F s (b4f b (T h) s t (b3y h.Trains (b4n c s t) k))) _ (by rw [c35]) (fun i hi => ?_) (by
    simp only [c1h]
    rw [if_neg (by simp), c1e]; rfl)
  obtain ⟨x, hx⟩ := b2i hi
  have hb := d2y hv c s t i (by omega)
  simp only [c1h, b2f hx, Option.bind_some]
  rw [if_pos (by simpa using hi), g55 hv hst ht F hx (by omega) (by omega) b]
  simp only [Option.bind_some, c61, b2l hi (show h.Trains.length ≤ maxLen by simp only [maxLen]; omega)]
  rw [c1f hx]
include hR hc
theorem j9u : b02 (c1i (sH h S) (b2g h R c).Most (b2g h R c).Flow (b2g h R c).Come (b2g h R c).Pass c s t) (put (T h) F s (b4f (bd h R c) (T h) s t (b4i h c s t)), 0) = some (put (T h) F s (b3s (bd h R c) (T h) s (t + 1))) := by
  have hN := hv.1.2.2.2.1
  have hT := b29 hv
  refine b3m (f := c1i (sH h S) (b2g h R c).Most (b2g h R c).Flow (b2g h R c).Come (b2g h R c).Pass c s t) c (fun p k => (p, k)) (fun u => put (T h) F s (b4f (bd h R c) (T h) s t (b4i h c s t + b01 (b2s h c (bd h R) s t) u))) _ (by rw [b9m, Int.add_zero]) (fun u hu => ?_) (by
    simp only [c1i]
    rw [if_neg (by simp), ← j8d hst]
    congr 4
    rw [b5r]; rfl)
  obtain ⟨x, hx⟩ := b2i (show u < h.Combs.length by omega)
  have hg := hv.2.1 u x hx
  unfold b4z at hg
  have hwb := c7x hv hR hc hst ht u (by omega)
  have hwb' := c7x hv hR hc hst ht (u + 1) (by omega)
  have hbb := c8x hv c s t
  rw [b48] at hwb'
  simp only [c1i, b2f hx, Option.bind_some]
  rw [if_pos (by simpa using hu), b48]
  have hwr : wr ((u : Int) + 1) = (u : Int) + 1 := b1v (by omega) (by omega)
  by_cases e : x.Next = (c : Int)
  · rw [if_pos (by simpa using e), c9k (by omega)]
    simp only [Option.bind_some]
    rw [d4r ht]
    simp only [Option.bind_some]
    rw [b1v (n := (s : Int) - x.Walk.High) (by omega) (by omega), b1v (n := (t : Int) - x.Walk.Low) (by omega) (by omega)]
    have ep : b98 (r06_Bounds.mk (b2g h R c).Most (b2g h R c).Flow (b2g h R c).Come (b2g h R c).Pass) u ((s : Int) - x.Walk.High) ((t : Int) - x.Walk.Low) = some (b6k (bd h R u) ((s : Int) - x.Walk.High) ((t : Int) - x.Walk.Low)) := j7j hv hu (by omega)
    rw [ep]
    have ew : b2s h c (bd h R) s t u = b6k (bd h R u) ((s : Int) - x.Walk.High) ((t : Int) - x.Walk.Low) := by
      unfold b2s; rw [hx]; simp only; rw [if_pos e]
    simp only [Option.bind_some, c1q, Int.toNat_natCast]
    rw [← ew, g0i, d2m, hwr, b1v (n := b4i h c s t + b01 (b2s h c (bd h R) s t) u + b2s h c (bd h R) s t u) (by show _ ≤ b4i h c s t + b01 (b2s h c (bd h (R)) s t) u + b2s h c (bd h (R)) s t u; omega) (by show b4i h c s t + b01 (b2s h c (bd h (R)) s t) u + b2s h c (bd h (R)) s t u ≤ _; omega), Int.add_assoc]
  · rw [if_neg (by simpa using e)]
    have ew : b2s h c (bd h R) s t u = 0 := by
      unfold b2s; rw [hx]; simp only; rw [if_neg e]
    simp only [c1q]
    rw [ew, Int.add_zero, hwr]
omit hst ht in
theorem j8k (hs : s < T h) : b02 (c1j (sH h S) (b2g h R c).Most (b2g h R c).Flow (b2g h R c).Come (b2g h R c).Pass c s) (put (T h) F s (tab (T h) fun _ => 0), (s : Int)) = some (put (T h) F s (b22 (T h) (bd h R c) s)) := by
  have hT := b29 hv
  have hTi := b34 hv
  refine c1c (f := c1j (sH h S) (b2g h R c).Most (b2g h R c).Flow (b2g h R c).Come (b2g h R c).Pass c s) (T h) (fun p k => (p, k)) (fun t => put (T h) F s (b3s (bd h R c) (T h) s t)) _ s (by
    congr 1
    unfold b3s
    exact b5q fun i hi => by rw [if_neg (by omega)]) (by omega) (fun t hst ht => ?_) (by
    simp only [c1j]
    rw [← hTi, if_neg (by simp)]
    congr 3
    unfold b3s b22
    exact b5q fun i hi => by by_cases q : s ≤ i <;> simp [q, hi])
  simp only [c1j]
  rw [← hTi, if_pos (by simpa using ht), ← j8e, j9l hv hst ht F]
  simp only [Option.bind_some, c60]
  rw [j9u hv hR hc hst ht F]
  simp only [Option.bind_some, c6z, b2l ht (show T h ≤ maxLen by simp only [maxLen]; omega)]
omit hst ht in
theorem g5v : b02 (c1k (sH h S) (b2g h R c).Most (b2g h R c).Flow (b2g h R c).Come (b2g h R c).Pass c) (tab (T h) fun _ => [], 0) = some (tab (T h) (b22 (T h) (bd h R c))) := by
  have hT := b29 hv
  have hTi := b34 hv
  refine b3m (f := c1k (sH h S) (b2g h R c).Most (b2g h R c).Flow (b2g h R c).Come (b2g h R c).Pass c) (T h) (fun p k => (p, k)) (fill (T h) (b22 (T h) (bd h R c)) []) _ (s0 := tab (T h) fun _ => []) (by rw [← b9z, c0k]) (fun s hs => ?_) (by
    simp only [c1k]
    rw [← hTi, if_neg (by simp), b8x (Nat.le_refl _)])
  simp only [c1k]
  rw [← hTi, if_pos (by simpa using hs), b8c (by omega) (by omega)]
  simp only [Option.bind_some]
  rw [d4q hs]
  simp only [Option.bind_some, Int.toNat_natCast]
  rw [show (fill (T h) (b22 (T h) (bd h R c)) [] s).set s (tab (T h) fun _ => 0) = put (T h) (b22 (T h) (bd h R c)) s (tab (T h) fun _ => 0) from rfl, j8k hv hR hc _ hs]
  simp only [Option.bind_some, c6x, b2l hs (show T h ≤ maxLen by simp only [maxLen]; omega)]
  rw [d9t rfl]
end
end Go.Nw.HM
namespace Go.Nw.HM
theorem j17 {z : Int} {g : Nat → Int} {a n : Nat} : max (b36 z g (a + 1) n) (g a) = b36 z g a (n + 1) := by
  refine Int.le_antisymm ?_ ?_
  · refine Int.max_le.2 ⟨b9h.2 ⟨d1p, fun i hi => ?_⟩, ?_⟩
    · have := d1o (z := z) (g := g) (a := a) (n := n + 1) (i := i + 1) (by omega)
      rwa [show a + (i + 1) = a + 1 + i by omega] at this
    · have := d1o (z := z) (g := g) (a := a) (n := n + 1) (i := 0) (by omega)
      simpa using this
  · refine b9h.2 ⟨Int.le_trans d1p (Int.le_max_left _ _), fun i hi => ?_⟩
    by_cases e : i = 0
    · subst e; exact Int.le_max_right _ _
    · have := d1o (z := z) (g := g) (a := a + 1) (n := n) (i := i - 1) (by omega)
      rw [show a + 1 + (i - 1) = a + i by omega] at this
      exact Int.le_trans this (Int.le_max_left _ _)
theorem j18 {z w : Int} {g : Nat → Int} {a n : Nat} : min (b4c z g a n) w = b4c (min z w) g a n := by
  refine Int.le_antisymm ?_ ?_
  · exact c3x.2 ⟨Int.le_min.2 ⟨Int.le_trans (Int.min_le_left _ _) c6n, Int.min_le_right _ _⟩, fun i hi => Int.le_trans (Int.min_le_left _ _) (d8q hi)⟩
  · exact Int.le_min.2 ⟨c3x.2 ⟨Int.le_trans c6n (Int.min_le_left _ _), fun i hi => d8q hi⟩, Int.le_trans c6n (Int.min_le_right _ _)⟩
section
theorem bok {h : Hall} (hv : V h) {R : Nat → Nat → Int} (hR : Rt h R) {c : Nat} (hc : c < h.Combs.length) : BdOk (bd h R c) (T h) 1000000000 := by
  have hn := hv.1.2.2.2.1
  have := b8q hv hR c hc
  have hB := b8k (c := c) (by omega)
  exact ⟨fun s t hst ht => by have := this.come s t hst ht; omega, fun t ht => by have := this.most t ht; omega, this.flow⟩
variable {h : Hall} {R : Nat → Nat → Int} {S : List Shift} (hv : V h) (hR : Rt h R) {c : Nat} (hc : c < h.Combs.length)
include hv hR hc
theorem j2e {t : Nat} (ht : t < T h) : b02 (c1l (tab (T h) (b22 (T h) (bd h R c))) (tab (T h) (R c)) t) (fill (T h) (bd h R c).most 0 t, 0, (t : Int)) = some (fill (T h) (bd h R c).most 0 (t + 1)) := by
  have hT := b29 hv
  have hok := bok hv hR hc
  have hget : ∀ a : Int, get ((fill (T h) (bd h R c).most 0 t).set t a) (t : Int) = some a := fun a => b2f (by rw [List.getElem?_set, if_pos rfl, if_pos (by rw [d4i]; exact ht)])
  have h0 : (fill (T h) (bd h R c).most 0 t).set t 0 = fill (T h) (bd h R c).most 0 t := by
    unfold fill
    rw [b63]
    refine b5q fun i hi => ?_
    by_cases e : i = t
    · subst e; rw [if_pos rfl, if_neg (by omega)]
    · rw [if_neg e]
  refine Eq.trans ?_ (b3m (f := c1l (tab (T h) (b22 (T h) (bd h R c))) (tab (T h) (R c)) t) (t + 1) (fun (p : List Int × Int) k => (p.1, p.2, (t : Int) - k))
    (fun k => ((fill (T h) (bd h R c).most 0 t).set t (b36 0 (fun s => (bd h R c).come s t - b3b (R c) s t) (t + 1 - k) k), b3b (R c) (t + 1 - k - 1) t)) (fill (T h) (bd h R c).most 0 (t + 1)) (s0 := (fill (T h) (bd h R c).most 0 t, 0)) (by
      simp only [b36, Nat.sub_zero, Nat.add_sub_cancel, b62, h0]) (fun k hk => ?_) (by
      simp only [c1l]
      rw [if_neg (by simp; omega)]
      congr 2
      rw [Nat.sub_self, c0j]
      exact (d81 (h := h) (R := R) (c := c) (t := t)).symm))
  · simp
  obtain ⟨s, hs⟩ : ∃ s, s + k = t := ⟨t - k, by omega⟩
  have e1 : (t : Int) - (k : Int) = (s : Int) := by omega
  have e2 : t + 1 - k = s + 1 := by omega
  have e3 : t + 1 - (k + 1) = s := by omega
  have hcm := hok.come s t (by omega) ht
  have hr := d12 (f := R c) (B := 1000) (show s ≤ t by omega) fun i _ hi => hR.r c i hc (by omega)
  have hrs : b3b (R c) s t = b01 (R c) t - b01 (R c) s := rfl
  simp only [c1l, e1, e2, e3, Nat.add_sub_cancel]
  rw [if_pos (by simp), hget]
  simp only [Option.bind_some]
  rw [b2c (show s < T h by omega)]
  simp only [Option.bind_some]
  rw [b68 ht (by omega)]
  simp only [Option.bind_some, Int.toNat_natCast, List.set_set, b9k]
  rw [b1v (n := (bd h R c).come s t - b3b (R c) s t) (by omega) (by omega), j17 (g := fun s => (bd h R c).come s t - b3b (R c) s t)]
  by_cases q : 0 < s
  · have hr2 := d12 (f := R c) (B := 1000) (show s - 1 ≤ t by omega) fun i _ hi => hR.r c i hc (by omega)
    have hb := hR.r c (s - 1) hc (by omega)
    have e4 : b3b (R c) (s - 1) t = b3b (R c) s t + R c (s - 1) := by
      have := j8s (f := R c) (a := s - 1) (b := s) (c := t)
      have h2 : b3b (R c) (s - 1) (s - 1 + 1) = b3b (R c) (s - 1) (s - 1) + R c (s - 1) := b9v
      rw [show s - 1 + 1 = s by omega, b62] at h2
      omega
    rw [if_pos (by simpa using q), show wr ((s : Int) - 1) = ((s - 1 : Nat) : Int) from by rw [b1v (by omega) (by omega)]; omega, b2c (show s - 1 < T h by omega)]
    simp only [Option.bind_some, c1s]
    rw [← e4, b1v (by omega) (by omega), show wr ((s : Int) - 1) = (t : Int) - ((k : Int) + 1) from by rw [b1v (by omega) (by omega)]; omega]
  · rw [if_neg (by simpa using q)]
    simp only [c1s]
    rw [show wr ((s : Int) - 1) = (t : Int) - ((k : Int) + 1) from by rw [b1v (by omega) (by omega)]; omega, show s - 1 = s by omega]
theorem g6w : b02 (c1m (sH h S) (tab (T h) (b22 (T h) (bd h R c))) (tab (T h) (R c))) (tab (T h) (fun _ => 0), tab (T h) (fun _ => 0), 0) = some (tab (T h) (bd h R c).most, tab (T h) (bd h R c).flow) := by
  have hT := b29 hv
  have hTi := b34 hv
  refine b3m (f := c1m (sH h S) (tab (T h) (b22 (T h) (bd h R c))) (tab (T h) (R c))) (T h) (fun (p : List Int × List Int) k => (p.1, p.2, k)) (fun t => (fill (T h) (bd h R c).most 0 t, fill (T h) (bd h R c).flow 0 t)) _ (s0 := (tab (T h) (fun _ => 0), tab (T h) (fun _ => 0))) (by rw [← b9z]; rw [← c0k, ← c0k]) (fun t ht => ?_) (by
    simp only [c1m]
    rw [← hTi, if_neg (by simp), b8x (Nat.le_refl _), b8x (Nat.le_refl _)])
  simp only [c1m]
  rw [← hTi, if_pos (by simpa using ht), j2e hv hR hc ht]
  simp only [Option.bind_some, c69]
  rw [b2c ht]
  simp only [Option.bind_some]
  rw [c0n ht, if_pos (by omega)]
  simp only [Option.bind_some]
  rw [c0n ht]
  simp only [Option.bind_some, c68, Int.toNat_natCast, b2l ht (show T h ≤ maxLen by simp only [maxLen]; omega), c1d]
  rw [c0j]
  have h2 : (bd h R c).flow t = min ((bd h R c).most t) (R c t) := by rw [b5r]; rfl
  rw [h2, Int.min_comm]
theorem j9w {a to : Nat} (ha : a ≤ to) (hto : to < T h) : b02 (c1n (tab (T h) (b22 (T h) (bd h R c))) (tab (T h) (bd h R c).most) (tab (T h) (bd h R c).flow) to) ((bd h R c).come 0 to, 0, (a : Int)) = some (b4c ((bd h R c).come 0 to) (way (bd h R c) a to) a (to + 1 - a), b01 (bd h R c).flow (to + 1) - b01 (bd h R c).flow a) := by
  have hT := b29 hv
  have hok := bok hv hR hc
  refine c1c (f := c1n (tab (T h) (b22 (T h) (bd h R c))) (tab (T h) (bd h R c).most) (tab (T h) (bd h R c).flow) to) (to + 1) (fun (p : Int × Int) k => (p.1, p.2, k)) (fun k => (b4c ((bd h R c).come 0 to) (way (bd h R c) a to) a (k - a), b01 (bd h R c).flow k - b01 (bd h R c).flow a)) _ (s0 := ((bd h R c).come 0 to, 0)) a (by
    rw [Nat.sub_self, Int.sub_self]; rfl) (by omega) (fun k hak hk => ?_) (by
    simp only [c1n]
    rw [if_neg (by simp; omega)])
  have h1 := c21 hok (by omega) (show T h ≤ 1000 by omega) hak (show k ≤ T h by omega)
  have h2 := hok.most k (by omega)
  have h3 := c8u hok (by omega) (show T h ≤ 1000 by omega) (show k ≤ to by omega) hto
  have h4 := hok.flow k (by omega)
  have j61 : ∀ rest, rest = b4g (bd h R c) to k → c1r (tab (T h) (bd h R c).most) (tab (T h) (bd h R c).flow) (b4c ((bd h R c).come 0 to) (way (bd h R c) a to) a (k - a)) (b01 (bd h R c).flow k - b01 (bd h R c).flow a) k rest = some (.nx (b4c ((bd h R c).come 0 to) (way (bd h R c) a to) a (k + 1 - a), b01 (bd h R c).flow (k + 1) - b01 (bd h R c).flow a, (k : Int) + 1)) := fun rest hr => by
    subst hr
    unfold c1r
    rw [b2c (show k < T h by omega)]
    simp only [Option.bind_some]
    rw [b2c (show k < T h by omega)]
    simp only [Option.bind_some]
    rw [b1v (n := b01 (bd h R c).flow k - b01 (bd h R c).flow a + (bd h R c).most k) (by omega) (by omega), b1v (n := b01 (bd h R c).flow k - b01 (bd h R c).flow a + (bd h R c).most k + b4g (bd h R c) to k) (by omega) (by omega), b1v (n := b01 (bd h R c).flow k - b01 (bd h R c).flow a + (bd h R c).flow k) (by omega) (by omega), b1v (n := (k : Int) + 1) (by omega) (by omega), c1d, b48,
      show k + 1 - a = (k - a) + 1 by omega]
    simp only [b4c]
    rw [show a + (k - a) = k by omega, show b01 (bd h R c).flow k - b01 (bd h R c).flow a + (bd h R c).flow k = b01 (bd h R c).flow k + (bd h R c).flow k - b01 (bd h R c).flow a by omega]
    rfl
  simp only [c1n]
  rw [if_pos (by simp; omega)]
  by_cases q : k < to
  · rw [if_pos (by simpa using q), show wr ((k : Int) + 1) = ((k + 1 : Nat) : Int) from by rw [b1v (by omega) (by omega)]; omega, b2c (show k + 1 < T h by omega)]
    simp only [Option.bind_some]
    rw [b68 hto (by omega)]
    simp only [Option.bind_some]
    exact j61 _ (by unfold b4g; rw [if_pos q])
  · rw [if_neg (by simpa using q)]
    exact j61 _ (by unfold b4g; rw [if_neg q])
theorem j7m (F : Nat → List Int) {a : Nat} (ha : a < T h) : b02 (c1o (sH h S) (tab (T h) (b22 (T h) (bd h R c))) (tab (T h) (bd h R c).most) (tab (T h) (bd h R c).flow) a) (put (T h) F a (tab (T h) fun _ => 0), (a : Int)) = some (put (T h) F a (tab (T h) (pz (bd h R c) a))) := by
  have hT := b29 hv
  have hTi := b34 hv
  refine c1c (f := c1o (sH h S) (tab (T h) (b22 (T h) (bd h R c))) (tab (T h) (bd h R c).most) (tab (T h) (bd h R c).flow) a) (T h) (fun p k => (p, k)) (fun to => put (T h) F a (fill (T h) (pz (bd h R c) a) 0 to)) _ a (by
    congr 1
    unfold fill
    exact b5q fun i hi => by
      by_cases q : i < a
      · rw [if_pos q]; unfold pz; rw [if_neg (by omega)]
      · rw [if_neg q]) (by omega) (fun to hat hto => ?_) (by
    simp only [c1o]
    rw [← hTi, if_neg (by simp), b8x (Nat.le_refl _)])
  simp only [c1o]
  rw [← hTi, if_pos (by simpa using hto)]
  rw [show ((0 : Int)) = ((0 : Nat) : Int) from rfl, b2c (show 0 < T h by omega)]
  simp only [Option.bind_some]
  rw [b68 hto (by omega)]
  simp only [Option.bind_some]
  have hw := j9w hv hR hc hat hto
  simp only [Int.natCast_zero] at hw ⊢
  rw [hw]
  simp only [Option.bind_some, c66]
  rw [c9k ha]
  simp only [Option.bind_some]
  rw [c0n hto]
  simp only [Option.bind_some, c65, Int.toNat_natCast, b2l hto (show T h ≤ maxLen by simp only [maxLen]; omega), c1d]
  rw [c0j, d2m]
  rw [j18]
  unfold pz b9n
  rw [if_pos hat]
theorem j7k : b02 (c1p (sH h S) (tab (T h) (b22 (T h) (bd h R c))) (tab (T h) (bd h R c).most) (tab (T h) (bd h R c).flow)) (tab (T h) fun _ => [], 0) = some (tab (T h) fun f => tab (T h) (pz (bd h R c) f)) := by
  have hT := b29 hv
  have hTi := b34 hv
  refine b3m (f := c1p (sH h S) (tab (T h) (b22 (T h) (bd h R c))) (tab (T h) (bd h R c).most) (tab (T h) (bd h R c).flow)) (T h) (fun p k => (p, k)) (fill (T h) (fun f => tab (T h) (pz (bd h R c) f)) []) _ (s0 := tab (T h) fun _ => []) (by rw [← b9z, c0k]) (fun s hs => ?_) (by
    simp only [c1p]
    rw [← hTi, if_neg (by simp), b8x (Nat.le_refl _)])
  simp only [c1p]
  rw [← hTi, if_pos (by simpa using hs), b8c (by omega) (by omega)]
  simp only [Option.bind_some]
  rw [d4q hs]
  simp only [Option.bind_some, Int.toNat_natCast]
  rw [show (fill (T h) (fun f => tab (T h) (pz (bd h R c) f)) [] s).set s (tab (T h) fun _ => 0) = put (T h) (fun f => tab (T h) (pz (bd h R c) f)) s (tab (T h) fun _ => 0) from rfl, j7m hv hR hc _ hs]
  simp only [Option.bind_some, c64, b2l hs (show T h ≤ maxLen by simp only [maxLen]; omega)]
  rw [d9t rfl]
omit hc in
theorem d23 (hr : ∀ c, c < h.Combs.length → b7i (sH h S) (c : Int) = some (tab (T h) (R c))) : b8f (sH h S) = some (b2g h R h.Combs.length) := by
  have hT := b29 hv
  have hN := hv.1.2.2.2.1
  have hTi := b34 hv
  unfold b8f
  have l := b3m (f := c36 (sH h S)) h.Combs.length (fun (p : List (List Int) × List (List Int) × List (List (List Int)) × List (List (List Int))) k => (p.1, p.2.1, p.2.2.1, p.2.2.2, k)) (fun c => ((b2g h R c).Most, (b2g h R c).Flow, (b2g h R c).Come, (b2g h R c).Pass)) ((b2g h R h.Combs.length).Most, (b2g h R h.Combs.length).Flow, (b2g h R h.Combs.length).Come, (b2g h R h.Combs.length).Pass) (s0 := ([], [], [], [])) rfl (fun c hc => by
    simp only [c36]
    rw [if_pos (by simpa using hc), ← hTi, b8c (by omega) (by omega)]
    simp only [Option.bind_some]
    rw [g5v hv hR hc]
    simp only [Option.bind_some, c6y]
    rw [hr c hc]
    simp only [Option.bind_some]
    rw [← hTi, b8c (by omega) (by omega)]
    simp only [Option.bind_some]
    rw [g6w hv hR hc]
    simp only [Option.bind_some, c62]
    rw [← hTi, b8c (by omega) (by omega)]
    simp only [Option.bind_some]
    rw [j7k hv hR hc]
    simp only [Option.bind_some, c63, b2g]
    rw [b3v (by simp only [b3t, List.length_cons, List.length_nil]; omega)]
    simp only [Option.bind_some]
    rw [b3v (by simp only [b3t, List.length_cons, List.length_nil]; omega)]
    simp only [Option.bind_some]
    rw [b3v (by simp only [b3t, List.length_cons, List.length_nil]; omega)]
    simp only [Option.bind_some]
    rw [b3v (by simp only [b3t, List.length_cons, List.length_nil]; omega)]
    simp only [Option.bind_some, c67, b2l hc (show h.Combs.length ≤ maxLen by simp only [maxLen]; omega)]
    rw [← b64, ← b64, ← b64, ← b64]) (by
    simp only [c36]
    rw [if_neg (by simp)])
  simp only at l
  rw [l]; rfl
end
def d93 (h : Hall) (c : Nat) : r06_Bounds := b2g h (b1t h) c
theorem d24 {h : Hall} (hv : V h) : b8f h = some (d93 h h.Combs.length) := d23 (S := h.Shifts) hv (d17 hv) fun _ hc => d90 hv hc
end Go.Nw.HM
namespace Go.Nw.HM
theorem d1u {β : Type} {f : Int → Option (Out Int β)} {n : Nat} {p : Nat → Bool} {e : Nat → β} {u : β} (hb : ∀ t : Nat, t < n → p t = true → f (t : Int) = some (.br (e t)))
    (hn : ∀ t : Nat, t < n → p t = false → f (t : Int) = some (.nx ((t : Int) + 1))) (hu : f (n : Int) = some (.br u)) : b02 f 0 = some (match b4x n p with | some t => e t | none => u) := by
  have key : ∀ (d k : Nat), n - k = d → k ≤ n → (∀ j, j < k → p j = false) → b02 f (k : Int) = some (match b4x n p with | some t => e t | none => u) := by
    intro d
    induction d with
    | zero =>
      intro k hd hk hj
      have : k = n := by omega
      subst this
      rw [c0l.2 hj]
      exact b4k hu
    | succ d ih =>
      intro k hd hk hj
      cases hp : p k with
      | true =>
        rw [c9c (by omega) hp hj]
        exact b4k (hb k (by omega) hp)
      | false =>
        rw [b7e (hn k (by omega) hp)]
        have := ih (k + 1) (by omega) (by omega) (fun j hj' => by
          by_cases e : j = k
          · subst e; exact hp
          · exact hj j (by omega))
        rwa [show ((k + 1 : Nat) : Int) = (k : Int) + 1 by omega] at this
  exact key n 0 (by omega) (by omega) fun j hj => by omega
section
variable {h : Hall} (hv : V h)
include hv
theorem c7h (c : Int) : b7h h c = decide (0 ≤ c ∧ c < h.Combs.length) := by
  have hN := hv.1.2.2.2.1
  simp only [b7h, b2y, d22 (show h.Combs.length ≤ maxLen by simp only [maxLen]; omega)]
  rw [Bool.eq_iff_iff]
  simp only [Bool.and_eq_true, decide_eq_true_eq]; omega
theorem d9y (t : Int) : b2y t 0 (wr (h.Until - 1)) = decide (0 ≤ t ∧ t < h.Until) := by
  have h1 := hv.1.1
  have h2 := hv.1.2.1
  rw [b1v (by omega) (by omega)]
  simp only [b2y]
  rw [Bool.eq_iff_iff]
  simp only [Bool.and_eq_true, decide_eq_true_eq]; omega
theorem d9k {R : Nat → Nat → Int} {S : List Shift} (hA : b8f (sH h S) = some (b2g h R h.Combs.length)) : b9s (sH h S) = some (b3x h R h.Combs.length) := by
  have hT := b29 hv
  have hTi := b34 hv
  have hN := hv.1.2.2.2.1
  unfold b9s
  rw [hA]
  simp only [Option.bind_some]
  have := b3m (f := c4a (sH h S) (b2g h R h.Combs.length)) h.Combs.length (fun s k => (s, k)) (b3x h R) (b3x h R h.Combs.length) (s0 := []) rfl (fun c hc => by
    obtain ⟨x, hx⟩ := b2i hc
    have hll := d9j (h := h) (R := R) (n := c)
    simp only [c4a]
    rw [if_pos (by simpa using hc)]
    have hl := d1u (f := c14 (sH h S) (b2g h R h.Combs.length) (b3x h R c) c) (n := T h) (p := b49 h R c) (e := fun t => b3x h R c ++ [((c : Int), (t : Int))]) (u := b3x h R c) (fun t ht hp => by
      simp only [c14, b2g]
      rw [← hTi, if_pos (by simpa using ht), b2c hc]
      simp only [Option.bind_some]
      rw [b2c ht]
      simp only [Option.bind_some, b2f hx]
      unfold b49 at hp
      rw [b79 hx] at hp
      rw [if_pos hp, b3v (by simp only [List.length_cons, List.length_nil]; omega)]
      rfl) (fun t ht hp => by
      simp only [c14, b2g]
      rw [← hTi, if_pos (by simpa using ht), b2c hc]
      simp only [Option.bind_some]
      rw [b2c ht]
      simp only [Option.bind_some, b2f hx]
      unfold b49 at hp
      rw [b79 hx] at hp
      rw [if_neg (by rw [show decide (x.Limit < (bd h R c).most t) = false from hp]; simp), b2l ht (show T h ≤ maxLen by simp only [maxLen]; omega)]) (by
      simp only [c14]
      rw [← hTi, if_neg (by simp)])
    rw [hl]
    simp only [Option.bind_some, c7i, b2l hc (show h.Combs.length ≤ maxLen by simp only [maxLen]; omega)]
    rw [d16]
    cases b4x (T h) (b49 h R c) <;> simp) (by
    simp only [c4a]
    rw [if_neg (by simp)])
  rw [this]; rfl
theorem j7b : b9s h = some (b3x h (b1t h) h.Combs.length) := d9k (S := h.Shifts) hv (d24 hv)
end
end Go.Nw.HM
namespace Go.Nw.HM
section
variable {h : Hall} (hv : V h) {c : Nat} (hc : c < h.Combs.length) {t : Nat} (ht : t < T h)
include hv hc ht
end
end Go.Nw.HM
namespace Go.Nw.HM
section
variable {h : Hall} (hv : V h) {c : Nat} (hc : c < h.Combs.length)
include hv hc
theorem c9d {r : Int} (h0 : 0 ≤ r) (h1 : r ≤ 1000) : (b7j (atH h c r) c ∧ b61 h c r = some true) ∨ (¬ b7j (atH h c r) c ∧ b61 h c r = some false) := by
  have hT := b29 hv
  have hTi := b34 hv
  obtain ⟨x, hx⟩ := b2i hc
  have hva := g29 hv hc (r := r) ⟨h0, h1⟩
  have hca : c < (atH h c r).Combs.length := by rw [c0b]; exact hc
  have hlim : b3h (atH h c r) c = x.Limit := by rw [d3k, b79 hx]
  unfold b61
  rw [g2i hv hc]
  simp only [Option.bind_some]
  rw [d24 hva]
  simp only [Option.bind_some, d93, b2g]
  rw [b2c hca]
  simp only [Option.bind_some, d3j]
  have hl := d1u (f := c13 h c (tab (T h) (own (atH h c r) c).most)) (n := T h) (p := fun t => decide (x.Limit < (own (atH h c r) c).most t)) (e := fun _ => .inr false) (u := .inl ()) (fun t ht hp => by
    simp only [c13]
    rw [← hTi, if_pos (by simpa using ht), b2c ht]
    simp only [Option.bind_some, b2f hx]
    rw [if_pos hp]) (fun t ht hp => by
    simp only [c13]
    rw [← hTi, if_pos (by simpa using ht), b2c ht]
    simp only [Option.bind_some, b2f hx]
    rw [if_neg (by rw [show decide (x.Limit < (own (atH h c r) c).most t) = false from hp]; simp), b2l ht (show T h ≤ maxLen by simp only [maxLen]; omega)]) (by
    simp only [c13]
    rw [← hTi, if_neg (by simp)])
  rw [hl]
  cases e : b4x (T h) (fun t => decide (x.Limit < (own (atH h c r) c).most t)) with
  | none =>
    refine .inl ⟨fun t ht => ?_, rfl⟩
    have := (c0l.1 e) t ht
    rw [hlim]; simpa using this
  | some k =>
    unfold b4x at e
    rw [List.find?_range_eq_some] at e
    obtain ⟨e1, e2, _⟩ := e
    refine .inr ⟨fun hh => ?_, rfl⟩
    have := hh k (List.mem_range.1 e2)
    rw [hlim] at this
    simp only [decide_eq_true_eq] at e1
    omega
theorem j80 {m : Int} (hm : 0 ≤ m ∧ m ≤ 1000) (hK : ∀ r, 0 ≤ r → (b7j (atH h c r) c ↔ m ≤ r)) : ∀ (n : Nat) (lo hi : Int), (hi - lo).toNat ≤ n → 0 ≤ lo → lo ≤ m → m ≤ hi → hi ≤ 1000 → b02 (b60 h c) (lo, hi) = some m := by
  intro n
  induction n with
  | zero =>
    intro lo hi hn h0 h1 h2 h3
    have : hi = m := by omega
    subst this
    exact b4k (by
      simp only [b60]
      rw [if_neg (by simp; omega)])
  | succ n ih =>
    intro lo hi hn h0 h1 h2 h3
    by_cases q : lo < hi
    · have e1 : wr (lo + hi) = lo + hi := b1v (by omega) (by omega)
      have e2 : (lo + hi).tdiv 2 = (lo + hi) / 2 := Int.tdiv_eq_ediv_of_nonneg (by omega)
      have e3 : quo .i64 (wr (lo + hi)) 2 = some ((lo + hi) / 2) := by
        rw [e1, d9x (by omega), e2]
        exact congrArg some (b1v (by omega) (by omega))
      rcases c9d hv hc (r := (lo + hi) / 2) (by omega) (by omega) with ⟨k1, k2⟩ | ⟨k1, k2⟩
      · have := (hK _ (by omega)).1 k1
        rw [b7e (s' := (lo, (lo + hi) / 2)) (by
          simp only [b60]
          rw [if_pos (by simpa using q), e3]
          simp only [Option.bind_some]
          rw [k2]
          simp only [Option.bind_some]
          rw [if_pos trivial])]
        exact ih _ _ (by omega) h0 h1 this (by omega)
      · have : ¬ m ≤ (lo + hi) / 2 := fun hh => k1 ((hK _ (by omega)).2 hh)
        rw [b7e (s' := ((lo + hi) / 2 + 1, hi)) (by
          simp only [b60]
          rw [if_pos (by simpa using q), e3]
          simp only [Option.bind_some]
          rw [k2]
          simp only [Option.bind_some]
          rw [if_neg (by simp), b1v (by omega) (by omega)])]
        exact ih _ _ (by omega) (by omega) (by omega) h2 h3
    · have : hi = m := by omega
      subst this
      exact b4k (by
        simp only [b60]
        rw [if_neg (by simpa using q)])
theorem g2s : ∃ r, b6d h c = some r ∧ b6z h c = some r := by
  have hcin : (if (!(b7h h (c : Int))) = true then some ((0 : Int), (1 : Int)) else (b61 h c 1000).bind fun y8 => if (!y8) = true then some (0, 3) else (b02 (b60 h c) (0, 1000)).bind fun high_7 => c1x high_7) = (b61 h c 1000).bind fun y8 => if (!y8) = true then some (0, 3) else (b02 (b60 h c) (0, 1000)).bind fun high_7 => c1x high_7 := if_neg (by
    rw [c7h hv]; simp; omega)
  have e : b6z h c = (b61 h c 1000).bind fun y8 => if (!y8) = true then some (0, 3) else (b02 (b60 h c) (0, 1000)).bind fun high_7 => c1x high_7 := by
    unfold b6z
    rw [(c8p hv).2]
    simp only [Option.bind_some]
    rw [if_neg (by simp)]
    exact hcin
  rcases j33 hv hc with ⟨r, h1, rfl, h3⟩ | ⟨m, h1, h2, h3, h4⟩
  · refine ⟨_, h1, ?_⟩
    rw [e]
    rcases c9d hv hc (r := 1000) (by omega) (by omega) with ⟨k1, _⟩ | ⟨_, k2⟩
    · exact absurd k1 (h3 1000 (by omega) (by omega))
    · rw [k2]; rfl
  · refine ⟨_, h1, ?_⟩
    rw [e]
    rcases c9d hv hc (r := 1000) (by omega) (by omega) with ⟨_, k2⟩ | ⟨k1, _⟩
    · rw [k2]
      simp only [Option.bind_some]
      rw [if_neg (by simp), j80 hv hc ⟨h2, h3⟩ h4 1000 0 1000 (by omega) (by omega) h2 h3 (by omega)]
      rfl
    · exact absurd ((h4 1000 (by omega)).2 h3) k1
variable {f : Nat} (hf : f < T h)
include hf
theorem g0j {k : Nat} (hfk : f + k ≤ T h) : ∃ g, b9q h c f k = some g ∧ b9s g = some (b3x h (Z h c f k) h.Combs.length) := by
  have hT := b29 hv
  by_cases q : k = 0
  · subst q
    refine ⟨h, ?_, ?_⟩
    · unfold b9q; rw [if_pos (by simp)]
    · rw [j7b hv, d3c hf]
  · have hk : 0 < k := by omega
    refine ⟨_, g2u hv hc hk hfk, ?_⟩
    have hlen : (b5d h c f k).Shifts.length ≤ maxLen := by
      have h1 := hv.1.2.2.2.2.2
      have a1 := List.length_filter_le (fun s : Shift => decide (s.At ≤ (f : Int))) h.Shifts
      have a2 := List.length_filter_le (fun s : Shift => ((decide ((f : Int) < s.At)) && (decide (s.At ≤ (f : Int) + k))) && ((decide (¬s.Comb = (c : Int))) || (decide (s.At = (f : Int) + k)))) h.Shifts
      have a3 := List.length_filter_le (fun s : Shift => decide ((f : Int) + k < s.At)) h.Shifts
      have a4 : (shW h c f k).length ≤ 1 := by unfold shW; split <;> simp
      simp only [b5d, shA, shB, shC, List.length_append, List.length_cons, List.length_nil, maxLen]
      omega
    exact d9k (S := (b5d h c f k).Shifts) hv (d23 (S := (b5d h c f k).Shifts) hv (d3b hv k) fun u hu => by
      have e1 : b7i (b5d h c f k) (u : Int) = some (tab (T h) (b1t (b5d h c f k) u)) := d9z (h := b5d h c f k) hv.1.1 hv.1.2.1 hlen hu
      have e2 : b1t (b5d h c f k) u = Z h c f k u := funext fun t => g2y hv hk hfk u t
      rw [← e2]
      exact e1)
theorem g2r : ∃ r, b42 h c f = some r ∧ b6y h c f = some r := by
  have hT := b29 hv
  have hTi := b34 hv
  have e : b6y h c f = (b02 (b9p h c f) 0).bind fun | (.inl ()) => c7e | (.inr r') => some r' := by
    unfold b6y
    rw [(c8p hv).2]
    simp only [Option.bind_some]
    rw [if_neg (by simp), if_neg (by rw [c7h hv, d9y hv]; simp; omega)]
    rfl
  have hsub : wr (h.Until - f) = ((T h - f : Nat) : Int) := by rw [b1v (by omega) (by omega)]; omega
  have hl := d1u (f := b9p h c f) (n := T h - f + 1) (p := fun k => decide ((b3x h (Z h c f k) h.Combs.length).length = 0)) (e := fun k => .inr ((k : Int), 0)) (u := .inl ()) (fun k hk hp => by
    obtain ⟨g, g1, g2⟩ := g0j hv hc hf (k := k) (by omega)
    simp only [b9p]
    rw [hsub, if_pos (by simp; omega), g1]
    simp only [Option.bind_some]
    rw [g2]
    simp only [Option.bind_some]
    rw [if_pos (by simpa using hp)]) (fun k hk hp => by
    obtain ⟨g, g1, g2⟩ := g0j hv hc hf (k := k) (by omega)
    simp only [b9p]
    rw [hsub, if_pos (by simp; omega), g1]
    simp only [Option.bind_some]
    rw [g2]
    simp only [Option.bind_some]
    rw [if_neg (by simpa using hp), b1v (by omega) (by omega)]) (by
    simp only [b9p]
    rw [hsub, if_neg (by simp; omega)])
  have hp : ∀ k, (decide ((b3x h (Z h c f k) h.Combs.length).length = 0) = true ↔ b5f h (Z h c f k)) := fun k => by
    rw [decide_eq_true_eq, List.length_eq_zero_iff]
    exact d15
  rw [e, hl]
  rcases g7x hv hc hf with ⟨n, g1, g2, g3, g4⟩ | ⟨g1, g2⟩
  · refine ⟨_, g1, ?_⟩
    rw [c9c (k := n) (by omega) ((hp n).2 g3) fun j hj => c8w fun hh => g4 j hj ((hp j).1 hh)]
    rfl
  · refine ⟨_, g1, ?_⟩
    rw [c0l.2 fun k hk => c8w fun hh => g2 k (by omega) ((hp k).1 hh)]
    rfl
end
theorem j34 (hw : b78 = some true) (h : Hall) (comb from_ : Int) (hk : b55 h) (_ : b3d comb) (_ : b3d from_) : c3w h comb from_ = some true := by
  obtain ⟨b, hb⟩ := g2m hk
  unfold c3w
  rw [hb]
  simp only [Option.bind_some]
  cases b with
  | true =>
    rw [if_pos rfl, hw]; rfl
  | false =>
    rw [if_neg (by simp)]
    obtain ⟨r, g, n1, n2, g1, g2⟩ : ∃ r g, b6d h comb = some r ∧ b6z h comb = some r ∧ b42 h comb from_ = some g ∧ b6y h comb from_ = some g := by
      rcases d27 hk with ⟨hv, c1, c2⟩ | ⟨_, c1, c2⟩
      · have hTi := b34 hv
        have need : ∃ r, b6d h comb = some r ∧ b6z h comb = some r := by
          by_cases q : 0 ≤ comb ∧ comb < h.Combs.length
          · obtain ⟨c, rfl⟩ : ∃ a : Nat, comb = a := ⟨comb.toNat, by omega⟩
            exact g2s hv (by omega)
          · refine ⟨(0, 1), ?_, ?_⟩
            · unfold b6d
              rw [c5e hv comb [] (by simp), if_neg fun hh => q hh.1]
              rfl
            · unfold b6z
              rw [c2]
              simp only [Option.bind_some]
              rw [if_neg (by simp), if_pos (by rw [c7h hv]; simp only [Bool.not_eq_true', decide_eq_false_iff_not]; exact q)]
        have guard : ∃ r, b42 h comb from_ = some r ∧ b6y h comb from_ = some r := by
          by_cases q : (0 ≤ comb ∧ comb < h.Combs.length) ∧ (0 ≤ from_ ∧ from_ < h.Until)
          · obtain ⟨c, rfl⟩ : ∃ a : Nat, comb = a := ⟨comb.toNat, by omega⟩
            obtain ⟨f, rfl⟩ : ∃ a : Nat, from_ = a := ⟨from_.toNat, by omega⟩
            exact g2r hv (by omega) (by omega)
          · refine ⟨(0, 1), ?_, ?_⟩
            · unfold b42
              rw [c5e hv comb [from_] (by simp [maxLen]), if_neg fun hh => q ⟨hh.1, hh.2 from_ (by simp)⟩]
              rfl
            · unfold b6y
              rw [c2]
              simp only [Option.bind_some]
              rw [if_neg (by simp), if_pos (by rw [c7h hv, d9y hv]; simp only [Bool.or_eq_true, Bool.not_eq_true', decide_eq_false_iff_not]; omega)]
        obtain ⟨r, r1, r2⟩ := need
        obtain ⟨g, g1, g2⟩ := guard
        exact ⟨r, g, r1, r2, g1, g2⟩
      · have z : ∀ x l, b6f h x l = some 60 := fun x l => by unfold b6f; rw [c1]; rfl
        refine ⟨(0, 60), (0, 60), ?_, ?_, ?_, ?_⟩
        · unfold b6d; rw [z]; rfl
        · unfold b6z; rw [c2]; rfl
        · unfold b42; rw [z]; rfl
        · unfold b6y; rw [c2]; rfl
    rw [n1, n2, g1, g2]
    simp only [Option.bind_some]
    rw [if_pos (by simp), hw]; rfl
end Go.Nw.HM
