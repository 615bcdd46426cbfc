/- Plain laws on the models. -/
import Derived.Test.YteoedeeljnboeaaP2
set_option linter.all false
set_option linter.unusedVariables false
set_option linter.unusedSimpArgs false
set_option linter.unusedSectionVars false
namespace Go.Nw.HM
def d3g (f t : Nat) (x : Train) : Prop := (f : Int) ≤ x.At.High ∧ x.At.Low ≤ (t : Int)
instance (f t : Nat) (x : Train) : Decidable (d3g f t x) := by unfold d3g; infer_instance
section
variable {h : Hall} (hv : V h) {c : Nat} (hc : c < h.Combs.length) {t : Nat} (ht : t < T h)
include hv
include hc ht
end
end Go.Nw.HM
namespace Go.Nw.HM
section
variable {h : Hall} (hv : V h)
include hv
end
end Go.Nw.HM
namespace Go.Nw.HM
section
variable {h : Hall} {d : Day} (hv : V h) (hf : Fit h d)
include hv hf
end
theorem g1v {l : List Int} (hl : l.length ≤ maxLen) : c3y l l = some true := by
  unfold c3y
  rw [if_neg (by simp)]
  rw [d1h (f := c3z l l) l.length (fun (_ : Unit) k => k) (fun _ => ()) (.inl ()) (fun k hk => by
    obtain ⟨x, hx⟩ := b2q hk
    simp only [c3z, b2k hx, Option.bind_some]
    rw [if_pos (by simpa using hk), if_neg (by simp), b2m hk hl]) (by simp [c3z])]
  rfl
end Go.Nw.HM
namespace Go.Nw.HM
def put (n : Nat) (f : Nat → List Int) (s : Nat) (r : List Int) : List (List Int) := (fill n f [] s).set s r
theorem c81 {n s : Nat} {f : Nat → List Int} {r : List Int} (hs : s < n) : get (put n f s r) (s : Int) = some r := b2k (by unfold put; rw [List.getElem?_set, if_pos rfl, if_pos (by rw [d3t]; exact hs)])
theorem d16 {n s : Nat} {f : Nat → List Int} {r r' : List Int} : (put n f s r).set s r' = put n f s r' := by unfold put; rw [List.set_set]
theorem d8z {n s : Nat} {f : Nat → List Int} {r : List Int} (e : r = f s) : put n f s r = fill n f [] (s + 1) := c0i e
theorem d32 {n s : Nat} {f : Nat → List Int} (hs : s < n) : get (fill n f [] s) (s : Int) = some [] := by rw [c0k hs, if_neg (by omega)]
section
variable {b : Bd} {n s t : Nat}
def b36 (b : Bd) (n s t : Nat) (a : Int) : List Int := (b3o b n s t).set t a
theorem d33 {a : Int} (ht : t < n) : get (b36 b n s t a) (t : Int) = some a := by unfold b36 b3o; rw [b76, b1u ht, if_pos rfl]
theorem d9i {a a' : Int} : (b36 b n s t a).set t a' = b36 b n s t a' := by unfold b36; rw [List.set_set]
theorem j67 (hst : s ≤ t) : b36 b n s t (b.come s t) = b3o b n s (t + 1) := by
  unfold b36 b3o
  rw [b76]
  refine b6g fun i hi => ?_
  by_cases e : i = t
  · subst e; rw [if_pos rfl, if_pos (by omega)]
  · rw [if_neg e]
    by_cases q : s ≤ i ∧ i < t
    · rw [if_pos q, if_pos (by omega)]
    · rw [if_neg q, if_neg (by omega)]
theorem j68 : b36 b n s t 0 = b3o b n s t := by
  unfold b36 b3o
  rw [b76]
  refine b6g fun i hi => ?_
  by_cases e : i = t
  · subst e; rw [if_pos rfl, if_neg (by omega)]
  · rw [if_neg e]
end
def pz (b : Bd) (f t : Nat) : Int := if f ≤ t then b9g b f t else 0
abbrev sH (h : Hall) (S : List Shift) : Hall := ⟨h.Combs, h.Trains, S, h.Until⟩
def b1y (h : Hall) (R : Nat → Nat → Int) (c : Nat) : r06_Bounds := ⟨tab c fun u => tab (T h) (bd h R u).most, tab c fun u => tab (T h) (bd h R u).flow, tab c fun u => tab (T h) (b2x (T h) (bd h R u)), tab c fun u => tab (T h) fun f => tab (T h) (pz (bd h R u) f)⟩
section
variable {h : Hall} {R : Nat → Nat → Int} {S : List Shift} (hv : V h) (hR : Rt h R)
include hv
theorem j6a {c u : Nat} (hu : u < c) {f t : Int} (ht : t < T h) : b96 (b1y h R c) u f t = some (b6d (bd h R u) f t) := by
  unfold b96 b6d
  by_cases q : t < f ∨ t < 0
  · rw [if_pos (by rw [b9e]; simp; omega), if_pos q]
  · rw [if_neg (by rw [b9e]; simp; omega), if_neg q]
    obtain ⟨to, rfl⟩ : ∃ to : Nat, t = to := ⟨t.toNat, by omega⟩
    obtain ⟨a, ha⟩ : ∃ a : Nat, max f 0 = a := ⟨(max f 0).toNat, by omega⟩
    rw [b9e, ha]
    simp only [b1y]
    rw [b1u hu]
    simp only [Option.bind_some]
    rw [b1u (show a < T h by omega)]
    simp only [Option.bind_some]
    rw [b1u (show to < T h by omega)]
    simp only [Option.bind_some, pz]
    rw [if_pos (by omega)]
    congr 2
variable {c : Nat} (hc : c < h.Combs.length) {s t : Nat} (hst : s ≤ t) (ht : t < T h) (F : Nat → List Int)
include hst ht
theorem g40 {x : Train} {i : Nat} (hx : h.Trains[i]? = some x) {A : Int} (hA : 0 ≤ A) (hA' : A ≤ 1000000000) (b : Bd) :
    b04 (c1g c s t x) (put (T h) F s (b36 b (T h) s t A), 0) = some (put (T h) F s (b36 b (T h) s t (A + b4c c s t x))) := by
  have hl := (hv.2.2.1 i x hx).2.2.2.1
  have hm := List.mem_of_getElem? hx
  refine b3r (f := c1g c s t x) x.Crowds.length (fun p k => (p, k)) (fun k => put (T h) F s (b36 b (T h) s t (A + if x.At.High < (s : Int) ∨ (t : Int) < x.At.Low then 0 else b3s x.Crowds (b5m c) k))) _
    (s0 := put (T h) F s (b36 b (T h) s t A)) (by rw [c3w]; simp) (fun k hk => ?_) (by
      simp only [c1g]
      rw [if_neg (by simp), c1e]
      unfold b4c; rfl)
  obtain ⟨y, hy⟩ := b2q hk
  have hc1 := c46 hv hm c k (by omega)
  have hg := (hv.2.2.1 i x hx).2.2.2.2 k y hy
  unfold b4z at hg
  simp only [c1g, b2k hy, Option.bind_some]
  rw [if_pos (by simpa using hk)]
  by_cases q : x.At.High < (s : Int) ∨ (t : Int) < x.At.Low
  · rw [if_neg (by simp; omega), if_pos q, if_pos q]
    simp only [b9h, b2m hk (show x.Crowds.length ≤ maxLen by simp only [maxLen]; omega)]
  · rw [if_neg q, if_neg q, c1f hy]
    by_cases e : y.Comb = (c : Int)
    · rw [if_pos (by simp; omega), c81 (by omega)]
      simp only [Option.bind_some]
      rw [d33 ht]
      simp only [Option.bind_some, b9h, b2m hk (show x.Crowds.length ≤ maxLen by simp only [maxLen]; omega), Int.toNat_natCast]
      rw [d9i, d16, b2i (by omega) (by omega), show b5m c y = y.People.High from if_pos e, Int.add_assoc]
    · rw [if_neg (by simp; omega), show b5m c y = 0 from if_neg e, Int.add_zero]
      simp only [b9h, b2m hk (show x.Crowds.length ≤ maxLen by simp only [maxLen]; omega)]
theorem j8e (b : Bd) : b04 (c1h (sH h S) c s t) (put (T h) F s (b36 b (T h) s t 0), 0) = some (put (T h) F s (b36 b (T h) s t (b38 h c s t))) := by
  have hTr := hv.1.2.2.2.2.1
  refine b3r (f := c1h (sH h S) c s t) h.Trains.length (fun p k => (p, k)) (fun k => put (T h) F s (b36 b (T h) s t (b3s h.Trains (b4c c s t) k))) _ (by rw [c3w]) (fun i hi => ?_) (by
    simp only [c1h]
    rw [if_neg (by simp), c1e]; rfl)
  obtain ⟨x, hx⟩ := b2q hi
  have hb := d2i hv c s t i (by omega)
  simp only [c1h, b2k hx, Option.bind_some]
  rw [if_pos (by simpa using hi), g40 hv hst ht F hx (by omega) (by omega) b]
  simp only [Option.bind_some, c6p, b2m hi (show h.Trains.length ≤ maxLen by simp only [maxLen]; omega)]
  rw [c1f hx]
include hR hc
theorem j8o : b04 (c1i (sH h S) (b1y h R c).Most (b1y h R c).Flow (b1y h R c).Come (b1y h R c).Pass c s t) (put (T h) F s (b36 (bd h R c) (T h) s t (b38 h c s t)), 0) = some (put (T h) F s (b3o (bd h R c) (T h) s (t + 1))) := by
  have hN := hv.1.2.2.2.1
  have hT := b3k hv
  refine b3r (f := c1i (sH h S) (b1y h R c).Most (b1y h R c).Flow (b1y h R c).Come (b1y h R c).Pass c s t) c (fun p k => (p, k)) (fun u => put (T h) F s (b36 (bd h R c) (T h) s t (b38 h c s t + b00 (b2s h c (bd h R) s t) u))) _ (by rw [c1d, Int.add_zero]) (fun u hu => ?_) (by
    simp only [c1i]
    rw [if_neg (by simp), ← j67 hst]
    congr 4
    rw [b8i]; rfl)
  obtain ⟨x, hx⟩ := b2q (show u < h.Combs.length by omega)
  have hg := hv.2.1 u x hx
  unfold b5g at hg
  have hwb := c7h hv hR hc hst ht u (by omega)
  have hwb' := c7h hv hR hc hst ht (u + 1) (by omega)
  have hbb := c8h hv c s t
  rw [b46] at hwb'
  simp only [c1i, b2k hx, Option.bind_some]
  rw [if_pos (by simpa using hu), b46]
  have hwr : wr ((u : Int) + 1) = (u : Int) + 1 := b2i (by omega) (by omega)
  by_cases e : x.Next = (c : Int)
  · rw [if_pos (by simpa using e), c81 (by omega)]
    simp only [Option.bind_some]
    rw [d33 ht]
    simp only [Option.bind_some]
    rw [b2i (n := (s : Int) - x.Walk.High) (by omega) (by omega), b2i (n := (t : Int) - x.Walk.Low) (by omega) (by omega)]
    have ep : b96 (r06_Bounds.mk (b1y h R c).Most (b1y h R c).Flow (b1y h R c).Come (b1y h R c).Pass) u ((s : Int) - x.Walk.High) ((t : Int) - x.Walk.Low) = some (b6d (bd h R u) ((s : Int) - x.Walk.High) ((t : Int) - x.Walk.Low)) := j6a hv hu (by omega)
    rw [ep]
    have ew : b2s h c (bd h R) s t u = b6d (bd h R u) ((s : Int) - x.Walk.High) ((t : Int) - x.Walk.Low) := by
      unfold b2s; rw [hx]; simp only; rw [if_pos e]
    simp only [Option.bind_some, c1q, Int.toNat_natCast]
    rw [← ew, d9i, d16, hwr, b2i (n := b38 h c s t + b00 (b2s h c (bd h R) s t) u + b2s h c (bd h R) s t u) (by show _ ≤ b38 h c s t + b00 (b2s h c (bd h (R)) s t) u + b2s h c (bd h (R)) s t u; omega) (by show b38 h c s t + b00 (b2s h c (bd h (R)) s t) u + b2s h c (bd h (R)) s t u ≤ _; omega), Int.add_assoc]
  · rw [if_neg (by simpa using e)]
    have ew : b2s h c (bd h R) s t u = 0 := by
      unfold b2s; rw [hx]; simp only; rw [if_neg e]
    simp only [c1q]
    rw [ew, Int.add_zero, hwr]
omit hst ht in
theorem j7e (hs : s < T h) : b04 (c1j (sH h S) (b1y h R c).Most (b1y h R c).Flow (b1y h R c).Come (b1y h R c).Pass c s) (put (T h) F s (tab (T h) fun _ => 0), (s : Int)) = some (put (T h) F s (b2x (T h) (bd h R c) s)) := by
  have hT := b3k hv
  have hTi := b4x hv
  refine c3q (f := c1j (sH h S) (b1y h R c).Most (b1y h R c).Flow (b1y h R c).Come (b1y h R c).Pass c s) (T h) (fun p k => (p, k)) (fun t => put (T h) F s (b3o (bd h R c) (T h) s t)) _ s (by
    congr 1
    unfold b3o
    exact b6g fun i hi => by rw [if_neg (by omega)]) (by omega) (fun t hst ht => ?_) (by
    simp only [c1j]
    rw [← hTi, if_neg (by simp)]
    congr 3
    unfold b3o b2x
    exact b6g fun i hi => by by_cases q : s ≤ i <;> simp [q, hi])
  simp only [c1j]
  rw [← hTi, if_pos (by simpa using ht), ← j68, j8e hv hst ht F]
  simp only [Option.bind_some, c6o]
  rw [j8o hv hR hc hst ht F]
  simp only [Option.bind_some, c6n, b2m ht (show T h ≤ maxLen by simp only [maxLen]; omega)]
omit hst ht in
theorem g4r : b04 (c1k (sH h S) (b1y h R c).Most (b1y h R c).Flow (b1y h R c).Come (b1y h R c).Pass c) (tab (T h) fun _ => [], 0) = some (tab (T h) (b2x (T h) (bd h R c))) := by
  have hT := b3k hv
  have hTi := b4x hv
  refine b3r (f := c1k (sH h S) (b1y h R c).Most (b1y h R c).Flow (b1y h R c).Come (b1y h R c).Pass c) (T h) (fun p k => (p, k)) (fill (T h) (b2x (T h) (bd h R c)) []) _ (s0 := tab (T h) fun _ => []) (by rw [← b9u, c0j]) (fun s hs => ?_) (by
    simp only [c1k]
    rw [← hTi, if_neg (by simp), b8p (Nat.le_refl _)])
  simp only [c1k]
  rw [← hTi, if_pos (by simpa using hs), b7y (by omega) (by omega)]
  simp only [Option.bind_some]
  rw [d32 hs]
  simp only [Option.bind_some, Int.toNat_natCast]
  rw [show (fill (T h) (b2x (T h) (bd h R c)) [] s).set s (tab (T h) fun _ => 0) = put (T h) (b2x (T h) (bd h R c)) s (tab (T h) fun _ => 0) from rfl, j7e hv hR hc _ hs]
  simp only [Option.bind_some, c6l, b2m hs (show T h ≤ maxLen by simp only [maxLen]; omega)]
  rw [d8z rfl]
end
end Go.Nw.HM
namespace Go.Nw.HM
theorem j03 {z : Int} {g : Nat → Int} {a n : Nat} : max (b4s z g (a + 1) n) (g a) = b4s z g a (n + 1) := by
  refine Int.le_antisymm ?_ ?_
  · refine Int.max_le.2 ⟨c3n.2 ⟨d1b, fun i hi => ?_⟩, ?_⟩
    · have := d1a (z := z) (g := g) (a := a) (n := n + 1) (i := i + 1) (by omega)
      rwa [show a + (i + 1) = a + 1 + i by omega] at this
    · have := d1a (z := z) (g := g) (a := a) (n := n + 1) (i := 0) (by omega)
      simpa using this
  · refine c3n.2 ⟨Int.le_trans d1b (Int.le_max_left _ _), fun i hi => ?_⟩
    by_cases e : i = 0
    · subst e; exact Int.le_max_right _ _
    · have := d1a (z := z) (g := g) (a := a + 1) (n := n) (i := i - 1) (by omega)
      rw [show a + 1 + (i - 1) = a + i by omega] at this
      exact Int.le_trans this (Int.le_max_left _ _)
theorem j04 {z w : Int} {g : Nat → Int} {a n : Nat} : min (b34 z g a n) w = b34 (min z w) g a n := by
  refine Int.le_antisymm ?_ ?_
  · exact c3o.2 ⟨Int.le_min.2 ⟨Int.le_trans (Int.min_le_left _ _) c6c, Int.min_le_right _ _⟩, fun i hi => Int.le_trans (Int.min_le_left _ _) (d70 hi)⟩
  · exact Int.le_min.2 ⟨c3o.2 ⟨Int.le_trans c6c (Int.min_le_left _ _), fun i hi => d70 hi⟩, Int.le_trans c6c (Int.min_le_right _ _)⟩
section
theorem bok {h : Hall} (hv : V h) {R : Nat → Nat → Int} (hR : Rt h R) {c : Nat} (hc : c < h.Combs.length) : BdOk (bd h R c) (T h) 1000000000 := by
  have hn := hv.1.2.2.2.1
  have := b99 hv hR c hc
  have hB := b9z (c := c) (by omega)
  exact ⟨fun s t hst ht => by have := this.come s t hst ht; omega, fun t ht => by have := this.most t ht; omega, this.flow⟩
variable {h : Hall} {R : Nat → Nat → Int} {S : List Shift} (hv : V h) (hR : Rt h R) {c : Nat} (hc : c < h.Combs.length)
include hv hR hc
theorem j1a {t : Nat} (ht : t < T h) : b04 (c1l (tab (T h) (b2x (T h) (bd h R c))) (tab (T h) (R c)) t) (fill (T h) (bd h R c).most 0 t, 0, (t : Int)) = some (fill (T h) (bd h R c).most 0 (t + 1)) := by
  have hT := b3k hv
  have hok := bok hv hR hc
  have hget : ∀ a : Int, get ((fill (T h) (bd h R c).most 0 t).set t a) (t : Int) = some a := fun a => b2k (by rw [List.getElem?_set, if_pos rfl, if_pos (by rw [d3t]; exact ht)])
  have h0 : (fill (T h) (bd h R c).most 0 t).set t 0 = fill (T h) (bd h R c).most 0 t := by
    unfold fill
    rw [b76]
    refine b6g fun i hi => ?_
    by_cases e : i = t
    · subst e; rw [if_pos rfl, if_neg (by omega)]
    · rw [if_neg e]
  refine Eq.trans ?_ (b3r (f := c1l (tab (T h) (b2x (T h) (bd h R c))) (tab (T h) (R c)) t) (t + 1) (fun (p : List Int × Int) k => (p.1, p.2, (t : Int) - k))
    (fun k => ((fill (T h) (bd h R c).most 0 t).set t (b4s 0 (fun s => (bd h R c).come s t - b28 (R c) s t) (t + 1 - k) k), b28 (R c) (t + 1 - k - 1) t)) (fill (T h) (bd h R c).most 0 (t + 1)) (s0 := (fill (T h) (bd h R c).most 0 t, 0)) (by
      simp only [b4s, Nat.sub_zero, Nat.add_sub_cancel, b6t, h0]) (fun k hk => ?_) (by
      simp only [c1l]
      rw [if_neg (by simp; omega)]
      congr 2
      rw [Nat.sub_self, c0i]
      exact (j1b (h := h) (R := R) (c := c) (t := t)).symm))
  · simp
  obtain ⟨s, hs⟩ : ∃ s, s + k = t := ⟨t - k, by omega⟩
  have e1 : (t : Int) - (k : Int) = (s : Int) := by omega
  have e2 : t + 1 - k = s + 1 := by omega
  have e3 : t + 1 - (k + 1) = s := by omega
  have hcm := hok.come s t (by omega) ht
  have hr := d1n (f := R c) (B := 1000) (show s ≤ t by omega) fun i _ hi => hR.r c i hc (by omega)
  have hrs : b28 (R c) s t = b00 (R c) t - b00 (R c) s := rfl
  simp only [c1l, e1, e2, e3, Nat.add_sub_cancel]
  rw [if_pos (by simp), hget]
  simp only [Option.bind_some]
  rw [b1u (show s < T h by omega)]
  simp only [Option.bind_some]
  rw [c0d ht (by omega)]
  simp only [Option.bind_some, Int.toNat_natCast, List.set_set, b9e]
  rw [b2i (n := (bd h R c).come s t - b28 (R c) s t) (by omega) (by omega), j03 (g := fun s => (bd h R c).come s t - b28 (R c) s t)]
  by_cases q : 0 < s
  · have hr2 := d1n (f := R c) (B := 1000) (show s - 1 ≤ t by omega) fun i _ hi => hR.r c i hc (by omega)
    have hb := hR.r c (s - 1) hc (by omega)
    have e4 : b28 (R c) (s - 1) t = b28 (R c) s t + R c (s - 1) := by
      have := j7m (f := R c) (a := s - 1) (b := s) (c := t)
      have h2 : b28 (R c) (s - 1) (s - 1 + 1) = b28 (R c) (s - 1) (s - 1) + R c (s - 1) := b9q
      rw [show s - 1 + 1 = s by omega, b6t] at h2
      omega
    rw [if_pos (by simpa using q), show wr ((s : Int) - 1) = ((s - 1 : Nat) : Int) from by rw [b2i (by omega) (by omega)]; omega, b1u (show s - 1 < T h by omega)]
    simp only [Option.bind_some, c1s]
    rw [← e4, b2i (by omega) (by omega), show wr ((s : Int) - 1) = (t : Int) - ((k : Int) + 1) from by rw [b2i (by omega) (by omega)]; omega]
  · rw [if_neg (by simpa using q)]
    simp only [c1s]
    rw [show wr ((s : Int) - 1) = (t : Int) - ((k : Int) + 1) from by rw [b2i (by omega) (by omega)]; omega, show s - 1 = s by omega]
theorem g5s : b04 (c1m (sH h S) (tab (T h) (b2x (T h) (bd h R c))) (tab (T h) (R c))) (tab (T h) (fun _ => 0), tab (T h) (fun _ => 0), 0) = some (tab (T h) (bd h R c).most, tab (T h) (bd h R c).flow) := by
  have hT := b3k hv
  have hTi := b4x hv
  refine b3r (f := c1m (sH h S) (tab (T h) (b2x (T h) (bd h R c))) (tab (T h) (R c))) (T h) (fun (p : List Int × List Int) k => (p.1, p.2, k)) (fun t => (fill (T h) (bd h R c).most 0 t, fill (T h) (bd h R c).flow 0 t)) _ (s0 := (tab (T h) (fun _ => 0), tab (T h) (fun _ => 0))) (by rw [← b9u]; rw [← c0j, ← c0j]) (fun t ht => ?_) (by
    simp only [c1m]
    rw [← hTi, if_neg (by simp), b8p (Nat.le_refl _), b8p (Nat.le_refl _)])
  simp only [c1m]
  rw [← hTi, if_pos (by simpa using ht), j1a hv hR hc ht]
  simp only [Option.bind_some, c6x]
  rw [b1u ht]
  simp only [Option.bind_some]
  rw [c0k ht, if_pos (by omega)]
  simp only [Option.bind_some]
  rw [c0k ht]
  simp only [Option.bind_some, c6w, Int.toNat_natCast, b2m ht (show T h ≤ maxLen by simp only [maxLen]; omega), c1b]
  rw [c0i]
  have h2 : (bd h R c).flow t = min ((bd h R c).most t) (R c t) := by rw [b8i]; rfl
  rw [h2, Int.min_comm]
theorem j8q {a to : Nat} (ha : a ≤ to) (hto : to < T h) : b04 (c1n (tab (T h) (b2x (T h) (bd h R c))) (tab (T h) (bd h R c).most) (tab (T h) (bd h R c).flow) to) ((bd h R c).come 0 to, 0, (a : Int)) = some (b34 ((bd h R c).come 0 to) (way (bd h R c) a to) a (to + 1 - a), b00 (bd h R c).flow (to + 1) - b00 (bd h R c).flow a) := by
  have hT := b3k hv
  have hok := bok hv hR hc
  refine c3q (f := c1n (tab (T h) (b2x (T h) (bd h R c))) (tab (T h) (bd h R c).most) (tab (T h) (bd h R c).flow) to) (to + 1) (fun (p : Int × Int) k => (p.1, p.2, k)) (fun k => (b34 ((bd h R c).come 0 to) (way (bd h R c) a to) a (k - a), b00 (bd h R c).flow k - b00 (bd h R c).flow a)) _ (s0 := ((bd h R c).come 0 to, 0)) a (by
    rw [Nat.sub_self, Int.sub_self]; rfl) (by omega) (fun k hak hk => ?_) (by
    simp only [c1n]
    rw [if_neg (by simp; omega)])
  have h1 := c2w hok (by omega) (show T h ≤ 1000 by omega) hak (show k ≤ T h by omega)
  have h2 := hok.most k (by omega)
  have h3 := c8f hok (by omega) (show T h ≤ 1000 by omega) (show k ≤ to by omega) hto
  have h4 := hok.flow k (by omega)
  have j61 : ∀ rest, rest = b37 (bd h R c) to k → c1r (tab (T h) (bd h R c).most) (tab (T h) (bd h R c).flow) (b34 ((bd h R c).come 0 to) (way (bd h R c) a to) a (k - a)) (b00 (bd h R c).flow k - b00 (bd h R c).flow a) k rest = some (.nx (b34 ((bd h R c).come 0 to) (way (bd h R c) a to) a (k + 1 - a), b00 (bd h R c).flow (k + 1) - b00 (bd h R c).flow a, (k : Int) + 1)) := fun rest hr => by
    subst hr
    unfold c1r
    rw [b1u (show k < T h by omega)]
    simp only [Option.bind_some]
    rw [b1u (show k < T h by omega)]
    simp only [Option.bind_some]
    rw [b2i (n := b00 (bd h R c).flow k - b00 (bd h R c).flow a + (bd h R c).most k) (by omega) (by omega), b2i (n := b00 (bd h R c).flow k - b00 (bd h R c).flow a + (bd h R c).most k + b37 (bd h R c) to k) (by omega) (by omega), b2i (n := b00 (bd h R c).flow k - b00 (bd h R c).flow a + (bd h R c).flow k) (by omega) (by omega), b2i (n := (k : Int) + 1) (by omega) (by omega), c1b, b46,
      show k + 1 - a = (k - a) + 1 by omega]
    simp only [b34]
    rw [show a + (k - a) = k by omega, show b00 (bd h R c).flow k - b00 (bd h R c).flow a + (bd h R c).flow k = b00 (bd h R c).flow k + (bd h R c).flow k - b00 (bd h R c).flow a by omega]
    rfl
  simp only [c1n]
  rw [if_pos (by simp; omega)]
  by_cases q : k < to
  · rw [if_pos (by simpa using q), show wr ((k : Int) + 1) = ((k + 1 : Nat) : Int) from by rw [b2i (by omega) (by omega)]; omega, b1u (show k + 1 < T h by omega)]
    simp only [Option.bind_some]
    rw [c0d hto (by omega)]
    simp only [Option.bind_some]
    exact j61 _ (by unfold b37; rw [if_pos q])
  · rw [if_neg (by simpa using q)]
    exact j61 _ (by unfold b37; rw [if_neg q])
theorem j6d (F : Nat → List Int) {a : Nat} (ha : a < T h) : b04 (c1o (sH h S) (tab (T h) (b2x (T h) (bd h R c))) (tab (T h) (bd h R c).most) (tab (T h) (bd h R c).flow) a) (put (T h) F a (tab (T h) fun _ => 0), (a : Int)) = some (put (T h) F a (tab (T h) (pz (bd h R c) a))) := by
  have hT := b3k hv
  have hTi := b4x hv
  refine c3q (f := c1o (sH h S) (tab (T h) (b2x (T h) (bd h R c))) (tab (T h) (bd h R c).most) (tab (T h) (bd h R c).flow) a) (T h) (fun p k => (p, k)) (fun to => put (T h) F a (fill (T h) (pz (bd h R c) a) 0 to)) _ a (by
    congr 1
    unfold fill
    exact b6g fun i hi => by
      by_cases q : i < a
      · rw [if_pos q]; unfold pz; rw [if_neg (by omega)]
      · rw [if_neg q]) (by omega) (fun to hat hto => ?_) (by
    simp only [c1o]
    rw [← hTi, if_neg (by simp), b8p (Nat.le_refl _)])
  simp only [c1o]
  rw [← hTi, if_pos (by simpa using hto)]
  rw [show ((0 : Int)) = ((0 : Nat) : Int) from rfl, b1u (show 0 < T h by omega)]
  simp only [Option.bind_some]
  rw [c0d hto (by omega)]
  simp only [Option.bind_some]
  have hw := j8q hv hR hc hat hto
  simp only [Int.natCast_zero] at hw ⊢
  rw [hw]
  simp only [Option.bind_some, c6u]
  rw [c81 ha]
  simp only [Option.bind_some]
  rw [c0k hto]
  simp only [Option.bind_some, c6t, Int.toNat_natCast, b2m hto (show T h ≤ maxLen by simp only [maxLen]; omega), c1b]
  rw [c0i, d16]
  rw [j04]
  unfold pz b9g
  rw [if_pos hat]
theorem j6b : b04 (c1p (sH h S) (tab (T h) (b2x (T h) (bd h R c))) (tab (T h) (bd h R c).most) (tab (T h) (bd h R c).flow)) (tab (T h) fun _ => [], 0) = some (tab (T h) fun f => tab (T h) (pz (bd h R c) f)) := by
  have hT := b3k hv
  have hTi := b4x hv
  refine b3r (f := c1p (sH h S) (tab (T h) (b2x (T h) (bd h R c))) (tab (T h) (bd h R c).most) (tab (T h) (bd h R c).flow)) (T h) (fun p k => (p, k)) (fill (T h) (fun f => tab (T h) (pz (bd h R c) f)) []) _ (s0 := tab (T h) fun _ => []) (by rw [← b9u, c0j]) (fun s hs => ?_) (by
    simp only [c1p]
    rw [← hTi, if_neg (by simp), b8p (Nat.le_refl _)])
  simp only [c1p]
  rw [← hTi, if_pos (by simpa using hs), b7y (by omega) (by omega)]
  simp only [Option.bind_some]
  rw [d32 hs]
  simp only [Option.bind_some, Int.toNat_natCast]
  rw [show (fill (T h) (fun f => tab (T h) (pz (bd h R c) f)) [] s).set s (tab (T h) fun _ => 0) = put (T h) (fun f => tab (T h) (pz (bd h R c) f)) s (tab (T h) fun _ => 0) from rfl, j6d hv hR hc _ hs]
  simp only [Option.bind_some, c6s, b2m hs (show T h ≤ maxLen by simp only [maxLen]; omega)]
  rw [d8z rfl]
omit hc in
theorem g1d (hr : ∀ c, c < h.Combs.length → b9n (sH h S) (c : Int) = some (tab (T h) (R c))) : b6r (sH h S) = some (b1y h R h.Combs.length) := by
  have hT := b3k hv
  have hN := hv.1.2.2.2.1
  have hTi := b4x hv
  unfold b6r
  have l := b3r (f := c3x (sH h S)) h.Combs.length (fun (p : List (List Int) × List (List Int) × List (List (List Int)) × List (List (List Int))) k => (p.1, p.2.1, p.2.2.1, p.2.2.2, k)) (fun c => ((b1y h R c).Most, (b1y h R c).Flow, (b1y h R c).Come, (b1y h R c).Pass)) ((b1y h R h.Combs.length).Most, (b1y h R h.Combs.length).Flow, (b1y h R h.Combs.length).Come, (b1y h R h.Combs.length).Pass) (s0 := ([], [], [], [])) rfl (fun c hc => by
    simp only [c3x]
    rw [if_pos (by simpa using hc), ← hTi, b7y (by omega) (by omega)]
    simp only [Option.bind_some]
    rw [g4r hv hR hc]
    simp only [Option.bind_some, c6m]
    rw [hr c hc]
    simp only [Option.bind_some]
    rw [← hTi, b7y (by omega) (by omega)]
    simp only [Option.bind_some]
    rw [g5s hv hR hc]
    simp only [Option.bind_some, c6q]
    rw [← hTi, b7y (by omega) (by omega)]
    simp only [Option.bind_some]
    rw [j6b hv hR hc]
    simp only [Option.bind_some, c6r, b1y]
    rw [b5c (by simp only [b3a, List.length_cons, List.length_nil]; omega)]
    simp only [Option.bind_some]
    rw [b5c (by simp only [b3a, List.length_cons, List.length_nil]; omega)]
    simp only [Option.bind_some]
    rw [b5c (by simp only [b3a, List.length_cons, List.length_nil]; omega)]
    simp only [Option.bind_some]
    rw [b5c (by simp only [b3a, List.length_cons, List.length_nil]; omega)]
    simp only [Option.bind_some, c6v, b2m hc (show h.Combs.length ≤ maxLen by simp only [maxLen]; omega)]
    rw [← b6u, ← b6u, ← b6u, ← b6u]) (by
    simp only [c3x]
    rw [if_neg (by simp)])
  simp only at l
  rw [l]; rfl
end
def b6s (h : Hall) (c : Nat) : r06_Bounds := b1y h (b2d h) c
theorem c4h {h : Hall} (hv : V h) : b6r h = some (b6s h h.Combs.length) := g1d (S := h.Shifts) hv (d8s hv) fun _ hc => j6s hv hc
end Go.Nw.HM
namespace Go.Nw.HM
theorem j08 {β : Type} {f : Int → Option (Out Int β)} {n : Nat} {p : Nat → Bool} {e : Nat → β} {u : β} (hb : ∀ t : Nat, t < n → p t = true → f (t : Int) = some (.br (e t)))
    (hn : ∀ t : Nat, t < n → p t = false → f (t : Int) = some (.nx ((t : Int) + 1))) (hu : f (n : Int) = some (.br u)) : b04 f 0 = some (match b5e n p with | some t => e t | none => u) := by
  have key : ∀ (d k : Nat), n - k = d → k ≤ n → (∀ j, j < k → p j = false) → b04 f (k : Int) = some (match b5e n p with | some t => e t | none => u) := by
    intro d
    induction d with
    | zero =>
      intro k hd hk hj
      have : k = n := by omega
      subst this
      rw [d3u.2 hj]
      exact b45 hu
    | succ d ih =>
      intro k hd hk hj
      cases hp : p k with
      | true =>
        rw [d3v (by omega) hp hj]
        exact b45 (hb k (by omega) hp)
      | false =>
        rw [b9b (hn k (by omega) hp)]
        have := ih (k + 1) (by omega) (by omega) (fun j hj' => by
          by_cases e : j = k
          · subst e; exact hp
          · exact hj j (by omega))
        rwa [show ((k + 1 : Nat) : Int) = (k : Int) + 1 by omega] at this
  exact key n 0 (by omega) (by omega) fun j hj => by omega
section
variable {h : Hall} (hv : V h)
include hv
theorem d80 (c : Int) : b73 h c = decide (0 ≤ c ∧ c < h.Combs.length) := by
  have hN := hv.1.2.2.2.1
  simp only [b73, b2t, d2m (show h.Combs.length ≤ maxLen by simp only [maxLen]; omega)]
  rw [Bool.eq_iff_iff]
  simp only [Bool.and_eq_true, decide_eq_true_eq]; omega
theorem d81 (t : Int) : b2t t 0 (wr (h.Until - 1)) = decide (0 ≤ t ∧ t < h.Until) := by
  have h1 := hv.1.1
  have h2 := hv.1.2.1
  rw [b2i (by omega) (by omega)]
  simp only [b2t]
  rw [Bool.eq_iff_iff]
  simp only [Bool.and_eq_true, decide_eq_true_eq]; omega
theorem g1h (c f t : Int) : ∃ r, b53 h c f t = some r ∧ b9i h c f t = some r := by
  have hTi := b4x hv
  have e := c42 hv c [f, t] (by simp [maxLen])
  unfold b9i
  rw [(b8c hv).2]
  simp only [Option.bind_some]
  rw [if_neg (by simp), d80 hv, d81 hv, d81 hv]
  by_cases q : (0 ≤ c ∧ c < h.Combs.length) ∧ (0 ≤ f ∧ f < h.Until) ∧ (0 ≤ t ∧ t < h.Until)
  · rw [if_neg (by simp; omega)]
    obtain ⟨c, rfl⟩ : ∃ a : Nat, c = a := ⟨c.toNat, by omega⟩
    have hc : c < h.Combs.length := by omega
    rcases g1i hv hc f t with e2 | ⟨a, b, rfl, rfl, ha, hb, e2⟩
    · exfalso
      unfold b53 at e2
      rw [if_pos ⟨q.1, fun x hx => by
        rcases List.mem_cons.1 hx with rfl | hx
        · exact q.2.1
        · rcases List.mem_singleton.1 hx with rfl; exact q.2.2⟩] at e
      rw [e] at e2
      simp only [Option.bind_some] at e2
      rw [if_neg (by simp), c2j hv, b1u hc] at e2
      simp only [Option.bind_some, bdT] at e2
      obtain ⟨a, rfl⟩ : ∃ a : Nat, f = a := ⟨f.toNat, by omega⟩
      obtain ⟨b, rfl⟩ : ∃ b : Nat, t = b := ⟨t.toNat, by omega⟩
      rw [b1u (show a < T h by omega)] at e2
      simp only [Option.bind_some, b2x] at e2
      rw [b1u (show b < T h by omega)] at e2
      simp at e2
    · refine ⟨_, e2, ?_⟩
      by_cases q2 : a ≤ b
      · rw [if_neg (by simp; omega), c4h hv]
        simp only [Option.bind_some, b6s, b1y]
        rw [b1u hc]
        simp only [Option.bind_some]
        rw [b1u ha]
        simp only [Option.bind_some, b2x]
        rw [b1u hb]
        simp only [Option.bind_some]
      · rw [if_pos (by simp; omega), if_neg q2]
  · rw [if_pos (by simp only [Bool.or_eq_true, Bool.not_eq_true', decide_eq_false_iff_not]; omega)]
    refine ⟨_, ?_, rfl⟩
    unfold b53
    rw [e, if_neg fun hh => q ⟨hh.1, hh.2 f (by simp), hh.2 t (by simp)⟩]
    simp only [Option.bind_some]
    rw [if_pos (by simp)]
theorem g1q (c : Int) : ∃ l e, b6y h c = some (l, e) ∧ b9l h c = some (l, e) ∧ l.length ≤ maxLen := by
  have hT := b3k hv
  unfold b9l
  rw [(b8c hv).2]
  simp only [Option.bind_some]
  rw [if_neg (by simp), d80 hv]
  by_cases q : 0 ≤ c ∧ c < h.Combs.length
  · rw [if_neg (by simp; omega)]
    obtain ⟨c, rfl⟩ : ∃ a : Nat, c = a := ⟨c.toNat, by omega⟩
    have hc : c < h.Combs.length := by omega
    refine ⟨_, _, g1r hv hc, ?_, by rw [b3a]; simp only [maxLen]; omega⟩
    rw [c4h hv]
    simp only [Option.bind_some, b6s, b1y]
    rw [b1u hc]
    rfl
  · rw [if_pos (by simp only [Bool.not_eq_true', decide_eq_false_iff_not]; exact q)]
    refine ⟨[], 1, ?_, rfl, by simp⟩
    unfold b6y
    rw [c42 hv c [] (by simp), if_neg fun hh => q hh.1]
    rfl
theorem j51 {R : Nat → Nat → Int} {S : List Shift} (hA : b6r (sH h S) = some (b1y h R h.Combs.length)) : c1w (sH h S) = some (b4a h R h.Combs.length) := by
  have hT := b3k hv
  have hTi := b4x hv
  have hN := hv.1.2.2.2.1
  unfold c1w
  rw [hA]
  simp only [Option.bind_some]
  have := b3r (f := c30 (sH h S) (b1y h R h.Combs.length)) h.Combs.length (fun s k => (s, k)) (b4a h R) (b4a h R h.Combs.length) (s0 := []) rfl (fun c hc => by
    obtain ⟨x, hx⟩ := b2q hc
    have hll := d1q (h := h) (R := R) (n := c)
    simp only [c30]
    rw [if_pos (by simpa using hc)]
    have hl := j08 (f := c1x (sH h S) (b1y h R h.Combs.length) (b4a h R c) c) (n := T h) (p := b5j h R c) (e := fun t => b4a h R c ++ [((c : Int), (t : Int))]) (u := b4a h R c) (fun t ht hp => by
      simp only [c1x, b1y]
      rw [← hTi, if_pos (by simpa using ht), b1u hc]
      simp only [Option.bind_some]
      rw [b1u ht]
      simp only [Option.bind_some, b2k hx]
      unfold b5j at hp
      rw [d09 hx] at hp
      rw [if_pos hp, b5c (by simp only [List.length_cons, List.length_nil]; omega)]
      rfl) (fun t ht hp => by
      simp only [c1x, b1y]
      rw [← hTi, if_pos (by simpa using ht), b1u hc]
      simp only [Option.bind_some]
      rw [b1u ht]
      simp only [Option.bind_some, b2k hx]
      unfold b5j at hp
      rw [d09 hx] at hp
      rw [if_neg (by rw [show decide (x.Limit < (bd h R c).most t) = false from hp]; simp), b2m ht (show T h ≤ maxLen by simp only [maxLen]; omega)]) (by
      simp only [c1x]
      rw [← hTi, if_neg (by simp)])
    rw [hl]
    simp only [Option.bind_some, c63, b2m hc (show h.Combs.length ≤ maxLen by simp only [maxLen]; omega)]
    rw [d1r]
    cases b5e (T h) (b5j h R c) <;> simp) (by
    simp only [c30]
    rw [if_neg (by simp)])
  rw [this]; rfl
theorem j53 : c1w h = some (b4a h (b2d h) h.Combs.length) := j51 (S := h.Shifts) hv (c4h hv)
theorem g1u : b9m h = some (b4a h (b2d h) h.Combs.length, 0) := by
  unfold b9m
  rw [(b8c hv).2]
  simp only [Option.bind_some]
  rw [if_neg (by simp), j53 hv]; rfl
def Emp (h : Hall) (e : Int) : Prop := 0 ≤ e ∧ (∀ c, c < h.Combs.length → ∀ t, t < T h → e ≤ (t : Int) → (own h c).most t ≤ 0) ∧ (e = 0 ∨ ∃ c t : Nat, c < h.Combs.length ∧ t < T h ∧ e = (t : Int) + 1 ∧ 0 < (own h c).most t)
omit hv in
theorem g5k {a b : Int} (ha : Emp h a) (hb : Emp h b) : a = b := by
  obtain ⟨a1, a2, a3⟩ := ha
  obtain ⟨b1, b2, b3⟩ := hb
  have key : ∀ {a b : Int}, 0 ≤ a → (∀ c, c < h.Combs.length → ∀ t, t < T h → a ≤ (t : Int) → (own h c).most t ≤ 0) → (b = 0 ∨ ∃ c t : Nat, c < h.Combs.length ∧ t < T h ∧ b = (t : Int) + 1 ∧ 0 < (own h c).most t) → b ≤ a := fun {a b} h1 h2 h3 => by
    rcases h3 with rfl | ⟨c, t, hc, ht, rfl, hp⟩
    · exact h1
    · by_cases q : a ≤ (t : Int)
      · have := h2 c hc t ht q; omega
      · omega
  have := key a1 a2 b3
  have := key b1 b2 a3
  omega
theorem g1k : ∃ e, b8s h = some (e, 0) ∧ Emp h e := by
  have hT := b3k hv
  have hN := hv.1.2.2.2.1
  unfold b8s
  rw [(b8c hv).1]
  simp only [Option.bind_some]
  rw [if_neg (by simp), c2j hv]
  let ex (z : Int) : Prop := z = 0 ∨ ∃ c t : Nat, c < h.Combs.length ∧ t < T h ∧ z = (t : Int) + 1 ∧ 0 < (own h c).most t
  have c3h : ∀ (c : Nat), c < h.Combs.length → ∀ (z : Int), 0 ≤ z → z ≤ T h → ex z → ∃ z', b04 (c0o (bdT (T h) (own h c) (b2d h c))) (z, 0) = some z' ∧ z ≤ z' ∧ z' ≤ T h ∧ ex z' ∧ ∀ t, t < T h → z' ≤ (t : Int) → (own h c).most t ≤ 0 := fun c hc z hz hz2 hz3 => by
    obtain ⟨b, h1, h2⟩ := c3r (f := c0o (bdT (T h) (own h c) (b2d h c))) (T h) (fun (s : Int) k => (s, k)) (fun k s => z ≤ s ∧ s ≤ T h ∧ ex s ∧ ∀ t, t < k → s ≤ (t : Int) → (own h c).most t ≤ 0)
      (fun b => z ≤ b ∧ b ≤ T h ∧ ex b ∧ ∀ t, t < T h → b ≤ (t : Int) → (own h c).most t ≤ 0) (fun s k hk ⟨i1, i2, i4, i3⟩ => by
        simp only [c0o, bdT, b3a]
        rw [if_pos (by simpa using hk), b1u hk]
        simp only [Option.bind_some]
        by_cases q : 0 < (own h c).most k
        · rw [if_pos (by simpa using q)]
          refine .inl ⟨max s ((k : Int) + 1), ?_, by omega, by omega, ?_, fun t ht hle => i3 t (by omega) (by omega)⟩
          · simp only [c0q, b9e, b2m hk (show T h ≤ maxLen by simp only [maxLen]; omega)]
          · by_cases q2 : s ≤ (k : Int) + 1
            · rw [Int.max_eq_right q2]; exact .inr ⟨c, k, hc, hk, rfl, q⟩
            · rw [Int.max_eq_left (by omega)]; exact i4
        · rw [if_neg (by simpa using q)]
          refine .inl ⟨s, ?_, i1, i2, i4, fun t ht hle => ?_⟩
          · simp only [c0q, b2m hk (show T h ≤ maxLen by simp only [maxLen]; omega)]
          · by_cases e : t = k
            · subst e; omega
            · exact i3 t (by omega) hle) (fun s ⟨i1, i2, i4, i3⟩ => ⟨s, by simp [c0o, bdT, b3a], i1, i2, i4, i3⟩) (s := z) 0 (by omega) ⟨Int.le_refl _, hz2, hz3, fun t ht => by omega⟩
    exact ⟨b, h1, h2⟩
  obtain ⟨b, h1, h2⟩ := c3r (f := c0p (tab h.Combs.length fun c => bdT (T h) (own h c) (b2d h c))) h.Combs.length (fun (s : Int) k => (s, k)) (fun k s => 0 ≤ s ∧ s ≤ T h ∧ ex s ∧ ∀ c, c < k → ∀ t, t < T h → s ≤ (t : Int) → (own h c).most t ≤ 0)
    (fun b => 0 ≤ b ∧ ex b ∧ ∀ c, c < h.Combs.length → ∀ t, t < T h → b ≤ (t : Int) → (own h c).most t ≤ 0) (fun s k hk ⟨i1, i2, i4, i3⟩ => by
      simp only [c0p, b3a]
      rw [if_pos (by simpa using hk), b1u hk]
      simp only [Option.bind_some]
      obtain ⟨z', e, j1, j2, j4, j3⟩ := c3h k hk s i1 i2 i4
      rw [e]
      simp only [Option.bind_some, c5j, b2m hk (show h.Combs.length ≤ maxLen by simp only [maxLen]; omega)]
      refine .inl ⟨z', rfl, by omega, j2, j4, fun c hc t ht hle => ?_⟩
      by_cases e : c = k
      · subst e; exact j3 t ht hle
      · exact i3 c (by omega) t ht (by omega)) (fun s ⟨i1, i2, i4, i3⟩ => ⟨s, by simp [c0p, b3a], i1, i4, i3⟩) (s := 0) 0 (by omega) ⟨Int.le_refl _, by omega, .inl rfl, fun c hc => by omega⟩
  rw [show b04 (c0p (tab h.Combs.length fun c => bdT (T h) (own h c) (b2d h c))) (0, 0) = some b from h1]
  exact ⟨b, rfl, h2.1, h2.2.2, h2.2.1⟩
theorem g1j : ∃ e, b9j h = some (e, 0) ∧ Emp h e := by
  have hT := b3k hv
  have hTi := b4x hv
  have hN := hv.1.2.2.2.1
  unfold b9j
  rw [(b8c hv).2]
  simp only [Option.bind_some]
  rw [if_neg (by simp), c4h hv]
  simp only [Option.bind_some]
  have c3h : ∀ (t : Nat), t < T h → ∀ z : Int, ((∀ c, c < h.Combs.length → (own h c).most t ≤ 0) ∧ b04 (b72 h (b6s h h.Combs.length) z t) 0 = some (.inl ())) ∨ ((∃ c, c < h.Combs.length ∧ 0 < (own h c).most t) ∧ b04 (b72 h (b6s h h.Combs.length) z t) 0 = some (.inr (z, 0))) := fun t ht z => by
    rcases d75 (f := b72 h (b6s h h.Combs.length) z t) h.Combs (fun c _ => 0 < (own h c).most t) (.inr (z, 0)) (.inl ()) (fun k x hx hb => by
        simp only [b72, b6s, b1y]
        rw [if_pos (by simpa using b1v hx), b1u (b1v hx)]
        simp only [Option.bind_some]
        rw [b1u ht]
        simp only [Option.bind_some]
        rw [if_pos (by simpa using hb)]) (fun k x hx hb => by
        simp only [b72, b6s, b1y]
        rw [if_pos (by simpa using b1v hx), b1u (b1v hx)]
        simp only [Option.bind_some]
        rw [b1u ht]
        simp only [Option.bind_some]
        rw [if_neg (by simpa using hb), b2m (b1v hx) (show h.Combs.length ≤ maxLen by simp only [maxLen]; omega)]) (by simp [b72]) with ⟨h1, h2⟩ | ⟨⟨k, x, hx, hb⟩, h2⟩
    · refine .inl ⟨fun c hc => ?_, h2⟩
      obtain ⟨x, hx⟩ := b2q hc
      have := h1 c x hx; omega
    · exact .inr ⟨⟨k, b1v hx, hb⟩, h2⟩
  have key : ∀ k : Nat, k ≤ T h → (∀ c, c < h.Combs.length → ∀ t, t < T h → k ≤ t → (own h c).most t ≤ 0) → ∃ r e, b04 (b9k h (b6s h h.Combs.length)) ((k : Int), (k : Int) - 1) = some r ∧ (r = .inl e ∨ r = .inr (e, 0)) ∧ Emp h e := by
    intro k
    induction k with
    | zero =>
      intro _ hz
      refine ⟨.inl 0, 0, b45 (by simp [b9k]), .inl rfl, Int.le_refl _, fun c hc t ht _ => hz c hc t ht (by omega), .inl rfl⟩
    | succ k ih =>
      intro hk hz
      have e1 : ((k + 1 : Nat) : Int) - 1 = (k : Int) := by omega
      rw [e1]
      rcases c3h k (by omega) ((k + 1 : Nat) : Int) with ⟨h1, h2⟩ | ⟨⟨c, hc, hp⟩, h2⟩
      · have hs : b9k h (b6s h h.Combs.length) (((k + 1 : Nat) : Int), (k : Int)) = some (.nx ((k : Int), (k : Int) - 1)) := by
          simp only [b9k]
          rw [if_pos (by simp), h2]
          simp only [Option.bind_some, c62, c61]
          rw [b2i (by omega) (by omega)]
        rw [b9b hs]
        exact ih (by omega) fun c hc t ht hle => by
          by_cases e : t = k
          · subst e; exact h1 c hc
          · exact hz c hc t ht (by omega)
      · refine ⟨_, ((k + 1 : Nat) : Int), b45 (b := .inr (((k + 1 : Nat) : Int), 0)) ?_, .inr rfl, by omega, fun c hc t ht hle => hz c hc t ht (by omega), .inr ⟨c, k, hc, by omega, by omega, hp⟩⟩
        simp only [b9k]
        rw [if_pos (by simp), h2]
        rfl
  have := key (T h) (Nat.le_refl _) fun c hc t ht hle => by omega
  obtain ⟨r, e, h1, h2, h3⟩ := this
  rw [← hTi, b2i (by omega) (by omega), h1]
  rcases h2 with rfl | rfl
  · exact ⟨e, rfl, h3⟩
  · exact ⟨e, rfl, h3⟩
end
theorem d25 (hw : b64 = some true) {h : Hall} {w : l06_Window} {c : Int × Int} {m : List Int} {e g k : Int} {o : List (Int × Int)} {p : Int} (hF : c08 h = some false)
    (h1 : b53 h w.Comb w.From w.To = some c) (h2 : b9i h w.Comb w.From w.To = some c) (h3 : b6y h w.Comb = some (m, e)) (h4 : b9l h w.Comb = some (m, e)) (h5 : b6o h = some (o, g)) (h6 : b9m h = some (o, g))
    (h7 : b8s h = some (k, p)) (h8 : b9j h = some (k, p)) (hm : m.length ≤ maxLen) (ho : o.length ≤ maxLen) : b9a h w = some true := by
  unfold b9a
  rw [hF]
  simp only [Option.bind_some]
  rw [if_neg (by simp), h1, h2, h3, h4]
  simp only [Option.bind_some]
  rw [if_neg (by simp), g1v hm]
  simp only [Option.bind_some]
  rw [if_neg (by simp), h5, h6]
  simp only [Option.bind_some]
  rw [if_neg (by simp)]
  rw [d1h (f := c3m (o, g) (o, g)) o.length (fun (_ : Unit) k => k) (fun _ => ()) (.inl ()) (fun k hk => by
    obtain ⟨x, hx⟩ := b2q hk
    simp only [c3m, b2k hx, Option.bind_some]
    rw [if_pos (by simpa using hk), if_neg (by simp), b2m hk ho]) (by simp [c3m])]
  simp only [Option.bind_some, c59]
  rw [h7, h8]
  simp only [Option.bind_some]
  rw [if_pos (by simp), hw]; rfl
theorem g2m (hw : b64 = some true) (h : Hall) (w : l06_Window) (hk : b5u h) (_ : c4r w) : b9a h w = some true := by
  obtain ⟨b, hb⟩ := g1l hk
  cases b with
  | true =>
    unfold b9a
    rw [hb]
    simp only [Option.bind_some]
    rw [if_pos trivial, hw]; rfl
  | false =>
    rcases d2p hk with ⟨hv, c1, c2⟩ | ⟨_, c1, c2⟩
    · have hN := hv.1.2.2.2.1
      obtain ⟨r, r1, r2⟩ := g1h hv w.Comb w.From w.To
      obtain ⟨l, e, m1, m2, m3⟩ := g1q hv w.Comb
      obtain ⟨k, k1, k2⟩ := g1k hv
      obtain ⟨k', k1', k2'⟩ := g1j hv
      have := g5k k2 k2'
      subst this
      have := d1q (h := h) (R := b2d h) (n := h.Combs.length)
      exact d25 hw hb r1 r2 m1 m2 (g1t hv) (g1u hv) k1 k1' m3 (by simp only [maxLen]; omega)
    · have z : ∀ x l, b5p h x l = some 60 := fun x l => by unfold b5p; rw [c1]; rfl
      refine d25 hw hb (c := (0, 60)) (m := []) (e := 60) (o := []) (g := 60) (k := 0) (p := 60) ?_ ?_ ?_ ?_ ?_ ?_ ?_ ?_ (by simp) (by simp)
      · unfold b53; rw [z]; rfl
      · unfold b9i; rw [c2]; rfl
      · unfold b6y; rw [z]; rfl
      · unfold b9l; rw [c2]; rfl
      · unfold b6o; rw [c1]; rfl
      · unfold b9m; rw [c2]; rfl
      · unfold b8s; rw [c1]; rfl
      · unfold b9j; rw [c2]; rfl
end Go.Nw.HM
