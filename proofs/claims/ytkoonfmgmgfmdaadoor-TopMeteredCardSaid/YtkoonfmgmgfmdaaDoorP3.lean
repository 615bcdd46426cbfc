/- Plain laws on the models. -/
import Derived.Test.YtkoonfmgmgfmdaaDoorTMTwin
import Derived.Test.YtkoonfmgmgfmdaaDoorP2
import Derived.Test.YtkoonfmgmgfmdaaDoorNwFirst
import Derived.Test.YtkoonfmgmgfmdaaDoorNwBits
set_option linter.all false
set_option linter.unusedVariables false
set_option linter.unusedSimpArgs false
set_option linter.unusedSectionVars false
namespace Go.Nw.TM.F
def bL (s : Nat) : List Int := ((List.range 8).filter fun i => s.testBit i).map Int.ofNat
theorem ev : ((List.range 256).all fun s => decide (c2v (s : Int) = some (bL s)) && decide (c4f (s : Int) = some ((bL s).length : Int))) = true := by kernel_rfl
theorem ev2 : ((List.range 9).all fun n => decide ((bL (2 ^ n - 1)).length = n) && ((List.range (2 ^ n - 1)).all fun s => decide ((bL s).length < n))) = true := by kernel_rfl
theorem c2p {s : Nat} (hs : s < 256) : b4m s = some (bL s) ∧ True ∧ b5l s = some ((bL s).length : Int) := by
  have h := List.all_eq_true.1 ev s (List.mem_range.2 hs)
  simp only [Bool.and_eq_true, decide_eq_true_eq] at h
  exact ⟨(d6y _).h _ h.1, trivial, (g2o _).h _ h.2⟩
theorem d7c {n : Nat} (hn : n ≤ 8) : (bL (2 ^ n - 1)).length = n := by
  have h := List.all_eq_true.1 ev2 n (List.mem_range.2 (by omega))
  simp only [Bool.and_eq_true, decide_eq_true_eq] at h
  exact h.1
theorem g2e {n s : Nat} (hn : n ≤ 8) (hs : s < 2 ^ n - 1) : (bL s).length < n := by
  have h := List.all_eq_true.1 ev2 n (List.mem_range.2 (by omega))
  simp only [Bool.and_eq_true] at h
  have := List.all_eq_true.1 h.2 s (List.mem_range.2 hs)
  simpa using this
theorem d0v {n : Nat} (hn : n ≤ 8) : 2 ^ n ≤ 256 ∧ 1 ≤ 2 ^ n := by
  have : 2 ^ n ≤ 2 ^ 8 := Nat.pow_le_pow_right (by omega) hn
  exact ⟨this, Nat.one_le_two_pow⟩
theorem d2q (s : Nat) : (bL s).length ≤ 8 := by
  unfold bL
  rw [List.length_map]
  have := List.length_filter_le (fun i => s.testBit i) (List.range 8)
  simpa using this
def b3n (r : Reading) : Prop := (-100000 ≤ r.Says ∧ r.Says ≤ 100000) ∧ (0 ≤ r.Error ∧ r.Error ≤ 1000) ∧ (0 ≤ r.Drift ∧ r.Drift ≤ 1000) ∧ (0 ≤ r.Days ∧ r.Days ≤ 1000)
def Good (l : List Reading) : Prop := l.length ≤ 12 ∧ ∀ r ∈ l, b3n r
theorem c2d {l : List Reading} (hl : l.length ≤ maxLen) : (Good l ∧ b5d l = some 0 ∧ b6m l = some 0) ∨ (¬ Good l ∧ ∃ e, e ≠ 0 ∧ b5d l = some e ∧ b6m l = some e) := by
  unfold b5d b6m
  by_cases q : 12 < l.length
  · rw [if_pos (by simp; omega), if_pos (by simp; omega)]
    exact .inr ⟨fun h => by have := h.1; omega, 2, by omega, rfl, rfl⟩
  · rw [if_neg (by simp; omega), if_neg (by simp; omega)]
    have h1 := b4v (f := b6a l) l (fun _ r => ¬ b3n r) (.inr 100) (.inl ()) (fun k x hx hb => by
        simp only [b6a, b1j hx, Option.bind_some]
        rw [if_pos (by simpa using b1g hx), if_pos]
        unfold b3n at hb
        simp only [b3c, Bool.or_eq_true, Bool.not_eq_true', Bool.and_eq_false_iff, decide_eq_false_iff_not]; omega) (fun k x hx hb => by
        simp only [b6a, b1j hx, Option.bind_some]
        rw [if_pos (by simpa using b1g hx), if_neg, b29 (b1g hx) hl]
        unfold b3n at hb
        simp only [b3c, Bool.or_eq_true, Bool.not_eq_true', Bool.and_eq_false_iff, decide_eq_false_iff_not]; omega) (by simp [b6a])
    have h2 := b4v (f := b6n l) l (fun _ r => ¬ b3n r) (.inr 100) (.inl ()) (fun k x hx hb => by
        simp only [b6n, b1j hx, Option.bind_some]
        rw [if_pos (by simpa using b1g hx), if_pos]
        unfold b3n at hb
        simp only [b3g, Bool.or_eq_true, Bool.not_eq_true', Bool.and_eq_false_iff, decide_eq_false_iff_not]; omega) (fun k x hx hb => by
        simp only [b6n, b1j hx, Option.bind_some]
        rw [if_pos (by simpa using b1g hx), if_neg, b29 (b1g hx) hl]
        unfold b3n at hb
        simp only [b3g, Bool.or_eq_true, Bool.not_eq_true', Bool.and_eq_false_iff, decide_eq_false_iff_not]; omega) (by simp [b6n])
    rcases h1 with ⟨g, e1⟩ | ⟨⟨k, x, hx, hb⟩, e1⟩
    · rcases h2 with ⟨_, e2⟩ | ⟨⟨k, x, hx, hb⟩, _⟩
      · rw [e1, e2]
        refine .inl ⟨⟨by omega, fun r hr => ?_⟩, rfl, rfl⟩
        obtain ⟨j, hj, rfl⟩ := List.getElem_of_mem hr
        exact Classical.not_not.1 (g j _ (List.getElem?_eq_getElem hj))
      · exact absurd hb (g k x hx)
    · rcases h2 with ⟨g, _⟩ | ⟨_, e2⟩
      · exact absurd hb (g k x hx)
      · rw [e1, e2]
        exact .inr ⟨fun h => hb (h.2 x (List.mem_of_getElem? hx)), 100, by omega, rfl, rfl⟩
def lo (r : Reading) : Int := r.Says - (r.Error + r.Drift * r.Days)
def hi (r : Reading) : Int := r.Says + (r.Error + r.Drift * r.Days)
theorem b6z {n : Int} (h1 : -1000000000000000 ≤ n) (h2 : n ≤ 1000000000000000) : wr n = n := b8n (by omega) (by omega)
theorem d1r {r : Reading} (hr : b3n r) : 0 ≤ r.Drift * r.Days ∧ r.Drift * r.Days ≤ 1000000 := by
  obtain ⟨_, _, ⟨h1, h2⟩, h3, h4⟩ := hr
  refine ⟨Int.mul_nonneg h1 h3, ?_⟩
  have := Int.mul_le_mul h2 h4 h3 (by omega : (0 : Int) ≤ 1000)
  omega
theorem g2g {r : Reading} (hr : b3n r) : -2000000 ≤ lo r ∧ lo r ≤ hi r ∧ hi r ≤ 2000000 := by
  have := d1r hr
  obtain ⟨h1, h2, _⟩ := hr
  unfold lo hi; omega
theorem c5d {r : Reading} (hr : b3n r) : wr (r.Says - wr (r.Error + wr (r.Drift * r.Days))) = lo r ∧ wr (r.Says + wr (r.Error + wr (r.Drift * r.Days))) = hi r := by
  have := d1r hr
  obtain ⟨h1, h2, _⟩ := hr
  rw [b6z (n := r.Drift * r.Days) (by omega) (by omega), b6z (n := r.Error + r.Drift * r.Days) (by omega) (by omega), b6z (by omega) (by omega), b6z (by omega) (by omega)]
  exact ⟨rfl, rfl⟩
theorem c5f {r : Reading} (hr : b3n r) : b35 r = ⟨lo r, hi r⟩ := by
  unfold b35
  rw [(c5d hr).1, (c5d hr).2]
def cF (l : List Reading) (s : Nat) : Nat → Int × Int
  | 0 => (-1099511627776, 1099511627776)
  | k + 1 => if s.testBit k then cF l s k else match l[k]? with
    | some r => (max (cF l s k).1 (lo r), min (cF l s k).2 (hi r))
    | none => cF l s k
theorem d25 {s k : Nat} (hs : s < 9223372036854775808) (hk : k ≤ 64) : (decide (b4h (b5o .i64 (s : Int) (k : Int)) 1 = 0) = true) ↔ s.testBit k = false := by
  rw [d24 hs hk]
  cases s.testBit k <;> simp
section
variable {l : List Reading} (hg : Good l) {s : Nat} (hs : s < 9223372036854775808)
include hg hs
theorem c6b : b58 l s = some (⟨(cF l s l.length).1, (cF l s l.length).2⟩, decide ((cF l s l.length).1 ≤ (cF l s l.length).2)) := by
  have hl := hg.1
  unfold b58
  have := c4d (f := b7k l s) l.length (fun (p : Int × Int) k => (p.1, p.2, k)) (cF l s) (cF l s l.length) (s0 := (-1099511627776, 1099511627776)) rfl (fun k hk => by
    obtain ⟨x, hx⟩ := b23 hk
    have hw := c5d (hg.2 x (List.mem_of_getElem? hx))
    simp only [b7k, b1j hx, Option.bind_some]
    rw [if_pos (by simpa using hk), g86 (by omega)]
    simp only [Option.bind_some]
    have ht := d25 (s := s) (k := k) hs (by omega)
    by_cases q : s.testBit k = true
    · rw [if_neg (fun hh => by rw [ht.1 hh] at q; cases q)]
      simp only [b59, b29 hk (show l.length ≤ maxLen by simp only [maxLen]; omega), cF]
      rw [if_pos q]
    · rw [if_pos (ht.2 (by simpa using q))]
      simp only [b59, b29 hk (show l.length ≤ maxLen by simp only [maxLen]; omega), cF, hx]
      rw [if_neg q, hw.1, hw.2, g2z, g2s]) (by
    simp only [b7k]
    rw [if_neg (by simp)])
  simp only at this
  rw [this]; rfl
end
def b3a (l : List Reading) (s : Nat) : Bool := decide ((cF l s l.length).1 ≤ (cF l s l.length).2)
def dif (a b : List Int) (k : Nat) : Bool := decide (a[k]? ≠ b[k]?)
def lt3 (a b : List Int) : Bool := match b4o a.length (dif a b) with
  | some k => decide ((a[k]?).getD 0 < (b[k]?).getD 0)
  | none => false
theorem d5g {a b : List Int} (hab : a.length = b.length) (hl : a.length ≤ maxLen) : ∃ r, b8j a b = some r ∧ decide (r < 0) = lt3 a b := by
  unfold b8j
  have h := g2j (f := b6x a b) (n := a.length) (p := dif a b) (e := fun k => .inr (b37 ((a[k]?).getD 0) ((b[k]?).getD 0))) (u := .inl ()) (fun k hk hp => by
    obtain ⟨x, hx⟩ := b23 hk
    obtain ⟨y, hy⟩ := b23 (show k < b.length by omega)
    unfold dif at hp
    rw [hx, hy] at hp
    simp only [b6x, b1j hx, Option.bind_some]
    rw [if_pos (by simpa using hk), if_neg (by simp; omega), b1j hy]
    simp only [Option.bind_some]
    rw [if_pos, hx, hy]
    · rfl
    · simp only [ne_eq, Option.some.injEq, decide_eq_true_eq] at hp
      simp only [b37, b38]
      simp
      split <;> (try split) <;> omega) (fun k hk hp => by
    obtain ⟨x, hx⟩ := b23 hk
    obtain ⟨y, hy⟩ := b23 (show k < b.length by omega)
    unfold dif at hp
    rw [hx, hy] at hp
    have hxy : x = y := by simpa using hp
    subst hxy
    simp only [b6x, b1j hx, Option.bind_some]
    rw [if_pos (by simpa using hk), if_neg (by simp; omega), b1j hy]
    simp only [Option.bind_some]
    rw [if_neg, b29 hk hl]
    simp [b37, b38]) (by
    simp only [b6x]
    rw [if_neg (by simp)])
  rw [h]
  unfold lt3
  cases e : b4o a.length (dif a b) with
  | none =>
    refine ⟨0, ?_, rfl⟩
    simp only [Option.bind_some, c0v]
    rw [if_neg (by simp; omega)]
  | some k =>
    refine ⟨_, rfl, ?_⟩
    simp only [b37, b38]
    simp
    split
    · simp [*]
    · split
      · simp; omega
      · simp; omega
def R (a b : Nat) : Bool := if (bL a).length = (bL b).length then lt3 (bL a) (bL b) else decide ((bL a).length < (bL b).length)
theorem d60 {a b : Nat} (ha : a < 256) (hb : b < 256) : b7l a b = some (R a b) := by
  obtain ⟨a1, _, a3⟩ := c2p ha
  obtain ⟨b1, _, b3⟩ := c2p hb
  have hl := d2q a
  unfold b7l
  rw [d1m (by omega), d1m (by omega), a3, b3]
  simp only [Option.bind_some]
  unfold R
  by_cases q : (bL a).length = (bL b).length
  · rw [if_neg (by simp; omega), if_pos q, a1, b1]
    simp only [Option.bind_some]
    obtain ⟨r, e1, e2⟩ := d5g q (by simp only [maxLen]; omega)
    rw [e1]
    simp only [Option.bind_some]
    rw [e2]
  · rw [if_pos (by simp; omega), if_neg q]
    simp
def pB (l : List Reading) : Nat → Nat
  | 0 => 2 ^ l.length - 1
  | k + 1 => if b3a l k && R k (pB l k) then k else pB l k
section
variable {l : List Reading} (hg : Good l) (h8 : l.length ≤ 8)
include h8
theorem d0s (k : Nat) (hk : k ≤ 2 ^ l.length - 1) : pB l k ≤ 2 ^ l.length - 1 ∧ pB l k < 256 := by
  have hp := d0v h8
  induction k with
  | zero => show 2 ^ l.length - 1 ≤ _ ∧ 2 ^ l.length - 1 < 256; omega
  | succ k ih =>
    have := ih (by omega)
    show (if b3a l k && R k (pB l k) then k else pB l k) ≤ _ ∧ (if b3a l k && R k (pB l k) then k else pB l k) < 256
    split <;> omega
include hg
theorem d2d : b56 l = some (bL (pB l (2 ^ l.length - 1)), 0) := by
  have hp := d0v h8
  unfold b56
  rcases c2d (l := l) (by simp only [maxLen]; omega) with ⟨_, e, _⟩ | ⟨n, _⟩
  · rw [e]
    simp only [Option.bind_some]
    rw [if_neg (by simp), g83 (by omega)]
    simp only [Option.bind_some]
    have e1 : wr (((2 ^ l.length : Nat) : Int) - 1) = ((2 ^ l.length - 1 : Nat) : Int) := by rw [b6z (by omega) (by omega)]; omega
    have := c4d (f := b7j l ((2 ^ l.length : Nat) : Int)) (2 ^ l.length - 1) (fun s k => (s, k)) (fun k => ((pB l k : Nat) : Int)) _ (s0 := ((2 ^ l.length - 1 : Nat) : Int)) rfl (fun k hk => by
      have hb := d0s h8 k (by omega)
      simp only [b7j]
      rw [e1, if_pos (by simp; omega), c6b hg (by omega)]
      simp only [Option.bind_some]
      rw [show decide ((cF l k l.length).1 ≤ (cF l k l.length).2) = b3a l k from rfl]
      have hk1 : wr ((k : Int) + 1) = (k : Int) + 1 := b6z (by omega) (by omega)
      cases hc : b3a l k with
      | false =>
        rw [if_neg (by simp)]
        simp only [Option.bind_some]
        rw [if_neg (by simp)]
        simp only [b5c, hk1, pB, hc, Bool.false_and]
        rw [if_neg (by simp)]
      | true =>
        rw [if_pos rfl, d60 (by omega) hb.2]
        simp only [Option.bind_some]
        cases hr : R k (pB l k) with
        | false =>
          rw [if_neg (by simp)]
          simp only [b5c, hk1, pB, hc, hr, Bool.true_and]
          rw [if_neg (by simp)]
        | true =>
          rw [if_pos rfl]
          simp only [b5c, hk1, pB, hc, hr, Bool.true_and]
          rw [if_pos trivial]) (by
      simp only [b7j]
      rw [e1, if_neg (by simp)])
    rw [e1, this]
    simp only [Option.bind_some, b9m]
    rw [(c2p (d0s h8 _ (Nat.le_refl _)).2).1]
    rfl
  · exact absurd hg n
omit h8 in
theorem d2g : b57 l = some (if l.length = 0 ∨ b3a l 0 = false then (⟨0, 0⟩, 3) else (⟨(cF l 0 l.length).1, (cF l 0 l.length).2⟩, 0)) := by
  have hl := hg.1
  unfold b57
  rcases c2d (l := l) (by simp only [maxLen]; omega) with ⟨_, e, _⟩ | ⟨n, _⟩
  · rw [e]
    simp only [Option.bind_some]
    have hc := c6b hg (s := 0) (by omega)
    rw [if_neg (by simp), show (0 : Int) = ((0 : Nat) : Int) from rfl, hc]
    simp only [Option.bind_some]
    rw [show decide ((cF l 0 l.length).1 ≤ (cF l 0 l.length).2) = b3a l 0 from rfl]
    by_cases q : l.length = 0 ∨ b3a l 0 = false
    · rw [if_pos q, if_pos (by simpa using q)]
    · rw [if_neg q, if_neg (by simpa using q)]
  · exact absurd hg n
end
theorem c9x {l : List Reading} {s k : Nat} (hk : k ≤ l.length) {x : Int} : (cF l s k).1 ≤ x ↔ -1099511627776 ≤ x ∧ ∀ i r, i < k → l[i]? = some r → s.testBit i = false → lo r ≤ x := by
  induction k with
  | zero => simp [cF]
  | succ k ih =>
    obtain ⟨r, hr⟩ := b23 (show k < l.length by omega)
    have ih := ih (by omega)
    unfold cF
    rw [hr]
    by_cases q : s.testBit k = true
    · rw [if_pos q, ih]
      refine ⟨fun ⟨h1, h2⟩ => ⟨h1, fun i r' hi hr' hb => ?_⟩, fun ⟨h1, h2⟩ => ⟨h1, fun i r' hi hr' hb => h2 i r' (by omega) hr' hb⟩⟩
      by_cases e : i = k
      · subst e; rw [q] at hb; cases hb
      · exact h2 i r' (by omega) hr' hb
    · rw [if_neg q]
      simp only
      rw [Int.max_le, ih]
      refine ⟨fun ⟨⟨h1, h2⟩, h3⟩ => ⟨h1, fun i r' hi hr' hb => ?_⟩, fun ⟨h1, h2⟩ => ⟨⟨h1, fun i r' hi hr' hb => h2 i r' (by omega) hr' hb⟩, h2 k r (by omega) hr (by simpa using q)⟩⟩
      by_cases e : i = k
      · subst e; rw [hr] at hr'; cases hr'; exact h3
      · exact h2 i r' (by omega) hr' hb
theorem g2a {l : List Reading} {s k : Nat} (hk : k ≤ l.length) {x : Int} : x ≤ (cF l s k).2 ↔ x ≤ 1099511627776 ∧ ∀ i r, i < k → l[i]? = some r → s.testBit i = false → x ≤ hi r := by
  induction k with
  | zero => simp [cF]
  | succ k ih =>
    obtain ⟨r, hr⟩ := b23 (show k < l.length by omega)
    have ih := ih (by omega)
    unfold cF
    rw [hr]
    by_cases q : s.testBit k = true
    · rw [if_pos q, ih]
      refine ⟨fun ⟨h1, h2⟩ => ⟨h1, fun i r' hi hr' hb => ?_⟩, fun ⟨h1, h2⟩ => ⟨h1, fun i r' hi hr' hb => h2 i r' (by omega) hr' hb⟩⟩
      by_cases e : i = k
      · subst e; rw [q] at hb; cases hb
      · exact h2 i r' (by omega) hr' hb
    · rw [if_neg q]
      simp only
      rw [Int.le_min, ih]
      refine ⟨fun ⟨⟨h1, h2⟩, h3⟩ => ⟨h1, fun i r' hi hr' hb => ?_⟩, fun ⟨h1, h2⟩ => ⟨⟨h1, fun i r' hi hr' hb => h2 i r' (by omega) hr' hb⟩, h2 k r (by omega) hr (by simpa using q)⟩⟩
      by_cases e : i = k
      · subst e; rw [hr] at hr'; cases hr'; exact h3
      · exact h2 i r' (by omega) hr' hb
section
variable {l : List Reading} (h8 : l.length ≤ 8)
include h8
theorem g7k {k : Nat} (hk : k ≤ 2 ^ l.length - 1) : (bL (pB l k)).length ≤ l.length ∧ ∀ m, m < k → b3a l m = true → (bL (pB l k)).length ≤ (bL m).length := by
  induction k with
  | zero => exact ⟨by show (bL (2 ^ l.length - 1)).length ≤ _; rw [d7c h8]; exact Nat.le_refl _, fun m hm => by omega⟩
  | succ k ih =>
    have ih := ih (by omega)
    have hl := g2e h8 (s := k) (by omega)
    have e : pB l (k + 1) = if b3a l k && R k (pB l k) then k else pB l k := rfl
    rw [e]
    by_cases q : (b3a l k && R k (pB l k)) = true
    · rw [if_pos q]
      simp only [Bool.and_eq_true] at q
      have hle : (bL k).length ≤ (bL (pB l k)).length := by
        have := q.2
        unfold R at this
        split at this
        · omega
        · simp only [decide_eq_true_eq] at this; omega
      refine ⟨by omega, fun m hm hc => ?_⟩
      by_cases e : m = k
      · subst e; exact Nat.le_refl _
      · have := ih.2 m (by omega) hc; omega
    · rw [if_neg q]
      refine ⟨ih.1, fun m hm hc => ?_⟩
      by_cases e : m = k
      · subst e
        rw [hc, Bool.true_and] at q
        unfold R at q
        split at q
        · omega
        · simp only [decide_eq_true_eq] at q; omega
      · exact ih.2 m (by omega) hc
end
end Go.Nw.TM.F
namespace Go.Nw.TM
open F
theorem d2i {l : List Reading} (n : Int) (hl : l.length ≤ maxLen) : ∃ b, b75 l n = some b ∧ (b = true → F.Good l ∧ 1 ≤ l.length ∧ l.length ≤ 8 ∧ ∀ r ∈ l, lo r ≤ n ∧ n ≤ hi r) := by
  unfold b75
  by_cases q : l.length = 0 ∨ 8 < l.length
  · rw [if_pos (by simp only [Bool.or_eq_true, decide_eq_true_eq]; omega)]
    exact ⟨false, rfl, fun h => by cases h⟩
  · rw [if_neg (by simp only [Bool.or_eq_true, decide_eq_true_eq]; omega)]
    rcases c2d hl with ⟨g, _, e⟩ | ⟨_, e, h1, _, h2⟩
    · rw [e]
      simp only [Option.bind_some]
      rw [if_neg (by simp)]
      have h := b4v (f := b6k l n) l (fun _ r => n < lo r ∨ hi r < n) (.inr false) (.inl ()) (fun k x hx hb => by
          simp only [b6k, b1j hx, Option.bind_some]
          rw [if_pos (by simpa using b1g hx), c5f (g.2 x (List.mem_of_getElem? hx)), if_pos (by simpa using hb)]) (fun k x hx hb => by
          simp only [b6k, b1j hx, Option.bind_some]
          rw [if_pos (by simpa using b1g hx), c5f (g.2 x (List.mem_of_getElem? hx)), if_neg (by simpa using hb), b29 (b1g hx) hl]) (by simp [b6k])
      rcases h with ⟨h, e2⟩ | ⟨_, e2⟩
      · rw [e2]
        refine ⟨true, rfl, fun _ => ⟨g, by omega, by omega, fun r hr => ?_⟩⟩
        obtain ⟨j, hj, rfl⟩ := List.getElem_of_mem hr
        have := h j _ (List.getElem?_eq_getElem hj)
        omega
      · rw [e2]
        exact ⟨false, rfl, fun h => by cases h⟩
    · rw [h2]
      simp only [Option.bind_some]
      rw [if_pos (by simpa using h1)]
      exact ⟨false, rfl, fun h => by cases h⟩
theorem g2p {l : List Reading} {n : Int} (g : F.Good l) (h1 : 1 ≤ l.length) (h8 : l.length ≤ 8) (ha : ∀ r ∈ l, lo r ≤ n ∧ n ≤ hi r) :
    ∃ s : Span, b57 l = some (s, 0) ∧ s.Low ≤ n ∧ n ≤ s.High ∧ (∀ r ∈ l, lo r ≤ s.Low) ∧ b56 l = some ([], 0) := by
  have hb : -2000000 ≤ n ∧ n ≤ 2000000 := by
    obtain ⟨x, hx⟩ := b23 (show 0 < l.length by omega)
    have hm := List.mem_of_getElem? hx
    have := g2g (g.2 x hm)
    have := ha x hm
    omega
  have hlo : (cF l 0 l.length).1 ≤ n := (c9x (Nat.le_refl _)).2 ⟨by omega, fun i r _ hr _ => (ha r (List.mem_of_getElem? hr)).1⟩
  have hhi : n ≤ (cF l 0 l.length).2 := (g2a (Nat.le_refl _)).2 ⟨by omega, fun i r _ hr _ => (ha r (List.mem_of_getElem? hr)).2⟩
  have hc : b3a l 0 = true := by unfold b3a; simp; omega
  refine ⟨⟨(cF l 0 l.length).1, (cF l 0 l.length).2⟩, ?_, hlo, hhi, fun r hr => ?_, ?_⟩
  · rw [d2g g, if_neg (by rw [hc]; simp; intro e; rw [e] at h1; simp at h1)]
  · obtain ⟨j, hj, rfl⟩ := List.getElem_of_mem hr
    exact ((c9x (Nat.le_refl l.length) (x := (cF l 0 l.length).1)).1 (Int.le_refl _)).2 j _ hj (List.getElem?_eq_getElem hj) (by simp)
  · rw [d2d g h8]
    have hp : 1 ≤ 2 ^ l.length - 1 := by
      have : 2 ^ 1 ≤ 2 ^ l.length := Nat.pow_le_pow_right (by omega) h1
      omega
    have h0 := (g7k h8 (k := 2 ^ l.length - 1) (Nat.le_refl _)).2 0 (by omega) hc
    have e0 : (bL 0).length = 0 := by decide
    rw [e0] at h0
    rw [List.length_eq_zero_iff.1 (by omega : (bL (pB l (2 ^ l.length - 1))).length = 0)]
theorem g21 {l : List Int} (n : Int) (hl : l.length ≤ maxLen) : ∃ b, b76 l n = some b ∧ (b = true ↔ n ∈ l) := by
  unfold b76
  have h := b4v (f := b6l l n) l (fun _ x => x = n) (.inr true) (.inl ()) (fun k x hx hb => by
      simp only [b6l, b1j hx, Option.bind_some]
      rw [if_pos (by simpa using b1g hx), if_pos (by simpa using hb)]) (fun k x hx hb => by
      simp only [b6l, b1j hx, Option.bind_some]
      rw [if_pos (by simpa using b1g hx), if_neg (by simpa using hb), b29 (b1g hx) hl]) (by simp [b6l])
  rcases h with ⟨h, e⟩ | ⟨⟨k, x, hx, hb⟩, e⟩
  · rw [e]
    refine ⟨false, rfl, (fun h => by cases h), (fun hm => ?_)⟩
    obtain ⟨j, hj, e2⟩ := List.getElem_of_mem hm
    exact absurd e2 (h j _ (List.getElem?_eq_getElem hj))
  · rw [e]
    exact ⟨true, rfl, fun _ => by rw [← hb]; exact List.mem_of_getElem? hx, fun _ => rfl⟩
end Go.Nw.TM
namespace Go.Nw.TM
def b26 (l : List Int) : Nat → Int
  | 0 => 0
  | k + 1 => (l[k]?).getD 0
structure BandOk (b : Band) : Prop where
  p1 : 1 ≤ b.Paces.length
  p3 : b.Paces.length ≤ 3
  d1 : 1 ≤ b.Den
  each : ∀ (k : Nat) x, b.Paces[k]? = some x → b26 b.Paces k + 1 ≤ x ∧ x ≤ 100
theorem c5o {b : Band} (h : BandOk b) : ∀ (k : Nat) x, b.Paces[k]? = some x → 1 ≤ x
  | 0, x, hx => by have := (h.each 0 x hx).1; simp only [b26] at this; omega
  | k + 1, x, hx => by
    have h1 := (h.each (k + 1) x hx).1
    obtain ⟨y, hy⟩ := b23 (show k < b.Paces.length by have := b1g hx; omega)
    have := c5o h k y hy
    simp only [b26, hy, Option.getD_some] at h1
    omega
theorem d5b (b : Band) (hl : b.Paces.length ≤ maxLen) : (BandOk b ∧ b6o b = some 0 ∧ b4k b = some 0) ∨ ∃ e, e ≠ 0 ∧ b6o b = some e := by
  unfold b6o b4k
  by_cases q1 : ((((!(b04 b.Pull 0 100)) || (!(b04 b.Drag 0 1000000))) || (!(b04 b.Body 0 100))) || (!(b04 b.Ride 1 1000))) || (!(b04 b.Most 0 100000000))
  · exact .inr ⟨110, by omega, by rw [if_pos q1]⟩
  rw [if_neg q1]
  by_cases q2 : ((!(b04 (List.length b.Paces : Int) 1 3)) || (!(b04 b.Den 1 100))) || (!(b04 b.Num 0 b.Den))
  · exact .inr ⟨110, by omega, by rw [if_pos q2]⟩
  rw [if_neg q2]
  simp only [b04, Bool.or_eq_true, Bool.not_eq_true', Bool.and_eq_false_iff, decide_eq_false_iff_not] at q1 q2
  rw [if_neg (by simp only [b1s, Bool.or_eq_true, Bool.not_eq_true', Bool.and_eq_false_iff, decide_eq_false_iff_not, decide_eq_true_eq]; omega),
    if_neg (by simp only [b1s, Bool.or_eq_true, Bool.not_eq_true', Bool.and_eq_false_iff, decide_eq_false_iff_not, decide_eq_true_eq]; omega)]
  have hlast : ∀ {k : Nat} {x : Int}, b.Paces[k]? = some x → b26 b.Paces (k + 1) = x := fun h => by simp [b26, h]
  have hb : ∀ k : Nat, (∀ j y, j < k → b.Paces[j]? = some y → ¬ ¬ (b26 b.Paces j + 1 ≤ y ∧ y ≤ 100)) → b26 b.Paces k ≤ 100 ∧ 0 ≤ b26 b.Paces k := by
    intro k
    induction k with
    | zero => intro _; simp [b26]
    | succ k ih =>
      intro h
      have i := ih fun j y hj hy => h j y (by omega) hy
      cases hx : b.Paces[k]? with
      | none => simp [b26, hx]
      | some x => have := h k x (by omega) hx; rw [hlast hx]; omega
  have h1 := c9w (f := b6t b) b.Paces (fun (s : Int) k => (s, k)) (b26 b.Paces) (fun k x => ¬ (b26 b.Paces k + 1 ≤ x ∧ x ≤ 100)) (.inr 110) (.inl ()) (fun k x hp hx hbad => by
      have := hb k hp
      simp only [b6t, b1j hx, Option.bind_some]
      rw [if_pos (by simpa using b1g hx), b8n (by omega) (by omega), if_pos]
      simp only [b04, Bool.not_eq_true', Bool.and_eq_false_iff, decide_eq_false_iff_not]; omega) (fun k x hp hx hbad => by
      have := hb k hp
      simp only [b6t, b1j hx, Option.bind_some]
      rw [if_pos (by simpa using b1g hx), b8n (by omega) (by omega), if_neg, b29 (b1g hx) hl, hlast hx]
      simp only [b04, Bool.not_eq_true', Bool.and_eq_false_iff, decide_eq_false_iff_not]; omega) (by simp [b6t]) (s0 := 0) rfl
  have h2 := c9w (f := b53 b) b.Paces (fun (s : Int) k => (s, k)) (b26 b.Paces) (fun k x => ¬ (b26 b.Paces k + 1 ≤ x ∧ x ≤ 100)) (.inr 110) (.inl ()) (fun k x hp hx hbad => by
      simp only [b53, b1j hx, Option.bind_some]
      rw [if_pos (by simpa using b1g hx), if_pos]
      simp only [Bool.or_eq_true, decide_eq_true_eq]; omega) (fun k x hp hx hbad => by
      simp only [b53, b1j hx, Option.bind_some]
      rw [if_pos (by simpa using b1g hx), if_neg, b29 (b1g hx) hl, hlast hx]
      simp only [Bool.or_eq_true, decide_eq_true_eq]; omega) (by simp [b53]) (s0 := 0) rfl
  rcases h1 with ⟨g, e1⟩ | ⟨_, e1⟩
  · rcases h2 with ⟨_, e2⟩ | ⟨⟨k, x, hx, hbad⟩, _⟩
    · refine .inl ⟨⟨by omega, by omega, by omega, fun k x hx => Classical.not_not.1 (g k x hx)⟩, ?_, ?_⟩
      · rw [e1]; rfl
      · rw [e2]; rfl
    · exact absurd hbad (g k x hx)
  · exact .inr ⟨110, by omega, by rw [e1]; rfl⟩
theorem d5d {b : Band} {t : Times} (hb : b.Paces.length ≤ maxLen) (hl : t.Periods.length ≤ maxLen) :
    (BandOk b ∧ b6r b t = some 0 ∧ b4k b = some 0 ∧ b7c b t = some 0 ∧ (t.Periods.length ≤ 8) ∧ ∀ (k : Nat) x, t.Periods[k]? = some x → 0 ≤ x.Flow.Low ∧ x.Flow.Low ≤ x.Flow.High ∧ x.Flow.High ≤ 100) ∨ ∃ e, e ≠ 0 ∧ b6r b t = some e := by
  unfold b6r b7c
  rcases d5b b hb with ⟨ok, e1, e2⟩ | ⟨e, he, e1⟩
  · rw [e1, e2]
    simp only [Option.bind_some, not_true_eq_false, decide_false, Bool.false_eq_true, ↓reduceIte]
    by_cases q : (!(b04 (List.length t.Periods : Int) 1 8)) || (!(b04 t.Peak 0 1000))
    · exact .inr ⟨111, by omega, by rw [if_pos q]⟩
    rw [if_neg q]
    simp only [b04, Bool.or_eq_true, Bool.not_eq_true', Bool.and_eq_false_iff, decide_eq_false_iff_not] at q
    rw [if_neg (by simp only [b1s, Bool.or_eq_true, Bool.not_eq_true', Bool.and_eq_false_iff, decide_eq_false_iff_not, decide_eq_true_eq]; omega)]
    have h1 := b4v (f := b6s t) t.Periods (fun _ x => ¬ ((1 ≤ x.Lasts ∧ x.Lasts ≤ 1000) ∧ (0 ≤ x.Price ∧ x.Price ≤ 100) ∧ 0 ≤ x.Flow.Low ∧ x.Flow.Low ≤ x.Flow.High ∧ x.Flow.High ≤ 100)) (.inr 111) (.inl ()) (fun k x hx hbad => by
        simp only [b6s, b1j hx, Option.bind_some]
        rw [if_pos (by simpa using b1g hx), if_pos]
        simp only [b04, Bool.or_eq_true, Bool.not_eq_true', Bool.and_eq_false_iff, decide_eq_false_iff_not, decide_eq_true_eq]; omega) (fun k x hx hbad => by
        simp only [b6s, b1j hx, Option.bind_some]
        rw [if_pos (by simpa using b1g hx), if_neg, b29 (b1g hx) hl]
        simp only [b04, Bool.or_eq_true, Bool.not_eq_true', Bool.and_eq_false_iff, decide_eq_false_iff_not, decide_eq_true_eq]; omega) (by simp [b6s])
    have h2 := b4v (f := b54 t) t.Periods (fun _ x => ¬ ((1 ≤ x.Lasts ∧ x.Lasts ≤ 1000) ∧ (0 ≤ x.Price ∧ x.Price ≤ 100) ∧ 0 ≤ x.Flow.Low ∧ x.Flow.Low ≤ x.Flow.High ∧ x.Flow.High ≤ 100)) (.inr 111) (.inl ()) (fun k x hx hbad => by
        simp only [b54, b1j hx, Option.bind_some]
        rw [if_pos (by simpa using b1g hx), if_pos]
        simp only [b1s, Bool.or_eq_true, Bool.not_eq_true', Bool.and_eq_false_iff, decide_eq_false_iff_not, decide_eq_true_eq]; omega) (fun k x hx hbad => by
        simp only [b54, b1j hx, Option.bind_some]
        rw [if_pos (by simpa using b1g hx), if_neg, b29 (b1g hx) hl]
        simp only [b1s, Bool.or_eq_true, Bool.not_eq_true', Bool.and_eq_false_iff, decide_eq_false_iff_not, decide_eq_true_eq]; omega) (by simp [b54])
    rcases h1 with ⟨g, e3⟩ | ⟨_, e3⟩
    · rcases h2 with ⟨_, e4⟩ | ⟨⟨k, x, hx, hbad⟩, _⟩
      · refine .inl ⟨ok, by rw [e3]; rfl, trivial, by rw [e4]; rfl, by omega, fun k x hx => ?_⟩
        have := Classical.not_not.1 (g k x hx)
        exact this.2.2
      · exact absurd hbad (g k x hx)
    · exact .inr ⟨111, by omega, by rw [e3]; rfl⟩
  · rw [e1]
    simp only [Option.bind_some]
    exact .inr ⟨110, by omega, by rw [if_pos (by simpa using he)]⟩
theorem c6c {l : List Int} (v : Int) (hl : l.length ≤ maxLen) : ∃ b, b5r l v = some b ∧ (b = true ↔ v ∈ l) := by
  have h := c7f (s := l) (f := fun x => some (decide (v = x))) (p := fun x => v = x) (g := b5r l v) (by
    unfold b5r c0x
    have : c0y l v = b3u l fun x => some (decide (v = x)) := by
      funext s; simp only [c0y, b3u, Option.bind_some]
    rw [this]; rfl) hl (fun x _ => ⟨_, rfl, by simp⟩)
  obtain ⟨b, h1, h2⟩ := h
  exact ⟨b, h1, by rw [h2]; simp⟩
theorem d0t {b : Band} (v : Int) (hl : b.Paces.length ≤ maxLen) : ∃ r, b8a b v = some r ∧ (r = true ↔ v ∈ b.Paces) := by
  unfold b8a
  have h := b4v (f := b6u b v) b.Paces (fun _ x => x = v) (.inr true) (.inl ()) (fun k x hx hb => by
      simp only [b6u, b1j hx, Option.bind_some]
      rw [if_pos (by simpa using b1g hx), if_pos (by simpa using hb)]) (fun k x hx hb => by
      simp only [b6u, b1j hx, Option.bind_some]
      rw [if_pos (by simpa using b1g hx), if_neg (by simpa using hb), b29 (b1g hx) hl]) (by simp [b6u])
  rcases h with ⟨h, e⟩ | ⟨⟨k, x, hx, hb⟩, e⟩
  · rw [e]
    refine ⟨false, rfl, (fun h => by cases h), (fun hm => ?_)⟩
    obtain ⟨j, hj, e2⟩ := List.getElem_of_mem hm
    exact absurd e2 (h j _ (List.getElem?_eq_getElem hj))
  · rw [e]
    exact ⟨true, rfl, fun _ => by rw [← hb]; exact List.mem_of_getElem? hx, fun _ => rfl⟩
theorem d5c {b : Band} {t : Times} {plan : List Int} (hb : b.Paces.length ≤ maxLen) (hl : t.Periods.length ≤ maxLen) (hp : plan.length ≤ maxLen) :
    (BandOk b ∧ b6p b t plan = some 0 ∧ b4k b = some 0 ∧ b7b b t plan = some 0 ∧ plan.length = t.Periods.length ∧ plan.length ≤ 8 ∧ (∀ p ∈ plan, p ∈ b.Paces) ∧ ∀ (k : Nat) x, t.Periods[k]? = some x → 0 ≤ x.Flow.Low ∧ x.Flow.Low ≤ x.Flow.High ∧ x.Flow.High ≤ 100) ∨ ∃ e, e ≠ 0 ∧ b6p b t plan = some e := by
  unfold b6p b7b
  rcases d5d (t := t) hb hl with ⟨ok, e1, e2, e3, h8, hf⟩ | ⟨e, he, e1⟩
  · rw [e1, e3]
    simp only [Option.bind_some, not_true_eq_false, decide_false, Bool.false_eq_true, ↓reduceIte]
    by_cases q : plan.length = t.Periods.length
    · rw [if_neg (by simp; omega), if_neg (by simp; omega)]
      have h := b4v (f := b6q b plan) plan (fun _ x => x ∉ b.Paces) (.inr 112) (.inl ()) (fun k x hx hbad => by
          obtain ⟨r, hr, hr2⟩ := d0t (b := b) x hb
          simp only [b6q, b1j hx, Option.bind_some, hr]
          rw [if_pos (by simpa using b1g hx), if_pos]
          cases r with
          | false => rfl
          | true => exact absurd (hr2.1 rfl) hbad) (fun k x hx hbad => by
          obtain ⟨r, hr, hr2⟩ := d0t (b := b) x hb
          simp only [b6q, b1j hx, Option.bind_some, hr]
          rw [if_pos (by simpa using b1g hx), if_neg, b29 (b1g hx) hp]
          cases r with
          | false => exact absurd (hr2.2 (Classical.not_not.1 hbad)) (by simp)
          | true => simp) (by simp [b6q])
      rcases h with ⟨g, e4⟩ | ⟨_, e4⟩
      · rw [e4]
        have hmem : ∀ p ∈ plan, p ∈ b.Paces := fun p hm => by
          obtain ⟨j, hj, rfl⟩ := List.getElem_of_mem hm
          exact Classical.not_not.1 (g j _ (List.getElem?_eq_getElem hj))
        obtain ⟨c, hc, hc2⟩ := c7f (s := plan) (f := fun z => b5a z b) (p := fun x => x ∉ b.Paces) (g := c0w plan (fun z => b5a z b)) (by rfl) hp (fun x hx => by
          obtain ⟨r, hr, hr2⟩ := c6c x hb
          refine ⟨!r, by unfold b5a; rw [hr]; rfl, ?_⟩
          rw [← hr2]; cases r <;> simp)
        have : c = false := by
          cases c with
          | false => rfl
          | true => obtain ⟨x, hx, hn⟩ := hc2.1 rfl; exact absurd (hmem x hx) hn
        subst this
        rw [hc]
        exact .inl ⟨ok, rfl, e2, rfl, q, by omega, hmem, hf⟩
      · exact .inr ⟨112, by omega, by rw [e4]; rfl⟩
    · exact .inr ⟨112, by omega, by rw [if_pos (by simp; omega)]⟩
  · rw [e1]
    simp only [Option.bind_some]
    exact .inr ⟨e, he, by rw [if_pos (by simpa using he)]⟩
theorem d0w {b : Band} (h : BandOk b) (n : Int) {p : Int} (hp : p ∈ b.Paces) : ∃ w, b4l b n p = some w := by
  obtain ⟨j, hj, rfl⟩ := List.getElem_of_mem hp
  have := c5o h j _ (List.getElem?_eq_getElem hj)
  have hd := h.d1
  unfold b4l b9h
  rw [d0z (by omega)]
  simp only [Option.bind_some]
  split
  · exact ⟨_, rfl⟩
  · split
    · exact ⟨_, rfl⟩
    · rw [d0z (by omega)]
      exact ⟨_, rfl⟩
noncomputable def fl (b : Band) (p : Period) (pace : Int) (rd : Span) (lo : Int) : Nat → List Int
  | 0 => []
  | k + 1 => match b4l b (lo + k) pace with
    | some w => if rd.Low ≤ wr (w * p.Lasts) ∧ wr (w * p.Lasts) ≤ rd.High then fl b p pace rd lo k ++ [lo + k] else fl b p pace rd lo k
    | none => fl b p pace rd lo k
theorem c66 {b : Band} {p : Period} {pace : Int} {rd : Span} {lo : Int} (k : Nat) : (fl b p pace rd lo k).length ≤ k := by
  induction k with
  | zero => exact Nat.le_refl _
  | succ k ih =>
    unfold fl
    split
    · split
      · simp; exact ih
      · omega
    · omega
theorem d63 {b : Band} {p : Period} {pace : Int} {rd : Span} {lo w : Int} {j k : Nat} (hj : j < k) (hw : b4l b (lo + j) pace = some w) (h : rd.Low ≤ wr (w * p.Lasts) ∧ wr (w * p.Lasts) ≤ rd.High) : lo + j ∈ fl b p pace rd lo k := by
  induction k with
  | zero => omega
  | succ k ih =>
    by_cases e : j = k
    · subst e
      unfold fl
      rw [hw]
      simp only
      rw [if_pos h]
      simp
    · have := ih (by omega)
      unfold fl
      split
      · split
        · exact List.mem_append_left _ this
        · exact this
      · exact this
theorem d64 {b : Band} (hb : BandOk b) {p : Period} {pace : Int} {rd : Span} (hp : pace ∈ b.Paces) (h0 : 0 ≤ p.Flow.Low) (h1 : p.Flow.Low ≤ p.Flow.High) (h2 : p.Flow.High ≤ 100) :
    b7d b p pace rd = some (fl b p pace rd p.Flow.Low (p.Flow.High + 1 - p.Flow.Low).toNat) := by
  unfold b7d
  have h := c4d (f := b7e b p pace rd) (p.Flow.High + 1 - p.Flow.Low).toNat (fun s k => (s, p.Flow.Low + k)) (fl b p pace rd p.Flow.Low) (fl b p pace rd p.Flow.Low (p.Flow.High + 1 - p.Flow.Low).toNat) (s0 := []) rfl (fun k hk => by
    obtain ⟨w, hw⟩ := d0w hb (p.Flow.Low + k) hp
    simp only [b7e, hw, Option.bind_some]
    rw [if_pos (by simp; omega)]
    have e1 : wr (p.Flow.Low + (k : Int) + 1) = p.Flow.Low + ((k : Int) + 1) := by rw [b8n (by omega) (by omega)]; omega
    by_cases q : rd.Low ≤ wr (w * p.Lasts) ∧ wr (w * p.Lasts) ≤ rd.High
    · rw [if_pos (by simpa using q), c5m (by have := c66 (b := b) (p := p) (pace := pace) (rd := rd) (lo := p.Flow.Low) k; simp; omega)]
      simp only [Option.bind_some, b55, e1, fl, hw]
      rw [if_pos q]
    · rw [if_neg (by simpa using q)]
      simp only [b55, e1, fl, hw]
      rw [if_neg q]) (by
    simp only [b7e]
    rw [if_neg (by simp; omega)])
  simp only [Int.add_zero] at h
  rw [h]
  rfl
theorem g2q (b : Band) (t : Times) (plan : List Int) (x : neweltop_Metered) (ob : b8w b) (ot : b8z t) (op : OkL b1l plan) (ox : b80 x) : b74 b t plan x = some true := by
  have hbl : b.Paces.length ≤ maxLen := ob.2.2.2.2.2.2.1.1
  have htl : t.Periods.length ≤ maxLen := ot.1.1
  have hpl : plan.length ≤ maxLen := op.1
  have hrl : x.Readings.length ≤ maxLen := ox.2.2.1
  unfold b74
  by_cases q1 : (b7x b || b7y t) = true
  · rw [if_pos q1]; rfl
  rw [if_neg q1]
  rcases d5c (t := t) (plan := plan) hbl htl hpl with ⟨ok, e1, e2, e3, hlen, h8, hmem, hf⟩ | ⟨e, he, e1⟩
  · rw [e1]
    simp only [Option.bind_some]
    by_cases q2 : x.Period < 0 ∨ (plan.length : Int) ≤ x.Period
    · rw [if_pos (by simpa using q2)]; rfl
    rw [if_neg (by simpa using q2)]
    obtain ⟨k, hk⟩ : ∃ k : Nat, x.Period = k := ⟨x.Period.toNat, by omega⟩
    obtain ⟨p, hp⟩ := b23 (show k < t.Periods.length by omega)
    obtain ⟨pc, hpc⟩ := b23 (show k < plan.length by omega)
    have hpm := hmem pc (List.mem_of_getElem? hpc)
    obtain ⟨f0, f1, f2⟩ := hf k p hp
    rw [hk, b1j hp, b1j hpc]
    simp only [Option.bind_some]
    by_cases q3 : x.Flow < p.Flow.Low
    · rw [if_pos (by simpa using q3)]; rfl
    rw [if_neg (by simpa using q3)]
    simp only [Option.bind_some]
    by_cases q4 : p.Flow.High < x.Flow
    · rw [if_pos (by simpa using q4)]; rfl
    rw [if_neg (by simpa using q4)]
    obtain ⟨w, hw⟩ := d0w ok x.Flow hpm
    have hP : b7a b x.Flow pc = some (w, 0) := by
      unfold b7a b9g
      obtain ⟨c, hc, hc2⟩ := c6c pc hbl
      have : c = true := hc2.2 hpm
      subst this
      rw [e2]
      simp only [Option.bind_some]
      rw [if_neg (by simp), hc]
      simp only [Option.bind_some]
      rw [if_neg (by simp), if_neg (by simp only [b1s, Bool.not_eq_true', Bool.and_eq_false_iff, decide_eq_false_iff_not]; omega)]
      simp only [Option.bind_some]
      rw [if_neg (by simp), hw]
      rfl
    rw [hP]
    simp only [Option.bind_some]
    rw [if_neg (by simp)]
    obtain ⟨a, ha, ha2⟩ := d2i (wr (w * p.Lasts)) hrl
    rw [ha]
    simp only [Option.bind_some]
    cases a with
    | false => rfl
    | true =>
      rw [if_neg (by simp)]
      obtain ⟨g, g1, g8, gl⟩ := ha2 rfl
      obtain ⟨s, s1, s2, s3, _, s5⟩ := g2p g g1 g8 gl
      rw [s1, s5]
      simp only [Option.bind_some]
      rw [if_neg (by simp; omega)]
      have hF : b69 b t plan (k : Int) s = some (fl b p pc s p.Flow.Low (p.Flow.High + 1 - p.Flow.Low).toNat, 0) := by
        unfold b69
        rw [e3]
        simp only [Option.bind_some]
        rw [if_neg (by simp), if_neg (by simp only [Bool.or_eq_true, decide_eq_true_eq]; omega), b1j hp, b1j hpc]
        simp only [Option.bind_some]
        rw [d64 ok hpm f0 f1 f2]
        rfl
      rw [hF]
      simp only [Option.bind_some]
      have hlen2 := c66 (b := b) (p := p) (pace := pc) (rd := s) (lo := p.Flow.Low) (p.Flow.High + 1 - p.Flow.Low).toNat
      obtain ⟨c, hc, hc2⟩ := g21 (l := fl b p pc s p.Flow.Low (p.Flow.High + 1 - p.Flow.Low).toNat) x.Flow (by simp only [maxLen]; omega)
      have : c = true := hc2.2 (by
        have e : x.Flow = p.Flow.Low + ((x.Flow - p.Flow.Low).toNat : Int) := by omega
        rw [e]
        exact d63 (w := w) (by omega) (by rw [← e]; exact hw) ⟨s2, s3⟩)
      subst this
      rw [hc]
      rfl
  · rw [e1]
    simp only [Option.bind_some]
    rw [if_pos (by simp; exact .inl (.inl he))]
    rfl
end Go.Nw.TM
