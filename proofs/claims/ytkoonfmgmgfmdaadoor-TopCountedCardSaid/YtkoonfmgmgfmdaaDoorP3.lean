/- Plain laws on the models. -/
import Derived.Test.YtkoonfmgmgfmdaaDoorTMTwin
import Derived.Test.YtkoonfmgmgfmdaaDoorP2
import Derived.Test.YtkoonfmgmgfmdaaDoorNwFirst
import Derived.Test.YtkoonfmgmgfmdaaDoorNwBits
import Derived.Test.YtkoonfmgmgfmdaaDoorNwSearch
set_option linter.all false
set_option linter.unusedVariables false
set_option linter.unusedSimpArgs false
set_option linter.unusedSectionVars false
namespace Go.Nw.TM.F
def bL (s : Nat) : List Int := ((List.range 8).filter fun i => s.testBit i).map Int.ofNat
theorem ev : ((List.range 256).all fun s => decide (c89 (s : Int) = some (bL s)) && decide (d04 (s : Int) = some ((bL s).length : Int))) = true := by kernel_rfl
theorem ev2 : ((List.range 9).all fun n => decide ((bL (2 ^ n - 1)).length = n) && ((List.range (2 ^ n - 1)).all fun s => decide ((bL s).length < n))) = true := by kernel_rfl
theorem c83 {s : Nat} (hs : s < 256) : b63 s = some (bL s) ∧ True ∧ b8p s = some ((bL s).length : Int) := by
  have h := List.all_eq_true.1 ev s (List.mem_range.2 hs)
  simp only [Bool.and_eq_true, decide_eq_true_eq] at h
  exact ⟨(g59 _).h _ h.1, trivial, (j2a _).h _ h.2⟩
theorem g6m {n : Nat} (hn : n ≤ 8) : (bL (2 ^ n - 1)).length = n := by
  have h := List.all_eq_true.1 ev2 n (List.mem_range.2 (by omega))
  simp only [Bool.and_eq_true, decide_eq_true_eq] at h
  exact h.1
theorem j1w {n s : Nat} (hn : n ≤ 8) (hs : s < 2 ^ n - 1) : (bL s).length < n := by
  have h := List.all_eq_true.1 ev2 n (List.mem_range.2 (by omega))
  simp only [Bool.and_eq_true] at h
  have := List.all_eq_true.1 h.2 s (List.mem_range.2 hs)
  simpa using this
theorem d8n {n : Nat} (hn : n ≤ 8) : 2 ^ n ≤ 256 ∧ 1 ≤ 2 ^ n := by
  have : 2 ^ n ≤ 2 ^ 8 := Nat.pow_le_pow_right (by omega) hn
  exact ⟨this, Nat.one_le_two_pow⟩
theorem g1q (s : Nat) : (bL s).length ≤ 8 := by
  unfold bL
  rw [List.length_map]
  have := List.length_filter_le (fun i => s.testBit i) (List.range 8)
  simpa using this
def b5o (r : Reading) : Prop := (-100000 ≤ r.Says ∧ r.Says ≤ 100000) ∧ (0 ≤ r.Error ∧ r.Error ≤ 1000) ∧ (0 ≤ r.Drift ∧ r.Drift ≤ 1000) ∧ (0 ≤ r.Days ∧ r.Days ≤ 1000)
def Good (l : List Reading) : Prop := l.length ≤ 12 ∧ ∀ r ∈ l, b5o r
theorem check_both {l : List Reading} (hl : l.length ≤ maxLen) : (Good l ∧ b8e l = some 0 ∧ b8v l = some 0) ∨ (¬ Good l ∧ ∃ e, e ≠ 0 ∧ b8e l = some e ∧ b8v l = some e) := by
  unfold b8e b8v
  by_cases q : 12 < l.length
  · rw [if_pos (by simp; omega), if_pos (by simp; omega)]
    exact .inr ⟨fun h => by have := h.1; omega, 2, by omega, rfl, rfl⟩
  · rw [if_neg (by simp; omega), if_neg (by simp; omega)]
    have h1 := b5v (f := b9q l) l (fun _ r => ¬ b5o r) (.inr 100) (.inl ()) (fun k x hx hb => by
        simp only [b9q, b1d hx, Option.bind_some]
        rw [if_pos (by simpa using b1b hx), if_pos]
        unfold b5o at hb
        simp only [b4z, Bool.or_eq_true, Bool.not_eq_true', Bool.and_eq_false_iff, decide_eq_false_iff_not]; omega) (fun k x hx hb => by
        simp only [b9q, b1d hx, Option.bind_some]
        rw [if_pos (by simpa using b1b hx), if_neg, b2f (b1b hx) hl]
        unfold b5o at hb
        simp only [b4z, Bool.or_eq_true, Bool.not_eq_true', Bool.and_eq_false_iff, decide_eq_false_iff_not]; omega) (by simp [b9q])
    have h2 := b5v (f := c02 l) l (fun _ r => ¬ b5o r) (.inr 100) (.inl ()) (fun k x hx hb => by
        simp only [c02, b1d hx, Option.bind_some]
        rw [if_pos (by simpa using b1b hx), if_pos]
        unfold b5o at hb
        simp only [b49, Bool.or_eq_true, Bool.not_eq_true', Bool.and_eq_false_iff, decide_eq_false_iff_not]; omega) (fun k x hx hb => by
        simp only [c02, b1d hx, Option.bind_some]
        rw [if_pos (by simpa using b1b hx), if_neg, b2f (b1b hx) hl]
        unfold b5o at hb
        simp only [b49, Bool.or_eq_true, Bool.not_eq_true', Bool.and_eq_false_iff, decide_eq_false_iff_not]; omega) (by simp [c02])
    rcases h1 with ⟨g, e1⟩ | ⟨⟨k, x, hx, hb⟩, e1⟩
    · rcases h2 with ⟨_, e2⟩ | ⟨⟨k, x, hx, hb⟩, _⟩
      · rw [e1, e2]
        refine .inl ⟨⟨by omega, fun r hr => ?_⟩, rfl, rfl⟩
        obtain ⟨j, hj, rfl⟩ := List.getElem_of_mem hr
        exact Classical.not_not.1 (g j _ (List.getElem?_eq_getElem hj))
      · exact absurd hb (g k x hx)
    · rcases h2 with ⟨g, _⟩ | ⟨_, e2⟩
      · exact absurd hb (g k x hx)
      · rw [e1, e2]
        exact .inr ⟨fun h => hb (h.2 x (List.mem_of_getElem? hx)), 100, by omega, rfl, rfl⟩
def lo (r : Reading) : Int := r.Says - (r.Error + r.Drift * r.Days)
def hi (r : Reading) : Int := r.Says + (r.Error + r.Drift * r.Days)
theorem b2g {n : Int} (h1 : -1000000000000000 ≤ n) (h2 : n ≤ 1000000000000000) : wr n = n := b6v (by omega) (by omega)
theorem d9q {r : Reading} (hr : b5o r) : 0 ≤ r.Drift * r.Days ∧ r.Drift * r.Days ≤ 1000000 := by
  obtain ⟨_, _, ⟨h1, h2⟩, h3, h4⟩ := hr
  refine ⟨Int.mul_nonneg h1 h3, ?_⟩
  have := Int.mul_le_mul h2 h4 h3 (by omega : (0 : Int) ≤ 1000)
  omega
theorem j13 {r : Reading} (hr : b5o r) : -2000000 ≤ lo r ∧ lo r ≤ hi r ∧ hi r ≤ 2000000 := by
  have := d9q hr
  obtain ⟨h1, h2, _⟩ := hr
  unfold lo hi; omega
theorem d2b {r : Reading} (hr : b5o r) : wr (r.Says - wr (r.Error + wr (r.Drift * r.Days))) = lo r ∧ wr (r.Says + wr (r.Error + wr (r.Drift * r.Days))) = hi r := by
  have := d9q hr
  obtain ⟨h1, h2, _⟩ := hr
  rw [b2g (n := r.Drift * r.Days) (by omega) (by omega), b2g (n := r.Error + r.Drift * r.Days) (by omega) (by omega), b2g (by omega) (by omega), b2g (by omega) (by omega)]
  exact ⟨rfl, rfl⟩
theorem d2e {r : Reading} (hr : b5o r) : b6c r = ⟨lo r, hi r⟩ := by
  unfold b6c
  rw [(d2b hr).1, (d2b hr).2]
def cF (l : List Reading) (s : Nat) : Nat → Int × Int
  | 0 => (-1099511627776, 1099511627776)
  | k + 1 => if s.testBit k then cF l s k else match l[k]? with
    | some r => (max (cF l s k).1 (lo r), min (cF l s k).2 (hi r))
    | none => cF l s k
theorem g16 {s k : Nat} (hs : s < 9223372036854775808) (hk : k ≤ 64) : (decide (b6y (b8x .i64 (s : Int) (k : Int)) 1 = 0) = true) ↔ s.testBit k = false := by
  rw [g15 hs hk]
  cases s.testBit k <;> simp
section
variable {l : List Reading} (hg : Good l) {s : Nat} (hs : s < 9223372036854775808)
include hg hs
theorem d3m : b9o l s = some (⟨(cF l s l.length).1, (cF l s l.length).2⟩, decide ((cF l s l.length).1 ≤ (cF l s l.length).2)) := by
  have hl := hg.1
  unfold b9o
  have := b37 (f := c1v l s) l.length (fun (p : Int × Int) k => (p.1, p.2, k)) (cF l s) (cF l s l.length) (s0 := (-1099511627776, 1099511627776)) rfl (fun k hk => by
    obtain ⟨x, hx⟩ := b1n hk
    have hw := d2b (hg.2 x (List.mem_of_getElem? hx))
    simp only [c1v, b1d hx, Option.bind_some]
    rw [if_pos (by simpa using hk), j9f (by omega)]
    simp only [Option.bind_some]
    have ht := g16 (s := s) (k := k) hs (by omega)
    by_cases q : s.testBit k = true
    · rw [if_neg (fun hh => by rw [ht.1 hh] at q; cases q)]
      simp only [b9p, b2f hk (show l.length ≤ maxLen by simp only [maxLen]; omega), cF]
      rw [if_pos q]
    · rw [if_pos (ht.2 (by simpa using q))]
      simp only [b9p, b2f hk (show l.length ≤ maxLen by simp only [maxLen]; omega), cF, hx]
      rw [if_neg q, hw.1, hw.2, d1a, c0q]) (by
    simp only [c1v]
    rw [if_neg (by simp)])
  simp only at this
  rw [this]; rfl
end
def b4v (l : List Reading) (s : Nat) : Bool := decide ((cF l s l.length).1 ≤ (cF l s l.length).2)
def dif (a b : List Int) (k : Nat) : Bool := decide (a[k]? ≠ b[k]?)
def lt3 (a b : List Int) : Bool := match b65 a.length (dif a b) with
  | some k => decide ((a[k]?).getD 0 < (b[k]?).getD 0)
  | none => false
theorem g4m {a b : List Int} (hab : a.length = b.length) (hl : a.length ≤ maxLen) : ∃ r, c3r a b = some r ∧ decide (r < 0) = lt3 a b := by
  unfold c3r
  have h := j16 (f := c06 a b) (n := a.length) (p := dif a b) (e := fun k => .inr (b6h ((a[k]?).getD 0) ((b[k]?).getD 0))) (u := .inl ()) (fun k hk hp => by
    obtain ⟨x, hx⟩ := b1n hk
    obtain ⟨y, hy⟩ := b1n (show k < b.length by omega)
    unfold dif at hp
    rw [hx, hy] at hp
    simp only [c06, b1d hx, Option.bind_some]
    rw [if_pos (by simpa using hk), if_neg (by simp; omega), b1d hy]
    simp only [Option.bind_some]
    rw [if_pos, hx, hy]
    · rfl
    · simp only [ne_eq, Option.some.injEq, decide_eq_true_eq] at hp
      simp only [b6h, b6i]
      simp
      split <;> (try split) <;> omega) (fun k hk hp => by
    obtain ⟨x, hx⟩ := b1n hk
    obtain ⟨y, hy⟩ := b1n (show k < b.length by omega)
    unfold dif at hp
    rw [hx, hy] at hp
    have hxy : x = y := by simpa using hp
    subst hxy
    simp only [c06, b1d hx, Option.bind_some]
    rw [if_pos (by simpa using hk), if_neg (by simp; omega), b1d hy]
    simp only [Option.bind_some]
    rw [if_neg, b2f hk hl]
    simp [b6h, b6i]) (by
    simp only [c06]
    rw [if_neg (by simp)])
  rw [h]
  unfold lt3
  cases e : b65 a.length (dif a b) with
  | none =>
    refine ⟨0, ?_, rfl⟩
    simp only [Option.bind_some, c66]
    rw [if_neg (by simp; omega)]
  | some k =>
    refine ⟨_, rfl, ?_⟩
    simp only [b6h, b6i]
    simp
    split
    · simp [*]
    · split
      · simp; omega
      · simp; omega
def R (a b : Nat) : Bool := if (bL a).length = (bL b).length then lt3 (bL a) (bL b) else decide ((bL a).length < (bL b).length)
theorem g6b {a b : Nat} (ha : a < 256) (hb : b < 256) : c1w a b = some (R a b) := by
  obtain ⟨a1, _, a3⟩ := c83 ha
  obtain ⟨b1, _, b3⟩ := c83 hb
  have hl := g1q a
  unfold c1w
  rw [d9n (by omega), d9n (by omega), a3, b3]
  simp only [Option.bind_some]
  unfold R
  by_cases q : (bL a).length = (bL b).length
  · rw [if_neg (by simp; omega), if_pos q, a1, b1]
    simp only [Option.bind_some]
    obtain ⟨r, e1, e2⟩ := g4m q (by simp only [maxLen]; omega)
    rw [e1]
    simp only [Option.bind_some]
    rw [e2]
  · rw [if_pos (by simp; omega), if_neg q]
    simp
def pB (l : List Reading) : Nat → Nat
  | 0 => 2 ^ l.length - 1
  | k + 1 => if b4v l k && R k (pB l k) then k else pB l k
section
variable {l : List Reading} (hg : Good l) (h8 : l.length ≤ 8)
include h8
theorem d8i (k : Nat) (hk : k ≤ 2 ^ l.length - 1) : pB l k ≤ 2 ^ l.length - 1 ∧ pB l k < 256 := by
  have hp := d8n h8
  induction k with
  | zero => show 2 ^ l.length - 1 ≤ _ ∧ 2 ^ l.length - 1 < 256; omega
  | succ k ih =>
    have := ih (by omega)
    show (if b4v l k && R k (pB l k) then k else pB l k) ≤ _ ∧ (if b4v l k && R k (pB l k) then k else pB l k) < 256
    split <;> omega
include hg
theorem g1c : b9n l = some (bL (pB l (2 ^ l.length - 1)), 0) := by
  have hp := d8n h8
  unfold b9n
  rcases check_both (l := l) (by simp only [maxLen]; omega) with ⟨_, e, _⟩ | ⟨n, _⟩
  · rw [e]
    simp only [Option.bind_some]
    rw [if_neg (by simp), j9c (by omega)]
    simp only [Option.bind_some]
    have e1 : wr (((2 ^ l.length : Nat) : Int) - 1) = ((2 ^ l.length - 1 : Nat) : Int) := by rw [b2g (by omega) (by omega)]; omega
    have := b37 (f := c1u l ((2 ^ l.length : Nat) : Int)) (2 ^ l.length - 1) (fun s k => (s, k)) (fun k => ((pB l k : Nat) : Int)) _ (s0 := ((2 ^ l.length - 1 : Nat) : Int)) rfl (fun k hk => by
      have hb := d8i h8 k (by omega)
      simp only [c1u]
      rw [e1, if_pos (by simp; omega), d3m hg (by omega)]
      simp only [Option.bind_some]
      rw [show decide ((cF l k l.length).1 ≤ (cF l k l.length).2) = b4v l k from rfl]
      have hk1 : wr ((k : Int) + 1) = (k : Int) + 1 := b2g (by omega) (by omega)
      cases hc : b4v l k with
      | false =>
        rw [if_neg (by simp)]
        simp only [Option.bind_some]
        rw [if_neg (by simp)]
        simp only [b8c, hk1, pB, hc, Bool.false_and]
        rw [if_neg (by simp)]
      | true =>
        rw [if_pos rfl, g6b (by omega) hb.2]
        simp only [Option.bind_some]
        cases hr : R k (pB l k) with
        | false =>
          rw [if_neg (by simp)]
          simp only [b8c, hk1, pB, hc, hr, Bool.true_and]
          rw [if_neg (by simp)]
        | true =>
          rw [if_pos rfl]
          simp only [b8c, hk1, pB, hc, hr, Bool.true_and]
          rw [if_pos trivial]) (by
      simp only [c1u]
      rw [e1, if_neg (by simp)])
    rw [e1, this]
    simp only [Option.bind_some, c4v]
    rw [(c83 (d8i h8 _ (Nat.le_refl _)).2).1]
    rfl
  · exact absurd hg n
omit h8 in
theorem Truth_prog : b8d l = some (if l.length = 0 ∨ b4v l 0 = false then (⟨0, 0⟩, 3) else (⟨(cF l 0 l.length).1, (cF l 0 l.length).2⟩, 0)) := by
  have hl := hg.1
  unfold b8d
  rcases check_both (l := l) (by simp only [maxLen]; omega) with ⟨_, e, _⟩ | ⟨n, _⟩
  · rw [e]
    simp only [Option.bind_some]
    have hc := d3m hg (s := 0) (by omega)
    rw [if_neg (by simp), show (0 : Int) = ((0 : Nat) : Int) from rfl, hc]
    simp only [Option.bind_some]
    rw [show decide ((cF l 0 l.length).1 ≤ (cF l 0 l.length).2) = b4v l 0 from rfl]
    by_cases q : l.length = 0 ∨ b4v l 0 = false
    · rw [if_pos q, if_pos (by simpa using q)]
    · rw [if_neg q, if_neg (by simpa using q)]
  · exact absurd hg n
end
theorem d7k {l : List Reading} {s k : Nat} (hk : k ≤ l.length) {x : Int} : (cF l s k).1 ≤ x ↔ -1099511627776 ≤ x ∧ ∀ i r, i < k → l[i]? = some r → s.testBit i = false → lo r ≤ x := by
  induction k with
  | zero => simp [cF]
  | succ k ih =>
    obtain ⟨r, hr⟩ := b1n (show k < l.length by omega)
    have ih := ih (by omega)
    unfold cF
    rw [hr]
    by_cases q : s.testBit k = true
    · rw [if_pos q, ih]
      refine ⟨fun ⟨h1, h2⟩ => ⟨h1, fun i r' hi hr' hb => ?_⟩, fun ⟨h1, h2⟩ => ⟨h1, fun i r' hi hr' hb => h2 i r' (by omega) hr' hb⟩⟩
      by_cases e : i = k
      · subst e; rw [q] at hb; cases hb
      · exact h2 i r' (by omega) hr' hb
    · rw [if_neg q]
      simp only
      rw [Int.max_le, ih]
      refine ⟨fun ⟨⟨h1, h2⟩, h3⟩ => ⟨h1, fun i r' hi hr' hb => ?_⟩, fun ⟨h1, h2⟩ => ⟨⟨h1, fun i r' hi hr' hb => h2 i r' (by omega) hr' hb⟩, h2 k r (by omega) hr (by simpa using q)⟩⟩
      by_cases e : i = k
      · subst e; rw [hr] at hr'; cases hr'; exact h3
      · exact h2 i r' (by omega) hr' hb
theorem j1s {l : List Reading} {s k : Nat} (hk : k ≤ l.length) {x : Int} : x ≤ (cF l s k).2 ↔ x ≤ 1099511627776 ∧ ∀ i r, i < k → l[i]? = some r → s.testBit i = false → x ≤ hi r := by
  induction k with
  | zero => simp [cF]
  | succ k ih =>
    obtain ⟨r, hr⟩ := b1n (show k < l.length by omega)
    have ih := ih (by omega)
    unfold cF
    rw [hr]
    by_cases q : s.testBit k = true
    · rw [if_pos q, ih]
      refine ⟨fun ⟨h1, h2⟩ => ⟨h1, fun i r' hi hr' hb => ?_⟩, fun ⟨h1, h2⟩ => ⟨h1, fun i r' hi hr' hb => h2 i r' (by omega) hr' hb⟩⟩
      by_cases e : i = k
      · subst e; rw [q] at hb; cases hb
      · exact h2 i r' (by omega) hr' hb
    · rw [if_neg q]
      simp only
      rw [Int.le_min, ih]
      refine ⟨fun ⟨⟨h1, h2⟩, h3⟩ => ⟨h1, fun i r' hi hr' hb => ?_⟩, fun ⟨h1, h2⟩ => ⟨⟨h1, fun i r' hi hr' hb => h2 i r' (by omega) hr' hb⟩, h2 k r (by omega) hr (by simpa using q)⟩⟩
      by_cases e : i = k
      · subst e; rw [hr] at hr'; cases hr'; exact h3
      · exact h2 i r' (by omega) hr' hb
section
variable {l : List Reading} (h8 : l.length ≤ 8)
include h8
theorem j7b {k : Nat} (hk : k ≤ 2 ^ l.length - 1) : (bL (pB l k)).length ≤ l.length ∧ ∀ m, m < k → b4v l m = true → (bL (pB l k)).length ≤ (bL m).length := by
  induction k with
  | zero => exact ⟨by show (bL (2 ^ l.length - 1)).length ≤ _; rw [g6m h8]; exact Nat.le_refl _, fun m hm => by omega⟩
  | succ k ih =>
    have ih := ih (by omega)
    have hl := j1w h8 (s := k) (by omega)
    have e : pB l (k + 1) = if b4v l k && R k (pB l k) then k else pB l k := rfl
    rw [e]
    by_cases q : (b4v l k && R k (pB l k)) = true
    · rw [if_pos q]
      simp only [Bool.and_eq_true] at q
      have hle : (bL k).length ≤ (bL (pB l k)).length := by
        have := q.2
        unfold R at this
        split at this
        · omega
        · simp only [decide_eq_true_eq] at this; omega
      refine ⟨by omega, fun m hm hc => ?_⟩
      by_cases e : m = k
      · subst e; exact Nat.le_refl _
      · have := ih.2 m (by omega) hc; omega
    · rw [if_neg q]
      refine ⟨ih.1, fun m hm hc => ?_⟩
      by_cases e : m = k
      · subst e
        rw [hc, Bool.true_and] at q
        unfold R at q
        split at q
        · omega
        · simp only [decide_eq_true_eq] at q; omega
      · exact ih.2 m (by omega) hc
end
end Go.Nw.TM.F
namespace Go.Nw.TM
open F
theorem d2r {l : List Reading} (n : Int) (hl : l.length ≤ maxLen) : ∃ b, c0r l n = some b ∧ (b = true → F.Good l ∧ 1 ≤ l.length ∧ l.length ≤ 8 ∧ ∀ r ∈ l, lo r ≤ n ∧ n ≤ hi r) := by
  unfold c0r
  by_cases q : l.length = 0 ∨ 8 < l.length
  · rw [if_pos (by simp only [Bool.or_eq_true, decide_eq_true_eq]; omega)]
    exact ⟨false, rfl, fun h => by cases h⟩
  · rw [if_neg (by simp only [Bool.or_eq_true, decide_eq_true_eq]; omega)]
    rcases check_both hl with ⟨g, _, e⟩ | ⟨_, e, h1, _, h2⟩
    · rw [e]
      simp only [Option.bind_some]
      rw [if_neg (by simp)]
      have h := b5v (f := c0s l n) l (fun _ r => n < lo r ∨ hi r < n) (.inr false) (.inl ()) (fun k x hx hb => by
          simp only [c0s, b1d hx, Option.bind_some]
          rw [if_pos (by simpa using b1b hx), d2e (g.2 x (List.mem_of_getElem? hx)), if_pos (by simpa using hb)]) (fun k x hx hb => by
          simp only [c0s, b1d hx, Option.bind_some]
          rw [if_pos (by simpa using b1b hx), d2e (g.2 x (List.mem_of_getElem? hx)), if_neg (by simpa using hb), b2f (b1b hx) hl]) (by simp [c0s])
      rcases h with ⟨h, e2⟩ | ⟨_, e2⟩
      · rw [e2]
        refine ⟨true, rfl, fun _ => ⟨g, by omega, by omega, fun r hr => ?_⟩⟩
        obtain ⟨j, hj, rfl⟩ := List.getElem_of_mem hr
        have := h j _ (List.getElem?_eq_getElem hj)
        omega
      · rw [e2]
        exact ⟨false, rfl, fun h => by cases h⟩
    · rw [h2]
      simp only [Option.bind_some]
      rw [if_pos (by simpa using h1)]
      exact ⟨false, rfl, fun h => by cases h⟩
theorem d7p {l : List Reading} {n : Int} (g : F.Good l) (h1 : 1 ≤ l.length) (h8 : l.length ≤ 8) (ha : ∀ r ∈ l, lo r ≤ n ∧ n ≤ hi r) :
    ∃ s : Span, b8d l = some (s, 0) ∧ s.Low ≤ n ∧ n ≤ s.High ∧ (∀ r ∈ l, lo r ≤ s.Low) ∧ b9n l = some ([], 0) := by
  have hb : -2000000 ≤ n ∧ n ≤ 2000000 := by
    obtain ⟨x, hx⟩ := b1n (show 0 < l.length by omega)
    have hm := List.mem_of_getElem? hx
    have := j13 (g.2 x hm)
    have := ha x hm
    omega
  have hlo : (cF l 0 l.length).1 ≤ n := (d7k (Nat.le_refl _)).2 ⟨by omega, fun i r _ hr _ => (ha r (List.mem_of_getElem? hr)).1⟩
  have hhi : n ≤ (cF l 0 l.length).2 := (j1s (Nat.le_refl _)).2 ⟨by omega, fun i r _ hr _ => (ha r (List.mem_of_getElem? hr)).2⟩
  have hc : b4v l 0 = true := by unfold b4v; simp; omega
  refine ⟨⟨(cF l 0 l.length).1, (cF l 0 l.length).2⟩, ?_, hlo, hhi, fun r hr => ?_, ?_⟩
  · rw [Truth_prog g, if_neg (by rw [hc]; simp; intro e; rw [e] at h1; simp at h1)]
  · obtain ⟨j, hj, rfl⟩ := List.getElem_of_mem hr
    exact ((d7k (Nat.le_refl l.length) (x := (cF l 0 l.length).1)).1 (Int.le_refl _)).2 j _ hj (List.getElem?_eq_getElem hj) (by simp)
  · rw [g1c g h8]
    have hp : 1 ≤ 2 ^ l.length - 1 := by
      have : 2 ^ 1 ≤ 2 ^ l.length := Nat.pow_le_pow_right (by omega) h1
      omega
    have h0 := (j7b h8 (k := 2 ^ l.length - 1) (Nat.le_refl _)).2 0 (by omega) hc
    have e0 : (bL 0).length = 0 := by decide
    rw [e0] at h0
    rw [List.length_eq_zero_iff.1 (by omega : (bL (pB l (2 ^ l.length - 1))).length = 0)]
end Go.Nw.TM
namespace Go.Nw.TM.H
structure Crowded (n : Nat) (lo : Int) (l : List Crowd) : Prop where
  each : ∀ (k : Nat) x, l[k]? = some x → 0 ≤ x.Comb ∧ x.Comb < n ∧ 0 ≤ x.People.Low ∧ x.People.Low ≤ x.People.High ∧ x.People.High ≤ 1000
structure Valid (h : Hall) : Prop where
  u1 : 1 ≤ h.Until
  u2 : h.Until ≤ 100
  c1 : 1 ≤ h.Combs.length
  c2 : h.Combs.length ≤ 8
  t2 : h.Trains.length ≤ 12
  s2 : h.Shifts.length ≤ 20
  comb : ∀ (k : Nat) x, h.Combs[k]? = some x → 0 ≤ x.Rate ∧ x.Rate ≤ 1000 ∧ 0 ≤ x.Limit ∧ x.Limit ≤ 100000 ∧ (x.Next = -1 ∨ (k < x.Next ∧ x.Next < h.Combs.length)) ∧ 1 ≤ x.Walk.Low ∧ x.Walk.Low ≤ x.Walk.High ∧ x.Walk.High ≤ 20
  train : ∀ (k : Nat) x, h.Trains[k]? = some x → 0 ≤ x.At.Low ∧ x.At.Low ≤ x.At.High ∧ x.At.High ≤ h.Until - 1 ∧ x.Crowds.length ≤ 4 ∧
    (∀ (j : Nat) y, x.Crowds[j]? = some y → 0 ≤ y.People.Low ∧ y.People.Low ≤ y.People.High ∧ y.People.High ≤ 1000 ∧ y.Comb < h.Combs.length ∧ (match j with | 0 => -1 < y.Comb | j + 1 => ∀ z, x.Crowds[j]? = some z → z.Comb < y.Comb))
  shift : ∀ (k : Nat) x, h.Shifts[k]? = some x → 0 ≤ x.At ∧ x.At < h.Until ∧ 0 ≤ x.Comb ∧ x.Comb < h.Combs.length ∧ 0 ≤ x.Rate ∧ x.Rate ≤ 1000 ∧ (∀ j y, k = j + 1 → h.Shifts[j]? = some y → y.At ≤ x.At)
def b4e (n : Nat) (k : Nat) (x : Comb) : Prop := 0 ≤ x.Rate ∧ x.Rate ≤ 1000 ∧ 0 ≤ x.Limit ∧ x.Limit ≤ 100000 ∧ (x.Next = -1 ∨ ((k : Int) < x.Next ∧ x.Next < n)) ∧ 1 ≤ x.Walk.Low ∧ x.Walk.Low ≤ x.Walk.High ∧ x.Walk.High ≤ 20
def b4q (n : Nat) (l : List Crowd) (j : Nat) (y : Crowd) : Prop := 0 ≤ y.People.Low ∧ y.People.Low ≤ y.People.High ∧ y.People.High ≤ 1000 ∧ y.Comb < n ∧ (match j with | 0 => -1 < y.Comb | j + 1 => ∀ z, l[j]? = some z → z.Comb < y.Comb)
def b9s (n : Nat) (u : Int) (x : Train) : Prop := 0 ≤ x.At.Low ∧ x.At.Low ≤ x.At.High ∧ x.At.High ≤ u - 1 ∧ x.Crowds.length ≤ 4 ∧ ∀ (j : Nat) y, x.Crowds[j]? = some y → b4q n x.Crowds j y
def b9r (n : Nat) (u : Int) (l : List Shift) (k : Nat) (x : Shift) : Prop := 0 ≤ x.At ∧ x.At < u ∧ 0 ≤ x.Comb ∧ x.Comb < n ∧ 0 ≤ x.Rate ∧ x.Rate ≤ 1000 ∧ (∀ j y, k = j + 1 → l[j]? = some y → y.At ≤ x.At)
theorem g07 {h : Hall} (hk : b5p h) : ∃ b, c2x h = some b := by
  unfold c2x
  split
  · exact ⟨_, rfl⟩
  · have hl : h.Trains.length ≤ maxLen := hk.2.1.1
    rcases b5v (f := c0m h) h.Trains (fun _ x => 10 < x.Crowds.length) (.inr true) (.inl ()) (fun k x hx hb => by
      simp only [c0m, b1d hx, Option.bind_some]
      rw [if_pos (by simpa using b1b hx), if_pos (by simp; omega)]) (fun k x hx hb => by
      simp only [c0m, b1d hx, Option.bind_some]
      rw [if_pos (by simpa using b1b hx), if_neg (by simp; omega), b2f (b1b hx) hl]) (by simp [c0m]) with ⟨_, h2⟩ | ⟨_, h2⟩
    · rw [h2]; exact ⟨_, rfl⟩
    · rw [h2]; exact ⟨_, rfl⟩
def b6f (h : Hall) : Prop := 1 ≤ h.Until ∧ h.Until ≤ 100 ∧ 1 ≤ h.Combs.length ∧ h.Combs.length ≤ 8 ∧ h.Trains.length ≤ 12 ∧ h.Shifts.length ≤ 20
def V (h : Hall) : Prop := b6f h ∧ (∀ (k : Nat) x, h.Combs[k]? = some x → b4e h.Combs.length k x) ∧ (∀ (k : Nat) x, h.Trains[k]? = some x → b9s h.Combs.length h.Until x) ∧ (∀ (k : Nat) x, h.Shifts[k]? = some x → b9r h.Combs.length h.Until h.Shifts k x)
def b4s (l : List Crowd) : Nat → Int
  | 0 => -1
  | j + 1 => ((l[j]?).map (·.Comb)).getD 0
theorem d1l {l : List Crowd} {k : Nat} {x : Crowd} (h : l[k]? = some x) : b4s l (k + 1) = x.Comb := by simp [b4s, h]
theorem c15 {n : Nat} {l : List Crowd} {k : Nat} {x : Crowd} (hx : l[k]? = some x) : b4q n l k x ↔ (0 ≤ x.People.Low ∧ x.People.Low ≤ x.People.High ∧ x.People.High ≤ 1000 ∧ x.Comb < n ∧ b4s l k < x.Comb) := by
  unfold b4q
  cases k with
  | zero => simp [b4s]
  | succ j =>
    obtain ⟨z, hz⟩ := b1n (show j < l.length by have := b1b hx; omega)
    simp [b4s, hz]
section
variable {h : Hall} (hk : b5p h) (hs : b6f h)
include hk hs
theorem d3r {t : Train} (ht : b70 t) : ((∀ k x, t.Crowds[k]? = some x → b4q h.Combs.length t.Crowds k x) ∧ b07 (b7m h t) (-1, 0) = some (.inl ())) ∨ ((∃ k x, t.Crowds[k]? = some x ∧ ¬ b4q h.Combs.length t.Crowds k x) ∧ b07 (b7m h t) (-1, 0) = some (.inr 60)) := by
  have hn := d9u (n := h.Combs.length) (by have := hs.2.2.2.1; simp only [maxLen]; omega)
  have hl : t.Crowds.length ≤ maxLen := ht.2.1
  have hpb : ∀ k, (∀ j y, j < k → t.Crowds[j]? = some y → ¬ ¬ b4q h.Combs.length t.Crowds j y) → k ≤ t.Crowds.length → -1 ≤ b4s t.Crowds k ∧ b4s t.Crowds k < 8 := fun k hg hkl => by
    have key : ∀ m, m ≤ k → -1 ≤ b4s t.Crowds m ∧ b4s t.Crowds m < 8 := by
      intro m
      induction m with
      | zero => intro _; simp [b4s]
      | succ m ih =>
        intro hm
        obtain ⟨y, hy⟩ := b1n (show m < t.Crowds.length by omega)
        have hgy := (c15 hy).1 (Classical.not_not.1 (hg m y (by omega) hy))
        have := ih (by omega)
        rw [d1l hy]
        have := hs.2.2.2.1
        omega
    exact key k (Nat.le_refl _)
  have := d02 (f := b7m h t) t.Crowds (fun s k => (s, k)) (b4s t.Crowds) (fun k x => ¬ b4q h.Combs.length t.Crowds k x) (.inr 60) (.inl ()) (fun k x hg hx hb => by
    obtain ⟨p1, p2⟩ := hpb k hg (by have := b1b hx; omega)
    simp only [b7m, b1d hx, Option.bind_some, hn, b6v (show -9223372036854775808 ≤ b4s t.Crowds k + 1 by omega) (by omega)]
    rw [if_pos (by simpa using b1b hx), if_pos]
    rw [c15 hx] at hb
    simp only [b2b, b38, Bool.or_eq_true, Bool.not_eq_true', Bool.and_eq_false_iff, decide_eq_false_iff_not]
    omega) (fun k x hg hx hb => by
    obtain ⟨p1, p2⟩ := hpb k hg (by have := b1b hx; omega)
    simp only [b7m, b1d hx, Option.bind_some, hn, b6v (show -9223372036854775808 ≤ b4s t.Crowds k + 1 by omega) (by omega)]
    rw [if_pos (by simpa using b1b hx), if_neg, b2f (b1b hx) hl, d1l hx]
    have hb := (c15 hx).1 (Classical.not_not.1 hb)
    simp only [b2b, b38, Bool.or_eq_true, Bool.not_eq_true', Bool.and_eq_false_iff, decide_eq_false_iff_not]
    omega) (by simp [b7m]) (s0 := -1) rfl
  simpa using this
theorem g4s {t : Train} (ht : b70 t) : ((∀ k x, t.Crowds[k]? = some x → b4q h.Combs.length t.Crowds k x) ∧ b07 (b7b h t) (-1, 0) = some (.inl ())) ∨ ((∃ k x, t.Crowds[k]? = some x ∧ ¬ b4q h.Combs.length t.Crowds k x) ∧ b07 (b7b h t) (-1, 0) = some (.inr false)) := by
  have hl : t.Crowds.length ≤ maxLen := ht.2.1
  have := d02 (f := b7b h t) t.Crowds (fun s k => (s, k)) (b4s t.Crowds) (fun k x => ¬ b4q h.Combs.length t.Crowds k x) (.inr false) (.inl ()) (fun k x hg hx hb => by
    simp only [b7b, b1d hx, Option.bind_some]
    rw [if_pos (by simpa using b1b hx), if_pos]
    rw [c15 hx] at hb
    simp only [b42, Bool.or_eq_true, Bool.not_eq_true', Bool.and_eq_false_iff, decide_eq_false_iff_not, decide_eq_true_eq]
    omega) (fun k x hg hx hb => by
    simp only [b7b, b1d hx, Option.bind_some]
    rw [if_pos (by simpa using b1b hx), if_neg, b2f (b1b hx) hl, d1l hx]
    have hb := (c15 hx).1 (Classical.not_not.1 hb)
    simp only [b42, Bool.or_eq_true, Bool.not_eq_true', Bool.and_eq_false_iff, decide_eq_false_iff_not, decide_eq_true_eq]
    omega) (by simp [b7b]) (s0 := -1) rfl
  simpa using this
theorem j1c {t : Train} (ht : b70 t) : ∃ b, c2k h t = some b ∧ (b = true ↔ b9s h.Combs.length h.Until t) := by
  have hu : wr (h.Until - 1) = h.Until - 1 := b6v (by have := hs.1; omega) (by have := hs.2.1; omega)
  unfold c2k
  rcases g4s hk hs ht with ⟨h1, h2⟩ | ⟨⟨k, x, hx, hb⟩, h2⟩
  · rw [h2]
    simp only [Option.bind_some, c5m, hu]
    refine ⟨_, rfl, ?_⟩
    simp only [b42, Bool.and_eq_true, decide_eq_true_eq, b9s]
    constructor
    · rintro ⟨⟨⟨a, b⟩, c⟩, d⟩; exact ⟨a, b, c, by omega, h1⟩
    · rintro ⟨a, b, c, d, _⟩; exact ⟨⟨⟨a, b⟩, c⟩, by omega⟩
  · rw [h2]
    refine ⟨false, rfl, by simp; exact fun hg => hb (hg.2.2.2.2 k x hx)⟩
end
theorem g8p {l : List Train} {f : Train → Option Bool} {p : Train → Prop} (hl : l.length ≤ maxLen) (hf : ∀ x ∈ l, ∃ b, f x = some b ∧ (b = true ↔ p x)) :
    ∃ b, c67 l f = some b ∧ (b = true ↔ ∃ x ∈ l, p x) := d4w rfl hl hf
theorem c9u {l : List Int} {f : Int → Option Bool} {p : Int → Prop} (hl : l.length ≤ maxLen) (hf : ∀ x ∈ l, ∃ b, f x = some b ∧ (b = true ↔ p x)) :
    ∃ b, c3s l f = some b ∧ (b = true ↔ ∃ x ∈ l, p x) := d4w rfl hl hf
theorem c7i {j n : Nat} (h : j + 1 < n) (hn : n ≤ maxLen) : wr (((j + 1 : Nat) : Int) - 1) = (j : Int) := by
  rw [b6v (by omega) (by simp only [maxLen] at hn; omega)]; omega
theorem d60 {h : Hall} {k : Nat} {x : Comb} (hx : h.Combs[k]? = some x) : ∃ b, c2j h k = some b ∧ (b = true ↔ b4e h.Combs.length k x) := by
  unfold c2j
  rw [b1d hx]
  refine ⟨_, rfl, ?_⟩
  simp only [b3a, b42, b4e, Bool.and_eq_true, Bool.or_eq_true, decide_eq_true_eq]
  omega
theorem d9b {h : Hall} (hk : b5p h) : b6f h ∨ (¬ b6f h ∧ b5h h = some 60 ∧ b5y h = some 60) := by
  by_cases hs : b6f h
  · exact .inl hs
  · refine .inr ⟨hs, ?_, ?_⟩
    · unfold b5h
      rw [if_pos]
      simp only [Bool.or_eq_true, decide_eq_true_eq]
      unfold b6f at hs; omega
    · unfold b5y
      rw [if_pos]
      simp only [b2b, Bool.or_eq_true, Bool.not_eq_true', Bool.and_eq_false_iff, decide_eq_false_iff_not, decide_eq_true_eq]
      unfold b6f at hs; omega
theorem g03 {h : Hall} (hk : b5p h) : (V h ∧ b5h h = some 0) ∨ (¬ V h ∧ b5h h = some 60) := by
  rcases d9b hk with hs | ⟨hs, h1, _⟩
  · have e1 : h.Combs.length ≤ maxLen := hk.1.1
    have e2 : h.Trains.length ≤ maxLen := hk.2.1.1
    have e3 : h.Shifts.length ≤ maxLen := hk.2.2.1.1
    unfold b5h
    rw [if_neg (by simp only [Bool.or_eq_true, decide_eq_true_eq]; unfold b6f at hs; omega)]
    rcases c2z (f := b9v h) h.Combs (fun k x => ¬ b4e h.Combs.length k x) (.inr 60) (.inl ()) (fun k x _ hx hb => by
        obtain ⟨b, b1, b2⟩ := d60 hx
        have : b = false := d2z fun hh => hb (b2.1 hh)
        subst this
        simp [b9v, b1, b1b hx]) (fun k x _ hx hb => by
        obtain ⟨b, b1, b2⟩ := d60 hx
        have : b = true := b2.2 (Classical.not_not.1 hb)
        subst this
        simp [b9v, b1, b1b hx, b2f (b1b hx) e1]) (by simp [b9v]) with ⟨c1, c2⟩ | ⟨⟨k, x, hx, hb⟩, c2⟩
    · rw [c2]
      simp only [Option.bind_some, c46]
      obtain ⟨b, b1, b2⟩ := g8p (l := h.Trains) (f := fun z => b9t z h) (p := fun t => ¬ b9s h.Combs.length h.Until t) e2 fun t ht => by
        obtain ⟨b, b1, b2⟩ := j1c hk hs (hk.2.1.2 t ht)
        refine ⟨!b, by simp [b9t, b1], ?_⟩
        cases b <;> simp_all
      rw [b1]
      simp only [Option.bind_some]
      cases b with
      | true =>
        rw [if_pos rfl]
        obtain ⟨t, ht, hbad⟩ := b2.1 rfl
        obtain ⟨j, hj, rfl⟩ := List.getElem_of_mem ht
        exact .inr ⟨fun hv => hbad (hv.2.2.1 j _ (List.getElem?_eq_getElem hj)), rfl⟩
      | false =>
        rw [if_neg (by simp)]
        have ht : ∀ (k : Nat) x, h.Trains[k]? = some x → b9s h.Combs.length h.Until x := fun k x hx => Classical.byContradiction fun hn => by have := b2.2 ⟨x, List.mem_of_getElem? hx, hn⟩; cases this
        rcases c2z (f := b9u h) h.Shifts (fun k x => ¬ b9r h.Combs.length h.Until h.Shifts k x) (.inr 60) (.inl ()) (fun k x _ hx hb => by
            simp only [b9u, b1d hx, Option.bind_some]
            rw [if_pos (by simpa using b1b hx)]
            unfold b9r at hb
            by_cases q : x.At < 0 ∨ h.Until ≤ x.At
            · rw [if_pos (by simpa using q)]; simp
            · rw [if_neg (by simpa using q)]
              cases k with
              | zero =>
                simp only [Int.natCast_zero, Int.lt_irrefl, decide_false, Bool.false_eq_true, if_false, Option.bind_some, Bool.false_or]
                rw [if_pos]
                simp only [b3a, Bool.or_eq_true, Bool.not_eq_true', Bool.and_eq_false_iff, decide_eq_false_iff_not, decide_eq_true_eq]
                refine Classical.byContradiction fun hc => hb ⟨by omega, by omega, by omega, by omega, by omega, by omega, fun j y hj => by omega⟩
              | succ j =>
                obtain ⟨y, hy⟩ := b1n (show j < h.Shifts.length by have := b1b hx; omega)
                rw [if_pos (by simp <;> omega), c7i (b1b hx) e3, b1d hy]
                simp only [Option.bind_some]
                rw [if_pos]
                simp only [b3a, Bool.or_eq_true, Bool.not_eq_true', Bool.and_eq_false_iff, decide_eq_false_iff_not, decide_eq_true_eq]
                refine Classical.byContradiction fun hc => hb ⟨by omega, by omega, by omega, by omega, by omega, by omega, fun j' y' hj' hy' => by
                  obtain rfl : j' = j := by omega
                  rw [hy] at hy'; cases hy'; omega⟩) (fun k x _ hx hb => by
            have hb := Classical.not_not.1 hb
            obtain ⟨q1, q2, q3, q4, q5, q6, q7⟩ := hb
            simp only [b9u, b1d hx, Option.bind_some]
            rw [if_pos (by simpa using b1b hx), if_neg (by simp; omega)]
            cases k with
            | zero =>
              simp only [Int.natCast_zero, Int.lt_irrefl, decide_false, Bool.false_eq_true, if_false, Option.bind_some, Bool.false_or]
              rw [if_neg]
              · rfl
              · simp only [b3a, Bool.or_eq_true, Bool.not_eq_true', Bool.and_eq_false_iff, decide_eq_false_iff_not, decide_eq_true_eq]
                omega
            | succ j =>
              obtain ⟨y, hy⟩ := b1n (show j < h.Shifts.length by have := b1b hx; omega)
              have := q7 j y rfl hy
              rw [if_pos (by simp <;> omega), c7i (b1b hx) e3, b1d hy]
              simp only [Option.bind_some]
              rw [if_neg, b2f (b1b hx) e3]
              simp only [b3a, Bool.or_eq_true, Bool.not_eq_true', Bool.and_eq_false_iff, decide_eq_false_iff_not, decide_eq_true_eq]
              omega) (by simp [b9u]) with ⟨d1, d2⟩ | ⟨⟨k, x, hx, hb⟩, d2⟩
        · rw [d2]
          exact .inl ⟨⟨hs, fun k x hx => Classical.not_not.1 (c1 k x hx), ht, fun k x hx => Classical.not_not.1 (d1 k x hx)⟩, rfl⟩
        · rw [d2]
          exact .inr ⟨fun hv => hb (hv.2.2.2 k x hx), rfl⟩
    · rw [c2]
      exact .inr ⟨fun hv => hb (hv.2.1 k x hx), rfl⟩
  · exact .inr ⟨fun hv => hs hv.1, h1⟩
theorem d2i {h : Hall} (hk : b5p h) : (V h ∧ b5y h = some 0) ∨ (¬ V h ∧ b5y h = some 60) := by
  rcases d9b hk with hs | ⟨hs, _, h1⟩
  · have e1 : h.Combs.length ≤ maxLen := hk.1.1
    have e2 : h.Trains.length ≤ maxLen := hk.2.1.1
    have e3 : h.Shifts.length ≤ maxLen := hk.2.2.1.1
    have hu : wr (h.Until - 1) = h.Until - 1 := b6v (by have := hs.1; omega) (by have := hs.2.1; omega)
    have hn := d9u e1
    unfold b5y
    rw [if_neg (by simp only [b2b, Bool.or_eq_true, Bool.not_eq_true', Bool.and_eq_false_iff, decide_eq_false_iff_not, decide_eq_true_eq]; unfold b6f at hs; omega)]
    rcases c2z (f := c0w h) h.Combs (fun k x => ¬ b4e h.Combs.length k x) (.inr 60) (.inl ()) (fun k x _ hx hb => by
        simp only [c0w, b1d hx, Option.bind_some, hn, b2f (b1b hx) e1]
        rw [if_pos (by simpa using b1b hx), if_pos]
        simp only [b2b, b38, Bool.or_eq_true, Bool.and_eq_true, Bool.not_eq_true', Bool.and_eq_false_iff, decide_eq_false_iff_not, decide_eq_true_eq]
        unfold b4e at hb; omega) (fun k x _ hx hb => by
        have hb := Classical.not_not.1 hb
        simp only [c0w, b1d hx, Option.bind_some, hn, b2f (b1b hx) e1]
        rw [if_pos (by simpa using b1b hx), if_neg]
        simp only [b2b, b38, Bool.or_eq_true, Bool.and_eq_true, Bool.not_eq_true', Bool.and_eq_false_iff, decide_eq_false_iff_not, decide_eq_true_eq]
        unfold b4e at hb; omega) (by simp [c0w]) with ⟨c1, c2⟩ | ⟨⟨k, x, hx, hb⟩, c2⟩
    · rw [c2]
      simp only [Option.bind_some, c6q]
      rcases c2z (f := c0x h) h.Trains (fun _ x => ¬ b9s h.Combs.length h.Until x) (.inr 60) (.inl ()) (fun k x _ hx hb => by
          simp only [c0x, b1d hx, Option.bind_some, hu]
          rw [if_pos (by simpa using b1b hx)]
          by_cases q : ¬ (0 ≤ x.At.Low ∧ x.At.Low ≤ x.At.High ∧ x.At.High ≤ h.Until - 1) ∨ 4 < x.Crowds.length
          · rw [if_pos]
            simp only [b38, Bool.or_eq_true, Bool.not_eq_true', Bool.and_eq_false_iff, decide_eq_false_iff_not, decide_eq_true_eq]
            omega
          · rw [if_neg (by
              simp only [b38, Bool.or_eq_true, Bool.not_eq_true', Bool.and_eq_false_iff, decide_eq_false_iff_not, decide_eq_true_eq]
              omega)]
            rcases d3r hk hs (hk.2.1.2 x (List.mem_of_getElem? hx)) with ⟨d1, d2⟩ | ⟨_, d2⟩
            · exact absurd ⟨by omega, by omega, by omega, by omega, d1⟩ hb
            · rw [d2]; rfl) (fun k x _ hx hb => by
          have hb := Classical.not_not.1 hb
          obtain ⟨q1, q2, q3, q4, q5⟩ := hb
          simp only [c0x, b1d hx, Option.bind_some, hu]
          rw [if_pos (by simpa using b1b hx), if_neg (by
              simp only [b38, Bool.or_eq_true, Bool.not_eq_true', Bool.and_eq_false_iff, decide_eq_false_iff_not, decide_eq_true_eq]
              omega)]
          rcases d3r hk hs (hk.2.1.2 x (List.mem_of_getElem? hx)) with ⟨d1, d2⟩ | ⟨⟨j, y, hy, hb⟩, d2⟩
          · rw [d2]; simp only [Option.bind_some, c6p, b2f (b1b hx) e2]
          · exact absurd (q5 j y hy) hb) (by simp [c0x]) with ⟨t1, t2⟩ | ⟨⟨k, x, hx, hb⟩, t2⟩
      · rw [t2]
        simp only [Option.bind_some, c6r]
        rcases c2z (f := c0y h) h.Shifts (fun k x => ¬ b9r h.Combs.length h.Until h.Shifts k x) (.inr 60) (.inl ()) (fun k x _ hx hb => by
            simp only [c0y, b1d hx, Option.bind_some, hu, hn]
            rw [if_pos (by simpa using b1b hx)]
            unfold b9r at hb
            by_cases q : 0 ≤ x.At ∧ x.At < h.Until ∧ 0 ≤ x.Comb ∧ x.Comb < h.Combs.length ∧ 0 ≤ x.Rate ∧ x.Rate ≤ 1000
            · rw [if_neg (by
                simp only [b2b, Bool.or_eq_true, Bool.not_eq_true', Bool.and_eq_false_iff, decide_eq_false_iff_not, decide_eq_true_eq]
                omega)]
              cases k with
              | zero => exact absurd ⟨q.1, q.2.1, q.2.2.1, q.2.2.2.1, q.2.2.2.2.1, q.2.2.2.2.2, fun j y hj => by omega⟩ hb
              | succ j =>
                obtain ⟨y, hy⟩ := b1n (show j < h.Shifts.length by have := b1b hx; omega)
                rw [if_pos (by simp <;> omega), c7i (b1b hx) e3, b1d hy]
                simp only [Option.bind_some]
                rw [if_pos]
                simp only [decide_eq_true_eq]
                refine Classical.byContradiction fun hc => hb ⟨by omega, by omega, by omega, by omega, by omega, by omega, fun j' y' hj' hy' => by
                  obtain rfl : j' = j := by omega
                  rw [hy] at hy'; cases hy'; omega⟩
            · rw [if_pos (by
                simp only [b2b, Bool.or_eq_true, Bool.not_eq_true', Bool.and_eq_false_iff, decide_eq_false_iff_not, decide_eq_true_eq]
                omega)]
              simp) (fun k x _ hx hb => by
            have hb := Classical.not_not.1 hb
            obtain ⟨q1, q2, q3, q4, q5, q6, q7⟩ := hb
            simp only [c0y, b1d hx, Option.bind_some, hu, hn]
            rw [if_pos (by simpa using b1b hx), if_neg (by
                simp only [b2b, Bool.or_eq_true, Bool.not_eq_true', Bool.and_eq_false_iff, decide_eq_false_iff_not, decide_eq_true_eq]
                omega)]
            cases k with
            | zero => simp; rfl
            | succ j =>
              obtain ⟨y, hy⟩ := b1n (show j < h.Shifts.length by have := b1b hx; omega)
              have := q7 j y rfl hy
              rw [if_pos (by simp <;> omega), c7i (b1b hx) e3, b1d hy]
              simp only [Option.bind_some]
              rw [if_neg (by simp only [decide_eq_true_eq]; omega), b2f (b1b hx) e3]) (by simp [c0y]) with ⟨d1, d2⟩ | ⟨⟨k, x, hx, hb⟩, d2⟩
        · rw [d2]
          exact .inl ⟨⟨hs, fun k x hx => Classical.not_not.1 (c1 k x hx), fun k x hx => Classical.not_not.1 (t1 k x hx), fun k x hx => Classical.not_not.1 (d1 k x hx)⟩, rfl⟩
        · rw [d2]
          exact .inr ⟨fun hv => hb (hv.2.2.2 k x hx), rfl⟩
      · rw [t2]
        exact .inr ⟨fun hv => hb (hv.2.2.1 k x hx), rfl⟩
    · rw [c2]
      exact .inr ⟨fun hv => hb (hv.2.1 k x hx), rfl⟩
  · exact .inr ⟨fun hv => hs hv.1, h1⟩
theorem g02 {h : Hall} (hk : b5p h) : (V h ∧ b5h h = some 0 ∧ b5y h = some 0) ∨ (¬ V h ∧ b5h h = some 60 ∧ b5y h = some 60) := by
  rcases g03 hk with ⟨h1, h2⟩ | ⟨h1, h2⟩ <;> rcases d2i hk with ⟨h3, h4⟩ | ⟨h3, h4⟩
  · exact .inl ⟨h1, h2, h4⟩
  · exact absurd h1 h3
  · exact absurd h3 h1
  · exact .inr ⟨h1, h2, h4⟩
def T (h : Hall) : Nat := h.Until.toNat
def b7p (h : Hall) (c : Nat) : Int := ((h.Combs[c]?).map (·.Rate)).getD 0
def b6d (c : Nat) (t : Int) (a : Int) (s : Shift) : Int := if s.Comb = (c : Int) ∧ s.At ≤ t then s.Rate else a
def b1y (h : Hall) (c : Nat) (t : Nat) : Int := h.Shifts.foldl (b6d c t) (b7p h c)
theorem b6x {h : Hall} (hv : V h) : (T h : Int) = h.Until := by have := hv.1.1; unfold T; omega
theorem b4k {h : Hall} (hv : V h) : T h ≤ 100 := by have := hv.1.2.1; unfold T; omega
def c3u (c : Nat) (a : Int) (s : Shift) : Int := if s.Comb = (c : Int) then s.Rate else a
def G (h : Hall) (c k : Nat) : Int := (h.Shifts.take k).foldl (c3u c) (b7p h c)
theorem g1b {h : Hall} {c k : Nat} {x : Shift} (hx : h.Shifts[k]? = some x) : G h c (k + 1) = if x.Comb = (c : Int) then x.Rate else G h c k := by
  unfold G
  rw [List.take_add_one, hx]
  simp [List.foldl_append, c3u]
theorem j9j {h : Hall} (hv : V h) : ∀ (d j : Nat) (x y : Shift), h.Shifts[j]? = some x → h.Shifts[j + d]? = some y → x.At ≤ y.At := by
  intro d
  induction d with
  | zero => intro j x y hx hy; rw [Nat.add_zero, hx] at hy; cases hy; exact Int.le_refl _
  | succ d ih =>
    intro j x y hx hy
    obtain ⟨z, hz⟩ := b1n (show j + d < h.Shifts.length by have := b1b hy; omega)
    have h1 := ih j x z hx hz
    have h2 := (hv.2.2.2 _ y hy).2.2.2.2.2.2 (j + d) z (by omega) hz
    omega
def d2n (h : Hall) (t : Int) (k : Nat) : Prop := k ≤ h.Shifts.length ∧ (∀ j x, j < k → h.Shifts[j]? = some x → x.At ≤ t) ∧ ∀ x, h.Shifts[k]? = some x → t < x.At
theorem g1a {h : Hall} (hv : V h) {c k t : Nat} (hu : d2n h t k) : G h c k = b1y h c t := by
  unfold G b1y
  conv => rhs; rw [← List.take_append_drop k h.Shifts, List.foldl_append]
  have e1 : (h.Shifts.take k).foldl (c3u c) (b7p h c) = (h.Shifts.take k).foldl (b6d c t) (b7p h c) := by
    have : ∀ (l : List Shift), (∀ x ∈ l, x.At ≤ (t : Int)) → ∀ a, l.foldl (c3u c) a = l.foldl (b6d c t) a := by
      intro l
      induction l with
      | nil => intro _ a; rfl
      | cons s l ih =>
        intro hl a
        simp only [List.foldl_cons]
        rw [ih (fun x hx => hl x (List.mem_cons_of_mem _ hx))]
        congr 1
        simp [c3u, b6d, hl s List.mem_cons_self]
    refine this _ (fun x hx => ?_) _
    obtain ⟨j, hj, rfl⟩ := List.getElem_of_mem hx
    have hj' : j < k := by simp at hj; omega
    have hjl : j < h.Shifts.length := by simp at hj; omega
    refine hu.2.1 j _ hj' ?_
    rw [List.getElem_take, List.getElem?_eq_getElem hjl]
  rw [e1]
  have : ∀ (l : List Shift), (∀ x ∈ l, (t : Int) < x.At) → ∀ a, l.foldl (b6d c t) a = a := by
    intro l
    induction l with
    | nil => intro _ a; rfl
    | cons s l ih =>
      intro hl a
      have := hl s List.mem_cons_self
      simp only [List.foldl_cons]
      rw [show b6d c t a s = a from by unfold b6d; rw [if_neg (by omega)]]
      exact ih (fun x hx => hl x (List.mem_cons_of_mem _ hx)) a
  refine (this _ ?_ _).symm
  intro x hx
  obtain ⟨j, hj, rfl⟩ := List.getElem_of_mem hx
  have hjl : k + j < h.Shifts.length := by simp at hj; omega
  obtain ⟨z, hz⟩ := b1n (show k < h.Shifts.length by omega)
  have h1 := hu.2.2 z hz
  have h2 := j9j hv j k z _ hz (List.getElem?_eq_getElem hjl)
  rw [List.getElem_drop]
  omega
theorem c51 {h : Hall} (hv : V h) (c t : Nat) : ∀ (d k : Nat), h.Shifts.length - k = d → k ≤ h.Shifts.length → (∀ j x, j < k → h.Shifts[j]? = some x → x.At ≤ (t : Int)) →
    ∃ k', b07 (c0c h c t) (G h c k, (k : Int)) = some (G h c k', (k' : Int)) ∧ d2n h t k' := by
  have hl : h.Shifts.length ≤ maxLen := by have := hv.1.2.2.2.2.2; simp only [maxLen]; omega
  intro d
  induction d with
  | zero =>
    intro k hd hk hb
    have : k = h.Shifts.length := by omega
    subst this
    refine ⟨h.Shifts.length, b5l (by simp [c0c]), Nat.le_refl _, hb, fun x hx => ?_⟩
    have := b1b hx; omega
  | succ d ih =>
    intro k hd hk hb
    obtain ⟨x, hx⟩ := b1n (show k < h.Shifts.length by omega)
    by_cases hat : x.At ≤ (t : Int)
    · rw [c0o (s' := (G h c (k + 1), ((k + 1 : Nat) : Int))) (by
        simp only [c0c, b1d hx, Option.bind_some]
        rw [if_pos (by simpa using b1b hx)]
        simp only [Option.bind_some, hat, decide_true, if_true, c2n, b2f (b1b hx) hl, g1b hx]
        by_cases e : x.Comb = (c : Int)
        · simp [e]
        · simp [e])]
      refine ih (k + 1) (by omega) (by omega) fun j y hj hy => ?_
      by_cases e : j = k
      · subst e; rw [hx] at hy; cases hy; exact hat
      · exact hb j y (by omega) hy
    · refine ⟨k, b5l (by
        simp only [c0c, b1d hx, Option.bind_some]
        rw [if_pos (by simpa using b1b hx)]
        simp [hat]), by omega, hb, fun y hy => ?_⟩
      rw [hx] at hy; cases hy; omega
theorem d8r {h : Hall} (hv : V h) {c : Nat} (hc : c < h.Combs.length) : c0b h c = some (tab (T h) (b1y h c)) := by
  obtain ⟨x, hx⟩ := b1n hc
  have hT := b4k hv
  unfold c0b
  rw [← b6x hv, c6d (by omega) (by omega)]
  simp only [Option.bind_some, b1d hx]
  obtain ⟨b, h1, h2⟩ := d01 (f := c2m h c (tab (T h) fun _ => 0)) (T h) (fun (s : List Int × Int × Int) k => (s.1, s.2.1, s.2.2, k))
    (fun k s => ∃ m : Nat, s = (fill (T h) (b1y h c) 0 k, G h c m, (m : Int)) ∧ m ≤ h.Shifts.length ∧ ∀ j x, j < m → h.Shifts[j]? = some x → x.At < (k : Int)) (fun b => b = tab (T h) (b1y h c))
    (fun s k hk ⟨m, hs, hm, hm2⟩ => by
      subst hs
      obtain ⟨k', i1, i2⟩ := c51 hv c k (h.Shifts.length - m) m rfl hm fun j x hj hx => by have := hm2 j x hj hx; omega
      refine .inl ⟨(fill (T h) (b1y h c) 0 (k + 1), G h c k', (k' : Int)), ?_, k', rfl, i2.1, fun j x hj hx => by have := i2.2.1 j x hj hx; omega⟩
      simp only [c2m, b33]
      rw [if_pos (by simpa using hk), i1]
      simp only [Option.bind_some, c5o, d4t hk, c5n, b2f hk (by simp only [maxLen]; omega)]
      rw [show ((k : Nat) : Int).toNat = k from by omega, d4j (g1a hv i2)])
    (fun s ⟨m, hs, _⟩ => by
      subst hs
      exact ⟨fill (T h) (b1y h c) 0 (T h), by simp [c2m, b33], by rw [d4i (Nat.le_refl _)]⟩) (s := (tab (T h) (fun _ => 0), x.Rate, 0)) 0 (by omega) ⟨0, by
        rw [← c7b, d4k (f := b1y h c)]
        simp [G, b7p, hx], by omega, fun j x hj => by omega⟩
  simp only at h1
  rw [show ((0 : Nat) : Int) = 0 from rfl] at h1
  rw [h1, h2]; rfl
theorem c6v {h : Hall} (hv : V h) {c : Nat} (t : Nat) : 0 ≤ b1y h c t ∧ b1y h c t ≤ 1000 := by
  unfold b1y
  have h0 : 0 ≤ b7p h c ∧ b7p h c ≤ 1000 := by
    unfold b7p
    cases hx : h.Combs[c]? with
    | none => simp
    | some x => have := hv.2.1 c x hx; simp [b4e] at this ⊢; omega
  have : ∀ (l : List Shift), (∀ x ∈ l, 0 ≤ x.Rate ∧ x.Rate ≤ 1000) → ∀ a, 0 ≤ a ∧ a ≤ 1000 → 0 ≤ l.foldl (b6d c t) a ∧ l.foldl (b6d c t) a ≤ 1000 := by
    intro l
    induction l with
    | nil => intro _ a ha; exact ha
    | cons s l ih =>
      intro hl a ha
      refine ih (fun x hx => hl x (List.mem_cons_of_mem _ hx)) _ ?_
      have := hl s List.mem_cons_self
      unfold b6d; split <;> omega
  refine this _ (fun x hx => ?_) _ h0
  obtain ⟨j, hj, rfl⟩ := List.getElem_of_mem hx
  have := hv.2.2.2 j _ (List.getElem?_eq_getElem hj)
  exact ⟨this.2.2.2.2.1, this.2.2.2.2.2.1⟩
theorem j6p {h : Hall} (hv : V h) : b7c h = some (tab h.Combs.length fun c => tab (T h) (b1y h c)) := by
  unfold b7c
  have hn := hv.1.2.2.2.1
  have := b37 (f := c2l h) h.Combs.length (fun s k => (s, k)) (fun k => tab k fun c => tab (T h) (b1y h c)) (tab h.Combs.length fun c => tab (T h) (b1y h c)) (s0 := []) rfl (fun k hk => by
    simp only [c2l]
    rw [if_pos (by simpa using hk), d8r hv hk]
    simp only [Option.bind_some]
    rw [b50 (by simp [b33]; omega)]
    simp only [Option.bind_some, b2f hk (by simp only [maxLen]; omega), b80]) (by simp [c2l])
  rw [this]; rfl
def b4y (c : Nat) (y : Crowd) : Int := if y.Comb = (c : Int) then y.People.High else 0
def b3u (c s t : Nat) (x : Train) : Int := if x.At.High < (s : Int) ∨ (t : Int) < x.At.Low then 0 else (x.Crowds.map (b4y c)).sum
def b4n (h : Hall) (c s t : Nat) : Int := (h.Trains.map (b3u c s t)).sum
theorem c8v {h : Hall} (hv : V h) {x : Train} (hx : x ∈ h.Trains) (c k : Nat) (hk : k ≤ x.Crowds.length) : 0 ≤ b3o x.Crowds (b4y c) k ∧ b3o x.Crowds (b4y c) k ≤ 4000 := by
  obtain ⟨j, hj, rfl⟩ := List.getElem_of_mem hx
  have hg := hv.2.2.1 j _ (List.getElem?_eq_getElem hj)
  have := d8q (l := h.Trains[j].Crowds) (g := b4y c) (B := 1000) (fun y hy => by
    obtain ⟨i, hi, rfl⟩ := List.getElem_of_mem hy
    have := hg.2.2.2.2 i _ (List.getElem?_eq_getElem hi)
    unfold b4q at this
    unfold b4y; split <;> omega) k hk
  have := hg.2.2.2.1
  omega
theorem d9k {h : Hall} (hv : V h) {x : Train} (hx : x ∈ h.Trains) (c s t : Nat) : 0 ≤ b3u c s t x ∧ b3u c s t x ≤ 4000 := by
  unfold b3u
  split
  · omega
  · rw [← c0u]; exact c8v hv hx c _ (Nat.le_refl _)
theorem d9l {h : Hall} (hv : V h) (c s t k : Nat) (hk : k ≤ h.Trains.length) : 0 ≤ b3o h.Trains (b3u c s t) k ∧ b3o h.Trains (b3u c s t) k ≤ 48000 := by
  have := d8q (l := h.Trains) (g := b3u c s t) (B := 4000) (fun x hx => d9k hv hx c s t) k hk
  have := hv.1.2.2.2.2.1
  omega
theorem d21 {h : Hall} (hv : V h) (c s t : Nat) : 0 ≤ b4n h c s t ∧ b4n h c s t ≤ 48000 := by
  unfold b4n; rw [← c0u]; exact d9l hv c s t _ (Nat.le_refl _)
theorem b2g {n : Int} (h1 : -1000000000000 ≤ n) (h2 : n ≤ 1000000000000) : wr n = n := b6v (by omega) (by omega)
theorem g2h {h : Hall} (hv : V h) (c s t : Nat) : c2g h c s t = some (b4n h c s t) := by
  have e2 : h.Trains.length ≤ maxLen := by have := hv.1.2.2.2.2.1; simp only [maxLen]; omega
  unfold c2g
  have := b37 (f := c2i h c s t) h.Trains.length (fun s k => (s, k)) (b3o h.Trains (b3u c s t)) (b4n h c s t) (s0 := 0) c3g.symm (fun k hk => by
    obtain ⟨x, hx⟩ := b1n hk
    have hm := List.mem_of_getElem? hx
    simp only [c2i, b1d hx, Option.bind_some]
    rw [if_pos (by simpa using hk), c0v hx]
    have hb := d9l hv c s t k (by omega)
    by_cases q : x.At.High < (s : Int) ∨ (t : Int) < x.At.Low
    · rw [if_pos (by simpa using q)]
      simp only [b97, b2f hk e2]
      rw [show b3u c s t x = 0 from if_pos q, Int.add_zero]
    · rw [if_neg (by simpa using q)]
      have e3 : x.Crowds.length ≤ maxLen := by have := (hv.2.2.1 k x hx).2.2.2.1; simp only [maxLen]; omega
      have := b37 (f := c2h c x) x.Crowds.length (fun s k => (s, k)) (fun j => b3o h.Trains (b3u c s t) k + b3o x.Crowds (b4y c) j) (b3o h.Trains (b3u c s t) k + b3u c s t x) (s0 := b3o h.Trains (b3u c s t) k) (by simp [c3g]) (fun j hj => by
        obtain ⟨y, hy⟩ := b1n hj
        have hc1 := c8v hv hm c j (by omega)
        have hc2 := c8v hv hm c (j + 1) (by omega)
        simp only [c2h, b1d hy, Option.bind_some]
        rw [if_pos (by simpa using hj), c0v hy]
        rw [c0v hy] at hc2
        by_cases e : y.Comb = (c : Int)
        · rw [if_pos (by simpa using e)]
          rw [show b4y c y = y.People.High from if_pos e] at hc2 ⊢
          simp only [b95, b2f hj e3]
          rw [b2g (by omega) (by omega), Int.add_assoc]
        · rw [if_neg (by simpa using e)]
          rw [show b4y c y = 0 from if_neg e]
          simp only [b95, b2f hj e3, Int.add_zero]) (by
        simp only [c2h]
        rw [if_neg (by simp), c0u, show b3u c s t x = (x.Crowds.map (b4y c)).sum from if_neg q])
      rw [this]
      simp only [Option.bind_some, b97, b2f hk e2]) (by
    simp only [c2i]
    rw [if_neg (by simp), c0u]; rfl)
  rw [this]; rfl
structure Bd where
  come : Nat → Nat → Int
  most : Nat → Int
  flow : Nat → Int
  deriving Inhabited
def b4b (b : Bd) (to k : Nat) : Int := if k < to then b.come (k + 1) to else 0
def way (b : Bd) (a to k : Nat) : Int := b0m b.flow k - b0m b.flow a + b.most k + b4b b to k
def b8s (b : Bd) (a to : Nat) : Int := b58 (min (b.come 0 to) (b0m b.flow (to + 1) - b0m b.flow a)) (way b a to) a (to + 1 - a)
def b7k (b : Bd) (from_ to_ : Int) : Int := if to_ < from_ ∨ to_ < 0 then 0 else b8s b (max from_ 0).toNat to_.toNat
def b2s (h : Hall) (c : Nat) (prev : Nat → Bd) (s t u : Nat) : Int := match h.Combs[u]? with
  | some x => if x.Next = (c : Int) then b7k (prev u) ((s : Int) - x.Walk.High) ((t : Int) - x.Walk.Low) else 0
  | none => 0
def b4w (h : Hall) (c : Nat) (prev : Nat → Bd) (s t : Nat) : Int := b4n h c s t + b0m (b2s h c prev s t) c
def c6e (come : Nat → Nat → Int) (R : Nat → Int) (t : Nat) : Int := b5k 0 (fun s => come s t - (b0m R t - b0m R s)) 0 (t + 1)
def c0p (h : Hall) (R : Nat → Nat → Int) (c : Nat) (prev : Nat → Bd) : Bd :=
  { come := b4w h c prev, most := c6e (b4w h c prev) (R c), flow := fun t => min (c6e (b4w h c prev) (R c) t) (R c t) }
def bdL (h : Hall) (R : Nat → Nat → Int) : Nat → Nat → Bd
  | 0 => fun _ => default
  | n + 1 => fun u => if u = n then c0p h R n (bdL h R n) else bdL h R n u
def bd (h : Hall) (R : Nat → Nat → Int) (c : Nat) : Bd := bdL h R (c + 1) c
theorem d2w {h : Hall} {R : Nat → Nat → Int} {n u : Nat} : bdL h R (n + 1) u = if u = n then c0p h R n (bdL h R n) else bdL h R n u := rfl
theorem g1s {h : Hall} {R : Nat → Nat → Int} {n u : Nat} (hu : u < n) : bdL h R n u = bd h R u := by
  induction n with
  | zero => omega
  | succ n ih =>
    by_cases e : u = n
    · subst e; rfl
    · rw [d2w, if_neg e]; exact ih (by omega)
theorem l04 {h : Hall} {c s t u : Nat} {p q : Nat → Bd} (hpq : p u = q u) : b2s h c p s t u = b2s h c q s t u := by
  unfold b2s; rw [hpq]
theorem g4j {h : Hall} {c : Nat} {p q : Nat → Bd} (hpq : ∀ u, u < c → p u = q u) : b4w h c p = b4w h c q := by
  funext s t
  unfold b4w
  rw [b6b fun u hu => l04 (hpq u hu)]
theorem b72 {h : Hall} {R : Nat → Nat → Int} {c : Nat} : bd h R c = c0p h R c (bd h R) := by
  have : bd h R c = c0p h R c (bdL h R c) := by show bdL h R (c + 1) c = _; rw [d2w, if_pos rfl]
  rw [this]
  unfold c0p
  rw [g4j fun u hu => g1s hu]
structure BdOk (b : Bd) (n : Nat) (B : Int) : Prop where
  come : ∀ s t, s ≤ t → t < n → 0 ≤ b.come s t ∧ b.come s t ≤ B
  most : ∀ t, t < n → 0 ≤ b.most t ∧ b.most t ≤ B
  flow : ∀ t, t < n → 0 ≤ b.flow t ∧ b.flow t ≤ 1000
def b4x (n : Nat) (b : Bd) (s : Nat) : List Int := tab n fun t => if s ≤ t then b.come s t else 0
def bdT (n : Nat) (b : Bd) (r : Nat → Int) : halls_bound := ⟨tab (n + 1) (b0m r), tab (n + 1) (b0m b.flow), tab n b.most, tab n (b4x n b)⟩
theorem c8s {n : Nat} {b : Bd} {s t : Nat} (ht : t < n) (hst : s ≤ t) : get (b4x n b s) (t : Int) = some (b.come s t) := by
  unfold b4x; rw [b2l ht, if_pos hst]
section
variable {n : Nat} {b : Bd} {B : Int} (hb : BdOk b n B) (hB : B ≤ 1000000000) (hn : n ≤ 1000) {r : Nat → Int}
include hb hB hn
theorem c4y {a k : Nat} (hak : a ≤ k) (hk : k ≤ n) : 0 ≤ b0m b.flow k - b0m b.flow a ∧ b0m b.flow k - b0m b.flow a ≤ 1000000 := by
  have := j5t (f := b.flow) (B := 1000) hak fun i h1 h2 => hb.flow i (by omega)
  omega
theorem d2x {to k : Nat} (hk : k ≤ to) (hto : to < n) : 0 ≤ b4b b to k ∧ b4b b to k ≤ B := by
  have := hb.most k (by omega)
  unfold b4b; split
  · exact hb.come _ _ (by omega) hto
  · omega
theorem l07 {a to k : Nat} (hak : a ≤ k) (hk : k ≤ to) (hto : to < n) : 0 ≤ way b a to k ∧ way b a to k ≤ 3000000000 := by
  have h1 := c4y hb hB hn hak (show k ≤ n by omega)
  have h2 := hb.most k (by omega)
  have h3 := d2x hb hB hn hk hto
  unfold way; omega
theorem j7f {a to : Nat} (ha : a ≤ to) (hto : to < n) : 0 ≤ b8s b a to ∧ b8s b a to ≤ B := by
  have h1 := hb.come 0 to (by omega) hto
  have h2 := c4y hb hB hn (show a ≤ to + 1 by omega) (show to + 1 ≤ n by omega)
  unfold b8s
  refine ⟨d0x.2 ⟨by omega, fun i hi => (l07 hb hB hn (by omega) (show a + i ≤ to by omega) hto).1⟩, ?_⟩
  have := j10 (z := min (b.come 0 to) (b0m b.flow (to + 1) - b0m b.flow a)) (g := way b a to) (a := a) (n := to + 1 - a)
  omega
theorem d8j {f t : Int} (ht : t < n) : 0 ≤ b7k b f t ∧ b7k b f t ≤ max 0 B := by
  unfold b7k
  split
  · omega
  · have := j7f hb hB hn (a := (max f 0).toNat) (to := t.toNat) (by omega) (by omega)
    omega
theorem j7h {f t : Int} (hf : -1000 ≤ f) (ht : t < n) : c1f (bdT n b r) f t = some (b7k b f t) := by
  unfold c1f b7k
  by_cases q : t < f ∨ t < 0
  · rw [if_pos (by simpa using q), if_pos q]
  · rw [if_neg (by simpa using q), if_neg q]
    obtain ⟨to, hto⟩ : ∃ to : Nat, t = to := ⟨t.toNat, by omega⟩
    subst hto
    obtain ⟨a, ha⟩ : ∃ a : Nat, max f 0 = a := ⟨(max f 0).toNat, by omega⟩
    have hm : mx f 0 = (a : Int) := by rw [d1a]; exact ha
    have hat : a ≤ to := by omega
    have hton : to < n := by omega
    rw [hm, ha]
    have e0 : ((0 : Int)) = ((0 : Nat) : Int) := rfl
    simp only [bdT]
    rw [e0, b2l (show 0 < n by omega)]
    simp only [Option.bind_some]
    rw [c8s hton (by omega), show wr ((to : Int) + 1) = ((to + 1 : Nat) : Int) from by rw [b2g (by omega) (by omega)]; omega, b2l (show to + 1 < n + 1 by omega)]
    simp only [Option.bind_some]
    rw [b2l (show a < n + 1 by omega)]
    simp only [Option.bind_some]
    have hc := hb.come 0 to (by omega) hton
    have hfd := c4y hb hB hn (show a ≤ to + 1 by omega) (show to + 1 ≤ n by omega)
    rw [b2g (by omega) (by omega), c0q]
    have := d7i (f := c1g ⟨tab (n + 1) (b0m r), tab (n + 1) (b0m b.flow), tab n b.most, tab n (b4x n b)⟩ f to) (to + 1) (fun s k => (s, k))
      (fun k => b58 (min (b.come 0 to) (b0m b.flow (to + 1) - b0m b.flow a)) (way b a to) a (k - a)) (b8s b a to) (s0 := min (b.come 0 to) (b0m b.flow (to + 1) - b0m b.flow a)) a (by rw [Nat.sub_self]; rfl) (by omega) (fun k hak hk => ?_) (by
        simp only [c1g]
        rw [if_neg (by simp; omega)]; rfl)
    · rw [this]
      simp [c4e]
    · have hst : b58 (min (b.come 0 to) (b0m b.flow (to + 1) - b0m b.flow a)) (way b a to) a (k + 1 - a) = min (b58 (min (b.come 0 to) (b0m b.flow (to + 1) - b0m b.flow a)) (way b a to) a (k - a)) (way b a to k) := by
        rw [show k + 1 - a = (k - a) + 1 by omega]
        show min _ (way b a to (a + (k - a))) = _
        rw [show a + (k - a) = k by omega]
      rw [hst]
      have hfk := c4y hb hB hn hak (show k ≤ n by omega)
      have hmk := hb.most k (by omega)
      have hbk := d2x hb hB hn (show k ≤ to by omega) hton
      have fin2 : ∀ L : Int, b88 ⟨tab (n + 1) (b0m r), tab (n + 1) (b0m b.flow), tab n b.most, tab n (b4x n b)⟩ f L k (b4b b to k) = some (.nx (min L (way b a to k), (k : Int) + 1)) := fun L => by
        unfold b88
        simp only [hm]
        rw [b2l (show k < n + 1 by omega)]
        simp only [Option.bind_some]
        rw [b2l (show a < n + 1 by omega)]
        simp only [Option.bind_some]
        rw [b2l (show k < n by omega)]
        simp only [Option.bind_some]
        rw [b2g (n := b0m b.flow k - b0m b.flow a) (by omega) (by omega), b2g (n := b0m b.flow k - b0m b.flow a + b.most k) (by omega) (by omega), b2g (n := b0m b.flow k - b0m b.flow a + b.most k + b4b b to k) (by omega) (by omega), b2g (n := (k : Int) + 1) (by omega) (by omega), c0q]
        rfl
      simp only [c1g]
      rw [if_pos (by simp; omega)]
      by_cases e : k < to
      · rw [if_pos (by simpa using e), show wr ((k : Int) + 1) = ((k + 1 : Nat) : Int) from by rw [b2g (by omega) (by omega)]; omega, b2l (show k + 1 < n by omega)]
        simp only [Option.bind_some]
        rw [c8s hton (by omega)]
        simp only [Option.bind_some]
        rw [show b.come (k + 1) to = b4b b to k from by unfold b4b; rw [if_pos e]]
        exact fin2 _
      · rw [if_neg (by simpa using e)]
        have := fin2 (b58 (min (b.come 0 to) (b0m b.flow (to + 1) - b0m b.flow a)) (way b a to) a (k - a))
        rw [show b4b b to k = 0 from by unfold b4b; rw [if_neg e]] at this
        exact this
end
def Bn (c : Nat) : Int := 48000 * 2 ^ c
theorem c7j (c : Nat) : Bn (c + 1) = 2 * Bn c := by unfold Bn; rw [Int.pow_succ]; omega
theorem c3y (c : Nat) : 48000 ≤ Bn c := by
  induction c with
  | zero => simp [Bn]
  | succ c ih => rw [c7j]; omega
theorem d2f (c : Nat) : b0m Bn c = Bn c - 48000 := by
  induction c with
  | zero => simp [b46, Bn]
  | succ c ih => rw [b2u, ih, c7j]; omega
theorem g01 {a b : Nat} (h : a ≤ b) : Bn a ≤ Bn b := by
  induction b with
  | zero => have : a = 0 := by omega
            subst this; exact Int.le_refl _
  | succ b ih =>
    by_cases e : a = b + 1
    · subst e; exact Int.le_refl _
    · have := ih (by omega); have := c3y b; rw [c7j]; omega
theorem c07 {c : Nat} (h : c ≤ 8) : Bn c ≤ 1000000000 := by
  have := g01 h
  have e : Bn 8 = 12288000 := by decide
  omega
theorem c0t {f g : Nat → Int} : ∀ {k : Nat}, (∀ i, i < k → f i ≤ g i) → b0m f k ≤ b0m g k
  | 0, _ => by simp [b46]
  | k + 1, h => by rw [b2u, b2u]; have := c0t (k := k) fun i hi => h i (by omega); have := h k (by omega); omega
theorem d1i {f : Nat → Int} : ∀ {k : Nat}, (∀ i, i < k → 0 ≤ f i) → 0 ≤ b0m f k
  | 0, _ => by simp [b46]
  | k + 1, h => by rw [b2u]; have := d1i (k := k) fun i hi => h i (by omega); have := h k (by omega); omega
structure Rt (h : Hall) (R : Nat → Nat → Int) : Prop where
  r : ∀ c t, c < h.Combs.length → t < T h → 0 ≤ R c t ∧ R c t ≤ 1000
section
variable {h : Hall} (hv : V h) {R : Nat → Nat → Int} (hR : Rt h R)
include hv hR
theorem c1j : ∀ (c : Nat), c < h.Combs.length → BdOk (bd h R c) (T h) (Bn c) := by
  intro c
  induction c using Nat.strongRecOn with
  | _ c ih =>
    intro hc
    have hn := hv.1.2.2.2.1
    have hT := b4k hv
    have hw : ∀ s t u, s ≤ t → t < T h → u < c → 0 ≤ b2s h c (bd h R) s t u ∧ b2s h c (bd h R) s t u ≤ Bn u := fun s t u hst ht hu => by
      obtain ⟨x, hx⟩ := b1n (show u < h.Combs.length by omega)
      have hg := hv.2.1 u x hx
      unfold b4e at hg
      have hB := c3y u
      unfold b2s
      rw [hx]
      simp only
      split
      · have := d8j (ih u hu (by omega)) (c07 (by omega)) (show T h ≤ 1000 by omega) (f := (s : Int) - x.Walk.High) (t := (t : Int) - x.Walk.Low) (by omega)
        omega
      · omega
    have hcome : ∀ s t, s ≤ t → t < T h → 0 ≤ b4w h c (bd h R) s t ∧ b4w h c (bd h R) s t ≤ Bn c := fun s t hst ht => by
      unfold b4w
      have h1 := d21 hv c s t
      have h2 := d1i (f := b2s h c (bd h R) s t) (k := c) fun u hu => (hw s t u hst ht hu).1
      have h3 := c0t (f := b2s h c (bd h R) s t) (g := Bn) (k := c) fun u hu => (hw s t u hst ht hu).2
      rw [d2f] at h3
      omega
    have hmost : ∀ t, t < T h → 0 ≤ c6e (b4w h c (bd h R)) (R c) t ∧ c6e (b4w h c (bd h R)) (R c) t ≤ Bn c := fun t ht => by
      refine ⟨j1z, d0w.2 ⟨by have := c3y c; omega, fun i hi => ?_⟩⟩
      rw [Nat.zero_add]
      have h1 := hcome i t (by omega) ht
      have h2 := j5u (f := R c) (show i ≤ t by omega) fun j h1 h2 => (hR.r c j hc (by omega)).1
      omega
    rw [b72]
    exact ⟨hcome, hmost, fun t ht => by
      have h1 := hmost t ht
      have h2 := hR.r c t hc ht
      simp only [c0p]; omega⟩
theorem d9o {c : Nat} (hc : c < h.Combs.length) {s t : Nat} (hst : s ≤ t) (ht : t < T h) (u : Nat) (hu : u ≤ c) : 0 ≤ b0m (b2s h c (bd h R) s t) u ∧ b0m (b2s h c (bd h R) s t) u ≤ 1000000000 := by
  have hn := hv.1.2.2.2.1
  have hT := b4k hv
  have hw : ∀ u, u < c → 0 ≤ b2s h c (bd h R) s t u ∧ b2s h c (bd h R) s t u ≤ Bn u := fun u hu => by
    obtain ⟨x, hx⟩ := b1n (show u < h.Combs.length by omega)
    have hg := hv.2.1 u x hx
    unfold b4e at hg
    have hB := c3y u
    unfold b2s
    rw [hx]
    simp only
    split
    · have := d8j (c1j hv hR u (by omega)) (c07 (by omega)) (show T h ≤ 1000 by omega) (f := (s : Int) - x.Walk.High) (t := (t : Int) - x.Walk.Low) (by omega)
      omega
    · omega
  have h2 := d1i (f := b2s h c (bd h R) s t) (k := u) fun i hi => (hw i (by omega)).1
  have h3 := c0t (f := b2s h c (bd h R) s t) (g := Bn) (k := u) fun i hi => (hw i (by omega)).2
  rw [d2f] at h3
  have := c07 (c := u) (by omega)
  omega
def b5z (b : Bd) (n s t : Nat) : List Int := tab n fun i => if s ≤ i ∧ i < t then b.come s i else 0
theorem j8q {c : Nat} (hc : c < h.Combs.length) {s : Nat} (hs : s < T h) :
    b07 (b90 h (tab c fun u => bdT (T h) (bd h R u) (R u)) c s) (tab (T h) (fun _ => 0), (s : Int)) = some (b4x (T h) (bd h R c) s) := by
  have hn := hv.1.2.2.2.1
  have hT := b4k hv
  have hTi := b6x hv
  have hb := c1j hv hR c hc
  refine d7i (f := b90 h (tab c fun u => bdT (T h) (bd h R u) (R u)) c s) (T h) (fun r k => (r, k)) (b5z (bd h R c) (T h) s) _ s (by
    unfold b5z
    exact b6e fun i hi => by rw [if_neg (by omega)]) (by omega) (fun t hst ht => ?_) (by
    simp only [b90]
    rw [← hTi, if_neg (by simp)]
    simp only [b5z, b4x, Option.some.injEq, Out.br.injEq]
    exact b6e fun i hi => by by_cases q : s ≤ i <;> simp [q, hi])
  simp only [b90]
  rw [← hTi, if_pos (by simpa using ht), g2h hv]
  simp only [Option.bind_some]
  rw [show get (b5z (bd h R c) (T h) s t) (t : Int) = some 0 from by unfold b5z; rw [b2l ht, if_neg (by omega)]]
  simp only [Option.bind_some]
  rw [j9q (by omega) (by omega) (by omega)]
  simp only [Option.bind_some]
  have el : (h.Combs.take ((c : Int)).toNat).drop ((0 : Int)).toNat = h.Combs.take c := by simp
  rw [el]
  have hlen : (h.Combs.take c).length = c := by simp; omega
  have hat : ∀ u, u < c → (h.Combs.take c)[u]? = h.Combs[u]? := fun u hu => by rw [List.getElem?_take, if_pos hu]
  have := b37 (f := c2e (tab c fun u => bdT (T h) (bd h R u) (R u)) c s t (h.Combs.take c)) c (fun r k => (r, k))
    (fun u => (b5z (bd h R c) (T h) s t).set t (b4n h c s t + b0m (b2s h c (bd h R) s t) u)) (b5z (bd h R c) (T h) s (t + 1)) (s0 := (b5z (bd h R c) (T h) s t).set ((t : Int)).toNat (b4n h c s t)) (by simp [b46]) (fun u hu => by
      obtain ⟨x, hx⟩ := b1n (show u < h.Combs.length by omega)
      have hg := hv.2.1 u x hx
      unfold b4e at hg
      have hx' : (h.Combs.take c)[u]? = some x := by rw [hat u hu]; exact hx
      have hwb := d9o hv hR hc hst ht u (by omega)
      have hwb' := d9o hv hR hc hst ht (u + 1) (by omega)
      have hbb := d21 hv c s t
      simp only [c2e, hlen]
      rw [if_pos (by simpa using hu), b1d hx']
      simp only [Option.bind_some]
      rw [b2u] at hwb' ⊢
      by_cases e : x.Next = (c : Int)
      · rw [if_pos (by simpa using e)]
        rw [show get ((b5z (bd h R c) (T h) s t).set t (b4n h c s t + b0m (b2s h c (bd h R) s t) u)) (t : Int) = some (b4n h c s t + b0m (b2s h c (bd h R) s t) u) from by unfold b5z; rw [c3v, b2l ht, if_pos rfl]]
        simp only [Option.bind_some]
        rw [b2l hu]
        simp only [Option.bind_some]
        rw [b2g (n := (s : Int) - x.Walk.High) (by omega) (by omega), b2g (n := (t : Int) - x.Walk.Low) (by omega) (by omega),
          j7h (c1j hv hR u (by omega)) (c07 (by omega)) (by omega) (by omega) (by omega)]
        have ew : b2s h c (bd h R) s t u = b7k (bd h R u) ((s : Int) - x.Walk.High) ((t : Int) - x.Walk.Low) := by
          unfold b2s; rw [hx]; simp only; rw [if_pos e]
        rw [← ew]
        simp only [Option.bind_some, b94]
        rw [b2g (n := b4n h c s t + b0m (b2s h c (bd h R) s t) u + b2s h c (bd h R) s t u) (by omega) (by omega), b2g (n := (u : Int) + 1) (by omega) (by omega)]
        simp [Int.add_assoc]
      · rw [if_neg (by simpa using e)]
        have ew : b2s h c (bd h R) s t u = 0 := by
          unfold b2s; rw [hx]; simp only; rw [if_neg e]
        rw [ew, Int.add_zero]
        simp only [b94]
        rw [b2g (n := (u : Int) + 1) (by omega) (by omega)]) (by
      simp only [c2e, hlen]
      rw [if_neg (by simp)]
      simp only [Option.some.injEq, Out.br.injEq]
      unfold b5z
      rw [c3v]
      refine b6e fun i hi => ?_
      by_cases e : i = t
      · subst e
        rw [if_pos rfl, if_pos (by omega)]
        rw [b72]; rfl
      · rw [if_neg e]
        by_cases q : s ≤ i ∧ i < t
        · rw [if_pos q, if_pos (by omega)]
        · rw [if_neg q, if_neg (by omega)])
  rw [this]
  simp only [Option.bind_some, c5i]
  rw [b2g (n := (t : Int) + 1) (by omega) (by omega)]
end
section
variable {h : Hall} (hv : V h) {R : Nat → Nat → Int} (hR : Rt h R)
include hv hR
abbrev opT (h : Hall) (R : Nat → Nat → Int) : List (List Int) := tab h.Combs.length fun c => tab (T h) (R c)
omit hv in
theorem d1v {c : Nat} (hc : c < h.Combs.length) {k : Nat} (hk : k ≤ T h) : 0 ≤ b0m (R c) k ∧ b0m (R c) k ≤ 1000 * k :=
  b6a fun i hi => hR.r c i hc (by omega)
theorem g4i {c : Nat} (hc : c < h.Combs.length) :
    b07 (b91 h (opT h R) (tab c fun u => bdT (T h) (bd h R u) (R u)) c) ([0], [], 0) = some (tab (T h + 1) (b0m (R c)), tab (T h) (b4x (T h) (bd h R c))) := by
  have hT := b4k hv
  have hTi := b6x hv
  refine b37 (f := b91 h (opT h R) (tab c fun u => bdT (T h) (bd h R u) (R u)) c) (T h) (fun (p : List Int × List (List Int)) k => (p.1, p.2, k))
    (fun k => (tab (k + 1) (b0m (R c)), tab k (b4x (T h) (bd h R c)))) _ (s0 := ([0], [])) rfl (fun s hs => ?_) (by
    simp only [b91]
    rw [← hTi, if_neg (by simp)])
  simp only [b91]
  rw [← hTi, if_pos (by simpa using hs), c6d (by omega) (by omega)]
  simp only [Option.bind_some]
  rw [j8q hv hR hc hs]
  simp only [Option.bind_some, c5g]
  rw [b50 (by simp [b33]; omega)]
  simp only [Option.bind_some]
  rw [b2l (show s < s + 1 by omega)]
  simp only [Option.bind_some]
  rw [b2l hc]
  simp only [Option.bind_some]
  rw [b2l hs]
  simp only [Option.bind_some]
  rw [b50 (by simp [b33]; omega)]
  simp only [Option.bind_some, c5f]
  have h1 := d1v hR hc (show s ≤ T h by omega)
  have h2 := hR.r c s hc hs
  rw [b2g (n := b0m (R c) s + R c s) (by omega) (by omega), b2g (n := (s : Int) + 1) (by omega) (by omega), ← b2u, ← b80, ← b80]
theorem j2d {c : Nat} (hc : c < h.Combs.length) {t : Nat} (ht : t < T h) :
    b07 (b92 (tab (T h + 1) (b0m (R c))) (tab (T h) (b4x (T h) (bd h R c))) t) (0, 0) = some ((bd h R c).most t) := by
  have hT := b4k hv
  have hb := c1j hv hR c hc
  have hn := hv.1.2.2.2.1
  have hB := c07 (c := c) (by omega)
  have e1 : wr ((t : Int) + 1) = ((t + 1 : Nat) : Int) := by rw [b2g (by omega) (by omega)]; omega
  have em : (bd h R c).most t = b5k 0 (fun s => (bd h R c).come s t - (b0m (R c) t - b0m (R c) s)) 0 (t + 1) := by rw [b72]; rfl
  refine b37 (f := b92 (tab (T h + 1) (b0m (R c))) (tab (T h) (b4x (T h) (bd h R c))) t) (t + 1) (fun p k => (p, k))
    (b5k 0 (fun s => (bd h R c).come s t - (b0m (R c) t - b0m (R c) s)) 0) _ (s0 := 0) rfl (fun s hs => ?_) (by
    simp only [b92, e1]
    rw [if_neg (by simp), em])
  simp only [b92, e1]
  rw [if_pos (by simp; omega), b2l (show s < T h by omega)]
  simp only [Option.bind_some]
  rw [c8s ht (by omega)]
  simp only [Option.bind_some]
  rw [b2l (show t < T h + 1 by omega)]
  simp only [Option.bind_some]
  rw [b2l (show s < T h + 1 by omega)]
  simp only [Option.bind_some]
  have h1 := d1v hR hc (show s ≤ T h by omega)
  have h2 := d1v hR hc (show t ≤ T h by omega)
  have h3 := hb.come s t (by omega) ht
  rw [b2g (n := b0m (R c) t - b0m (R c) s) (by omega) (by omega), b2g (n := (bd h R c).come s t - (b0m (R c) t - b0m (R c) s)) (by omega) (by omega), b2g (n := (s : Int) + 1) (by omega) (by omega), d1a]
  simp only [b5k, Nat.zero_add]
theorem g6f {c : Nat} (hc : c < h.Combs.length) :
    b07 (b93 h (opT h R) c (tab (T h + 1) (b0m (R c))) (tab (T h) (b4x (T h) (bd h R c)))) ([0], [], 0) = some (tab (T h + 1) (b0m (bd h R c).flow), tab (T h) (bd h R c).most) := by
  have hT := b4k hv
  have hTi := b6x hv
  have hb := c1j hv hR c hc
  refine b37 (f := b93 h (opT h R) c (tab (T h + 1) (b0m (R c))) (tab (T h) (b4x (T h) (bd h R c)))) (T h) (fun (p : List Int × List Int) k => (p.1, p.2, k))
    (fun k => (tab (k + 1) (b0m (bd h R c).flow), tab k (bd h R c).most)) _ (s0 := ([0], [])) rfl (fun t ht => ?_) (by
    simp only [b93]
    rw [← hTi, if_neg (by simp)])
  simp only [b93]
  rw [← hTi, if_pos (by simpa using ht), j2d hv hR hc ht]
  simp only [Option.bind_some, c5e]
  rw [b50 (by simp [b33]; omega)]
  simp only [Option.bind_some]
  rw [b2l (show t < t + 1 by omega)]
  simp only [Option.bind_some]
  rw [b2l hc]
  simp only [Option.bind_some]
  rw [b2l ht]
  simp only [Option.bind_some]
  rw [b50 (by simp [b33]; omega)]
  simp only [Option.bind_some, c5d]
  have ef : min ((bd h R c).most t) (R c t) = (bd h R c).flow t := by rw [b72]; rfl
  have h1 := b6a (f := (bd h R c).flow) (B := 1000) (k := t) fun i hi => hb.flow i (by omega)
  have h2 := hb.flow t ht
  rw [c0q, ef, b2g (n := b0m (bd h R c).flow t + (bd h R c).flow t) (by omega) (by omega), b2g (n := (t : Int) + 1) (by omega) (by omega), ← b2u, ← b80, ← b80]
theorem g18 : b8h h (opT h R) = some (tab h.Combs.length fun c => bdT (T h) (bd h R c) (R c)) := by
  have hn := hv.1.2.2.2.1
  unfold b8h
  have := b37 (f := c2f h (opT h R)) h.Combs.length (fun s k => (s, k)) (fun k => tab k fun c => bdT (T h) (bd h R c) (R c)) (tab h.Combs.length fun c => bdT (T h) (bd h R c) (R c)) (s0 := []) rfl (fun c hc => by
    simp only [c2f]
    rw [if_pos (by simpa using hc), g4i hv hR hc]
    simp only [Option.bind_some, c5j]
    rw [g6f hv hR hc]
    simp only [Option.bind_some, c5c]
    rw [b50 (by simp [b33]; omega)]
    simp only [Option.bind_some, c5h]
    rw [b2g (n := (c : Int) + 1) (by omega) (by omega), b80 (n := c)]
    rfl) (by simp [c2f])
  rw [this]; rfl
end
theorem j69 {h : Hall} (hv : V h) : Rt h (b1y h) := ⟨fun c t _ _ => c6v hv t⟩
theorem j68 {h : Hall} (hv : V h) : (b7c h).bind (b8h h) = some (tab h.Combs.length fun c => bdT (T h) (bd h (b1y h) c) (b1y h c)) := by
  rw [j6p hv]; exact g18 hv (j69 hv)
abbrev own (h : Hall) : Nat → Bd := bd h (b1y h)
theorem d2o {h : Hall} (hv : V h) : b5p h := by
  obtain ⟨⟨s1, s2, s3, s4, s5, s6⟩, hc, ht, hs⟩ := hv
  have at_ : ∀ {α : Type} {l : List α} {x : α}, x ∈ l → ∃ k : Nat, l[k]? = some x := fun {α l x} hx => by
    obtain ⟨j, hj, rfl⟩ := List.getElem_of_mem hx
    exact ⟨j, List.getElem?_eq_getElem hj⟩
  refine ⟨⟨by simp only [maxLen]; omega, fun x hx => ?_⟩, ⟨by simp only [maxLen]; omega, fun x hx => ?_⟩, ⟨by simp only [maxLen]; omega, fun x hx => ?_⟩, by unfold b2h; omega⟩
  · obtain ⟨k, hk⟩ := at_ hx
    have := hc k x hk
    unfold b4e at this
    simp only [c1b, b86, b2h]; omega
  · obtain ⟨k, hk⟩ := at_ hx
    obtain ⟨q1, q2, q3, q4, q5⟩ := ht k x hk
    refine ⟨by simp only [b86, b2h]; omega, by simp only [maxLen]; omega, fun y hy => ?_⟩
    obtain ⟨j, hj⟩ := at_ hy
    have h5 := q5 j y hj
    have : -1 < y.Comb := by
      have key : ∀ (j : Nat) (y : Crowd), x.Crowds[j]? = some y → -1 < y.Comb := by
        intro j
        induction j with
        | zero => intro y hy; exact (q5 0 y hy).2.2.2.2
        | succ j ih =>
          intro y hy
          obtain ⟨z, hz⟩ := b1n (show j < x.Crowds.length by have := b1b hy; omega)
          have := ih z hz
          have := (q5 (j + 1) y hy).2.2.2.2 z hz
          omega
      exact key j y hj
    unfold b4q at h5
    simp only [c1c, b86, b2h]; omega
  · obtain ⟨k, hk⟩ := at_ hx
    have := hs k x hk
    unfold b9r at this
    simp only [c1d, b2h]; omega
theorem d2j {h : Hall} (hv : V h) : b5h h = some 0 ∧ b5y h = some 0 := by
  rcases g02 (d2o hv) with ⟨_, h1, h2⟩ | ⟨h1, _⟩
  · exact ⟨h1, h2⟩
  · exact absurd hv h1
theorem g4h {h : Hall} (hv : V h) (c : Int) (ts : List Int) (hl : ts.length ≤ maxLen) :
    b98 h c ts = some (if (0 ≤ c ∧ c < h.Combs.length) ∧ ∀ t ∈ ts, 0 ≤ t ∧ t < h.Until then 0 else 1) := by
  unfold b98
  rw [(d2j hv).1]
  simp only [Option.bind_some]
  rw [if_neg (by simp)]
  by_cases q : 0 ≤ c ∧ c < h.Combs.length
  · rw [if_neg (by simp; omega)]
    obtain ⟨b, b1, b2⟩ := c9u (l := ts) (f := fun z => some (b8i z h)) (p := fun t => ¬ (0 ≤ t ∧ t < h.Until)) hl fun t ht => ⟨_, rfl, by
      simp only [b8i, Bool.or_eq_true, decide_eq_true_eq]; omega⟩
    rw [b1]
    simp only [Option.bind_some]
    cases b with
    | true =>
      obtain ⟨t, h1, h2⟩ := b2.1 rfl
      rw [if_pos rfl, if_neg fun hh => h2 (hh.2 t h1)]
    | false =>
      rw [if_neg (by simp), if_pos ⟨q, fun t ht => Classical.byContradiction fun hh => by have := b2.2 ⟨t, ht, hh⟩; cases this⟩]
  · rw [if_pos (by simp; omega)]
    simp only [Option.bind_some, if_true]
    rw [if_neg fun hh => q hh.1]
theorem g4g {h : Hall} (hv : V h) {c : Nat} (hc : c < h.Combs.length) : b98 h c [] = some 0 := by
  rw [g4h hv c [] (by simp), if_pos ⟨by omega, fun t ht => by cases ht⟩]
theorem g17 {h : Hall} (hv : V h) {α : Type} (f : List halls_bound → Option α) : ((b7c h).bind fun y => (b8h h y).bind f) = f (tab h.Combs.length fun c => bdT (T h) (own h c) (b1y h c)) := by
  have := j68 hv
  cases e : b7c h with
  | none => rw [e] at this; cases this
  | some y =>
    rw [e] at this
    simp only [Option.bind_some] at this ⊢
    rw [this]; rfl
theorem g1d {h : Hall} (hv : V h) {c : Nat} (hc : c < h.Combs.length) : c18 h c = some (tab (T h) (own h c).most, 0) := by
  unfold c18
  rw [g4g hv hc]
  simp only [Option.bind_some]
  rw [if_neg (by simp), g17 hv, b2l hc]
  rfl
section
variable {h : Hall} (hv : V h) {c : Nat} (hc : c < h.Combs.length) {r : Int} (hr : 0 ≤ r ∧ r ≤ 1000)
include hv hc
end
theorem j2c {h : Hall} {R : Nat → Nat → Int} {c t : Nat} : (bd h R c).most t = b5k 0 (fun s => (bd h R c).come s t - (b0m (R c) t - b0m (R c) s)) 0 (t + 1) := by rw [b72]; rfl
section
variable {h : Hall} (hv : V h) {c : Nat} (hc : c < h.Combs.length)
include hv hc
end
section
variable {h : Hall} (hv : V h) {c : Nat} (hc : c < h.Combs.length) {f k : Nat} (hf : f < T h) (hk : 0 < k) (hfk : f + k ≤ T h)
end
section
variable {h : Hall} (hv : V h) {c : Nat} {f k : Nat}
include hv
end
section
variable {h : Hall} (hv : V h) {c : Nat} (hc : c < h.Combs.length) {f : Nat} (hf : f < T h)
include hv hc hf
end
def c16 (x : Train) (a : Int) (p : List Int) : Prop := (x.At.Low ≤ a ∧ a ≤ x.At.High) ∧ p.length = x.Crowds.length ∧ ∀ (k : Nat) y n, x.Crowds[k]? = some y → p[k]? = some n → y.People.Low ≤ n ∧ n ≤ y.People.High
def c17 (x : Comb) (w : List Int) : Prop := 1 ≤ w.length ∧ w.length ≤ 20 ∧ ∀ n ∈ w, x.Walk.Low ≤ n ∧ n ≤ x.Walk.High
structure Fit (h : Hall) (d : Day) : Prop where
  at_ : d.At.length = h.Trains.length
  people : d.People.length = h.Trains.length
  walks : d.Walks.length = h.Combs.length
  ride : ∀ (i : Nat) x a p, h.Trains[i]? = some x → d.At[i]? = some a → d.People[i]? = some p → c16 x a p
  walk : ∀ (u : Nat) x w, h.Combs[u]? = some x → d.Walks[u]? = some w → c17 x w
section
variable {d : Day} {i : Nat} {x : Train} {p : List Int} (hp : d.People[i]? = some p) (hl : p.length = x.Crowds.length) (hm : x.Crowds.length ≤ maxLen)
include hp hl hm
theorem d3p : ((∀ (k : Nat) y n, x.Crowds[k]? = some y → p[k]? = some n → y.People.Low ≤ n ∧ n ≤ y.People.High) ∧ b07 (b7a d i x) 0 = some (.inl ())) ∨
    ((∃ (k : Nat) (y : Crowd) (n : Int), x.Crowds[k]? = some y ∧ p[k]? = some n ∧ ¬ (y.People.Low ≤ n ∧ n ≤ y.People.High)) ∧ b07 (b7a d i x) 0 = some (.inr false)) := by
  rcases b5v (f := b7a d i x) x.Crowds (fun k y => ∃ n, p[k]? = some n ∧ ¬ (y.People.Low ≤ n ∧ n ≤ y.People.High)) (.inr false) (.inl ()) (fun k y hy hb => by
      obtain ⟨n, hn, hb⟩ := hb
      simp only [b7a, b1d hy, b1d hp, b1d hn, Option.bind_some]
      rw [if_pos (by simpa using b1b hy), if_pos]
      simp only [b3a, Bool.not_eq_true', Bool.and_eq_false_iff, decide_eq_false_iff_not]; omega) (fun k y hy hb => by
      obtain ⟨n, hn⟩ := b1n (show k < p.length by rw [hl]; exact b1b hy)
      simp only [b7a, b1d hy, b1d hp, b1d hn, Option.bind_some]
      rw [if_pos (by simpa using b1b hy), if_neg, b2f (b1b hy) hm]
      have hb : y.People.Low ≤ n ∧ n ≤ y.People.High := Classical.not_not.1 fun hh => hb ⟨n, hn, hh⟩
      simp only [b3a, Bool.not_eq_true', Bool.and_eq_false_iff, decide_eq_false_iff_not]; omega) (by simp [b7a]) with ⟨h1, h2⟩ | ⟨⟨k, y, hy, n, hn, hb⟩, h2⟩
  · exact .inl ⟨fun k y n hy hn => Classical.not_not.1 fun hh => h1 k y hy ⟨n, hn, hh⟩, h2⟩
  · exact .inr ⟨⟨k, y, n, hy, hn, hb⟩, h2⟩
theorem d3q : ((∀ (k : Nat) y n, x.Crowds[k]? = some y → p[k]? = some n → y.People.Low ≤ n ∧ n ≤ y.People.High) ∧ b07 (b7n d i x) 0 = some (.inl ())) ∨
    ((∃ (k : Nat) (y : Crowd) (n : Int), x.Crowds[k]? = some y ∧ p[k]? = some n ∧ ¬ (y.People.Low ≤ n ∧ n ≤ y.People.High)) ∧ b07 (b7n d i x) 0 = some (.inr false)) := by
  rcases b5v (f := b7n d i x) x.Crowds (fun k y => ∃ n, p[k]? = some n ∧ ¬ (y.People.Low ≤ n ∧ n ≤ y.People.High)) (.inr false) (.inl ()) (fun k y hy hb => by
      obtain ⟨n, hn, hb⟩ := hb
      simp only [b7n, b1d hy, b1d hp, b1d hn, Option.bind_some]
      rw [if_pos (by simpa using b1b hy), if_pos]
      simp only [b2b, Bool.not_eq_true', Bool.and_eq_false_iff, decide_eq_false_iff_not]; omega) (fun k y hy hb => by
      obtain ⟨n, hn⟩ := b1n (show k < p.length by rw [hl]; exact b1b hy)
      simp only [b7n, b1d hy, b1d hp, b1d hn, Option.bind_some]
      rw [if_pos (by simpa using b1b hy), if_neg, b2f (b1b hy) hm]
      have hb : y.People.Low ≤ n ∧ n ≤ y.People.High := Classical.not_not.1 fun hh => hb ⟨n, hn, hh⟩
      simp only [b2b, Bool.not_eq_true', Bool.and_eq_false_iff, decide_eq_false_iff_not]; omega) (by simp [b7n]) with ⟨h1, h2⟩ | ⟨⟨k, y, hy, n, hn, hb⟩, h2⟩
  · exact .inl ⟨fun k y n hy hn => Classical.not_not.1 fun hh => h1 k y hy ⟨n, hn, hh⟩, h2⟩
  · exact .inr ⟨⟨k, y, n, hy, hn, hb⟩, h2⟩
end
section
variable {h : Hall} (hv : V h) {d : Day} (hd : b85 d)
include hv hd
theorem j1b : (Fit h d ∧ b8j h d = some true) ∨ (¬ Fit h d ∧ b8j h d = some false) := by
  have hn := hv.1.2.2.2.1
  have ht := hv.1.2.2.2.2.1
  unfold b8j
  by_cases q : d.At.length = h.Trains.length ∧ d.People.length = h.Trains.length ∧ d.Walks.length = h.Combs.length
  · obtain ⟨q1, q2, q3⟩ := q
    rw [if_neg (by simp; omega)]
    rcases b5v (f := b99 h d) h.Trains (fun i x => ∃ a p, d.At[i]? = some a ∧ d.People[i]? = some p ∧ ¬ c16 x a p) (.inr false) (.inl ()) (fun i x hx hb => by
        obtain ⟨a, p, ha, hp, hb⟩ := hb
        simp only [b99, b1d hx, b1d ha, b1d hp, Option.bind_some]
        rw [if_pos (by simpa using b1b hx)]
        by_cases r1 : x.At.Low ≤ a ∧ a ≤ x.At.High
        · rw [if_neg (by simp only [b3a, Bool.not_eq_true', Bool.and_eq_false_iff, decide_eq_false_iff_not]; omega)]
          simp only [Option.bind_some]
          by_cases r2 : p.length = x.Crowds.length
          · rw [if_neg (by simp; omega)]
            rcases d3p hp r2 (by have := (hv.2.2.1 i x hx).2.2.2.1; simp only [maxLen]; omega) with ⟨c1, _⟩ | ⟨_, c2⟩
            · exact absurd ⟨r1, r2, c1⟩ hb
            · rw [c2]; rfl
          · rw [if_pos (by simp; omega)]
        · rw [if_pos (by simp only [b3a, Bool.not_eq_true', Bool.and_eq_false_iff, decide_eq_false_iff_not]; omega)]
          simp only [Option.bind_some, if_true]) (fun i x hx hb => by
        obtain ⟨a, ha⟩ := b1n (show i < d.At.length by rw [q1]; exact b1b hx)
        obtain ⟨p, hp⟩ := b1n (show i < d.People.length by rw [q2]; exact b1b hx)
        obtain ⟨r1, r2, r3⟩ : c16 x a p := Classical.not_not.1 fun hh => hb ⟨a, p, ha, hp, hh⟩
        simp only [b99, b1d hx, b1d ha, b1d hp, Option.bind_some]
        rw [if_pos (by simpa using b1b hx), if_neg (by simp only [b3a, Bool.not_eq_true', Bool.and_eq_false_iff, decide_eq_false_iff_not]; omega)]
        simp only [Option.bind_some]
        rw [if_neg (by simp; omega)]
        rcases d3p hp r2 (by have := (hv.2.2.1 i x hx).2.2.2.1; simp only [maxLen]; omega) with ⟨_, c2⟩ | ⟨⟨k, y, n, hy, hn', hb⟩, _⟩
        · rw [c2]; simp only [Option.bind_some, c5k, b2f (b1b hx) (show h.Trains.length ≤ maxLen by simp only [maxLen]; omega)]
        · exact absurd (r3 k y n hy hn') hb) (by simp [b99]) with ⟨t1, t2⟩ | ⟨⟨i, x, hx, a, p, ha, hp, hb⟩, t2⟩
    · rw [t2]
      simp only [Option.bind_some, c5l]
      rcases b5v (f := c0a h d) h.Combs (fun u x => ∃ w, d.Walks[u]? = some w ∧ ¬ c17 x w) (.inr false) (.inl ()) (fun u x hx hb => by
          obtain ⟨w, hw, hb⟩ := hb
          have hwl : w.length ≤ maxLen := (hd.2.2.2 w (List.mem_of_getElem? hw)).1
          simp only [c0a, b1d hx, b1d hw, Option.bind_some]
          rw [if_pos (by simpa using b1b hx)]
          by_cases r1 : 1 ≤ w.length ∧ w.length ≤ 20
          · rw [if_neg (by simp; omega)]
            obtain ⟨b, b1, b2⟩ := c9u (l := w) (f := fun z20 => some (b6l z20 x)) (p := fun n => ¬ (x.Walk.Low ≤ n ∧ n ≤ x.Walk.High)) hwl (fun n _ => ⟨_, rfl, by
              simp only [b6l, b3a, Bool.not_eq_true', Bool.and_eq_false_iff, decide_eq_false_iff_not]; omega⟩)
            rw [b1]
            simp only [Option.bind_some]
            have : b = true := b2.2 (Classical.byContradiction fun hh => hb ⟨r1.1, r1.2, fun n hn => Classical.not_not.1 fun hh2 => hh ⟨n, hn, hh2⟩⟩)
            rw [this, if_pos rfl]
          · rw [if_pos (by simp; omega)]
            simp only [Option.bind_some, if_true]) (fun u x hx hb => by
          obtain ⟨w, hw⟩ := b1n (show u < d.Walks.length by rw [q3]; exact b1b hx)
          obtain ⟨r1, r2, r3⟩ : c17 x w := Classical.not_not.1 fun hh => hb ⟨w, hw, hh⟩
          simp only [c0a, b1d hx, b1d hw, Option.bind_some]
          rw [if_pos (by simpa using b1b hx), if_neg (by simp; omega)]
          obtain ⟨b, b1, b2⟩ := c9u (l := w) (f := fun z20 => some (b6l z20 x)) (p := fun n => ¬ (x.Walk.Low ≤ n ∧ n ≤ x.Walk.High)) (by simp only [maxLen]; omega) (fun n _ => ⟨_, rfl, by
            simp only [b6l, b3a, Bool.not_eq_true', Bool.and_eq_false_iff, decide_eq_false_iff_not]; omega⟩)
          rw [b1]
          simp only [Option.bind_some]
          have : b = false := d2z fun hh => by
            obtain ⟨n, hn, hbad⟩ := b2.1 hh
            exact hbad (r3 n hn)
          rw [this, if_neg (by simp), b2f (b1b hx) (show h.Combs.length ≤ maxLen by simp only [maxLen]; omega)]) (by simp [c0a]) with ⟨w1, w2⟩ | ⟨⟨u, x, hx, w, hw, hb⟩, w2⟩
      · rw [w2]
        exact .inl ⟨⟨q1, q2, q3, fun i x a p hx ha hp => Classical.not_not.1 fun hh => t1 i x hx ⟨a, p, ha, hp, hh⟩, fun u x w hx hw => Classical.not_not.1 fun hh => w1 u x hx ⟨w, hw, hh⟩⟩, rfl⟩
      · rw [w2]
        exact .inr ⟨fun hf => hb (hf.walk u x w hx hw), rfl⟩
    · rw [t2]
      exact .inr ⟨fun hf => hb (hf.ride i x a p hx ha hp), rfl⟩
  · rw [if_pos (by simp; omega)]
    exact .inr ⟨fun hf => q ⟨hf.at_, hf.people, hf.walks⟩, rfl⟩
theorem g6e : (Fit h d ∧ c0z h d = some true) ∨ (¬ Fit h d ∧ c0z h d = some false) := by
  have hn := hv.1.2.2.2.1
  have ht := hv.1.2.2.2.2.1
  unfold c0z
  by_cases q : d.At.length = h.Trains.length ∧ d.People.length = h.Trains.length ∧ d.Walks.length = h.Combs.length
  · obtain ⟨q1, q2, q3⟩ := q
    rw [if_neg (by simp; omega)]
    rcases b5v (f := c00 h d) h.Trains (fun i x => ∃ a p, d.At[i]? = some a ∧ d.People[i]? = some p ∧ ¬ c16 x a p) (.inr false) (.inl ()) (fun i x hx hb => by
        obtain ⟨a, p, ha, hp, hb⟩ := hb
        simp only [c00, b1d hx, b1d ha, b1d hp, Option.bind_some]
        rw [if_pos (by simpa using b1b hx)]
        by_cases r1 : x.At.Low ≤ a ∧ a ≤ x.At.High
        · rw [if_neg (by simp only [b2b, Bool.not_eq_true', Bool.and_eq_false_iff, decide_eq_false_iff_not]; omega)]
          simp only [Option.bind_some]
          by_cases r2 : p.length = x.Crowds.length
          · rw [if_neg (by simp; omega)]
            rcases d3q hp r2 (by have := (hv.2.2.1 i x hx).2.2.2.1; simp only [maxLen]; omega) with ⟨c1, _⟩ | ⟨_, c2⟩
            · exact absurd ⟨r1, r2, c1⟩ hb
            · rw [c2]; rfl
          · rw [if_pos (by simp; omega)]
        · rw [if_pos (by simp only [b2b, Bool.not_eq_true', Bool.and_eq_false_iff, decide_eq_false_iff_not]; omega)]
          simp only [Option.bind_some, if_true]) (fun i x hx hb => by
        obtain ⟨a, ha⟩ := b1n (show i < d.At.length by rw [q1]; exact b1b hx)
        obtain ⟨p, hp⟩ := b1n (show i < d.People.length by rw [q2]; exact b1b hx)
        obtain ⟨r1, r2, r3⟩ : c16 x a p := Classical.not_not.1 fun hh => hb ⟨a, p, ha, hp, hh⟩
        simp only [c00, b1d hx, b1d ha, b1d hp, Option.bind_some]
        rw [if_pos (by simpa using b1b hx), if_neg (by simp only [b2b, Bool.not_eq_true', Bool.and_eq_false_iff, decide_eq_false_iff_not]; omega)]
        simp only [Option.bind_some]
        rw [if_neg (by simp; omega)]
        rcases d3q hp r2 (by have := (hv.2.2.1 i x hx).2.2.2.1; simp only [maxLen]; omega) with ⟨_, c2⟩ | ⟨⟨k, y, n, hy, hn', hb⟩, _⟩
        · rw [c2]; simp only [Option.bind_some, c6t, b2f (b1b hx) (show h.Trains.length ≤ maxLen by simp only [maxLen]; omega)]
        · exact absurd (r3 k y n hy hn') hb) (by simp [c00]) with ⟨t1, t2⟩ | ⟨⟨i, x, hx, a, p, ha, hp, hb⟩, t2⟩
    · rw [t2]
      simp only [Option.bind_some, c6u]
      have c51 : ∀ (u : Nat) x w, h.Combs[u]? = some x → d.Walks[u]? = some w → ((∀ n ∈ w, x.Walk.Low ≤ n ∧ n ≤ x.Walk.High) ∧ b07 (b7o h d u) 0 = some (.inl ())) ∨ ((∃ n ∈ w, ¬ (x.Walk.Low ≤ n ∧ n ≤ x.Walk.High)) ∧ b07 (b7o h d u) 0 = some (.inr false)) := fun u x w hx hw => by
        have hwl : w.length ≤ maxLen := (hd.2.2.2 w (List.mem_of_getElem? hw)).1
        rcases b5v (f := b7o h d u) w (fun _ n => ¬ (x.Walk.Low ≤ n ∧ n ≤ x.Walk.High)) (.inr false) (.inl ()) (fun k n hn hb => by
            simp only [b7o, b1d hw, b1d hn, b1d hx, Option.bind_some]
            rw [if_pos (by simpa using b1b hn), if_pos]
            simp only [b2b, Bool.not_eq_true', Bool.and_eq_false_iff, decide_eq_false_iff_not]; omega) (fun k n hn hb => by
            simp only [b7o, b1d hw, b1d hn, b1d hx, Option.bind_some]
            rw [if_pos (by simpa using b1b hn), if_neg, b2f (b1b hn) hwl]
            simp only [b2b, Bool.not_eq_true', Bool.and_eq_false_iff, decide_eq_false_iff_not]; omega) (by simp [b7o, b1d hw]) with ⟨h1, h2⟩ | ⟨⟨k, n, hn, hb⟩, h2⟩
        · refine .inl ⟨fun n hn => ?_, h2⟩
          obtain ⟨j, hj, rfl⟩ := List.getElem_of_mem hn
          exact Classical.not_not.1 (h1 j _ (List.getElem?_eq_getElem hj))
        · exact .inr ⟨⟨n, List.mem_of_getElem? hn, hb⟩, h2⟩
      rcases b5v (f := c01 h d) h.Combs (fun u x => ∃ w, d.Walks[u]? = some w ∧ ¬ c17 x w) (.inr false) (.inl ()) (fun u x hx hb => by
          obtain ⟨w, hw, hb⟩ := hb
          simp only [c01, b1d hw, Option.bind_some]
          rw [if_pos (by simpa using b1b hx)]
          by_cases r1 : 1 ≤ w.length ∧ w.length ≤ 20
          · rw [if_neg (by simp only [b2b, Bool.not_eq_true', Bool.and_eq_false_iff, decide_eq_false_iff_not]; omega)]
            rcases c51 u x w hx hw with ⟨i1, _⟩ | ⟨_, i2⟩
            · exact absurd ⟨r1.1, r1.2, i1⟩ hb
            · rw [i2]; rfl
          · rw [if_pos (by simp only [b2b, Bool.not_eq_true', Bool.and_eq_false_iff, decide_eq_false_iff_not]; omega)]) (fun u x hx hb => by
          obtain ⟨w, hw⟩ := b1n (show u < d.Walks.length by rw [q3]; exact b1b hx)
          obtain ⟨r1, r2, r3⟩ : c17 x w := Classical.not_not.1 fun hh => hb ⟨w, hw, hh⟩
          simp only [c01, b1d hw, Option.bind_some]
          rw [if_pos (by simpa using b1b hx), if_neg (by simp only [b2b, Bool.not_eq_true', Bool.and_eq_false_iff, decide_eq_false_iff_not]; omega)]
          rcases c51 u x w hx hw with ⟨_, i2⟩ | ⟨⟨n, hn, hb⟩, _⟩
          · rw [i2]; simp only [Option.bind_some, c6s, b2f (b1b hx) (show h.Combs.length ≤ maxLen by simp only [maxLen]; omega)]
          · exact absurd (r3 n hn) hb) (by simp [c01]) with ⟨w1, w2⟩ | ⟨⟨u, x, hx, w, hw, hb⟩, w2⟩
      · rw [w2]
        exact .inl ⟨⟨q1, q2, q3, fun i x a p hx ha hp => Classical.not_not.1 fun hh => t1 i x hx ⟨a, p, ha, hp, hh⟩, fun u x w hx hw => Classical.not_not.1 fun hh => w1 u x hx ⟨w, hw, hh⟩⟩, rfl⟩
      · rw [w2]
        exact .inr ⟨fun hf => hb (hf.walk u x w hx hw), rfl⟩
    · rw [t2]
      exact .inr ⟨fun hf => hb (hf.ride i x a p hx ha hp), rfl⟩
  · rw [if_pos (by simp; omega)]
    exact .inr ⟨fun hf => q ⟨hf.at_, hf.people, hf.walks⟩, rfl⟩
end
theorem d70 {f g : Nat → Int} {c : Nat} (h : ∀ u, u ≠ c → f u = g u) : ∀ {n : Nat}, c < n → b0m f n = b0m g n + (f c - g c)
  | 0, hc => by omega
  | n + 1, hc => by
    rw [b2u, b2u]
    by_cases e : c = n
    · subst e
      rw [b6b fun i hi => h i (by omega)]; omega
    · rw [d70 h (by omega), h n (by omega)]; omega
theorem b6p {f : Nat → Int} {n : Nat} (h : ∀ i, i < n → f i = 0) : b0m f n = 0 := by
  have := b6a (f := f) (B := 0) (k := n) fun i hi => by have := h i hi; omega
  omega
theorem c3b {f : Nat → Int} {s : Nat} (h : ∀ i, s ≤ i → f i = 0) : ∀ {m : Nat}, s ≤ m → b0m f m = b0m f s
  | 0, hm => by rw [show s = 0 by omega]
  | m + 1, hm => by
    by_cases e : s = m + 1
    · rw [e]
    · rw [b2u, c3b h (by omega), h m (by omega)]; omega
theorem d1h {f g : Nat → Int} {n : Nat} : b0m (fun i => f i + g i) n = b0m f n + b0m g n := by
  induction n with
  | zero => simp [b46]
  | succ n ih => rw [b2u, b2u, b2u, ih]; omega
def dAt (d : Day) (i : Nat) : Int := (d.At[i]?).getD 0
def dPe (d : Day) (i k : Nat) : Int := (((d.People[i]?).getD [])[k]?).getD 0
def wlk (d : Day) (u t : Nat) : Nat := ((((d.Walks[u]?).getD [])[t % ((d.Walks[u]?).getD []).length]?).getD 0).toNat
def tr (h : Hall) (i : Nat) : Train := (h.Trains[i]?).getD default
def crC (h : Hall) (i k : Nat) : Int := (((tr h i).Crowds[k]?).map (·.Comb)).getD (-1)
def nxt (h : Hall) (u : Nat) : Int := ((h.Combs[u]?).map (·.Next)).getD (-1)
def b4l (h : Hall) (d : Day) (c i k : Nat) : Int := if crC h i k = (c : Int) then dPe d i k else 0
def b4a (h : Hall) (d : Day) (t c i : Nat) : Int := if dAt d i = (t : Int) then b0m (b4l h d c i) (tr h i).Crowds.length else 0
def arr (h : Hall) (d : Day) (t c : Nat) : Int := b0m (b4a h d t c) h.Trains.length
def psN (h : Hall) (n : Nat → Nat → Int) (t c : Nat) : Int := min (n t c) (b1y h c t)
def lfN (h : Hall) (n : Nat → Nat → Int) (t c : Nat) : Int := n t c - psN h n t c
def Wt (h : Hall) (d : Day) (p : Nat → Nat → Int) (s e u t : Nat) : Int := if nxt h u = (e : Int) ∧ t + wlk d u t = s then p t u else 0
def b8w (h : Hall) (d : Day) (n : Nat → Nat → Int) (t c : Nat) : Int := (arr h d t c + b0m (fun u => b0m (Wt h d (psN h n) t c u) t) h.Combs.length) + if 0 < t then lfN h n (t - 1) c else 0
def nL (h : Hall) (d : Day) : Nat → Nat → Nat → Int
  | 0 => fun _ _ => 0
  | k + 1 => fun t c => if t = k then b8w h d (nL h d k) k c else nL h d k t c
def nn (h : Hall) (d : Day) (t c : Nat) : Int := nL h d (t + 1) t c
abbrev ps (h : Hall) (d : Day) : Nat → Nat → Int := psN h (nn h d)
abbrev lf (h : Hall) (d : Day) : Nat → Nat → Int := lfN h (nn h d)
theorem j8d {h : Hall} {d : Day} {p q : Nat → Nat → Int} {t c : Nat} (hpq : ∀ t', t' < t → ∀ c, p t' c = q t' c) : b8w h d p t c = b8w h d q t c := by
  unfold b8w
  congr 1
  · congr 1
    refine b6b fun u _ => b6b fun t' ht' => ?_
    unfold Wt psN
    rw [hpq t' ht']
  · split
    · unfold lfN psN; rw [hpq (t - 1) (by omega)]
    · rfl
theorem j2k {h : Hall} {d : Day} {k t c : Nat} (ht : t < k) : nL h d k t c = nn h d t c := by
  induction k with
  | zero => omega
  | succ k ih =>
    by_cases e : t = k
    · subst e; rfl
    · show (if t = k then _ else nL h d k t c) = _
      rw [if_neg e]; exact ih (by omega)
theorem d1g {h : Hall} {d : Day} {t c : Nat} : nn h d t c = b8w h d (nn h d) t c := by
  show (if t = t then b8w h d (nL h d t) t c else _) = _
  rw [if_pos rfl]
  exact j8d fun t' ht' c => j2k ht'
section
variable {h : Hall} {d : Day}
def Cm (h : Hall) (d : Day) (m : Nat → Nat) (s e : Nat) : Int := arr h d s e + b0m (fun u => b0m (Wt h d (ps h d) s e u) (m u)) h.Combs.length
def Pm (h : Hall) (d : Day) (m : Nat → Nat) (s e : Nat) : Int := Cm h d m s e + if 0 < s ∧ s ≤ m e then lf h d (s - 1) e else 0
theorem g06 {m m' : Nat → Nat} {c : Nat} (hc : c < h.Combs.length) (h1 : ∀ u, u ≠ c → m' u = m u) (h2 : m' c = m c + 1) (s e : Nat) : Cm h d m' s e = Cm h d m s e + Wt h d (ps h d) s e c (m c) := by
  unfold Cm
  rw [d70 (f := fun u => b0m (Wt h d (ps h d) s e u) (m' u)) (g := fun u => b0m (Wt h d (ps h d) s e u) (m u)) (c := c) (fun u hu => by simp only [h1 u hu]) hc]
  simp only [h2, b2u]
  omega
theorem d2l {m m' : Nat → Nat} {c : Nat} (hc : c < h.Combs.length) (h1 : ∀ u, u ≠ c → m' u = m u) (h2 : m' c = m c + 1) (s e : Nat) :
    Pm h d m' s e = (Pm h d m s e + if s = m c + 1 ∧ e = c then lf h d (m c) c else 0) + Wt h d (ps h d) s e c (m c) := by
  unfold Pm
  rw [g06 hc h1 h2]
  by_cases e1 : e = c
  · subst e1
    rw [h2]
    by_cases q : s = m e + 1
    · subst q
      rw [if_pos (by omega), if_neg (by omega), if_pos (by omega), Nat.add_sub_cancel]; omega
    · rw [if_neg (c := s = m e + 1 ∧ e = e) (by omega)]
      by_cases q2 : 0 < s ∧ s ≤ m e
      · rw [if_pos (by omega), if_pos q2]; omega
      · rw [if_neg (by omega), if_neg q2]; omega
  · rw [h1 e e1, if_neg (c := s = m c + 1 ∧ e = c) (by omega)]; omega
variable (hv : V h) (hf : Fit h d)
include hv hf
theorem d2c {u : Nat} (hu : u < h.Combs.length) (t : Nat) : ∃ x w, h.Combs[u]? = some x ∧ d.Walks[u]? = some w ∧ 1 ≤ w.length ∧ w.length ≤ 20 ∧ w[t % w.length]? = some (wlk d u t : Int) ∧ x.Walk.Low ≤ wlk d u t ∧ wlk d u t ≤ x.Walk.High ∧ 1 ≤ wlk d u t ∧ wlk d u t ≤ 20 := by
  obtain ⟨x, hx⟩ := b1n hu
  obtain ⟨w, hw⟩ := b1n (show u < d.Walks.length by rw [hf.walks]; exact hu)
  obtain ⟨g1, g2, g3⟩ := hf.walk u x w hx hw
  have hg := hv.2.1 u x hx
  unfold b4e at hg
  obtain ⟨n, hn⟩ := b1n (show t % w.length < w.length from Nat.mod_lt _ (by omega))
  have := g3 n (List.mem_of_getElem? hn)
  have e : wlk d u t = n.toNat := by unfold wlk; rw [hw]; simp [hn]
  rw [e]
  refine ⟨x, w, hx, hw, g1, g2, ?_, by omega, by omega, by omega, by omega⟩
  rw [hn]; congr 1; omega
theorem d2p {s e u t : Nat} (hu : u < h.Combs.length) (ht : s ≤ t) (p : Nat → Nat → Int) : Wt h d p s e u t = 0 := by
  obtain ⟨x, w, _, _, _, _, _, _, _, h1, _⟩ := d2c hv hf hu t
  unfold Wt; rw [if_neg (by omega)]
theorem g05 {m : Nat → Nat} {s e : Nat} (hm : ∀ u, u < h.Combs.length → nxt h u = (e : Int) → s ≤ m u) : Cm h d m s e = arr h d s e + b0m (fun u => b0m (Wt h d (ps h d) s e u) s) h.Combs.length := by
  unfold Cm
  congr 1
  refine b6b fun u hu => ?_
  by_cases q : nxt h u = (e : Int)
  · exact c3b (fun i hi => d2p hv hf hu hi _) (hm u hu q)
  · rw [b6p fun i _ => by unfold Wt; rw [if_neg fun hh => q hh.1], b6p fun i _ => by unfold Wt; rw [if_neg fun hh => q hh.1]]
theorem j5s {m : Nat → Nat} {s e : Nat} (hm : ∀ u, u < h.Combs.length → nxt h u = (e : Int) → s ≤ m u) : nn h d s e = Cm h d m s e + if 0 < s then lf h d (s - 1) e else 0 := by
  rw [d1g, g05 hv hf hm]; rfl
theorem d7v {m : Nat → Nat} {s e : Nat} (hm : ∀ u, u < h.Combs.length → nxt h u = (e : Int) → s ≤ m u) (he : s ≤ m e) : nn h d s e = Pm h d m s e := by
  rw [j5s hv hf hm]
  unfold Pm
  by_cases q : 0 < s
  · rw [if_pos q, if_pos ⟨q, he⟩]
  · rw [if_neg q, if_neg (by omega)]
theorem d1k {i k : Nat} (hi : i < h.Trains.length) (hk : k < (tr h i).Crowds.length) : 0 ≤ dPe d i k ∧ dPe d i k ≤ 1000 ∧ ∃ y, (tr h i).Crowds[k]? = some y ∧ y.People.Low ≤ dPe d i k ∧ dPe d i k ≤ y.People.High := by
  obtain ⟨x, hx⟩ := b1n hi
  obtain ⟨a, ha⟩ := b1n (show i < d.At.length by rw [hf.at_]; exact hi)
  obtain ⟨p, hp⟩ := b1n (show i < d.People.length by rw [hf.people]; exact hi)
  obtain ⟨_, g2, g3⟩ := hf.ride i x a p hx ha hp
  have et : tr h i = x := by unfold tr; rw [hx]; rfl
  rw [et] at hk ⊢
  obtain ⟨y, hy⟩ := b1n hk
  obtain ⟨n, hn⟩ := b1n (show k < p.length by omega)
  have := g3 k y n hy hn
  have hg := (hv.2.2.1 i x hx).2.2.2.2 k y hy
  unfold b4q at hg
  have e : dPe d i k = n := by unfold dPe; rw [hp]; simp [hn]
  rw [e]
  exact ⟨by omega, by omega, y, hy, by omega, by omega⟩
theorem d2u {i : Nat} (hi : i < h.Trains.length) : ∃ x a, h.Trains[i]? = some x ∧ d.At[i]? = some (a : Nat) ∧ dAt d i = (a : Nat) ∧ a < T h ∧ x.At.Low ≤ (a : Nat) ∧ (a : Int) ≤ x.At.High ∧ tr h i = x := by
  obtain ⟨x, hx⟩ := b1n hi
  obtain ⟨a, ha⟩ := b1n (show i < d.At.length by rw [hf.at_]; exact hi)
  obtain ⟨p, hp⟩ := b1n (show i < d.People.length by rw [hf.people]; exact hi)
  obtain ⟨g1, _, _⟩ := hf.ride i x a p hx ha hp
  have hg := hv.2.2.1 i x hx
  have := b6x hv
  obtain ⟨q1, q2, q3, _⟩ := hg
  refine ⟨x, a.toNat, hx, ?_, ?_, by omega, by omega, by omega, by unfold tr; rw [hx]; rfl⟩
  · rw [ha]; congr 1; omega
  · unfold dAt; rw [ha]; simp; omega
omit hf in
theorem d3o {i : Nat} (hi : i < h.Trains.length) : (tr h i).Crowds.length ≤ 4 := by
  obtain ⟨x, hx⟩ := b1n hi
  have : tr h i = x := by unfold tr; rw [hx]; rfl
  rw [this]; exact (hv.2.2.1 i x hx).2.2.2.1
theorem d2s {c i : Nat} (hi : i < h.Trains.length) {k : Nat} (hk : k ≤ (tr h i).Crowds.length) : 0 ≤ b0m (b4l h d c i) k ∧ b0m (b4l h d c i) k ≤ 4000 := by
  have := b6a (f := b4l h d c i) (B := 1000) (k := k) fun j hj => by
    have := d1k hv hf hi (show j < (tr h i).Crowds.length by omega)
    unfold b4l; split <;> omega
  have := d3o hv hi
  omega
theorem g1m {t c i : Nat} (hi : i < h.Trains.length) : 0 ≤ b4a h d t c i ∧ b4a h d t c i ≤ 4000 := by
  have := d2s hv hf (c := c) hi (Nat.le_refl _)
  unfold b4a; split <;> omega
theorem c8l {t c k : Nat} (hk : k ≤ h.Trains.length) : 0 ≤ b0m (b4a h d t c) k ∧ b0m (b4a h d t c) k ≤ 48000 := by
  have := b6a (f := b4a h d t c) (B := 4000) (k := k) fun i hi => g1m hv hf (by omega)
  have := hv.1.2.2.2.2.1
  omega
omit hf in
theorem g1g {n : Nat → Nat → Int} {s e u t : Nat} (hn : ∀ t c, t < s → 0 ≤ n t c) (ht : t < s) : 0 ≤ Wt h d (psN h n) s e u t ∧ Wt h d (psN h n) s e u t ≤ 1000 := by
  have h1 := hn t u ht
  have h2 := c6v hv (c := u) t
  unfold Wt; split
  · unfold psN; omega
  · omega
theorem d1f : ∀ (t : Nat), t < T h → ∀ c, 0 ≤ nn h d t c ∧ nn h d t c ≤ 1000000 * (t + 1) := by
  intro t
  induction t using Nat.strongRecOn with
  | _ t ih =>
    intro ht c
    have hT := b4k hv
    have hN := hv.1.2.2.2.1
    have h1 := c8l hv hf (t := t) (c := c) (Nat.le_refl _)
    have h2 : 0 ≤ b0m (fun u => b0m (Wt h d (psN h (nn h d)) t c u) t) h.Combs.length ∧ b0m (fun u => b0m (Wt h d (psN h (nn h d)) t c u) t) h.Combs.length ≤ 800000 := by
      have := b6a (f := fun u => b0m (Wt h d (psN h (nn h d)) t c u) t) (B := 100000) (k := h.Combs.length) fun u hu => by
        have := b6a (f := Wt h d (psN h (nn h d)) t c u) (B := 1000) (k := t) fun t' ht' => g1g hv (fun t c htt => by
          by_cases q : t < T h
          · exact (ih t (by omega) q c).1
          · omega) ht'
        omega
      omega
    rw [d1g]
    unfold b8w
    unfold arr
    split
    · have h3 := ih (t - 1) (by omega) (by omega) c
      have h4 := c6v hv (c := c) (t - 1)
      have e1 : lfN h (nn h d) (t - 1) c = nn h d (t - 1) c - min (nn h d (t - 1) c) (b1y h c (t - 1)) := rfl
      rw [e1]
      have : ((t - 1 : Nat) : Int) = (t : Int) - 1 := by omega
      rw [this] at h3
      omega
    · omega
theorem c3f {t : Nat} (ht : t < T h) (c : Nat) : 0 ≤ ps h d t c ∧ ps h d t c ≤ 1000 ∧ 0 ≤ lf h d t c ∧ lf h d t c ≤ 1000000 * (t + 1) := by
  have h1 := d1f hv hf t ht c
  have h2 := c6v hv (c := c) t
  have e1 : ps h d t c = min (nn h d t c) (b1y h c t) := rfl
  have e2 : lf h d t c = nn h d t c - ps h d t c := rfl
  omega
theorem g04 {m : Nat → Nat} (hm : ∀ u, u < h.Combs.length → m u ≤ T h) (s e : Nat) : 0 ≤ Cm h d m s e ∧ Cm h d m s e ≤ 1000000 := by
  have hT := b4k hv
  have hN := hv.1.2.2.2.1
  have h1 := c8l hv hf (t := s) (c := e) (Nat.le_refl _)
  have := b6a (f := fun u => b0m (Wt h d (ps h d) s e u) (m u)) (B := 100000) (k := h.Combs.length) fun u hu => by
    have hmu := hm u hu
    have := b6a (f := Wt h d (ps h d) s e u) (B := 1000) (k := m u) fun t' ht' => by
      have := c3f hv hf (show t' < T h by omega) u
      unfold Wt; split <;> omega
    omega
  unfold Cm arr
  omega
theorem c8j {m : Nat → Nat} (hm : ∀ u, u < h.Combs.length → m u ≤ T h) {s : Nat} (hs : s < T h) (e : Nat) : 0 ≤ Pm h d m s e ∧ Pm h d m s e ≤ 1000000000 := by
  have h1 := g04 hv hf hm s e
  have hT := b4k hv
  unfold Pm
  split
  · have := c3f hv hf (show s - 1 < T h by omega) e
    omega
  · omega
end
def b2r (m n : Nat) (g : Nat → Nat → Int) : List (List Int) := tab m fun t => tab n (g t)
theorem c11 {m n t : Nat} {g : Nat → Nat → Int} (ht : t < m) : get (b2r m n g) (t : Int) = some (tab n (g t)) := b2l ht
theorem d1z {m n a b : Nat} {g : Nat → Nat → Int} {v : Int} : (b2r m n g).set a ((tab n (g a)).set b v) = b2r m n fun t c => if t = a ∧ c = b then v else g t c := by
  unfold b2r
  rw [c3v]
  refine b6e fun t _ => ?_
  by_cases e : t = a
  · subst e
    rw [if_pos rfl, c3v]
    exact b6e fun c _ => by
      by_cases e2 : c = b
      · rw [if_pos e2]; show v = if t = t ∧ c = b then v else g t c; rw [if_pos ⟨rfl, e2⟩]
      · rw [if_neg e2]; show g t c = if t = t ∧ c = b then v else g t c; rw [if_neg fun hh => e2 hh.2]
  · rw [if_neg e]
    exact b6e fun c _ => by show g t c = if t = a ∧ c = b then v else g t c; rw [if_neg fun hh => e hh.1]
theorem b7u {m n : Nat} {g k : Nat → Nat → Int} (h : ∀ t, t < m → ∀ c, c < n → g t c = k t c) : b2r m n g = b2r m n k := b6e fun t ht => b6e fun c hc => h t ht c hc
theorem c69 {m n : Nat} {g : Nat → Nat → Int} : (b2r m n g).length = m := b33
theorem j9r {m n : Nat} {g : Nat → Nat → Int} : b2r (m + 1) n g = b2r m n g ++ [tab n (g m)] := b80
theorem j72 {t n : Nat} (hn : 1 ≤ n) : rem (t : Int) (n : Int) = some ((t % n : Nat) : Int) := by
  unfold rem
  rw [if_neg (by omega)]
  rfl
section
variable {h : Hall} {d : Day} (hv : V h) (hf : Fit h d)
include hv hf
theorem j9w : b07 (b9w h d) (b2r (T h) h.Combs.length fun _ _ => 0, 0) = some (b2r (T h) h.Combs.length (arr h d)) := by
  have hT := b4k hv
  have hN := hv.1.2.2.2.1
  have hTr := hv.1.2.2.2.2.1
  refine b37 (f := b9w h d) h.Trains.length (fun s k => (s, k)) (fun i => b2r (T h) h.Combs.length fun t c => b0m (b4a h d t c) i) _ (s0 := b2r (T h) h.Combs.length fun _ _ => 0) rfl (fun i hi => ?_) (by
    simp only [b9w]
    rw [if_neg (by simp)]; rfl)
  obtain ⟨x, a, hx, ha, hda, haT, _, _, htr⟩ := d2u hv hf hi
  simp only [b9w, b1d hx, Option.bind_some]
  rw [if_pos (by simpa using hi)]
  have hcl := d3o hv hi
  rw [htr] at hcl
  have := b37 (f := c2b d i x) x.Crowds.length (fun s k => (s, k)) (fun k => b2r (T h) h.Combs.length fun t c => b0m (b4a h d t c) i + if dAt d i = (t : Int) then b0m (b4l h d c i) k else 0) (b2r (T h) h.Combs.length fun t c => b0m (b4a h d t c) (i + 1))
    (s0 := b2r (T h) h.Combs.length fun t c => b0m (b4a h d t c) i) (b7u fun t _ c _ => by simp [b46]) (fun k hk => by
      obtain ⟨y, hy⟩ := b1n hk
      obtain ⟨p, hp⟩ := b1n (show i < d.People.length by rw [hf.people]; exact hi)
      obtain ⟨_, g2, _⟩ := hf.ride i x a p hx ha hp
      obtain ⟨n, hn⟩ := b1n (show k < p.length by omega)
      have hpe : dPe d i k = n := by unfold dPe; rw [hp]; simp [hn]
      have hb := d1k hv hf hi (k := k) (by rw [htr]; exact hk)
      have hgc := (hv.2.2.1 i x hx).2.2.2.2 k y hy
      have hyc : 0 ≤ y.Comb := by
        have := (d2o hv).2.1.2 x (List.mem_of_getElem? hx)
        have key : ∀ (j : Nat) (z : Crowd), x.Crowds[j]? = some z → -1 < z.Comb := by
          intro j
          induction j with
          | zero => intro z hz; exact ((hv.2.2.1 i x hx).2.2.2.2 0 z hz).2.2.2.2
          | succ j ih =>
            intro z hz
            obtain ⟨z', hz'⟩ := b1n (show j < x.Crowds.length by have := b1b hz; omega)
            have := ih z' hz'
            have := ((hv.2.2.1 i x hx).2.2.2.2 (j + 1) z hz).2.2.2.2 z' hz'
            omega
        have := key k y hy; omega
      obtain ⟨b, hb'⟩ : ∃ b : Nat, y.Comb = b := ⟨y.Comb.toNat, by omega⟩
      have hbN : b < h.Combs.length := by unfold b4q at hgc; omega
      have hcr : crC h i k = b := by unfold crC; rw [htr, hy, ← hb']; rfl
      have hs := c8l hv hf (t := a) (c := b) (k := i) (by omega)
      have hs2 := d2s hv hf (c := b) hi (k := k) (by rw [htr]; omega)
      simp only [c2b, b1d hy, b1d ha, b1d hp, b1d hn, Option.bind_some]
      rw [if_pos (by simpa using hk), c11 haT]
      simp only [Option.bind_some, hb']
      rw [b2l hbN]
      simp only [Option.bind_some]
      rw [show ((a : Nat) : Int).toNat = a from by omega, show ((b : Nat) : Int).toNat = b from by omega, b2f hk (show x.Crowds.length ≤ maxLen by simp only [maxLen]; omega), hda, if_pos rfl, b2g (by omega) (by omega),
        d1z (g := fun t c => b0m (b4a h d t c) i + if ((a : Nat) : Int) = (t : Int) then b0m (b4l h d c i) k else 0)]
      congr 3
      refine b7u fun t ht c hc => ?_
      by_cases e : t = a
      · subst e
        rw [if_pos rfl]
        by_cases e2 : c = b
        · subst e2
          rw [if_pos ⟨rfl, rfl⟩, b2u]
          simp only [b4l, hcr, if_true, hpe]
          omega
        · rw [if_neg (by omega), if_pos rfl, b2u]
          simp only [b4l, hcr]
          rw [if_neg (c := (b : Int) = c) (by omega)]; omega
      · rw [if_neg (by omega), if_neg (by omega), if_neg (by omega)]) (by
    simp only [c2b]
    rw [if_neg (by simp)]
    congr 2
    refine b7u fun t _ c _ => ?_
    rw [b2u]
    unfold b4a
    rw [htr])
  rw [this]
  simp only [Option.bind_some, c5b, b2f hi (show h.Trains.length ≤ maxLen by simp only [maxLen]; omega)]
def mAt (t c : Nat) : Nat → Nat := fun u => if u < c then t + 1 else t
omit hf in
theorem d71 {c : Nat} (hc : c < h.Combs.length) : ∃ x, h.Combs[c]? = some x ∧ nxt h c = x.Next ∧ (x.Next = -1 ∨ ((c : Int) < x.Next ∧ x.Next < h.Combs.length)) := by
  obtain ⟨x, hx⟩ := b1n hc
  exact ⟨x, hx, by unfold nxt; rw [hx]; rfl, (hv.2.1 c x hx).2.2.2.2.1⟩
theorem j7n {t : Nat} (ht : t < T h) :
    b07 (b9x h d (tab h.Combs.length fun c => tab (T h) (b1y h c)) t (tab h.Combs.length (Pm h d (fun _ => t) t))) (b2r (T h) h.Combs.length (Pm h d fun _ => t), 0) = some (b2r (T h) h.Combs.length (Pm h d fun _ => t + 1)) := by
  have hT := b4k hv
  have hTi := b6x hv
  have hN := hv.1.2.2.2.1
  refine b37 (f := b9x h d (tab h.Combs.length fun c => tab (T h) (b1y h c)) t (tab h.Combs.length (Pm h d (fun _ => t) t))) h.Combs.length (fun s k => (s, k)) (fun c => b2r (T h) h.Combs.length (Pm h d (mAt t c))) _ (s0 := b2r (T h) h.Combs.length (Pm h d fun _ => t)) rfl (fun c hc => ?_) (by
    simp only [b9x, b33]
    rw [if_neg (by simp)]
    congr 2
    refine b7u fun s _ e he => ?_
    unfold Pm Cm
    congr 1
    · congr 1
      refine b6b fun u hu => ?_
      unfold mAt; rw [if_pos hu]
    · unfold mAt; rw [if_pos he])
  obtain ⟨x, hx, hnx, hnb⟩ := d71 hv hc
  obtain ⟨x', w, hx', hw, hw1, hw2, hwv, _, _, hk1, hk2⟩ := d2c hv hf hc t
  have hmle : ∀ u, u < h.Combs.length → mAt t c u ≤ T h := fun u _ => by unfold mAt; split <;> omega
  have hmle' : ∀ u, u < h.Combs.length → mAt t (c + 1) u ≤ T h := fun u _ => by unfold mAt; split <;> omega
  have hmc : mAt t c c = t := by unfold mAt; rw [if_neg (by omega)]
  have hmc' : mAt t (c + 1) c = mAt t c c + 1 := by rw [hmc]; unfold mAt; rw [if_pos (by omega)]
  have hmu : ∀ u, u ≠ c → mAt t (c + 1) u = mAt t c u := fun u hu => by
    unfold mAt
    by_cases q : u < c
    · rw [if_pos q, if_pos (by omega)]
    · rw [if_neg q, if_neg (by omega)]
  have hval : Pm h d (mAt t c) t c = nn h d t c := (d7v hv hf (fun u _ _ => by unfold mAt; split <;> omega) (by rw [hmc]; omega)).symm
  have hnb2 := d1f hv hf t ht c
  have hps := c3f hv hf ht c
  have eps : min (nn h d t c) (b1y h c t) = ps h d t c := rfl
  have elf : nn h d t c - ps h d t c = lf h d t c := rfl
  simp only [b9x, b33]
  rw [if_pos (by simpa using hc), c11 ht]
  simp only [Option.bind_some]
  rw [b2l hc]
  simp only [Option.bind_some, hval]
  rw [b2l hc]
  simp only [Option.bind_some]
  rw [b2l ht]
  simp only [Option.bind_some, c0q, eps]
  rw [show wr ((t : Int) + 1) = ((t + 1 : Nat) : Int) from by rw [b2g (by omega) (by omega)]; omega]
  have wl : ∀ g : Nat → Nat → Int, (∀ s, s < T h → ∀ e, -1000000000 ≤ g s e ∧ g s e ≤ 2000000000) → (∀ s, s < T h → ∀ e, e < h.Combs.length → g s e + Wt h d (ps h d) s e c t = Pm h d (mAt t (c + 1)) s e) →
      b9z h d t c (nn h d t c) (b1y h c t) (b2r (T h) h.Combs.length g) = some (.nx (b2r (T h) h.Combs.length (Pm h d (mAt t (c + 1))), (c : Int) + 1)) := fun g hgb hg => by
    unfold b9z
    rw [b1d hw]
    simp only [Option.bind_some]
    rw [j72 hw1]
    simp only [Option.bind_some]
    rw [b1d hwv]
    simp only [Option.bind_some]
    rw [b1d hx]
    simp only [Option.bind_some, c0q, eps]
    rw [show wr ((t : Int) + (wlk d c t : Int)) = ((t + wlk d c t : Nat) : Int) from by rw [b2g (by omega) (by omega)]; omega]
    by_cases q : 0 ≤ x.Next ∧ t + wlk d c t < T h
    · obtain ⟨e', he'⟩ : ∃ e' : Nat, x.Next = e' := ⟨x.Next.toNat, by omega⟩
      rw [if_pos (by rw [← hTi]; simp; omega), c11 q.2]
      simp only [Option.bind_some, he']
      rw [b2l (show e' < h.Combs.length by omega)]
      simp only [Option.bind_some, b9y]
      have := hgb _ q.2 e'
      rw [show ((t + wlk d c t : Nat) : Int).toNat = t + wlk d c t from by omega, show ((e' : Nat) : Int).toNat = e' from by omega, d1z, b2f hc (show h.Combs.length ≤ maxLen by simp only [maxLen]; omega), b2g (by omega) (by omega)]
      congr 3
      refine b7u fun s hs e he => ?_
      rw [← hg s hs e he]
      unfold Wt
      by_cases q2 : s = t + wlk d c t ∧ e = e'
      · obtain ⟨rfl, rfl⟩ := q2
        rw [if_pos ⟨rfl, rfl⟩, if_pos ⟨by omega, rfl⟩]
      · rw [if_neg q2, if_neg (by omega)]; omega
    · rw [if_neg (by rw [← hTi]; simp; omega)]
      simp only [b9y]
      rw [b2f hc (show h.Combs.length ≤ maxLen by simp only [maxLen]; omega)]
      congr 3
      refine b7u fun s hs e he => ?_
      rw [← hg s hs e he]
      unfold Wt
      rw [if_neg (by omega)]; omega
  by_cases q : t + 1 < T h
  · rw [if_pos (by rw [← hTi]; simp; omega), c11 q]
    simp only [Option.bind_some]
    rw [b2l hc]
    simp only [Option.bind_some]
    have hb1 := c8j hv hf hmle q c
    rw [show ((t + 1 : Nat) : Int).toNat = t + 1 from by omega, show ((c : Nat) : Int).toNat = c from by omega, d1z, b2g (n := nn h d t c - ps h d t c) (by omega) (by omega), elf, b2g (by omega) (by omega)]
    refine wl _ (fun s hs e => ?_) (fun s hs e he => ?_)
    · have hb2 := c8j hv hf hmle hs e
      by_cases q2 : s = t + 1 ∧ e = c
      · rw [if_pos q2]; omega
      · rw [if_neg q2]; omega
    · rw [d2l hc hmu hmc', hmc]
      by_cases q2 : s = t + 1 ∧ e = c
      · obtain ⟨rfl, rfl⟩ := q2
        rw [if_pos ⟨rfl, rfl⟩, if_pos ⟨rfl, rfl⟩]
      · rw [if_neg q2, if_neg q2]; omega
  · rw [if_neg (by rw [← hTi]; simp; omega)]
    refine wl _ (fun s hs e => ?_) (fun s hs e he => ?_)
    · have hb2 := c8j hv hf hmle hs e; omega
    · rw [d2l hc hmu hmc', hmc, if_neg (by omega)]; omega
theorem g1e (hd : b85 d) : c19 h d = some (b2r (T h) h.Combs.length (nn h d), 0) := by
  have hT := b4k hv
  have hTi := b6x hv
  have hN := hv.1.2.2.2.1
  have hday : b8j h d = some true := by
    rcases j1b hv hd with ⟨_, h1⟩ | ⟨h1, _⟩
    · exact h1
    · exact absurd hf h1
  unfold c19
  rw [(d2j hv).1]
  simp only [Option.bind_some]
  rw [if_neg (by simp), hday]
  simp only [Option.bind_some]
  rw [if_neg (by simp)]
  have l1 := b37 (f := c2a h) (T h) (fun s k => (s, k)) (fun k => b2r k h.Combs.length fun _ _ => 0) (b2r (T h) h.Combs.length fun _ _ => 0) (s0 := []) rfl (fun t ht => by
    simp only [c2a]
    rw [← hTi, if_pos (by simpa using ht), c6d (by omega) (by omega)]
    simp only [Option.bind_some]
    rw [b50 (by simp only [c69, List.length_cons, List.length_nil]; omega)]
    simp only [Option.bind_some, b2f ht (show T h ≤ maxLen by simp only [maxLen]; omega)]
    rw [j9r]) (by
    simp only [c2a]
    rw [← hTi, if_neg (by simp)])
  rw [l1]
  simp only [Option.bind_some, c47]
  rw [j9w hv hf]
  simp only [Option.bind_some, c48]
  rw [c6d (by omega) (by omega)]
  simp only [Option.bind_some]
  have l2 := b37 (f := c2c h) h.Combs.length (fun s k => (s, k)) (fill h.Combs.length (fun c => tab (T h) (b1y h c)) []) (tab h.Combs.length fun c => tab (T h) (b1y h c)) (s0 := tab h.Combs.length fun _ => []) (by rw [← c7b, d4k]) (fun c hc => by
    simp only [c2c]
    rw [if_pos (by simpa using hc), d8r hv hc]
    simp only [Option.bind_some]
    rw [d4t hc]
    simp only [Option.bind_some]
    rw [show ((c : Nat) : Int).toNat = c from by omega, d4j rfl, b2f hc (show h.Combs.length ≤ maxLen by simp only [maxLen]; omega)]) (by
    simp only [c2c]
    rw [if_neg (by simp), d4i (Nat.le_refl _)])
  rw [l2]
  simp only [Option.bind_some, c49]
  have l3 := b37 (f := c2d h d (b2r (T h) h.Combs.length (arr h d)) (tab h.Combs.length fun c => tab (T h) (b1y h c))) (T h) (fun s k => (s, k)) (fun t => b2r (T h) h.Combs.length (Pm h d fun _ => t)) (b2r (T h) h.Combs.length (nn h d)) (s0 := b2r (T h) h.Combs.length (arr h d)) (b7u fun s _ e _ => by
    unfold Pm Cm
    rw [b6p fun u _ => b46, if_neg fun hh => by have h2 : s ≤ 0 := hh.2; omega]; omega) (fun t ht => by
    simp only [c2d, c69]
    rw [if_pos (by simpa using ht), c11 ht]
    simp only [Option.bind_some]
    rw [j7n hv hf ht]
    simp only [Option.bind_some, c5a, b2f ht (show T h ≤ maxLen by simp only [maxLen]; omega)]) (by
    simp only [c2d, c69]
    rw [if_neg (by simp)]
    congr 2
    exact b7u fun s hs e he => (d7v hv hf (fun u _ _ => by omega) (by omega)).symm)
  rw [l3]; rfl
end
def cm (h : Hall) (d : Day) (c t : Nat) : Int := arr h d t c + b0m (fun u => b0m (Wt h d (ps h d) t c u) t) h.Combs.length
def b1j (f : Nat → Int) (a b : Nat) : Int := b0m f b - b0m f a
theorem b4g {f : Nat → Int} {a b : Nat} : b1j f a (b + 1) = b1j f a b + f b := by unfold b1j; rw [b2u]; omega
theorem b3p {f : Nat → Int} {a : Nat} : b1j f a a = 0 := by unfold b1j; omega
theorem c6z {f : Nat → Int} {a b c : Nat} : b1j f a c = b1j f a b + b1j f b c := by unfold b1j; omega
theorem d81 {f g : Nat → Int} {a b : Nat} (hab : a ≤ b) (h : ∀ i, a ≤ i → i < b → f i ≤ g i) : b1j f a b ≤ b1j g a b := by
  induction b with
  | zero => have : a = 0 := by omega
            subst this; rw [b3p, b3p]; exact Int.le_refl _
  | succ b ih =>
    by_cases e : a = b + 1
    · subst e; rw [b3p, b3p]; exact Int.le_refl _
    · rw [b4g, b4g]
      have := ih (by omega) fun i h1 h2 => h i h1 (by omega)
      have := h b (by omega) (by omega)
      omega
theorem j8v {f : Nat → Int} {a b : Nat} (hab : a ≤ b) (h : ∀ i, a ≤ i → i < b → 0 ≤ f i) : 0 ≤ b1j f a b := by
  have := d81 (f := fun _ => 0) (g := f) hab h
  have e : b1j (fun _ => (0 : Int)) a b = 0 := by unfold b1j; rw [b6p fun _ _ => rfl, b6p fun _ _ => rfl]; rfl
  omega
theorem d7z {f : Nat → Nat → Int} {n m : Nat} : b0m (fun i => b0m (f i) m) n = b0m (fun j => b0m (fun i => f i j) n) m := by
  induction n with
  | zero => rw [b46, b6p fun j _ => b46]
  | succ n ih =>
    rw [b2u, ih, ← d1h]
    exact b6b fun j _ => by rw [b2u]
theorem d1w {f : Nat → Nat → Int} {a b n : Nat} : b1j (fun x => b0m (f x) n) a b = b0m (fun i => b1j (fun x => f x i) a b) n := by
  unfold b1j
  rw [d7z, d7z (n := a)]
  have : ∀ k : Nat, b0m (fun i => b0m (fun x => f x i) b - b0m (fun x => f x i) a) k = b0m (fun i => b0m (fun x => f x i) b) k - b0m (fun i => b0m (fun x => f x i) a) k := by
    intro k
    induction k with
    | zero => rfl
    | succ k ih => rw [b2u, b2u, b2u, ih]; omega
  rw [this]
theorem d82 {v : Int} {k a b : Nat} (hab : a ≤ b) : b1j (fun x => if k = x then v else 0) a b = if a ≤ k ∧ k < b then v else 0 := by
  induction b with
  | zero => have : a = 0 := by omega
            subst this; rw [b3p, if_neg (by omega)]
  | succ b ih =>
    by_cases e : a = b + 1
    · subst e; rw [b3p, if_neg (by omega)]
    · rw [b4g, ih (by omega)]
      by_cases q : k = b
      · rw [if_neg (by omega), if_pos q, if_pos (by omega)]; omega
      · rw [if_neg q]
        by_cases q2 : a ≤ k ∧ k < b
        · rw [if_pos q2, if_pos (by omega)]; omega
        · rw [if_neg q2, if_neg (by omega)]; omega
section
variable {h : Hall} {d : Day} (hv : V h) (hf : Fit h d)
include hv hf
omit hv hf in
theorem c6f {t c : Nat} : nn h d t c = cm h d c t + if 0 < t then lf h d (t - 1) c else 0 := by rw [d1g]; rfl
theorem j7u (c : Nat) {s t : Nat} (hst : s ≤ t) : nn h d t c + b1j (fun x => ps h d x c) s t = (nn h d s c - cm h d c s) + b1j (cm h d c) s (t + 1) := by
  induction t with
  | zero => have : s = 0 := by omega
            subst this; rw [b3p, b4g, b3p]; omega
  | succ t ih =>
    by_cases e : s = t + 1
    · subst e; rw [b3p, b4g, b3p]; omega
    · have := ih (by omega)
      have h1 := c6f (h := h) (d := d) (t := t + 1) (c := c)
      rw [if_pos (by omega), Nat.add_sub_cancel] at h1
      have h2 : lf h d t c = nn h d t c - ps h d t c := rfl
      rw [b4g (b := t), b4g (b := t + 1)]
      omega
theorem j9g (c : Nat) : ∀ t, t < T h → ∃ s, s ≤ t ∧ nn h d t c = b1j (cm h d c) s (t + 1) - b1j (b1y h c) s t := by
  intro t
  induction t with
  | zero =>
    intro ht
    refine ⟨0, Nat.le_refl _, ?_⟩
    rw [b3p, b4g, b3p, c6f, if_neg (by omega)]; omega
  | succ t ih =>
    intro ht
    obtain ⟨s, hs, e⟩ := ih (by omega)
    have h1 := c6f (h := h) (d := d) (t := t + 1) (c := c)
    rw [if_pos (by omega), Nat.add_sub_cancel] at h1
    have h2 : lf h d t c = nn h d t c - min (nn h d t c) (b1y h c t) := rfl
    by_cases q : nn h d t c ≤ b1y h c t
    · refine ⟨t + 1, Nat.le_refl _, ?_⟩
      rw [b3p, b4g, b3p]; omega
    · refine ⟨s, by omega, ?_⟩
      rw [b4g (b := t + 1), b4g (f := b1y h c)]; omega
theorem g1n (c : Nat) {s t : Nat} (hst : s ≤ t) : b1j (fun x => arr h d x c) s (t + 1) ≤ b4n h c s t := by
  unfold arr
  rw [d1w]
  have e : b4n h c s t = b0m (fun i => b3u c s t (tr h i)) h.Trains.length := by
    unfold b4n
    rw [← c0u]
    have key : ∀ k, k ≤ h.Trains.length → b3o h.Trains (b3u c s t) k = b0m (fun i => b3u c s t (tr h i)) k := by
      intro k
      induction k with
      | zero => intro _; rw [c3g, b46]
      | succ k ih =>
        intro hk
        obtain ⟨x, hx⟩ := b1n (show k < h.Trains.length by omega)
        rw [c0v hx, b2u, ih (by omega)]
        unfold tr; rw [hx]; rfl
    exact key _ (Nat.le_refl _)
  rw [e]
  refine c0t fun i hi => ?_
  obtain ⟨x, a, hx, ha, hda, haT, ha1, ha2, htr⟩ := d2u hv hf hi
  have hsum : b0m (b4l h d c i) (tr h i).Crowds.length ≤ (x.Crowds.map (b4y c)).sum := by
    rw [htr, ← c0u]
    have key : ∀ k, k ≤ x.Crowds.length → b0m (b4l h d c i) k ≤ b3o x.Crowds (b4y c) k := by
      intro k
      induction k with
      | zero => intro _; rw [c3g, b46]; exact Int.le_refl _
      | succ k ih =>
        intro hk
        obtain ⟨y, hy⟩ := b1n (show k < x.Crowds.length by omega)
        obtain ⟨p1, p2, y', hy', p3, p4⟩ := d1k hv hf hi (k := k) (by rw [htr]; omega)
        rw [htr, hy] at hy'; cases hy'
        rw [c0v hy, b2u]
        have := ih (by omega)
        have e1 : crC h i k = y.Comb := by unfold crC; rw [htr, hy]; rfl
        have e2 : b4l h d c i k ≤ b4y c y := by
          unfold b4l b4y; rw [e1]
          split <;> omega
        omega
    exact key _ (Nat.le_refl _)
  have e3 : b1j (fun x => b4a h d x c i) s (t + 1) = if s ≤ a ∧ a < t + 1 then b0m (b4l h d c i) (tr h i).Crowds.length else 0 := by
    rw [← d82 (by omega)]
    congr 1
    funext x
    unfold b4a
    rw [hda]
    by_cases q : a = x
    · rw [if_pos (by omega), if_pos q]
    · rw [if_neg (by omega), if_neg q]
  rw [e3]
  have hnn := (d9k hv (List.mem_of_getElem? hx) c s t).1
  rw [htr]
  split
  · unfold b3u
    rw [if_neg (by omega)]; rwa [htr] at hsum
  · exact hnn
theorem l05 (c u : Nat) (hu : u < h.Combs.length) {s t : Nat} (hst : s ≤ t) (ht : t < T h) (hn : nxt h u = (c : Int)) {x : Comb} (hx : h.Combs[u]? = some x) :
    b1j (fun y => b0m (Wt h d (ps h d) y c u) y) s (t + 1) ≤ if (t : Int) - x.Walk.Low < 0 then 0 else b1j (fun y => ps h d y u) ((s : Int) - x.Walk.High).toNat (((t : Int) - x.Walk.Low).toNat + 1) := by
  have hg := hv.2.1 u x hx
  unfold b4e at hg
  have e1 : b1j (fun y => b0m (Wt h d (ps h d) y c u) y) s (t + 1) = b0m (fun t' => b1j (fun y => Wt h d (ps h d) y c u t') s (t + 1)) (t + 1) := by
    rw [← d1w]
    unfold b1j
    have e : ∀ k, k ≤ t + 1 → b0m (fun y => b0m (Wt h d (ps h d) y c u) y) k = b0m (fun y => b0m (Wt h d (ps h d) y c u) (t + 1)) k := fun k hk => b6b fun y hy => (c3b (fun i hi => d2p hv hf hu hi _) (by omega)).symm
    rw [e _ (Nat.le_refl _), e s (by omega)]
  rw [e1]
  have hw : ∀ t' : Nat, x.Walk.Low ≤ wlk d u t' ∧ (wlk d u t' : Int) ≤ x.Walk.High := fun t' => by
    obtain ⟨x', w, hx', _, _, _, _, q1, q2, _, _⟩ := d2c hv hf hu t'
    rw [hx] at hx'; cases hx'
    exact ⟨q1, q2⟩
  have e2 : ∀ t', b1j (fun y => Wt h d (ps h d) y c u t') s (t + 1) = if s ≤ t' + wlk d u t' ∧ t' + wlk d u t' < t + 1 then ps h d t' u else 0 := fun t' => by
    rw [← d82 (by omega)]
    congr 1
    funext y
    unfold Wt
    by_cases q : t' + wlk d u t' = y
    · rw [if_pos ⟨hn, q⟩, if_pos q]
    · rw [if_neg fun hh => q hh.2, if_neg q]
  rw [b6b fun t' _ => e2 t']
  have hnnp : ∀ t', t' < t + 1 → 0 ≤ ps h d t' u := fun t' ht' => (c3f hv hf (show t' < T h by omega) u).1
  split
  · refine Int.le_of_eq (b6p fun t' ht' => if_neg ?_)
    have := hw t'
    omega
  · generalize ha : ((s : Int) - x.Walk.High).toNat = a
    generalize hb : ((t : Int) - x.Walk.Low).toNat = b
    have hab : a ≤ b + 1 := by omega
    have hbt : b + 1 ≤ t + 1 := by omega
    have key : b0m (fun t' => if s ≤ t' + wlk d u t' ∧ t' + wlk d u t' < t + 1 then ps h d t' u else 0) (t + 1) ≤ b0m (fun t' => if a ≤ t' ∧ t' < b + 1 then ps h d t' u else 0) (t + 1) := c0t fun t' ht' => by
      have := hw t'
      have := hnnp t' ht'
      by_cases q : s ≤ t' + wlk d u t' ∧ t' + wlk d u t' < t + 1
      · rw [if_pos q, if_pos (by omega)]; exact Int.le_refl _
      · rw [if_neg q]; split <;> omega
    have e3 : ∀ k, k ≤ b + 1 → b0m (fun t' => if a ≤ t' ∧ t' < b + 1 then ps h d t' u else 0) k = if a ≤ k then b1j (fun y => ps h d y u) a k else 0 := by
      intro k
      induction k with
      | zero =>
        intro _
        rw [b46]
        split
        · have : a = 0 := by omega
          subst this; rw [b3p]
        · rfl
      | succ k ih =>
        intro hk
        rw [b2u, ih (by omega)]
        by_cases q : a ≤ k
        · rw [if_pos q, if_pos (by omega), if_pos (by omega), b4g]
        · rw [if_neg q, if_neg (by omega)]
          by_cases q2 : a = k + 1
          · rw [if_pos (by omega), q2, b3p]; rfl
          · rw [if_neg (by omega)]; rfl
    have e4 : b0m (fun t' => if a ≤ t' ∧ t' < b + 1 then ps h d t' u else 0) (t + 1) = b0m (fun t' => if a ≤ t' ∧ t' < b + 1 then ps h d t' u else 0) (b + 1) := c3b (fun i hi => if_neg (by omega)) (by omega)
    rw [e4, e3 _ (Nat.le_refl _), if_pos hab] at key
    exact key
structure Bnd (h : Hall) (d : Day) (c : Nat) : Prop where
  come : ∀ s t, s ≤ t → t < T h → b1j (cm h d c) s (t + 1) ≤ (own h c).come s t
  most : ∀ t, t < T h → nn h d t c ≤ (own h c).most t
  flow : ∀ t, t < T h → ps h d t c ≤ (own h c).flow t
theorem j7g {c : Nat} (hb : Bnd h d c) {a b : Nat} (hab : a ≤ b) (hbT : b < T h) : b1j (fun y => ps h d y c) a (b + 1) ≤ b8s (own h c) a b := by
  have hps : ∀ i, i < T h → 0 ≤ ps h d i c := fun i hi => (c3f hv hf hi c).1
  have hfl : ∀ {x y : Nat}, x ≤ y → y ≤ T h → b1j (fun y => ps h d y c) x y ≤ b1j (own h c).flow x y := fun hxy hy => d81 hxy fun i _ hi => hb.flow i (by omega)
  have hle : ∀ k, k ≤ b → b1j (fun y => ps h d y c) k (b + 1) ≤ nn h d k c + b1j (cm h d c) (k + 1) (b + 1) := fun k hk => by
    have h1 := j7u hv hf c (show k ≤ b from hk)
    have h2 : b1j (fun y => ps h d y c) k (b + 1) = b1j (fun y => ps h d y c) k b + ps h d b c := b4g
    have h3 : b1j (cm h d c) k (b + 1) = b1j (cm h d c) k (k + 1) + b1j (cm h d c) (k + 1) (b + 1) := c6z
    rw [show b1j (cm h d c) k (k + 1) = cm h d c k from by rw [b4g, b3p]; omega] at h3
    have h4 : ps h d b c = min (nn h d b c) (b1y h c b) := rfl
    omega
  unfold b8s
  rw [d0x]
  refine ⟨Int.le_min.2 ⟨?_, ?_⟩, fun i hi => ?_⟩
  · have h1 := hb.come 0 b (by omega) hbT
    have h2 := hle 0 (by omega)
    simp only [Nat.zero_add] at h2
    have h3 : b1j (fun y => ps h d y c) 0 (b + 1) = b1j (fun y => ps h d y c) 0 a + b1j (fun y => ps h d y c) a (b + 1) := c6z
    have h4 := j8v (f := fun y => ps h d y c) (show 0 ≤ a by omega) fun i _ hi => hps i (by omega)
    have h5 := c6f (h := h) (d := d) (t := 0) (c := c)
    rw [if_neg (by omega)] at h5
    have h6 : b1j (cm h d c) 0 (b + 1) = b1j (cm h d c) 0 1 + b1j (cm h d c) 1 (b + 1) := c6z
    rw [show b1j (cm h d c) 0 1 = cm h d c 0 from by rw [b4g, b3p]; omega] at h6
    omega
  · exact hfl (by omega) (by omega)
  · generalize hk : a + i = k
    unfold way
    have h1 := hfl (x := a) (y := k) (by omega) (by omega)
    have h2 := hle k (by omega)
    have h3 : b1j (fun y => ps h d y c) a (b + 1) = b1j (fun y => ps h d y c) a k + b1j (fun y => ps h d y c) k (b + 1) := c6z
    have h4 := hb.most k (by omega)
    have h5 : b1j (cm h d c) (k + 1) (b + 1) ≤ b4b (own h c) b k := by
      unfold b4b
      by_cases q : k < b
      · rw [if_pos q]; exact hb.come _ _ (by omega) hbT
      · rw [if_neg q, show k = b by omega, b3p]; exact Int.le_refl _
    have h6 : b1j (own h c).flow a k = b0m (own h c).flow k - b0m (own h c).flow a := rfl
    omega
theorem bnd : ∀ c, c < h.Combs.length → Bnd h d c := by
  intro c
  induction c using Nat.strongRecOn with
  | _ c ih =>
    intro hc
    have hcome : ∀ s t, s ≤ t → t < T h → b1j (cm h d c) s (t + 1) ≤ (own h c).come s t := fun s t hst ht => by
      have e : (own h c).come s t = b4w h c (own h) s t := by unfold own; rw [b72]; rfl
      rw [e]
      unfold b4w
      have e1 : b1j (cm h d c) s (t + 1) = b1j (fun x => arr h d x c) s (t + 1) + b1j (fun x => b0m (fun u => b0m (Wt h d (ps h d) x c u) x) h.Combs.length) s (t + 1) := by
        have e0 : cm h d c = fun x => arr h d x c + b0m (fun u => b0m (Wt h d (ps h d) x c u) x) h.Combs.length := rfl
        unfold b1j
        rw [e0, d1h, d1h]; omega
      rw [e1]
      have h1 := g1n hv hf c hst
      rw [d1w]
      have h2 : b0m (fun u => b1j (fun x => b0m (Wt h d (ps h d) x c u) x) s (t + 1)) h.Combs.length ≤ b0m (fun u => if u < c then b2s h c (own h) s t u else 0) h.Combs.length := c0t fun u hu => by
        obtain ⟨x, hx, hnx, hnb⟩ := d71 hv hu
        by_cases q : nxt h u = (c : Int)
        · have huc : u < c := by omega
          have hw := l05 hv hf c u hu hst ht q hx
          have hg := hv.2.1 u x hx
          unfold b4e at hg
          rw [if_pos huc]
          refine Int.le_trans hw ?_
          unfold b2s
          rw [hx]
          simp only
          rw [if_pos (c := x.Next = (c : Int)) (by omega)]
          unfold b7k
          by_cases q2 : (t : Int) - x.Walk.Low < 0
          · rw [if_pos q2, if_pos (.inr q2)]; exact Int.le_refl _
          · rw [if_neg q2, if_neg (by omega)]
            have := j7g hv hf (ih u huc hu) (a := ((s : Int) - x.Walk.High).toNat) (b := ((t : Int) - x.Walk.Low).toNat) (by omega) (by omega)
            rwa [show (max ((s : Int) - x.Walk.High) 0).toNat = ((s : Int) - x.Walk.High).toNat by omega]
        · have e0 : b1j (fun x => b0m (Wt h d (ps h d) x c u) x) s (t + 1) = 0 := by
            have hz : ∀ k, b0m (fun x => b0m (Wt h d (ps h d) x c u) x) k = 0 := fun k => b6p fun y _ => b6p fun t' _ => by unfold Wt; exact if_neg fun hh => q hh.1
            unfold b1j
            rw [hz, hz]; rfl
          rw [e0]
          by_cases huc : u < c
          · rw [if_pos huc]
            unfold b2s
            rw [hx]
            simp only
            rw [if_neg (by omega)]; exact Int.le_refl _
          · rw [if_neg huc]; exact Int.le_refl _
      have h3 : b0m (fun u => if u < c then b2s h c (own h) s t u else 0) h.Combs.length = b0m (b2s h c (own h) s t) c := by
        rw [c3b (s := c) (fun i hi => if_neg (by omega)) (by omega)]
        exact b6b fun u hu => if_pos hu
      rw [h3] at h2
      omega
    have hmost : ∀ t, t < T h → nn h d t c ≤ (own h c).most t := fun t ht => by
      obtain ⟨s, hs, e⟩ := j9g hv hf c t ht
      have h1 := hcome s t hs ht
      have h2 := j1y (z := 0) (g := fun s => (own h c).come s t - (b0m (b1y h c) t - b0m (b1y h c) s)) (a := 0) (n := t + 1) (i := s) (by omega)
      have h3 : (own h c).most t = b5k 0 (fun s => (own h c).come s t - (b0m (b1y h c) t - b0m (b1y h c) s)) 0 (t + 1) := j2c
      rw [Nat.zero_add] at h2
      rw [h3]
      have h4 : b1j (b1y h c) s t = b0m (b1y h c) t - b0m (b1y h c) s := rfl
      omega
    refine ⟨hcome, hmost, fun t ht => ?_⟩
    have h1 := hmost t ht
    have h2 : (own h c).flow t = min ((own h c).most t) (b1y h c t) := by unfold own; rw [b72]; rfl
    have h3 : ps h d t c = min (nn h d t c) (b1y h c t) := rfl
    omega
end
end Go.Nw.TM.H
namespace Go.Nw.TM
open H
theorem g4r (h : Hall) (d : Day) (x : neweltop_Counted) (hk : b5p h) (hd : b85 d) (ox : c4c x) : c27 h d x = some true := by
  have hrl : x.Readings.length ≤ maxLen := ox.2.2.1
  unfold c27
  obtain ⟨b, hb⟩ := g07 hk
  rw [hb]
  simp only [Option.bind_some]
  cases b with
  | true => rfl
  | false =>
    simp only [Bool.false_eq_true, ↓reduceIte]
    rcases d2i hk with ⟨hv, e1⟩ | ⟨_, e1⟩
    case inr => rw [e1]; rfl
    rw [e1]
    simp only [Option.bind_some, not_true_eq_false, decide_false, Bool.false_eq_true, ↓reduceIte]
    rcases g6e hv hd with ⟨hf, e2⟩ | ⟨_, e2⟩
    case inr => rw [e2]; rfl
    rw [e2]
    simp only [Option.bind_some]
    have hTi := b6x hv
    have hT := b4k hv
    by_cases q : x.Comb < 0 ∨ (h.Combs.length : Int) ≤ x.Comb ∨ x.Tick < 0 ∨ h.Until ≤ x.Tick ∨ 7 < (x.Readings.length : Int)
    · rw [if_pos (by simp only [Bool.not_true, Bool.false_or, Bool.or_eq_true, decide_eq_true_eq]; omega)]; rfl
    rw [if_neg (by simp only [Bool.not_true, Bool.false_or, Bool.or_eq_true, decide_eq_true_eq]; omega)]
    rcases F.check_both hrl with ⟨g, _, e3⟩ | ⟨_, e, he, _, e3⟩
    case inr => rw [e3]; simp only [Option.bind_some]; rw [if_pos (by simpa using he)]; rfl
    rw [e3]
    simp only [Option.bind_some, not_true_eq_false, decide_false, Bool.false_eq_true, ↓reduceIte]
    obtain ⟨c, hcx⟩ : ∃ c : Nat, x.Comb = c := ⟨x.Comb.toNat, by omega⟩
    obtain ⟨k, hkx⟩ : ∃ k : Nat, x.Tick = k := ⟨x.Tick.toNat, by omega⟩
    rw [hcx, hkx]
    have hc : c < h.Combs.length := by omega
    have hkT : k < T h := by omega
    have hm := (bnd hv hf c hc).most k hkT
    have hnn := d1f hv hf k hkT c
    rw [g1e hv hf hd, g1d hv hc]
    simp only [Option.bind_some]
    rw [if_neg (by simp [c69, b33]; omega)]
    have e4 : get (b2r (T h) h.Combs.length (nn h d)) (k : Int) = some (tab h.Combs.length (nn h d k)) := b2l hkT
    rw [e4]
    simp only [Option.bind_some]
    rw [if_neg (by simp [b33]), b2l hc, b2l hkT]
    simp only [Option.bind_some]
    rw [if_neg (by simpa using hm)]
    by_cases q2 : 1000 < (own h c).most k
    · rw [if_pos (by simpa using q2)]; rfl
    rw [if_neg (by simpa using q2), b50 (by simp; omega)]
    simp only [Option.bind_some, List.nil_append]
    rw [b50 (by simp; omega)]
    simp only [Option.bind_some]
    have hlen : (x.Readings ++ [(⟨(own h c).most k, (own h c).most k, 0, 0⟩ : Reading)]).length ≤ maxLen := by simp [maxLen]; omega
    obtain ⟨a, ha, ha2⟩ := d2r (nn h d k c) hlen
    rw [ha]
    simp only [Option.bind_some]
    cases a with
    | true =>
      obtain ⟨g', g1, g8, gl⟩ := ha2 rfl
      obtain ⟨s, s1, s2, s3, _, s5⟩ := d7p g' g1 g8 gl
      simp only [↓reduceIte]
      rw [s1, s5]
      simp only [Option.bind_some]
      rw [if_pos (by simp; omega)]
      rfl
    | false =>
      simp only [Bool.false_eq_true, ↓reduceIte]
      rw [F.Truth_prog g]
      simp only [Option.bind_some]
      obtain ⟨a2, hb1, hb2⟩ := d2r (nn h d k c) hrl
      rw [hb1]
      cases a2 with
      | false => simp only [Option.bind_some, ite_self, Bool.false_eq_true, ↓reduceIte]; rfl
      | true =>
        obtain ⟨g', g1, g8, gl⟩ := hb2 rfl
        obtain ⟨s, s1, s2, s3, _, s5⟩ := d7p g' g1 g8 gl
        rw [F.Truth_prog g'] at s1
        rw [Option.some.inj s1, if_neg (by simp; omega)]
        rfl
end Go.Nw.TM
