/- Plain laws on the models. -/
import Derived.Test.YtaccbljgojdfjaaDoorFMTwin
import Derived.Test.YtaccbljgojdfjaaDoorP2
import Derived.Test.YtaccbljgojdfjaaDoorNwFirst
import Derived.Test.YtaccbljgojdfjaaDoorNwBits
import Derived.KernelRfl
set_option linter.all false
set_option linter.unusedVariables false
set_option linter.unusedSimpArgs false
set_option linter.unusedSectionVars false
namespace Go.Nw.FM
def bL (s : Nat) : List Int := ((List.range 8).filter fun i => s.testBit i).map Int.ofNat
theorem ev : ((List.range 256).all fun s => decide (c07 (s : Int) = some (bL s)) && (decide (c2t (s : Int) = some (bL s)) && decide (c2h (s : Int) = some ((bL s).length : Int)))) = true := by kernel_rfl
theorem ev2 : ((List.range 9).all fun n => decide ((bL (2 ^ n - 1)).length = n) && ((List.range (2 ^ n - 1)).all fun s => decide ((bL s).length < n))) = true := by kernel_rfl
theorem b8f {s : Nat} (hs : s < 256) : b4a s = some (bL s) ∧ b55 s = some (bL s) ∧ b41 s = some ((bL s).length : Int) := by
  have h := List.all_eq_true.1 ev s (List.mem_range.2 hs)
  simp only [Bool.and_eq_true, decide_eq_true_eq] at h
  exact ⟨(d3h _).h _ h.1, (g3m _).h _ h.2.1, (d8f _).h _ h.2.2⟩
theorem c4u {n : Nat} (hn : n ≤ 8) : (bL (2 ^ n - 1)).length = n := by
  have h := List.all_eq_true.1 ev2 n (List.mem_range.2 (by omega))
  simp only [Bool.and_eq_true, decide_eq_true_eq] at h
  exact h.1
theorem c67 {n s : Nat} (hn : n ≤ 8) (hs : s < 2 ^ n - 1) : (bL s).length < n := by
  have h := List.all_eq_true.1 ev2 n (List.mem_range.2 (by omega))
  simp only [Bool.and_eq_true] at h
  have := List.all_eq_true.1 h.2 s (List.mem_range.2 hs)
  simpa using this
theorem b9e {n : Nat} (hn : n ≤ 8) : 2 ^ n ≤ 256 ∧ 1 ≤ 2 ^ n := by
  have : 2 ^ n ≤ 2 ^ 8 := Nat.pow_le_pow_right (by omega) hn
  exact ⟨this, Nat.one_le_two_pow⟩
theorem c0l (s : Nat) : (bL s).length ≤ 8 := by
  unfold bL
  rw [List.length_map]
  have := List.length_filter_le (fun i => s.testBit i) (List.range 8)
  simpa using this
end Go.Nw.FM
namespace Go.Nw.FM
def b3m (r : Reading) : Prop := (-100000 ≤ r.Says ∧ r.Says ≤ 100000) ∧ (0 ≤ r.Error ∧ r.Error ≤ 1000) ∧ (0 ≤ r.Drift ∧ r.Drift ≤ 1000) ∧ (0 ≤ r.Days ∧ r.Days ≤ 1000)
def b7z (l : List Reading) : Prop := l.length ≤ 12 ∧ ∀ r ∈ l, b3m r
theorem b6h {l : List Reading} (hl : l.length ≤ maxLen) : (b7z l ∧ b4v l = some 0 ∧ b43 l = some 0) ∨ (¬ b7z l ∧ ∃ e, e ≠ 0 ∧ b4v l = some e ∧ b43 l = some e) := by
  unfold b4v b43
  by_cases q : 12 < l.length
  · rw [if_pos (by simp; omega), if_pos (by simp; omega)]
    exact .inr ⟨fun h => by have := h.1; omega, 2, by omega, rfl, rfl⟩
  · rw [if_neg (by simp; omega), if_neg (by simp; omega)]
    have h1 := c7e (f := b5s l) l (fun _ r => ¬ b3m r) (.inr 100) (.inl ()) (fun k x hx hb => by
        simp only [b5s, b2e hx, Option.bind_some]
        rw [if_pos (by simpa using b40 hx), if_pos]
        unfold b3m at hb
        simp only [b2p, Bool.or_eq_true, Bool.not_eq_true', Bool.and_eq_false_iff, decide_eq_false_iff_not]; omega) (fun k x hx hb => by
        simp only [b5s, b2e hx, Option.bind_some]
        rw [if_pos (by simpa using b40 hx), if_neg, b35 (b40 hx) hl]
        unfold b3m at hb
        simp only [b2p, Bool.or_eq_true, Bool.not_eq_true', Bool.and_eq_false_iff, decide_eq_false_iff_not]; omega) (by simp [b5s])
    have h2 := c7e (f := b52 l) l (fun _ r => ¬ b3m r) (.inr 100) (.inl ()) (fun k x hx hb => by
        simp only [b52, b2e hx, Option.bind_some]
        rw [if_pos (by simpa using b40 hx), if_pos]
        unfold b3m at hb
        simp only [b2s, Bool.or_eq_true, Bool.not_eq_true', Bool.and_eq_false_iff, decide_eq_false_iff_not]; omega) (fun k x hx hb => by
        simp only [b52, b2e hx, Option.bind_some]
        rw [if_pos (by simpa using b40 hx), if_neg, b35 (b40 hx) hl]
        unfold b3m at hb
        simp only [b2s, Bool.or_eq_true, Bool.not_eq_true', Bool.and_eq_false_iff, decide_eq_false_iff_not]; omega) (by simp [b52])
    rcases h1 with ⟨g, e1⟩ | ⟨⟨k, x, hx, hb⟩, e1⟩
    · rcases h2 with ⟨_, e2⟩ | ⟨⟨k, x, hx, hb⟩, _⟩
      · rw [e1, e2]
        refine .inl ⟨⟨by omega, fun r hr => ?_⟩, rfl, rfl⟩
        obtain ⟨j, hj, rfl⟩ := List.getElem_of_mem hr
        exact Classical.not_not.1 (g j _ (List.getElem?_eq_getElem hj))
      · exact absurd hb (g k x hx)
    · rcases h2 with ⟨g, _⟩ | ⟨_, e2⟩
      · exact absurd hb (g k x hx)
      · rw [e1, e2]
        exact .inr ⟨fun h => hb (h.2 x (List.mem_of_getElem? hx)), 100, by omega, rfl, rfl⟩
def lo (r : Reading) : Int := r.Says - (r.Error + r.Drift * r.Days)
def hi (r : Reading) : Int := r.Says + (r.Error + r.Drift * r.Days)
theorem b5c {n : Int} (h1 : -1000000000000000 ≤ n) (h2 : n ≤ 1000000000000000) : wr n = n := c87 (by omega) (by omega)
theorem g6f {r : Reading} (hr : b3m r) : 0 ≤ r.Drift * r.Days ∧ r.Drift * r.Days ≤ 1000000 := by
  obtain ⟨_, _, ⟨h1, h2⟩, h3, h4⟩ := hr
  refine ⟨Int.mul_nonneg h1 h3, ?_⟩
  have := Int.mul_le_mul h2 h4 h3 (by omega : (0 : Int) ≤ 1000)
  omega
theorem c27 {r : Reading} (hr : b3m r) : wr (r.Says - wr (r.Error + wr (r.Drift * r.Days))) = lo r ∧ wr (r.Says + wr (r.Error + wr (r.Drift * r.Days))) = hi r := by
  have := g6f hr
  obtain ⟨h1, h2, _⟩ := hr
  rw [b5c (n := r.Drift * r.Days) (by omega) (by omega), b5c (n := r.Error + r.Drift * r.Days) (by omega) (by omega), b5c (by omega) (by omega), b5c (by omega) (by omega)]
  exact ⟨rfl, rfl⟩
theorem c9j {r : Reading} (hr : b3m r) : b3t r = ⟨lo r, hi r⟩ := by
  unfold b3t
  rw [(c27 hr).1, (c27 hr).2]
def cF (l : List Reading) (s : Nat) : Nat → Int × Int
  | 0 => (-1099511627776, 1099511627776)
  | k + 1 => if s.testBit k then cF l s k else match l[k]? with
    | some r => (max (cF l s k).1 (lo r), min (cF l s k).2 (hi r))
    | none => cF l s k
theorem c3h {s k : Nat} (hs : s < 9223372036854775808) (hk : k ≤ 64) : (decide (b28 (b47 .i64 (s : Int) (k : Int)) 1 = 0) = true) ↔ s.testBit k = false := by
  rw [d0b hs hk]
  cases s.testBit k <;> simp
section
variable {l : List Reading} (hg : b7z l) {s : Nat} (hs : s < 9223372036854775808)
include hg hs
theorem c30 : b5q l s = some (⟨(cF l s l.length).1, (cF l s l.length).2⟩, decide ((cF l s l.length).1 ≤ (cF l s l.length).2)) := by
  have hl := hg.1
  unfold b5q
  have := b84 (f := b6p l s) l.length (fun (p : Int × Int) k => (p.1, p.2, k)) (cF l s) (cF l s l.length) (s0 := (-1099511627776, 1099511627776)) rfl (fun k hk => by
    obtain ⟨x, hx⟩ := b2y hk
    have hw := c27 (hg.2 x (List.mem_of_getElem? hx))
    simp only [b6p, b2e hx, Option.bind_some]
    rw [if_pos (by simpa using hk), c8r (by omega)]
    simp only [Option.bind_some]
    have ht := c3h (s := s) (k := k) hs (by omega)
    by_cases q : s.testBit k = true
    · rw [if_neg (fun hh => by rw [ht.1 hh] at q; cases q)]
      simp only [b5r, b35 hk (show l.length ≤ maxLen by simp only [maxLen]; omega), cF]
      rw [if_pos q]
    · rw [if_pos (ht.2 (by simpa using q))]
      simp only [b5r, b35 hk (show l.length ≤ maxLen by simp only [maxLen]; omega), cF, hx]
      rw [if_neg q, hw.1, hw.2, c7m, c7k]) (by
    simp only [b6p]
    rw [if_neg (by simp)])
  simp only at this
  rw [this]; rfl
theorem c31 : b57 l s = some (⟨(cF l s l.length).1, (cF l s l.length).2⟩, decide ((cF l s l.length).1 ≤ (cF l s l.length).2)) := by
  have hl := hg.1
  unfold b57
  have := b84 (f := b7e l s) l.length (fun (p : Int × Int) k => (p.1, p.2, k)) (cF l s) (cF l s l.length) (s0 := (-1099511627776, 1099511627776)) rfl (fun k hk => by
    obtain ⟨x, hx⟩ := b2y hk
    have ha := c9j (hg.2 x (List.mem_of_getElem? hx))
    simp only [b7e, b2e hx, Option.bind_some]
    rw [if_pos (by simpa using hk), b7p (by omega), c8r (by omega)]
    simp only [Option.bind_some]
    have ht := c3h (s := s) (k := k) hs (by omega)
    by_cases q : s.testBit k = true
    · rw [if_neg (fun hh => by rw [ht.1 hh] at q; cases q)]
      simp only [b58, b35 hk (show l.length ≤ maxLen by simp only [maxLen]; omega), cF]
      rw [if_pos q]
    · rw [if_pos (ht.2 (by simpa using q))]
      simp only [b58, b35 hk (show l.length ≤ maxLen by simp only [maxLen]; omega), cF, hx]
      rw [if_neg q, ha, c7m, c7k]) (by
    simp only [b7e]
    rw [if_neg (by simp)])
  simp only at this
  rw [this]; rfl
end
def b14 (l : List Reading) (s : Nat) : Bool := decide ((cF l s l.length).1 ≤ (cF l s l.length).2)
theorem d0n {l : List Reading} {n k : Nat} (hk : k ≤ n) : cF l (2 ^ n - 1) k = (-1099511627776, 1099511627776) := by
  induction k with
  | zero => rfl
  | succ k ih =>
    show (if (2 ^ n - 1).testBit k then cF l (2 ^ n - 1) k else _) = _
    rw [if_pos (by rw [Nat.testBit_two_pow_sub_one]; simp; omega)]
    exact ih (by omega)
theorem d17 {l : List Reading} : b14 l (2 ^ l.length - 1) = true := by
  unfold b14
  rw [d0n (Nat.le_refl _)]; rfl
def dif (a b : List Int) (k : Nat) : Bool := decide (a[k]? ≠ b[k]?)
def lt3 (a b : List Int) : Bool := match b3y a.length (dif a b) with
  | some k => decide ((a[k]?).getD 0 < (b[k]?).getD 0)
  | none => false
theorem d15 {a b : List Int} (hab : a.length = b.length) (hl : a.length ≤ maxLen) : ∃ r, b7n a b = some r ∧ decide (r < 0) = lt3 a b := by
  unfold b7n
  have h := c7c (f := b6b a b) (n := a.length) (p := dif a b) (e := fun k => .inr (b3v ((a[k]?).getD 0) ((b[k]?).getD 0))) (u := .inl ()) (fun k hk hp => by
    obtain ⟨x, hx⟩ := b2y hk
    obtain ⟨y, hy⟩ := b2y (show k < b.length by omega)
    unfold dif at hp
    rw [hx, hy] at hp
    simp only [b6b, b2e hx, Option.bind_some]
    rw [if_pos (by simpa using hk), if_neg (by simp; omega), b2e hy]
    simp only [Option.bind_some]
    rw [if_pos, hx, hy]
    · rfl
    · simp only [ne_eq, Option.some.injEq, decide_eq_true_eq] at hp
      simp only [b3v, b3w]
      simp
      split <;> (try split) <;> omega) (fun k hk hp => by
    obtain ⟨x, hx⟩ := b2y hk
    obtain ⟨y, hy⟩ := b2y (show k < b.length by omega)
    unfold dif at hp
    rw [hx, hy] at hp
    have hxy : x = y := by simpa using hp
    subst hxy
    simp only [b6b, b2e hx, Option.bind_some]
    rw [if_pos (by simpa using hk), if_neg (by simp; omega), b2e hy]
    simp only [Option.bind_some]
    rw [if_neg, b35 hk hl]
    simp [b3v, b3w]) (by
    simp only [b6b]
    rw [if_neg (by simp)])
  rw [h]
  unfold lt3
  cases e : b3y a.length (dif a b) with
  | none =>
    refine ⟨0, ?_, rfl⟩
    simp only [Option.bind_some, b9v]
    rw [if_neg (by simp; omega)]
  | some k =>
    refine ⟨_, rfl, ?_⟩
    simp only [b3v, b3w]
    simp
    split
    · simp [*]
    · split
      · simp; omega
      · simp; omega
theorem d79 {a b : List Int} (hab : a.length = b.length) (hl : a.length ≤ maxLen) : b7c a b = some (lt3 a b) := by
  unfold b7c
  have h := c7c (f := b53 a b) (n := a.length) (p := dif a b) (e := fun k => .inr (decide ((a[k]?).getD 0 < (b[k]?).getD 0))) (u := .inl ()) (fun k hk hp => by
    obtain ⟨x, hx⟩ := b2y hk
    obtain ⟨y, hy⟩ := b2y (show k < b.length by omega)
    unfold dif at hp
    rw [hx, hy] at hp
    simp only [b53, b2e hx, b2e hy, Option.bind_some]
    rw [if_pos (by simp; omega), if_pos, hx, hy]
    · rfl
    · simpa using hp) (fun k hk hp => by
    obtain ⟨x, hx⟩ := b2y hk
    obtain ⟨y, hy⟩ := b2y (show k < b.length by omega)
    unfold dif at hp
    rw [hx, hy] at hp
    have hxy : x = y := by simpa using hp
    subst hxy
    simp only [b53, b2e hx, b2e hy, Option.bind_some]
    rw [if_pos (by simp; omega), if_neg (by simp), b35 hk hl]) (by
    simp only [b53]
    rw [if_neg (by simp)])
  rw [h]
  unfold lt3
  cases e : b3y a.length (dif a b) with
  | none =>
    simp only [Option.bind_some, b9h]
    simp [hab]
  | some k => rfl
def R (a b : Nat) : Bool := if (bL a).length = (bL b).length then lt3 (bL a) (bL b) else decide ((bL a).length < (bL b).length)
theorem d3j {a b : Nat} (ha : a < 256) (hb : b < 256) : b6q a b = some (R a b) := by
  obtain ⟨a1, _, a3⟩ := b8f ha
  obtain ⟨b1, _, b3⟩ := b8f hb
  have hl := c0l a
  unfold b6q
  rw [b7p (by omega), b7p (by omega), a3, b3]
  simp only [Option.bind_some]
  unfold R
  by_cases q : (bL a).length = (bL b).length
  · rw [if_neg (by simp; omega), if_pos q, a1, b1]
    simp only [Option.bind_some]
    obtain ⟨r, e1, e2⟩ := d15 q (by simp only [maxLen]; omega)
    rw [e1]
    simp only [Option.bind_some]
    rw [e2]
  · rw [if_pos (by simp; omega), if_neg q]
    simp
def pB (l : List Reading) : Nat → Nat
  | 0 => 2 ^ l.length - 1
  | k + 1 => if b14 l k && R k (pB l k) then k else pB l k
section
variable {l : List Reading} (hg : b7z l) (h8 : l.length ≤ 8)
include h8
theorem c78 (k : Nat) (hk : k ≤ 2 ^ l.length - 1) : pB l k ≤ 2 ^ l.length - 1 ∧ pB l k < 256 := by
  have hp := b9e h8
  induction k with
  | zero => show 2 ^ l.length - 1 ≤ _ ∧ 2 ^ l.length - 1 < 256; omega
  | succ k ih =>
    have := ih (by omega)
    show (if b14 l k && R k (pB l k) then k else pB l k) ≤ _ ∧ (if b14 l k && R k (pB l k) then k else pB l k) < 256
    split <;> omega
include hg
theorem c9m : b4s l = some (bL (pB l (2 ^ l.length - 1)), 0) := by
  have hp := b9e h8
  unfold b4s
  rcases b6h (l := l) (by simp only [maxLen]; omega) with ⟨_, e, _⟩ | ⟨n, _⟩
  · rw [e]
    simp only [Option.bind_some]
    rw [if_neg (by simp), c20 (by omega)]
    simp only [Option.bind_some]
    have e1 : wr (((2 ^ l.length : Nat) : Int) - 1) = ((2 ^ l.length - 1 : Nat) : Int) := by rw [b5c (by omega) (by omega)]; omega
    have := b84 (f := b6o l ((2 ^ l.length : Nat) : Int)) (2 ^ l.length - 1) (fun s k => (s, k)) (fun k => ((pB l k : Nat) : Int)) _ (s0 := ((2 ^ l.length - 1 : Nat) : Int)) rfl (fun k hk => by
      have hb := c78 h8 k (by omega)
      simp only [b6o]
      rw [e1, if_pos (by simp; omega), c30 hg (by omega)]
      simp only [Option.bind_some]
      rw [show decide ((cF l k l.length).1 ≤ (cF l k l.length).2) = b14 l k from rfl]
      have hk1 : wr ((k : Int) + 1) = (k : Int) + 1 := b5c (by omega) (by omega)
      cases hc : b14 l k with
      | false =>
        rw [if_neg (by simp)]
        simp only [Option.bind_some]
        rw [if_neg (by simp)]
        simp only [b4t, hk1, pB, hc, Bool.false_and]
        rw [if_neg (by simp)]
      | true =>
        rw [if_pos rfl, d3j (by omega) hb.2]
        simp only [Option.bind_some]
        cases hr : R k (pB l k) with
        | false =>
          rw [if_neg (by simp)]
          simp only [b4t, hk1, pB, hc, hr, Bool.true_and]
          rw [if_neg (by simp)]
        | true =>
          rw [if_pos rfl]
          simp only [b4t, hk1, pB, hc, hr, Bool.true_and]
          rw [if_pos trivial]) (by
      simp only [b6o]
      rw [e1, if_neg (by simp)])
    rw [e1, this]
    simp only [Option.bind_some, b8i]
    rw [(b8f (c78 h8 _ (Nat.le_refl _)).2).1]
    rfl
  · exact absurd hg n
def rB (l : List Reading) : Nat → Option (List Int) × Bool
  | 0 => (none, false)
  | k + 1 => if b14 l k && (!(rB l k).2 || (if (bL k).length = ((rB l k).1.getD []).length then lt3 (bL k) ((rB l k).1.getD []) else decide ((bL k).length < ((rB l k).1.getD []).length))) then (some (bL k), true) else rB l k
omit hg in
theorem g3o {k : Nat} (hk : k ≤ 2 ^ l.length - 1) : (rB l k = (none, false) ∧ pB l k = 2 ^ l.length - 1) ∨ (rB l k = (some (bL (pB l k)), true) ∧ pB l k < 2 ^ l.length - 1) := by
  induction k with
  | zero => exact .inl ⟨rfl, rfl⟩
  | succ k ih =>
    have hlen := c67 h8 (s := k) (by omega)
    have hfull := c4u h8
    cases hc : b14 l k with
    | false =>
      have e1 : rB l (k + 1) = rB l k := by simp [rB, hc]
      have e2 : pB l (k + 1) = pB l k := by simp [pB, hc]
      rw [e1, e2]; exact ih (by omega)
    | true =>
      right
      rcases ih (by omega) with ⟨h1, h2⟩ | ⟨h1, h2⟩
      · have hr : R k (pB l k) = true := by
          rw [h2]; unfold R
          rw [if_neg (by omega)]; simp; omega
        have e1 : rB l (k + 1) = (some (bL k), true) := by simp [rB, hc, h1]
        have e2 : pB l (k + 1) = k := by simp [pB, hc, hr]
        rw [e1, e2]; exact ⟨rfl, by omega⟩
      · cases hr : R k (pB l k) with
        | true =>
          have e2 : pB l (k + 1) = k := by simp [pB, hc, hr]
          have e1 : rB l (k + 1) = (some (bL k), true) := by
            unfold R at hr
            simp only [rB, hc, h1, Option.getD_some, Bool.not_true, Bool.false_or, Bool.true_and]
            rw [if_pos hr]
          rw [e1, e2]; exact ⟨rfl, by omega⟩
        | false =>
          have e2 : pB l (k + 1) = pB l k := by simp [pB, hc, hr]
          have e1 : rB l (k + 1) = rB l k := by
            unfold R at hr
            simp only [rB, hc, h1, Option.getD_some, Bool.not_true, Bool.false_or, Bool.true_and]
            rw [if_neg (by rw [hr]; simp)]
          rw [e1, e2]; exact ⟨h1, h2⟩
omit hg in
theorem g3n : (rB l (2 ^ l.length)).1.getD [] = bL (pB l (2 ^ l.length - 1)) := by
  have hp := b9e h8
  obtain ⟨f, hf⟩ : ∃ f, 2 ^ l.length = f + 1 := ⟨2 ^ l.length - 1, by omega⟩
  have hf' : 2 ^ l.length - 1 = f := by omega
  have h := g3o h8 (l := l) (k := f) (by omega)
  have hfull := c4u h8
  have hc := d17 (l := l)
  rw [hf'] at h hfull hc ⊢
  rw [hf]
  rcases h with ⟨h1, h2⟩ | ⟨h1, h2⟩
  · have e1 : rB l (f + 1) = (some (bL f), true) := by simp [rB, hc, h1]
    rw [e1, h2]; rfl
  · have hlen := c67 h8 (s := pB l f) (by omega)
    have e1 : rB l (f + 1) = rB l f := by
      simp only [rB, hc, h1, Option.getD_some, Bool.not_true, Bool.false_or, Bool.true_and]
      rw [if_neg (c := (bL f).length = (bL (pB l f)).length) (by omega), if_neg (by simp; omega)]
    rw [e1, h1]; rfl
theorem c9n : b44 l = some (bL (pB l (2 ^ l.length - 1)), 0) := by
  have hp := b9e h8
  unfold b44
  rcases b6h (l := l) (by simp only [maxLen]; omega) with ⟨_, _, e⟩ | ⟨n, _⟩
  · rw [e]
    simp only [Option.bind_some]
    rw [if_neg (by simp)]
    have := b84 (f := b54 l) (2 ^ l.length) (fun (p : Option (List Int) × Bool) k => (p.1, p.2, k)) (rB l) (rB l (2 ^ l.length)).1 (s0 := (none, false)) rfl (fun k hk => by
      have hk1 : wr ((k : Int) + 1) = (k : Int) + 1 := b5c (by omega) (by omega)
      simp only [b54]
      rw [b7p (by omega), c20 (by omega)]
      simp only [Option.bind_some]
      rw [if_pos (decide_eq_true (Int.ofNat_lt.2 hk)), c31 hg (by omega), (b8f (by omega)).2.1]
      simp only [Option.bind_some]
      rw [show decide ((cF l k l.length).1 ≤ (cF l k l.length).2) = b14 l k from rfl]
      cases hc : b14 l k with
      | false =>
        rw [if_neg (by simp)]
        simp only [Option.bind_some]
        rw [if_neg (by simp)]
        simp only [b4j, hk1, rB, hc, Bool.false_and]
        rw [if_neg (by simp)]
      | true =>
        rw [if_pos rfl]
        have key : ∀ v : Bool, v = (!(rB l k).2 || (if (bL k).length = ((rB l k).1.getD []).length then lt3 (bL k) ((rB l k).1.getD []) else decide ((bL k).length < ((rB l k).1.getD []).length))) →
            (if v = true then b4j k (some (bL k)) true else b4j k (rB l k).1 (rB l k).2) = some (.nx ((rB l (k + 1)).1, (rB l (k + 1)).2, (k : Int) + 1)) := fun v hv => by
          have e : rB l (k + 1) = if v = true then (some (bL k), true) else rB l k := by
            rw [hv]
            simp only [rB, hc, Bool.true_and]
          rw [e]
          cases v <;> simp [b4j, hk1]
        by_cases q : (!(rB l k).2 || decide (((bL k).length : Int) < (((rB l k).1.getD []).length : Int))) = true
        · rw [if_pos q]
          simp only [Option.bind_some]
          refine key true ?_
          symm
          rw [Bool.or_eq_true] at q ⊢
          rcases q with q | q
          · exact .inl q
          · right
            simp only [decide_eq_true_eq] at q
            rw [if_neg (by omega)]; simp; omega
        · rw [if_neg q]
          have q' : ¬ (!(rB l k).2) = true ∧ ¬ (bL k).length < ((rB l k).1.getD []).length := by
            simp only [Bool.or_eq_true, decide_eq_true_eq, not_or] at q
            exact ⟨q.1, by omega⟩
          have q1 : (!(rB l k).2) = false := by simpa using q'.1
          by_cases q2 : (bL k).length = ((rB l k).1.getD []).length
          · rw [if_pos (by simp; omega), d79 q2 (by have := c0l k; simp only [maxLen]; omega)]
            simp only [Option.bind_some]
            refine key _ ?_
            rw [q1, Bool.false_or, if_pos q2]
          · rw [if_neg (by simp; omega)]
            simp only [Option.bind_some]
            refine key false ?_
            rw [q1, Bool.false_or, if_neg q2]
            symm
            simp; omega) (by
      simp only [b54]
      rw [b7p (by omega), c20 (by omega)]
      simp only [Option.bind_some]
      rw [if_neg (by simp)])
    simp only at this
    rw [show b08 (b54 l) (none, false, 0) = some (rB l (2 ^ l.length)).1 from this]
    simp only [Option.bind_some, b9i]
    rw [g3n h8]
  · exact absurd hg n
omit h8 in
theorem c9p : b4u l = some (if l.length = 0 ∨ b14 l 0 = false then (⟨0, 0⟩, 3) else (⟨(cF l 0 l.length).1, (cF l 0 l.length).2⟩, 0)) := by
  have hl := hg.1
  unfold b4u
  rcases b6h (l := l) (by simp only [maxLen]; omega) with ⟨_, e, _⟩ | ⟨n, _⟩
  · rw [e]
    simp only [Option.bind_some]
    have hc := c30 hg (s := 0) (by omega)
    rw [if_neg (by simp), show (0 : Int) = ((0 : Nat) : Int) from rfl, hc]
    simp only [Option.bind_some]
    rw [show decide ((cF l 0 l.length).1 ≤ (cF l 0 l.length).2) = b14 l 0 from rfl]
    by_cases q : l.length = 0 ∨ b14 l 0 = false
    · rw [if_pos q, if_pos (by simpa using q)]
    · rw [if_neg q, if_neg (by simpa using q)]
  · exact absurd hg n
omit h8 in
theorem c9q : b45 l = some (if l.length = 0 ∨ b14 l 0 = false then (⟨0, 0⟩, 3) else (⟨(cF l 0 l.length).1, (cF l 0 l.length).2⟩, 0)) := by
  have hl := hg.1
  unfold b45
  rcases b6h (l := l) (by simp only [maxLen]; omega) with ⟨_, _, e⟩ | ⟨n, _⟩
  · rw [e]
    simp only [Option.bind_some]
    have hc := c31 hg (s := 0) (by omega)
    rw [if_neg (by simp), show (0 : Int) = ((0 : Nat) : Int) from rfl, hc]
    simp only [Option.bind_some]
    rw [show decide ((cF l 0 l.length).1 ≤ (cF l 0 l.length).2) = b14 l 0 from rfl]
    by_cases q : l.length = 0 ∨ b14 l 0 = false
    · rw [if_pos q, if_pos (by simpa [or_comm] using q)]
    · rw [if_neg q, if_neg (by simpa [or_comm, and_comm] using q)]
  · exact absurd hg n
end
theorem g4f {l : List Int} (hl : l.length ≤ maxLen) : b64 l l = some true := by
  unfold b64
  rw [if_neg (by simp)]
  rw [c7f (f := b65 l l) l.length (fun (_ : Unit) k => k) (fun _ => ()) (.inl ()) (fun k hk => by
    obtain ⟨x, hx⟩ := b2y hk
    simp only [b65, b2e hx, Option.bind_some]
    rw [if_pos (by simpa using hk), if_neg (by simp), b35 hk hl]) (by simp [b65])]
  rfl
theorem g4g (l : List Reading) (hk : OkL b5h l) : b63 l = some true := by
  unfold b63
  by_cases q : (8 < l.length ∧ l.length ≤ 12) ∨ 14 < l.length
  · rw [if_pos (by simp; omega)]; rfl
  · rw [if_neg (by simp; omega), c3e (by simp only [List.length_nil]; omega)]
    simp only [Option.bind_some, List.nil_append]
    obtain ⟨t, e, m, f, t1, t2, l1, l2, hm⟩ : ∃ t e m f, b4u l = some (t, e) ∧ b45 l = some (t, e) ∧ b4s l = some (m, f) ∧ b44 l = some (m, f) ∧ m.length ≤ maxLen := by
      rcases b6h hk.1 with ⟨hg, _, _⟩ | ⟨_, c, hc, c1, c2⟩
      · have h8 : l.length ≤ 8 := by have := hg.1; omega
        have hb := c0l (pB l (2 ^ l.length - 1))
        exact ⟨_, _, _, _, c9p hg, c9q hg, c9m hg h8, c9n hg h8, by simp only [maxLen]; omega⟩
      · refine ⟨⟨0, 0⟩, c, [], c, ?_, ?_, ?_, ?_, by simp⟩
        · unfold b4u; rw [c1]; simp only [Option.bind_some]; rw [if_pos (by simpa using hc)]
        · unfold b45; rw [c2]; simp only [Option.bind_some]; rw [if_pos (by simpa using hc)]
        · unfold b4s; rw [c1]; simp only [Option.bind_some]; rw [if_pos (by simpa using hc)]
        · unfold b44; rw [c2]; simp only [Option.bind_some]; rw [if_pos (by simpa using hc)]
    rw [t1, t2]
    simp only [Option.bind_some]
    rw [if_neg (by simp), l1, l2]
    simp only [Option.bind_some]
    rw [g4f hm]
    simp only [Option.bind_some]
    rw [if_pos (by simp)]; rfl
end Go.Nw.FM
