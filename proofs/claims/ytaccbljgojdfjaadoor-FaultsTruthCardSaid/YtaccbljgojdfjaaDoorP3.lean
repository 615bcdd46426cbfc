/- Plain laws on the models. -/
import Derived.Test.YtaccbljgojdfjaaDoorFMTwin
import Derived.Test.YtaccbljgojdfjaaDoorP2
import Derived.Test.YtaccbljgojdfjaaDoorNwFirst
import Derived.Test.YtaccbljgojdfjaaDoorNwBits
import Derived.KernelRfl
set_option linter.all false
set_option linter.unusedVariables false
set_option linter.unusedSimpArgs false
set_option linter.unusedSectionVars false
namespace Go.Nw.FM
def bL (s : Nat) : List Int := ((List.range 8).filter fun i => s.testBit i).map Int.ofNat
theorem ev : ((List.range 256).all fun s => decide (c00 (s : Int) = some (bL s)) && (decide (c2k (s : Int) = some (bL s)) && decide (c13 (s : Int) = some ((bL s).length : Int)))) = true := by kernel_rfl
theorem ev2 : ((List.range 9).all fun n => decide ((bL (2 ^ n - 1)).length = n) && ((List.range (2 ^ n - 1)).all fun s => decide ((bL s).length < n))) = true := by kernel_rfl
theorem c0t {s : Nat} (hs : s < 256) : b39 s = some (bL s) ∧ c2h s = some (bL s) ∧ b4x s = some ((bL s).length : Int) := by
  have h := List.all_eq_true.1 ev s (List.mem_range.2 hs)
  simp only [Bool.and_eq_true, decide_eq_true_eq] at h
  exact ⟨(d24 _).h _ h.1, (g3c _).h _ h.2.1, (d7z _).h _ h.2.2⟩
theorem c4g {n : Nat} (hn : n ≤ 8) : (bL (2 ^ n - 1)).length = n := by
  have h := List.all_eq_true.1 ev2 n (List.mem_range.2 (by omega))
  simp only [Bool.and_eq_true, decide_eq_true_eq] at h
  exact h.1
theorem d7s {n s : Nat} (hn : n ≤ 8) (hs : s < 2 ^ n - 1) : (bL s).length < n := by
  have h := List.all_eq_true.1 ev2 n (List.mem_range.2 (by omega))
  simp only [Bool.and_eq_true] at h
  have := List.all_eq_true.1 h.2 s (List.mem_range.2 hs)
  simpa using this
theorem c2e {n : Nat} (hn : n ≤ 8) : 2 ^ n ≤ 256 ∧ 1 ≤ 2 ^ n := by
  have : 2 ^ n ≤ 2 ^ 8 := Nat.pow_le_pow_right (by omega) hn
  exact ⟨this, Nat.one_le_two_pow⟩
theorem c0c (s : Nat) : (bL s).length ≤ 8 := by
  unfold bL
  rw [List.length_map]
  have := List.length_filter_le (fun i => s.testBit i) (List.range 8)
  simpa using this
end Go.Nw.FM
namespace Go.Nw.FM
def b3a (r : Reading) : Prop := (-100000 ≤ r.Says ∧ r.Says ≤ 100000) ∧ (0 ≤ r.Error ∧ r.Error ≤ 1000) ∧ (0 ≤ r.Drift ∧ r.Drift ≤ 1000) ∧ (0 ≤ r.Days ∧ r.Days ≤ 1000)
def b49 (l : List Reading) : Prop := l.length ≤ 12 ∧ ∀ r ∈ l, b3a r
theorem c0m {l : List Reading} (hl : l.length ≤ maxLen) : (b49 l ∧ b4s l = some 0 ∧ b53 l = some 0) ∨ (¬ b49 l ∧ ∃ e, e ≠ 0 ∧ b4s l = some e ∧ b53 l = some e) := by
  unfold b4s b53
  by_cases q : 12 < l.length
  · rw [if_pos (by simp; omega), if_pos (by simp; omega)]
    exact .inr ⟨fun h => by have := h.1; omega, 2, by omega, rfl, rfl⟩
  · rw [if_neg (by simp; omega), if_neg (by simp; omega)]
    have h1 := c10 (f := b5k l) l (fun _ r => ¬ b3a r) (.inr 100) (.inl ()) (fun k x hx hb => by
        simp only [b5k, b2n hx, Option.bind_some]
        rw [if_pos (by simpa using b2c hx), if_pos]
        unfold b3a at hb
        simp only [b2s, Bool.or_eq_true, Bool.not_eq_true', Bool.and_eq_false_iff, decide_eq_false_iff_not]; omega) (fun k x hx hb => by
        simp only [b5k, b2n hx, Option.bind_some]
        rw [if_pos (by simpa using b2c hx), if_neg, b29 (b2c hx) hl]
        unfold b3a at hb
        simp only [b2s, Bool.or_eq_true, Bool.not_eq_true', Bool.and_eq_false_iff, decide_eq_false_iff_not]; omega) (by simp [b5k])
    have h2 := c10 (f := b54 l) l (fun _ r => ¬ b3a r) (.inr 100) (.inl ()) (fun k x hx hb => by
        simp only [b54, b2n hx, Option.bind_some]
        rw [if_pos (by simpa using b2c hx), if_pos]
        unfold b3a at hb
        simp only [b2v, Bool.or_eq_true, Bool.not_eq_true', Bool.and_eq_false_iff, decide_eq_false_iff_not]; omega) (fun k x hx hb => by
        simp only [b54, b2n hx, Option.bind_some]
        rw [if_pos (by simpa using b2c hx), if_neg, b29 (b2c hx) hl]
        unfold b3a at hb
        simp only [b2v, Bool.or_eq_true, Bool.not_eq_true', Bool.and_eq_false_iff, decide_eq_false_iff_not]; omega) (by simp [b54])
    rcases h1 with ⟨g, e1⟩ | ⟨⟨k, x, hx, hb⟩, e1⟩
    · rcases h2 with ⟨_, e2⟩ | ⟨⟨k, x, hx, hb⟩, _⟩
      · rw [e1, e2]
        refine .inl ⟨⟨by omega, fun r hr => ?_⟩, rfl, rfl⟩
        obtain ⟨j, hj, rfl⟩ := List.getElem_of_mem hr
        exact Classical.not_not.1 (g j _ (List.getElem?_eq_getElem hj))
      · exact absurd hb (g k x hx)
    · rcases h2 with ⟨g, _⟩ | ⟨_, e2⟩
      · exact absurd hb (g k x hx)
      · rw [e1, e2]
        exact .inr ⟨fun h => hb (h.2 x (List.mem_of_getElem? hx)), 100, by omega, rfl, rfl⟩
def lo (r : Reading) : Int := r.Says - (r.Error + r.Drift * r.Days)
def hi (r : Reading) : Int := r.Says + (r.Error + r.Drift * r.Days)
theorem b3p {n : Int} (h1 : -1000000000000000 ≤ n) (h2 : n ≤ 1000000000000000) : wr n = n := c8r (by omega) (by omega)
theorem c8o {r : Reading} (hr : b3a r) : 0 ≤ r.Drift * r.Days ∧ r.Drift * r.Days ≤ 1000000 := by
  obtain ⟨_, _, ⟨h1, h2⟩, h3, h4⟩ := hr
  refine ⟨Int.mul_nonneg h1 h3, ?_⟩
  have := Int.mul_le_mul h2 h4 h3 (by omega : (0 : Int) ≤ 1000)
  omega
theorem b80 {r : Reading} (hr : b3a r) : -2000000 ≤ lo r ∧ lo r ≤ hi r ∧ hi r ≤ 2000000 := by
  have := c8o hr
  obtain ⟨h1, h2, _⟩ := hr
  unfold lo hi; omega
theorem c2v {r : Reading} (hr : b3a r) : wr (r.Says - wr (r.Error + wr (r.Drift * r.Days))) = lo r ∧ wr (r.Says + wr (r.Error + wr (r.Drift * r.Days))) = hi r := by
  have := c8o hr
  obtain ⟨h1, h2, _⟩ := hr
  rw [b3p (n := r.Drift * r.Days) (by omega) (by omega), b3p (n := r.Error + r.Drift * r.Days) (by omega) (by omega), b3p (by omega) (by omega), b3p (by omega) (by omega)]
  exact ⟨rfl, rfl⟩
theorem b9v {r : Reading} (hr : b3a r) : b13 r = ⟨lo r, hi r⟩ := by
  unfold b13
  rw [(c2v hr).1, (c2v hr).2]
def cF (l : List Reading) (s : Nat) : Nat → Int × Int
  | 0 => (-1099511627776, 1099511627776)
  | k + 1 => if s.testBit k then cF l s k else match l[k]? with
    | some r => (max (cF l s k).1 (lo r), min (cF l s k).2 (hi r))
    | none => cF l s k
theorem c0e {s k : Nat} (hs : s < 9223372036854775808) (hk : k ≤ 64) : (decide (b1n (b4k .i64 (s : Int) (k : Int)) 1 = 0) = true) ↔ s.testBit k = false := by
  rw [c27 hs hk]
  cases s.testBit k <;> simp
section
variable {l : List Reading} (hg : b49 l) {s : Nat} (hs : s < 9223372036854775808)
include hg hs
theorem c3o : b5i l s = some (⟨(cF l s l.length).1, (cF l s l.length).2⟩, decide ((cF l s l.length).1 ≤ (cF l s l.length).2)) := by
  have hl := hg.1
  unfold b5i
  have := b61 (f := b6o l s) l.length (fun (p : Int × Int) k => (p.1, p.2, k)) (cF l s) (cF l s l.length) (s0 := (-1099511627776, 1099511627776)) rfl (fun k hk => by
    obtain ⟨x, hx⟩ := b2a hk
    have hw := c2v (hg.2 x (List.mem_of_getElem? hx))
    simp only [b6o, b2n hx, Option.bind_some]
    rw [if_pos (by simpa using hk), b7g (by omega)]
    simp only [Option.bind_some]
    have ht := c0e (s := s) (k := k) hs (by omega)
    by_cases q : s.testBit k = true
    · rw [if_neg (fun hh => by rw [ht.1 hh] at q; cases q)]
      simp only [b5j, b29 hk (show l.length ≤ maxLen by simp only [maxLen]; omega), cF]
      rw [if_pos q]
    · rw [if_pos (ht.2 (by simpa using q))]
      simp only [b5j, b29 hk (show l.length ≤ maxLen by simp only [maxLen]; omega), cF, hx]
      rw [if_neg q, hw.1, hw.2, d77, d72]) (by
    simp only [b6o]
    rw [if_neg (by simp)])
  simp only at this
  rw [this]; rfl
end
def b1i (l : List Reading) (s : Nat) : Bool := decide ((cF l s l.length).1 ≤ (cF l s l.length).2)
theorem c99 {l : List Reading} {n k : Nat} (hk : k ≤ n) : cF l (2 ^ n - 1) k = (-1099511627776, 1099511627776) := by
  induction k with
  | zero => rfl
  | succ k ih =>
    show (if (2 ^ n - 1).testBit k then cF l (2 ^ n - 1) k else _) = _
    rw [if_pos (by rw [Nat.testBit_two_pow_sub_one]; simp; omega)]
    exact ih (by omega)
theorem d1q {l : List Reading} : b1i l (2 ^ l.length - 1) = true := by
  unfold b1i
  rw [c99 (Nat.le_refl _)]; rfl
def dif (a b : List Int) (k : Nat) : Bool := decide (a[k]? ≠ b[k]?)
def lt3 (a b : List Int) : Bool := match b2l a.length (dif a b) with
  | some k => decide ((a[k]?).getD 0 < (b[k]?).getD 0)
  | none => false
theorem d1o {a b : List Int} (hab : a.length = b.length) (hl : a.length ≤ maxLen) : ∃ r, b7i a b = some r ∧ decide (r < 0) = lt3 a b := by
  unfold b7i
  have h := c60 (f := b58 a b) (n := a.length) (p := dif a b) (e := fun k => .inr (b3w ((a[k]?).getD 0) ((b[k]?).getD 0))) (u := .inl ()) (fun k hk hp => by
    obtain ⟨x, hx⟩ := b2a hk
    obtain ⟨y, hy⟩ := b2a (show k < b.length by omega)
    unfold dif at hp
    rw [hx, hy] at hp
    simp only [b58, b2n hx, Option.bind_some]
    rw [if_pos (by simpa using hk), if_neg (by simp; omega), b2n hy]
    simp only [Option.bind_some]
    rw [if_pos, hx, hy]
    · rfl
    · simp only [ne_eq, Option.some.injEq, decide_eq_true_eq] at hp
      simp only [b3w, b3x]
      simp
      split <;> (try split) <;> omega) (fun k hk hp => by
    obtain ⟨x, hx⟩ := b2a hk
    obtain ⟨y, hy⟩ := b2a (show k < b.length by omega)
    unfold dif at hp
    rw [hx, hy] at hp
    have hxy : x = y := by simpa using hp
    subst hxy
    simp only [b58, b2n hx, Option.bind_some]
    rw [if_pos (by simpa using hk), if_neg (by simp; omega), b2n hy]
    simp only [Option.bind_some]
    rw [if_neg, b29 hk hl]
    simp [b3w, b3x]) (by
    simp only [b58]
    rw [if_neg (by simp)])
  rw [h]
  unfold lt3
  cases e : b2l a.length (dif a b) with
  | none =>
    refine ⟨0, ?_, rfl⟩
    simp only [Option.bind_some, b9p]
    rw [if_neg (by simp; omega)]
  | some k =>
    refine ⟨_, rfl, ?_⟩
    simp only [b3w, b3x]
    simp
    split
    · simp [*]
    · split
      · simp; omega
      · simp; omega
def R (a b : Nat) : Bool := if (bL a).length = (bL b).length then lt3 (bL a) (bL b) else decide ((bL a).length < (bL b).length)
theorem d26 {a b : Nat} (ha : a < 256) (hb : b < 256) : b6p a b = some (R a b) := by
  obtain ⟨a1, _, a3⟩ := c0t ha
  obtain ⟨b1, _, b3⟩ := c0t hb
  have hl := c0c a
  unfold b6p
  rw [b42 (by omega), b42 (by omega), a3, b3]
  simp only [Option.bind_some]
  unfold R
  by_cases q : (bL a).length = (bL b).length
  · rw [if_neg (by simp; omega), if_pos q, a1, b1]
    simp only [Option.bind_some]
    obtain ⟨r, e1, e2⟩ := d1o q (by simp only [maxLen]; omega)
    rw [e1]
    simp only [Option.bind_some]
    rw [e2]
  · rw [if_pos (by simp; omega), if_neg q]
    simp
def pB (l : List Reading) : Nat → Nat
  | 0 => 2 ^ l.length - 1
  | k + 1 => if b1i l k && R k (pB l k) then k else pB l k
section
variable {l : List Reading} (hg : b49 l) (h8 : l.length ≤ 8)
include h8
theorem c2c (k : Nat) (hk : k ≤ 2 ^ l.length - 1) : pB l k ≤ 2 ^ l.length - 1 ∧ pB l k < 256 := by
  have hp := c2e h8
  induction k with
  | zero => show 2 ^ l.length - 1 ≤ _ ∧ 2 ^ l.length - 1 < 256; omega
  | succ k ih =>
    have := ih (by omega)
    show (if b1i l k && R k (pB l k) then k else pB l k) ≤ _ ∧ (if b1i l k && R k (pB l k) then k else pB l k) < 256
    split <;> omega
include hg
theorem c86 : b6l l = some (bL (pB l (2 ^ l.length - 1)), 0) := by
  have hp := c2e h8
  unfold b6l
  rcases c0m (l := l) (by simp only [maxLen]; omega) with ⟨_, e, _⟩ | ⟨n, _⟩
  · rw [e]
    simp only [Option.bind_some]
    rw [if_neg (by simp), c2r (by omega)]
    simp only [Option.bind_some]
    have e1 : wr (((2 ^ l.length : Nat) : Int) - 1) = ((2 ^ l.length - 1 : Nat) : Int) := by rw [b3p (by omega) (by omega)]; omega
    have := b61 (f := b6m l ((2 ^ l.length : Nat) : Int)) (2 ^ l.length - 1) (fun s k => (s, k)) (fun k => ((pB l k : Nat) : Int)) _ (s0 := ((2 ^ l.length - 1 : Nat) : Int)) rfl (fun k hk => by
      have hb := c2c h8 k (by omega)
      simp only [b6m]
      rw [e1, if_pos (by simp; omega), c3o hg (by omega)]
      simp only [Option.bind_some]
      rw [show decide ((cF l k l.length).1 ≤ (cF l k l.length).2) = b1i l k from rfl]
      have hk1 : wr ((k : Int) + 1) = (k : Int) + 1 := b3p (by omega) (by omega)
      cases hc : b1i l k with
      | false =>
        rw [if_neg (by simp)]
        simp only [Option.bind_some]
        rw [if_neg (by simp)]
        simp only [b4r, hk1, pB, hc, Bool.false_and]
        rw [if_neg (by simp)]
      | true =>
        rw [if_pos rfl, d26 (by omega) hb.2]
        simp only [Option.bind_some]
        cases hr : R k (pB l k) with
        | false =>
          rw [if_neg (by simp)]
          simp only [b4r, hk1, pB, hc, hr, Bool.true_and]
          rw [if_neg (by simp)]
        | true =>
          rw [if_pos rfl]
          simp only [b4r, hk1, pB, hc, hr, Bool.true_and]
          rw [if_pos trivial]) (by
      simp only [b6m]
      rw [e1, if_neg (by simp)])
    rw [e1, this]
    simp only [Option.bind_some, b79]
    rw [(c0t (c2c h8 _ (Nat.le_refl _)).2).1]
    rfl
  · exact absurd hg n
omit h8 in
theorem c88 : b6n l = some (if l.length = 0 ∨ b1i l 0 = false then (⟨0, 0⟩, 3) else (⟨(cF l 0 l.length).1, (cF l 0 l.length).2⟩, 0)) := by
  have hl := hg.1
  unfold b6n
  rcases c0m (l := l) (by simp only [maxLen]; omega) with ⟨_, e, _⟩ | ⟨n, _⟩
  · rw [e]
    simp only [Option.bind_some]
    have hc := c3o hg (s := 0) (by omega)
    rw [if_neg (by simp), show (0 : Int) = ((0 : Nat) : Int) from rfl, hc]
    simp only [Option.bind_some]
    rw [show decide ((cF l 0 l.length).1 ≤ (cF l 0 l.length).2) = b1i l 0 from rfl]
    by_cases q : l.length = 0 ∨ b1i l 0 = false
    · rw [if_pos q, if_pos (by simpa using q)]
    · rw [if_neg q, if_neg (by simpa using q)]
  · exact absurd hg n
end
end Go.Nw.FM
namespace Go.Nw.FM
def cnt (m : Nat) : Nat → Nat
  | 0 => 0
  | k + 1 => cnt m k + (if m.testBit k then 1 else 0)
def b35 (l : List Int) : Nat := l.foldl (fun a x => a + 2 ^ x.toNat) 0
theorem ev3 : ((List.range 256).all fun s => decide (b35 (bL s) = s)) = true := by kernel_rfl
theorem ev4 : ((List.range 9).all fun n => (List.range (2 ^ n)).all fun m => decide (cnt m n = (bL m).length)) = true := by kernel_rfl
theorem ev5 : ((List.range 256).all fun s => (List.range 8).all fun i => match (bL s)[i]?, (bL s)[i + 1]? with | some x, some y => decide (x < y) | _, _ => true) = true := by kernel_rfl
theorem g4g {s : Nat} (hs : s < 256) : b35 (bL s) = s := by
  have := List.all_eq_true.1 ev3 s (List.mem_range.2 hs); simpa using this
theorem d1l {n m : Nat} (hn : n ≤ 8) (hm : m < 2 ^ n) : cnt m n = (bL m).length := by
  have := List.all_eq_true.1 (List.all_eq_true.1 ev4 n (List.mem_range.2 (by omega))) m (List.mem_range.2 hm); simpa using this
theorem c9g {s i : Nat} (hs : s < 256) {x y : Int} (hx : (bL s)[i]? = some x) (hy : (bL s)[i + 1]? = some y) : x < y := by
  have hi : i < 8 := by have := b2c hy; have := c0c s; omega
  have := List.all_eq_true.1 (List.all_eq_true.1 ev5 s (List.mem_range.2 hs)) i (List.mem_range.2 hi)
  rw [hx, hy] at this
  simpa using this
theorem d70 {s : Nat} {x : Int} (h : x ∈ bL s) : ∃ i : Nat, x = i ∧ i < 8 ∧ s.testBit i = true := by
  unfold bL at h
  simp only [List.mem_map, List.mem_filter, List.mem_range] at h
  obtain ⟨i, ⟨h1, h2⟩, rfl⟩ := h
  exact ⟨i, rfl, h1, h2⟩
theorem c9x {s n i : Nat} (hs : s < 2 ^ n) (h : s.testBit i = true) : i < n := by
  rcases Nat.lt_or_ge i n with h1 | h1
  · exact h1
  · have := Nat.testBit_lt_two_pow (x := s) (i := i) (Nat.lt_of_lt_of_le hs (Nat.pow_le_pow_right (by omega) h1))
    rw [this] at h; cases h
theorem c11 {l : List Reading} {s k : Nat} (hk : k ≤ l.length) {x : Int} : (cF l s k).1 ≤ x ↔ -1099511627776 ≤ x ∧ ∀ i r, i < k → l[i]? = some r → s.testBit i = false → lo r ≤ x := by
  induction k with
  | zero => simp [cF]
  | succ k ih =>
    obtain ⟨r, hr⟩ := b2a (show k < l.length by omega)
    have ih := ih (by omega)
    unfold cF
    rw [hr]
    by_cases q : s.testBit k = true
    · rw [if_pos q, ih]
      refine ⟨fun ⟨h1, h2⟩ => ⟨h1, fun i r' hi hr' hb => ?_⟩, fun ⟨h1, h2⟩ => ⟨h1, fun i r' hi hr' hb => h2 i r' (by omega) hr' hb⟩⟩
      by_cases e : i = k
      · subst e; rw [q] at hb; cases hb
      · exact h2 i r' (by omega) hr' hb
    · rw [if_neg q]
      simp only
      rw [Int.max_le, ih]
      refine ⟨fun ⟨⟨h1, h2⟩, h3⟩ => ⟨h1, fun i r' hi hr' hb => ?_⟩, fun ⟨h1, h2⟩ => ⟨⟨h1, fun i r' hi hr' hb => h2 i r' (by omega) hr' hb⟩, h2 k r (by omega) hr (by simpa using q)⟩⟩
      by_cases e : i = k
      · subst e; rw [hr] at hr'; cases hr'; exact h3
      · exact h2 i r' (by omega) hr' hb
theorem b60 {l : List Reading} {s k : Nat} (hk : k ≤ l.length) {x : Int} : x ≤ (cF l s k).2 ↔ x ≤ 1099511627776 ∧ ∀ i r, i < k → l[i]? = some r → s.testBit i = false → x ≤ hi r := by
  induction k with
  | zero => simp [cF]
  | succ k ih =>
    obtain ⟨r, hr⟩ := b2a (show k < l.length by omega)
    have ih := ih (by omega)
    unfold cF
    rw [hr]
    by_cases q : s.testBit k = true
    · rw [if_pos q, ih]
      refine ⟨fun ⟨h1, h2⟩ => ⟨h1, fun i r' hi hr' hb => ?_⟩, fun ⟨h1, h2⟩ => ⟨h1, fun i r' hi hr' hb => h2 i r' (by omega) hr' hb⟩⟩
      by_cases e : i = k
      · subst e; rw [q] at hb; cases hb
      · exact h2 i r' (by omega) hr' hb
    · rw [if_neg q]
      simp only
      rw [Int.le_min, ih]
      refine ⟨fun ⟨⟨h1, h2⟩, h3⟩ => ⟨h1, fun i r' hi hr' hb => ?_⟩, fun ⟨h1, h2⟩ => ⟨⟨h1, fun i r' hi hr' hb => h2 i r' (by omega) hr' hb⟩, h2 k r (by omega) hr (by simpa using q)⟩⟩
      by_cases e : i = k
      · subst e; rw [hr] at hr'; cases hr'; exact h3
      · exact h2 i r' (by omega) hr' hb
theorem c3p {l : List Reading} (hg : b49 l) {s : Nat} : b1i l s = true ↔ ∀ i j a b, l[i]? = some a → l[j]? = some b → s.testBit i = false → s.testBit j = false → lo a ≤ hi b := by
  unfold b1i
  rw [decide_eq_true_eq, c11 (Nat.le_refl _)]
  constructor
  · rintro ⟨_, h⟩ i j a b ha hb si sj
    have h1 := h i a (b2c ha) ha si
    exact ((b60 (Nat.le_refl _)).1 h1).2 j b (b2c hb) hb sj
  · intro h
    refine ⟨(b60 (Nat.le_refl _)).2 ⟨by omega, fun i r hi hr hb => ?_⟩, fun i r hi hr hb => (b60 (Nat.le_refl _)).2 ⟨?_, fun j b hj hb' sj => h i j r b hr hb' hb sj⟩⟩
    · have := b80 (hg.2 r (List.mem_of_getElem? hr)); omega
    · have := b80 (hg.2 r (List.mem_of_getElem? hr)); omega
def b4h (l : List Reading) (s i k : Nat) : Bool := (!s.testBit i && !s.testBit k) && (match l[i]?, l[k]? with | some a, some b => decide (hi a < lo b) || decide (hi b < lo a) | _, _ => false)
theorem c23 {l : List Reading} (hg : b49 l) {s : Nat} (hs : s < 9223372036854775808) : b5z l s = some (b1i l s) := by
  have hl := hg.1
  unfold b5z
  have inner : ∀ i, i < l.length → b01 (b51 l s i) 0 = some (match b2l i (b4h l s i) with | some _ => .inr false | none => .inl ()) := fun i hi => by
    obtain ⟨a, ha⟩ := b2a hi
    refine c60 (f := b51 l s i) (n := i) (p := b4h l s i) (e := fun _ => .inr false) (u := .inl ()) (fun k hk hp => ?_) (fun k hk hp => ?_) (by
      simp only [b51]
      rw [if_neg (by simp)])
    all_goals
      obtain ⟨b, hb⟩ := b2a (show k < l.length by omega)
      have eA := b9v (hg.2 a (List.mem_of_getElem? ha))
      have eB := b9v (hg.2 b (List.mem_of_getElem? hb))
      have t1 := c0e (s := s) (k := i) hs (by omega)
      have t2 := c0e (s := s) (k := k) hs (by omega)
      unfold b4h at hp
      rw [ha, hb] at hp
      simp only [b51, b2n ha, b2n hb, Option.bind_some]
      rw [if_pos (by simpa using hk), b42 (by omega), b42 (by omega), b7g (by omega)]
      simp only [Option.bind_some]
      rw [eA, eB]
    · simp only [Bool.and_eq_true, Bool.not_eq_true'] at hp
      rw [if_pos (t1.2 hp.1.1), b7g (by omega)]
      simp only [Option.bind_some]
      rw [t2.2 hp.1.2, if_pos (by rw [hp.2]; rfl)]
    · by_cases q1 : s.testBit i = false
      · rw [if_pos (t1.2 q1), b7g (by omega)]
        simp only [Option.bind_some]
        by_cases q2 : s.testBit k = false
        · rw [t2.2 q2]
          rw [q1, q2] at hp
          simp only [Bool.not_false, Bool.and_true, Bool.true_and] at hp
          rw [if_neg (by rw [hp]; simp), b29 hk (by simp only [maxLen]; omega)]
        · rw [show decide (b1n (b4k .i64 (s : Int) (k : Int)) 1 = 0) = false from c0f fun hh => q2 (t2.1 hh), if_neg (by simp), b29 hk (by simp only [maxLen]; omega)]
      · rw [if_neg (fun hh => q1 (t1.1 hh))]
        simp only [Option.bind_some]
        rw [if_neg (by simp), b29 hk (by simp only [maxLen]; omega)]
  rcases c10 (f := b50 l s) l (fun i _ => b2l i (b4h l s i) ≠ none) (.inr false) (.inl ()) (fun i x hx hb => by
      simp only [b50]
      rw [if_pos (by simpa using b2c hx), inner i (b2c hx)]
      cases e : b2l i (b4h l s i) with
      | none => exact absurd e hb
      | some _ => rfl) (fun i x hx hb => by
      simp only [b50]
      rw [if_pos (by simpa using b2c hx), inner i (b2c hx), Classical.not_not.1 hb]
      simp only [Option.bind_some, b8y]
      rw [b29 (b2c hx) (by simp only [maxLen]; omega)]) (by simp [b50]) with ⟨h1, h2⟩ | ⟨⟨i, x, hx, hb⟩, h2⟩
  · rw [h2]
    simp only [Option.bind_some, b8x]
    congr 1
    symm
    rw [c3p hg]
    intro i j a b ha hb si sj
    have key : ∀ i j a b, j < i → l[i]? = some a → l[j]? = some b → s.testBit i = false → s.testBit j = false → lo a ≤ hi b ∧ lo b ≤ hi a := fun i j a b hji ha hb si sj => by
      have := c4c.1 (Classical.not_not.1 (h1 i a ha)) j hji
      unfold b4h at this
      rw [ha, hb, si, sj] at this
      simp at this
      omega
    rcases Nat.lt_trichotomy i j with h | h | h
    · exact (key j i b a h hb ha sj si).2
    · subst h
      rw [ha] at hb; cases hb
      exact (b80 (hg.2 a (List.mem_of_getElem? ha))).2.1
    · exact (key i j a b h ha hb si sj).1
  · rw [h2]
    simp only [Option.bind_some]
    congr 1
    symm
    refine c0f fun hc => ?_
    rw [c3p hg] at hc
    cases e : b2l i (b4h l s i) with
    | none => exact hb e
    | some k =>
      obtain ⟨k1, k2, _⟩ := d27 e
      obtain ⟨b, hb'⟩ := b2a (show k < l.length by have := b2c hx; omega)
      unfold b4h at k2
      rw [hx, hb'] at k2
      simp only [Bool.and_eq_true, Bool.not_eq_true', Bool.or_eq_true, decide_eq_true_eq] at k2
      have c1 := hc i k x b hx hb' k2.1.1 k2.1.2
      have c2 := hc k i b x hb' hx k2.1.2 k2.1.1
      omega
section
variable {l : List Reading} (h8 : l.length ≤ 8)
include h8
omit h8 in
theorem g2y (k : Nat) : b1i l (pB l k) = true := by
  induction k with
  | zero => exact d1q
  | succ k ih =>
    show b1i l (if b1i l k && R k (pB l k) then k else pB l k) = true
    split
    · rename_i h; simp only [Bool.and_eq_true] at h; exact h.1
    · exact ih
theorem c7q {k : Nat} (hk : k ≤ 2 ^ l.length - 1) : (bL (pB l k)).length ≤ l.length ∧ ∀ m, m < k → b1i l m = true → (bL (pB l k)).length ≤ (bL m).length := by
  induction k with
  | zero => exact ⟨by show (bL (2 ^ l.length - 1)).length ≤ _; rw [c4g h8]; exact Nat.le_refl _, fun m hm => by omega⟩
  | succ k ih =>
    have ih := ih (by omega)
    have hl := d7s h8 (s := k) (by omega)
    have e : pB l (k + 1) = if b1i l k && R k (pB l k) then k else pB l k := rfl
    rw [e]
    by_cases q : (b1i l k && R k (pB l k)) = true
    · rw [if_pos q]
      simp only [Bool.and_eq_true] at q
      have hle : (bL k).length ≤ (bL (pB l k)).length := by
        have := q.2
        unfold R at this
        split at this
        · omega
        · simp only [decide_eq_true_eq] at this; omega
      refine ⟨by omega, fun m hm hc => ?_⟩
      by_cases e : m = k
      · subst e; exact Nat.le_refl _
      · have := ih.2 m (by omega) hc; omega
    · rw [if_neg q]
      refine ⟨ih.1, fun m hm hc => ?_⟩
      by_cases e : m = k
      · subst e
        rw [hc, Bool.true_and] at q
        unfold R at q
        split at q
        · omega
        · simp only [decide_eq_true_eq] at q; omega
      · exact ih.2 m (by omega) hc
end
theorem c2u {l : List Int} {k : Nat} {x : Int} (hx : l[k]? = some x) : b35 (l.take (k + 1)) = b35 (l.take k) + 2 ^ x.toNat := by
  unfold b35
  rw [List.take_add_one, hx]
  simp [List.foldl_append]
theorem c8c {l : List Int} (hl : ∀ x ∈ l, x.toNat ≤ 7) : ∀ k, k ≤ l.length → b35 (l.take k) ≤ 128 * k := by
  intro k
  induction k with
  | zero => intro _; simp [b35]
  | succ k ih =>
    intro hk
    obtain ⟨x, hx⟩ := b2a (show k < l.length by omega)
    rw [c2u hx]
    have := ih (by omega)
    have h1 : 2 ^ x.toNat ≤ 2 ^ 7 := Nat.pow_le_pow_right (by omega) (hl x (List.mem_of_getElem? hx))
    omega
theorem c9k {a : Nat} (b : Int) (ha : a < 9223372036854775808) : b1n b (a : Int) = ((a &&& (BitVec.ofInt 64 b).toNat : Nat) : Int) := by
  rw [← c9i b ha]
  unfold b1n b0l
  rw [BitVec.and_comm]
theorem g4l (l : List Reading) (n but : Int) (hk : OkL b5a l) (_ : b3b n) (_ : b3b but) : b6z l n but = some true := by
  unfold b6z
  by_cases q8 : 8 < l.length
  · rw [if_pos (by simp; omega)]
    rfl
  rw [if_neg (by simp; omega)]
  have h8 : l.length ≤ 8 := by omega
  rcases c0m hk.1 with ⟨hg, _, c2⟩ | ⟨_, c, hc, _, c2⟩
  rotate_left
  · rw [c2]
    simp only [Option.bind_some]
    rw [if_pos (by simpa using hc)]
    rfl
  have hp := c2e h8
  have hfull := c2c h8 (2 ^ l.length - 1) (Nat.le_refl _)
  generalize hB : pB l (2 ^ l.length - 1) = best at hfull
  rw [c2]
  simp only [Option.bind_some]
  rw [if_neg (by simp), c88 hg, c86 hg h8, hB]
  simp only [Option.bind_some]
  generalize hT : (if l.length = 0 ∨ b1i l 0 = false then ((⟨0, 0⟩ : Span), (3 : Int)) else (⟨(cF l 0 l.length).1, (cF l 0 l.length).2⟩, 0)) = T
  have hT1 : (T.2 = 0 ∧ 0 < l.length ∧ T.1.Low = (cF l 0 l.length).1 ∧ T.1.High = (cF l 0 l.length).2 ∧ T.1.Low ≤ T.1.High) ∨ (T.2 = 3 ∧ (l.length = 0 ∨ b1i l 0 = false)) := by
    by_cases q : l.length = 0 ∨ b1i l 0 = false
    · rw [if_pos q] at hT; subst hT; exact .inr ⟨rfl, q⟩
    · rw [if_neg q] at hT; subst hT
      simp only [not_or, Bool.not_eq_false] at q
      have := q.2
      unfold b1i at this
      exact .inl ⟨rfl, by omega, rfl, rfl, by simpa using this⟩
  rw [if_neg (by
    rcases hT1 with ⟨h1, _, _, _, h2⟩ | ⟨h1, _⟩
    · simp [h1]; omega
    · simp [h1])]
  have hall : b01 (b5w l n) (decide (0 < (l.length : Int)), 0) = some (decide (0 < l.length ∧ ∀ r ∈ l, lo r ≤ n ∧ n ≤ hi r)) := by
    have := b61 (f := b5w l n) l.length (fun (s : Bool) k => (s, k)) (fun k => decide (0 < l.length ∧ ∀ r ∈ l.take k, lo r ≤ n ∧ n ≤ hi r)) (decide (0 < l.length ∧ ∀ r ∈ l, lo r ≤ n ∧ n ≤ hi r)) (s0 := decide (0 < (l.length : Int))) (by simp) (fun k hk' => by
      obtain ⟨x, hx⟩ := b2a hk'
      have ha := b9v (hg.2 x (List.mem_of_getElem? hx))
      simp only [b5w, b2n hx, Option.bind_some]
      rw [if_pos (by simpa using hk'), ha, b29 hk' hk.1]
      congr 3
      rw [Bool.eq_iff_iff]
      simp only [Bool.and_eq_true, decide_eq_true_eq]
      rw [List.take_add_one, hx]
      simp only [List.mem_append, Option.mem_toList, Option.mem_def, Option.some.injEq]
      constructor
      · rintro ⟨⟨⟨h1, h2⟩, h3⟩, h4⟩
        refine ⟨h1, fun r hr => ?_⟩
        rcases hr with hr | rfl
        · exact h2 r hr
        · exact ⟨h3, h4⟩
      · rintro ⟨h1, h2⟩
        have := h2 x (.inr rfl)
        exact ⟨⟨⟨h1, fun r hr => h2 r (.inl hr)⟩, this.1⟩, this.2⟩) (by
      simp only [b5w]
      rw [if_neg (by simp), List.take_length])
    exact this
  rw [hall]
  simp only [Option.bind_some, b8u]
  have hbq : b3s (decide (0 < l.length ∧ ∀ r ∈ l, lo r ≤ n ∧ n ≤ hi r)) (((decide (T.2 = 0)) && (decide (T.1.Low ≤ n))) && (decide (n ≤ T.1.High))) = true := by
    unfold b3s
    rw [beq_iff_eq, Bool.eq_iff_iff]
    simp only [Bool.and_eq_true, decide_eq_true_eq]
    have hmem : (∀ r ∈ l, lo r ≤ n ∧ n ≤ hi r) ↔ ∀ i r, i < l.length → l[i]? = some r → (0 : Nat).testBit i = false → lo r ≤ n ∧ n ≤ hi r :=
      ⟨fun h i r _ hr _ => h r (List.mem_of_getElem? hr), fun h r hr => by
        obtain ⟨i, hi, rfl⟩ := List.getElem_of_mem hr
        exact h i _ hi (List.getElem?_eq_getElem hi) (by simp)⟩
    constructor
    · rintro ⟨h0, h⟩
      obtain ⟨r0, hr0⟩ := b2a h0
      have hb0 := b80 (hg.2 r0 (List.mem_of_getElem? hr0))
      have hn0 := h r0 (List.mem_of_getElem? hr0)
      have h' := hmem.1 h
      have a1 : (cF l 0 l.length).1 ≤ n := (c11 (Nat.le_refl _)).2 ⟨by omega, fun i r hi hr hb => (h' i r hi hr hb).1⟩
      have a2 : n ≤ (cF l 0 l.length).2 := (b60 (Nat.le_refl _)).2 ⟨by omega, fun i r hi hr hb => (h' i r hi hr hb).2⟩
      rcases hT1 with ⟨t1, _, t2, t3, _⟩ | ⟨_, t⟩
      · rw [t2, t3]; exact ⟨⟨t1, a1⟩, a2⟩
      · rcases t with t | t
        · omega
        · unfold b1i at t
          simp only [decide_eq_false_iff_not] at t
          omega
    · rintro ⟨⟨t1, t2⟩, t3⟩
      rcases hT1 with ⟨_, t0, e1, e2, _⟩ | ⟨e, _⟩
      · rw [e1] at t2; rw [e2] at t3
        have b1 := ((c11 (Nat.le_refl _)).1 t2).2
        have b2 := ((b60 (Nat.le_refl _)).1 t3).2
        exact ⟨t0, hmem.2 fun i r hi hr hb => ⟨b1 i r hi hr hb, b2 i r hi hr hb⟩⟩
      · omega
  rw [hbq]
  rw [if_neg (by simp)]
  have hbl := c0c best
  have hmem : ∀ x ∈ bL best, 0 ≤ x ∧ x < l.length ∧ x.toNat ≤ 7 := fun x hx => by
    obtain ⟨i, rfl, h1, h2⟩ := d70 hx
    have := c9x (n := l.length) (by omega) h2
    omega
  have hset : b01 (b5x l (bL best, 0)) (0, 0) = some (.inl (best : Int)) := by
    have := b61 (f := b5x l (bL best, 0)) (bL best).length (fun s k => (s, k)) (fun k => ((b35 ((bL best).take k) : Nat) : Int)) (.inl (best : Int)) (s0 := 0) (by simp [b35]) (fun k hk' => by
      obtain ⟨x, hx⟩ := b2a hk'
      have hm := hmem x (List.mem_of_getElem? hx)
      obtain ⟨i, hi⟩ : ∃ i : Nat, x = i := ⟨x.toNat, by omega⟩
      have hs := c8c (fun x hx => (hmem x hx).2.2) k (by omega)
      have hs2 := c8c (fun x hx => (hmem x hx).2.2) (k + 1) (by omega)
      simp only [b5x, b2n hx, Option.bind_some]
      rw [if_pos (by simpa using hk'), if_neg (by simp; omega)]
      have hprev : (if decide (0 < (k : Int)) = true then (get (bL best) (wr ((k : Int) - 1))).bind fun x64 => some (decide (x ≤ x64)) else some false) = some false := by
        by_cases q : 0 < k
        · obtain ⟨y, hy⟩ := b2a (show k - 1 < (bL best).length by omega)
          rw [if_pos (by simpa using q), show wr ((k : Int) - 1) = ((k - 1 : Nat) : Int) from by rw [b3p (by omega) (by omega)]; omega, b2n hy]
          have := c9g hfull.2 hy (by rw [show k - 1 + 1 = k by omega]; exact hx)
          simp only [Option.bind_some]
          congr 1
          simp; omega
        · rw [if_neg (by simpa using q)]
      rw [hprev]
      simp only [Option.bind_some]
      rw [if_neg (by simp), hi, b42 (by omega), c2r (by omega)]
      simp only [Option.bind_some]
      rw [c2u hx, hi, Int.toNat_natCast] at hs2
      have h2i : 0 ≤ ((2 ^ i : Nat) : Int) := Int.natCast_nonneg _
      rw [c2u hx, hi, Int.toNat_natCast, b29 hk' (by simp only [maxLen]; omega), b3p (by omega) (by omega)]
      congr 3) (by
      simp only [b5x]
      rw [if_neg (by simp), List.take_length, g4g hfull.2])
    exact this
  rw [hset]
  simp only [Option.bind_some, b8v]
  rw [b42 (by omega), c2r (by omega)]
  simp only [Option.bind_some]
  have e1 : wr (((2 ^ l.length : Nat) : Int) - 1) = ((2 ^ l.length - 1 : Nat) : Int) := by rw [b3p (by omega) (by omega)]; omega
  generalize hm : (2 ^ l.length - 1) &&& (BitVec.ofInt 64 but).toNat = m
  have hmle : m ≤ 2 ^ l.length - 1 := by rw [← hm]; exact Nat.and_le_left
  have hband : b1n but (wr (((2 ^ l.length : Nat) : Int) - 1)) = (m : Int) := by rw [e1, c9k but (by omega), hm]
  have cnt_le : ∀ k, cnt m k ≤ k := fun k => by
    induction k with
    | zero => exact Nat.le_refl _
    | succ k ih => show cnt m k + _ ≤ _; split <;> omega
  have hmany : b01 (b5y l but ((2 ^ l.length : Nat) : Int)) (0, 0) = some ((cnt m l.length : Nat) : Int) := by
    have := b61 (f := b5y l but ((2 ^ l.length : Nat) : Int)) l.length (fun s k => (s, k)) (fun k => ((cnt m k : Nat) : Int)) ((cnt m l.length : Nat) : Int) (s0 := 0) rfl (fun k hk' => by
      have hc := cnt_le k
      simp only [b5y]
      rw [if_pos (by simpa using hk'), hband, b42 (by omega), b7g (by omega)]
      simp only [Option.bind_some]
      rw [c27 (by omega) (by omega), b29 hk' hk.1]
      show _ = some (Out.nx (((cnt m k + (if m.testBit k then 1 else 0) : Nat) : Int), (k : Int) + 1))
      congr 3
      split
      · rw [b3p (by omega) (by omega)]; omega
      · rw [b3p (by omega) (by omega)]; omega) (by
      simp only [b5y]
      rw [if_neg (by simp)])
    exact this
  rw [hmany, d1l h8 (by omega)]
  simp only [Option.bind_some, b8w]
  have hcb := g2y (l := l) (2 ^ l.length - 1)
  have hleast := (c7q h8 (Nat.le_refl _)).2
  have hlen := (c7q h8 (Nat.le_refl _)).1
  rw [hB] at hcb hleast hlen
  rw [c23 hg (by omega), hcb]
  simp only [Option.bind_some]
  rw [if_pos trivial]
  by_cases q : (bL best).length ≤ (bL m).length
  · rw [if_pos (by simpa using q)]
    rfl
  · rw [if_neg (by simpa using q), hband, c23 hg (by omega)]
    have : b1i l m = false := c0f fun hc => by
      rcases Nat.lt_or_ge m (2 ^ l.length - 1) with h | h
      · exact q (hleast m h hc)
      · have : m = 2 ^ l.length - 1 := by omega
        rw [this, c4g h8] at q
        exact q hlen
    rw [this]
    rfl
end Go.Nw.FM
