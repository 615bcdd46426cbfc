/- Plain laws on the models. -/
import Derived.Test.YteoedeeljnboeaaP1
import Derived.Test.YteoedeeljnboeaaNwSearch
set_option linter.all false
set_option linter.unusedVariables false
set_option linter.unusedSimpArgs false
set_option linter.unusedSectionVars false
namespace Go.Nw.HM
structure Crowded (n : Nat) (lo : Int) (l : List Crowd) : Prop where
  each : ∀ (k : Nat) x, l[k]? = some x → 0 ≤ x.Comb ∧ x.Comb < n ∧ 0 ≤ x.People.Low ∧ x.People.Low ≤ x.People.High ∧ x.People.High ≤ 1000
structure Valid (h : Hall) : Prop where
  u1 : 1 ≤ h.Until
  u2 : h.Until ≤ 100
  c1 : 1 ≤ h.Combs.length
  c2 : h.Combs.length ≤ 8
  t2 : h.Trains.length ≤ 12
  s2 : h.Shifts.length ≤ 20
  comb : ∀ (k : Nat) x, h.Combs[k]? = some x → 0 ≤ x.Rate ∧ x.Rate ≤ 1000 ∧ 0 ≤ x.Limit ∧ x.Limit ≤ 100000 ∧ (x.Next = -1 ∨ (k < x.Next ∧ x.Next < h.Combs.length)) ∧ 1 ≤ x.Walk.Low ∧ x.Walk.Low ≤ x.Walk.High ∧ x.Walk.High ≤ 20
  train : ∀ (k : Nat) x, h.Trains[k]? = some x → 0 ≤ x.At.Low ∧ x.At.Low ≤ x.At.High ∧ x.At.High ≤ h.Until - 1 ∧ x.Crowds.length ≤ 4 ∧
    (∀ (j : Nat) y, x.Crowds[j]? = some y → 0 ≤ y.People.Low ∧ y.People.Low ≤ y.People.High ∧ y.People.High ≤ 1000 ∧ y.Comb < h.Combs.length ∧ (match j with | 0 => -1 < y.Comb | j + 1 => ∀ z, x.Crowds[j]? = some z → z.Comb < y.Comb))
  shift : ∀ (k : Nat) x, h.Shifts[k]? = some x → 0 ≤ x.At ∧ x.At < h.Until ∧ 0 ≤ x.Comb ∧ x.Comb < h.Combs.length ∧ 0 ≤ x.Rate ∧ x.Rate ≤ 1000 ∧ (∀ j y, k = j + 1 → h.Shifts[j]? = some y → y.At ≤ x.At)
def b4a (n : Nat) (k : Nat) (x : Comb) : Prop := 0 ≤ x.Rate ∧ x.Rate ≤ 1000 ∧ 0 ≤ x.Limit ∧ x.Limit ≤ 100000 ∧ (x.Next = -1 ∨ ((k : Int) < x.Next ∧ x.Next < n)) ∧ 1 ≤ x.Walk.Low ∧ x.Walk.Low ≤ x.Walk.High ∧ x.Walk.High ≤ 20
def b4j (n : Nat) (l : List Crowd) (j : Nat) (y : Crowd) : Prop := 0 ≤ y.People.Low ∧ y.People.Low ≤ y.People.High ∧ y.People.High ≤ 1000 ∧ y.Comb < n ∧ (match j with | 0 => -1 < y.Comb | j + 1 => ∀ z, l[j]? = some z → z.Comb < y.Comb)
def c0a (n : Nat) (u : Int) (x : Train) : Prop := 0 ≤ x.At.Low ∧ x.At.Low ≤ x.At.High ∧ x.At.High ≤ u - 1 ∧ x.Crowds.length ≤ 4 ∧ ∀ (j : Nat) y, x.Crowds[j]? = some y → b4j n x.Crowds j y
def b99 (n : Nat) (u : Int) (l : List Shift) (k : Nat) (x : Shift) : Prop := 0 ≤ x.At ∧ x.At < u ∧ 0 ≤ x.Comb ∧ x.Comb < n ∧ 0 ≤ x.Rate ∧ x.Rate ≤ 1000 ∧ (∀ j y, k = j + 1 → l[j]? = some y → y.At ≤ x.At)
theorem g13 {h : Hall} (hk : b5i h) : ∃ b, b89 h = some b := by
  unfold b89
  split
  · exact ⟨_, rfl⟩
  · have hl : h.Trains.length ≤ maxLen := hk.2.1.1
    rcases b53 (f := c00 h) h.Trains (fun _ x => 10 < x.Crowds.length) (.inr true) (.inl ()) (fun k x hx hb => by
      simp only [c00, b1g hx, Option.bind_some]
      rw [if_pos (by simpa using b1b hx), if_pos (by simp; omega)]) (fun k x hx hb => by
      simp only [c00, b1g hx, Option.bind_some]
      rw [if_pos (by simpa using b1b hx), if_neg (by simp; omega), b2m (b1b hx) hl]) (by simp [c00]) with ⟨_, h2⟩ | ⟨_, h2⟩
    · rw [h2]; exact ⟨_, rfl⟩
    · rw [h2]; exact ⟨_, rfl⟩
end Go.Nw.HM
namespace Go.Nw.HM
def b6p (h : Hall) : Prop := 1 ≤ h.Until ∧ h.Until ≤ 100 ∧ 1 ≤ h.Combs.length ∧ h.Combs.length ≤ 8 ∧ h.Trains.length ≤ 12 ∧ h.Shifts.length ≤ 20
def V (h : Hall) : Prop := b6p h ∧ (∀ (k : Nat) x, h.Combs[k]? = some x → b4a h.Combs.length k x) ∧ (∀ (k : Nat) x, h.Trains[k]? = some x → c0a h.Combs.length h.Until x) ∧ (∀ (k : Nat) x, h.Shifts[k]? = some x → b99 h.Combs.length h.Until h.Shifts k x)
def b49 (l : List Crowd) : Nat → Int
  | 0 => -1
  | j + 1 => ((l[j]?).map (·.Comb)).getD 0
theorem d10 {l : List Crowd} {k : Nat} {x : Crowd} (h : l[k]? = some x) : b49 l (k + 1) = x.Comb := by simp [b49, h]
theorem c2f {n : Nat} {l : List Crowd} {k : Nat} {x : Crowd} (hx : l[k]? = some x) : b4j n l k x ↔ (0 ≤ x.People.Low ∧ x.People.Low ≤ x.People.High ∧ x.People.High ≤ 1000 ∧ x.Comb < n ∧ b49 l k < x.Comb) := by
  unfold b4j
  cases k with
  | zero => simp [b49]
  | succ j =>
    obtain ⟨z, hz⟩ := b1u (show j < l.length by have := b1b hx; omega)
    simp [b49, hz]
section
variable {h : Hall} (hk : b5i h) (hs : b6p h)
include hk hs
theorem d4f {t : Train} (ht : b8i t) : ((∀ k x, t.Crowds[k]? = some x → b4j h.Combs.length t.Crowds k x) ∧ b07 (b79 h t) (-1, 0) = some (.inl ())) ∨ ((∃ k x, t.Crowds[k]? = some x ∧ ¬ b4j h.Combs.length t.Crowds k x) ∧ b07 (b79 h t) (-1, 0) = some (.inr 60)) := by
  have hn := g0u (n := h.Combs.length) (by have := hs.2.2.2.1; simp only [maxLen]; omega)
  have hl : t.Crowds.length ≤ maxLen := ht.2.1
  have hpb : ∀ k, (∀ j y, j < k → t.Crowds[j]? = some y → ¬ ¬ b4j h.Combs.length t.Crowds j y) → k ≤ t.Crowds.length → -1 ≤ b49 t.Crowds k ∧ b49 t.Crowds k < 8 := fun k hg hkl => by
    have key : ∀ m, m ≤ k → -1 ≤ b49 t.Crowds m ∧ b49 t.Crowds m < 8 := by
      intro m
      induction m with
      | zero => intro _; simp [b49]
      | succ m ih =>
        intro hm
        obtain ⟨y, hy⟩ := b1u (show m < t.Crowds.length by omega)
        have hgy := (c2f hy).1 (Classical.not_not.1 (hg m y (by omega) hy))
        have := ih (by omega)
        rw [d10 hy]
        have := hs.2.2.2.1
        omega
    exact key k (Nat.le_refl _)
  have := d1m (f := b79 h t) t.Crowds (fun s k => (s, k)) (b49 t.Crowds) (fun k x => ¬ b4j h.Combs.length t.Crowds k x) (.inr 60) (.inl ()) (fun k x hg hx hb => by
    obtain ⟨p1, p2⟩ := hpb k hg (by have := b1b hx; omega)
    simp only [b79, b1g hx, Option.bind_some, hn, b8g (show -9223372036854775808 ≤ b49 t.Crowds k + 1 by omega) (by omega)]
    rw [if_pos (by simpa using b1b hx), if_pos]
    rw [c2f hx] at hb
    simp only [b2h, b4m, Bool.or_eq_true, Bool.not_eq_true', Bool.and_eq_false_iff, decide_eq_false_iff_not]
    omega) (fun k x hg hx hb => by
    obtain ⟨p1, p2⟩ := hpb k hg (by have := b1b hx; omega)
    simp only [b79, b1g hx, Option.bind_some, hn, b8g (show -9223372036854775808 ≤ b49 t.Crowds k + 1 by omega) (by omega)]
    rw [if_pos (by simpa using b1b hx), if_neg, b2m (b1b hx) hl, d10 hx]
    have hb := (c2f hx).1 (Classical.not_not.1 hb)
    simp only [b2h, b4m, Bool.or_eq_true, Bool.not_eq_true', Bool.and_eq_false_iff, decide_eq_false_iff_not]
    omega) (by simp [b79]) (s0 := -1) rfl
  simpa using this
theorem g46 {t : Train} (ht : b8i t) : ((∀ k x, t.Crowds[k]? = some x → b4j h.Combs.length t.Crowds k x) ∧ b07 (b6g h t) (-1, 0) = some (.inl ())) ∨ ((∃ k x, t.Crowds[k]? = some x ∧ ¬ b4j h.Combs.length t.Crowds k x) ∧ b07 (b6g h t) (-1, 0) = some (.inr false)) := by
  have hl : t.Crowds.length ≤ maxLen := ht.2.1
  have := d1m (f := b6g h t) t.Crowds (fun s k => (s, k)) (b49 t.Crowds) (fun k x => ¬ b4j h.Combs.length t.Crowds k x) (.inr false) (.inl ()) (fun k x hg hx hb => by
    simp only [b6g, b1g hx, Option.bind_some]
    rw [if_pos (by simpa using b1b hx), if_pos]
    rw [c2f hx] at hb
    simp only [b4u, Bool.or_eq_true, Bool.not_eq_true', Bool.and_eq_false_iff, decide_eq_false_iff_not, decide_eq_true_eq]
    omega) (fun k x hg hx hb => by
    simp only [b6g, b1g hx, Option.bind_some]
    rw [if_pos (by simpa using b1b hx), if_neg, b2m (b1b hx) hl, d10 hx]
    have hb := (c2f hx).1 (Classical.not_not.1 hb)
    simp only [b4u, Bool.or_eq_true, Bool.not_eq_true', Bool.and_eq_false_iff, decide_eq_false_iff_not, decide_eq_true_eq]
    omega) (by simp [b6g]) (s0 := -1) rfl
  simpa using this
theorem j0m {t : Train} (ht : b8i t) : ∃ b, b8z h t = some b ∧ (b = true ↔ c0a h.Combs.length h.Until t) := by
  have hu : wr (h.Until - 1) = h.Until - 1 := b8g (by have := hs.1; omega) (by have := hs.2.1; omega)
  unfold b8z
  rcases g46 hk hs ht with ⟨h1, h2⟩ | ⟨⟨k, x, hx, hb⟩, h2⟩
  · rw [h2]
    simp only [Option.bind_some, c0n, hu]
    refine ⟨_, rfl, ?_⟩
    simp only [b4u, Bool.and_eq_true, decide_eq_true_eq, c0a]
    constructor
    · rintro ⟨⟨⟨a, b⟩, c⟩, d⟩; exact ⟨a, b, c, by omega, h1⟩
    · rintro ⟨a, b, c, d, _⟩; exact ⟨⟨⟨a, b⟩, c⟩, by omega⟩
  · rw [h2]
    refine ⟨false, rfl, by simp; exact fun hg => hb (hg.2.2.2.2 k x hx)⟩
end
end Go.Nw.HM
namespace Go.Nw.HM
theorem g73 {l : List Train} {f : Train → Option Bool} {p : Train → Prop} (hl : l.length ≤ maxLen) (hf : ∀ x ∈ l, ∃ b, f x = some b ∧ (b = true ↔ p x)) :
    ∃ b, c1h l f = some b ∧ (b = true ↔ ∃ x ∈ l, p x) := d0d rfl hl hf
theorem d0c {l : List Int} {f : Int → Option Bool} {p : Int → Prop} (hl : l.length ≤ maxLen) (hf : ∀ x ∈ l, ∃ b, f x = some b ∧ (b = true ↔ p x)) :
    ∃ b, b9k l f = some b ∧ (b = true ↔ ∃ x ∈ l, p x) := d0d rfl hl hf
theorem c7d {j n : Nat} (h : j + 1 < n) (hn : n ≤ maxLen) : wr (((j + 1 : Nat) : Int) - 1) = (j : Int) := by
  rw [b8g (by omega) (by simp only [maxLen] at hn; omega)]; omega
theorem d8b {h : Hall} {k : Nat} {x : Comb} (hx : h.Combs[k]? = some x) : ∃ b, b8x h k = some b ∧ (b = true ↔ b4a h.Combs.length k x) := by
  unfold b8x
  rw [b1g hx]
  refine ⟨_, rfl, ?_⟩
  simp only [b3a, b4u, b4a, Bool.and_eq_true, Bool.or_eq_true, decide_eq_true_eq]
  omega
theorem d95 {h : Hall} (hk : b5i h) : b6p h ∨ (¬ b6p h ∧ b4s h = some 60 ∧ b5g h = some 60) := by
  by_cases hs : b6p h
  · exact .inl hs
  · refine .inr ⟨hs, ?_, ?_⟩
    · unfold b4s
      rw [if_pos]
      simp only [Bool.or_eq_true, decide_eq_true_eq]
      unfold b6p at hs; omega
    · unfold b5g
      rw [if_pos]
      simp only [b2h, Bool.or_eq_true, Bool.not_eq_true', Bool.and_eq_false_iff, decide_eq_false_iff_not, decide_eq_true_eq]
      unfold b6p at hs; omega
theorem g1z {h : Hall} (hk : b5i h) : (V h ∧ b4s h = some 0) ∨ (¬ V h ∧ b4s h = some 60) := by
  rcases d95 hk with hs | ⟨hs, h1, _⟩
  · have e1 : h.Combs.length ≤ maxLen := hk.1.1
    have e2 : h.Trains.length ≤ maxLen := hk.2.1.1
    have e3 : h.Shifts.length ≤ maxLen := hk.2.2.1.1
    unfold b4s
    rw [if_neg (by simp only [Bool.or_eq_true, decide_eq_true_eq]; unfold b6p at hs; omega)]
    rcases c3h (f := b7i h) h.Combs (fun k x => ¬ b4a h.Combs.length k x) (.inr 60) (.inl ()) (fun k x _ hx hb => by
        obtain ⟨b, b1, b2⟩ := d8b hx
        have : b = false := d3r fun hh => hb (b2.1 hh)
        subst this
        simp [b7i, b1, b1b hx]) (fun k x _ hx hb => by
        obtain ⟨b, b1, b2⟩ := d8b hx
        have : b = true := b2.2 (Classical.not_not.1 hb)
        subst this
        simp [b7i, b1, b1b hx, b2m (b1b hx) e1]) (by simp [b7i]) with ⟨c1, c2⟩ | ⟨⟨k, x, hx, hb⟩, c2⟩
    · rw [c2]
      simp only [Option.bind_some, c0b]
      obtain ⟨b, b1, b2⟩ := g73 (l := h.Trains) (f := fun z => b7g z h) (p := fun t => ¬ c0a h.Combs.length h.Until t) e2 fun t ht => by
        obtain ⟨b, b1, b2⟩ := j0m hk hs (hk.2.1.2 t ht)
        refine ⟨!b, by simp [b7g, b1], ?_⟩
        cases b <;> simp_all
      rw [b1]
      simp only [Option.bind_some]
      cases b with
      | true =>
        rw [if_pos rfl]
        obtain ⟨t, ht, hbad⟩ := b2.1 rfl
        obtain ⟨j, hj, rfl⟩ := List.getElem_of_mem ht
        exact .inr ⟨fun hv => hbad (hv.2.2.1 j _ (List.getElem?_eq_getElem hj)), rfl⟩
      | false =>
        rw [if_neg (by simp)]
        have ht : ∀ (k : Nat) x, h.Trains[k]? = some x → c0a h.Combs.length h.Until x := fun k x hx => Classical.byContradiction fun hn => by have := b2.2 ⟨x, List.mem_of_getElem? hx, hn⟩; cases this
        rcases c3h (f := b7h h) h.Shifts (fun k x => ¬ b99 h.Combs.length h.Until h.Shifts k x) (.inr 60) (.inl ()) (fun k x _ hx hb => by
            simp only [b7h, b1g hx, Option.bind_some]
            rw [if_pos (by simpa using b1b hx)]
            unfold b99 at hb
            by_cases q : x.At < 0 ∨ h.Until ≤ x.At
            · rw [if_pos (by simpa using q)]; simp
            · rw [if_neg (by simpa using q)]
              cases k with
              | zero =>
                simp only [Int.natCast_zero, Int.lt_irrefl, decide_false, Bool.false_eq_true, if_false, Option.bind_some, Bool.false_or]
                rw [if_pos]
                simp only [b3a, Bool.or_eq_true, Bool.not_eq_true', Bool.and_eq_false_iff, decide_eq_false_iff_not, decide_eq_true_eq]
                refine Classical.byContradiction fun hc => hb ⟨by omega, by omega, by omega, by omega, by omega, by omega, fun j y hj => by omega⟩
              | succ j =>
                obtain ⟨y, hy⟩ := b1u (show j < h.Shifts.length by have := b1b hx; omega)
                rw [if_pos (by simp <;> omega), c7d (b1b hx) e3, b1g hy]
                simp only [Option.bind_some]
                rw [if_pos]
                simp only [b3a, Bool.or_eq_true, Bool.not_eq_true', Bool.and_eq_false_iff, decide_eq_false_iff_not, decide_eq_true_eq]
                refine Classical.byContradiction fun hc => hb ⟨by omega, by omega, by omega, by omega, by omega, by omega, fun j' y' hj' hy' => by
                  obtain rfl : j' = j := by omega
                  rw [hy] at hy'; cases hy'; omega⟩) (fun k x _ hx hb => by
            have hb := Classical.not_not.1 hb
            obtain ⟨q1, q2, q3, q4, q5, q6, q7⟩ := hb
            simp only [b7h, b1g hx, Option.bind_some]
            rw [if_pos (by simpa using b1b hx), if_neg (by simp; omega)]
            cases k with
            | zero =>
              simp only [Int.natCast_zero, Int.lt_irrefl, decide_false, Bool.false_eq_true, if_false, Option.bind_some, Bool.false_or]
              rw [if_neg]
              · rfl
              · simp only [b3a, Bool.or_eq_true, Bool.not_eq_true', Bool.and_eq_false_iff, decide_eq_false_iff_not, decide_eq_true_eq]
                omega
            | succ j =>
              obtain ⟨y, hy⟩ := b1u (show j < h.Shifts.length by have := b1b hx; omega)
              have := q7 j y rfl hy
              rw [if_pos (by simp <;> omega), c7d (b1b hx) e3, b1g hy]
              simp only [Option.bind_some]
              rw [if_neg, b2m (b1b hx) e3]
              simp only [b3a, Bool.or_eq_true, Bool.not_eq_true', Bool.and_eq_false_iff, decide_eq_false_iff_not, decide_eq_true_eq]
              omega) (by simp [b7h]) with ⟨d1, d2⟩ | ⟨⟨k, x, hx, hb⟩, d2⟩
        · rw [d2]
          exact .inl ⟨⟨hs, fun k x hx => Classical.not_not.1 (c1 k x hx), ht, fun k x hx => Classical.not_not.1 (d1 k x hx)⟩, rfl⟩
        · rw [d2]
          exact .inr ⟨fun hv => hb (hv.2.2.2 k x hx), rfl⟩
    · rw [c2]
      exact .inr ⟨fun hv => hb (hv.2.1 k x hx), rfl⟩
  · exact .inr ⟨fun hv => hs hv.1, h1⟩
end Go.Nw.HM
namespace Go.Nw.HM
theorem d22 {h : Hall} (hk : b5i h) : (V h ∧ b5g h = some 0) ∨ (¬ V h ∧ b5g h = some 60) := by
  rcases d95 hk with hs | ⟨hs, _, h1⟩
  · have e1 : h.Combs.length ≤ maxLen := hk.1.1
    have e2 : h.Trains.length ≤ maxLen := hk.2.1.1
    have e3 : h.Shifts.length ≤ maxLen := hk.2.2.1.1
    have hu : wr (h.Until - 1) = h.Until - 1 := b8g (by have := hs.1; omega) (by have := hs.2.1; omega)
    have hn := g0u e1
    unfold b5g
    rw [if_neg (by simp only [b2h, Bool.or_eq_true, Bool.not_eq_true', Bool.and_eq_false_iff, decide_eq_false_iff_not, decide_eq_true_eq]; unfold b6p at hs; omega)]
    rcases c3h (f := c07 h) h.Combs (fun k x => ¬ b4a h.Combs.length k x) (.inr 60) (.inl ()) (fun k x _ hx hb => by
        simp only [c07, b1g hx, Option.bind_some, hn, b2m (b1b hx) e1]
        rw [if_pos (by simpa using b1b hx), if_pos]
        simp only [b2h, b4m, Bool.or_eq_true, Bool.and_eq_true, Bool.not_eq_true', Bool.and_eq_false_iff, decide_eq_false_iff_not, decide_eq_true_eq]
        unfold b4a at hb; omega) (fun k x _ hx hb => by
        have hb := Classical.not_not.1 hb
        simp only [c07, b1g hx, Option.bind_some, hn, b2m (b1b hx) e1]
        rw [if_pos (by simpa using b1b hx), if_neg]
        simp only [b2h, b4m, Bool.or_eq_true, Bool.and_eq_true, Bool.not_eq_true', Bool.and_eq_false_iff, decide_eq_false_iff_not, decide_eq_true_eq]
        unfold b4a at hb; omega) (by simp [c07]) with ⟨c1, c2⟩ | ⟨⟨k, x, hx, hb⟩, c2⟩
    · rw [c2]
      simp only [Option.bind_some, c6o]
      rcases c3h (f := c08 h) h.Trains (fun _ x => ¬ c0a h.Combs.length h.Until x) (.inr 60) (.inl ()) (fun k x _ hx hb => by
          simp only [c08, b1g hx, Option.bind_some, hu]
          rw [if_pos (by simpa using b1b hx)]
          by_cases q : ¬ (0 ≤ x.At.Low ∧ x.At.Low ≤ x.At.High ∧ x.At.High ≤ h.Until - 1) ∨ 4 < x.Crowds.length
          · rw [if_pos]
            simp only [b4m, Bool.or_eq_true, Bool.not_eq_true', Bool.and_eq_false_iff, decide_eq_false_iff_not, decide_eq_true_eq]
            omega
          · rw [if_neg (by
              simp only [b4m, Bool.or_eq_true, Bool.not_eq_true', Bool.and_eq_false_iff, decide_eq_false_iff_not, decide_eq_true_eq]
              omega)]
            rcases d4f hk hs (hk.2.1.2 x (List.mem_of_getElem? hx)) with ⟨d1, d2⟩ | ⟨_, d2⟩
            · exact absurd ⟨by omega, by omega, by omega, by omega, d1⟩ hb
            · rw [d2]; rfl) (fun k x _ hx hb => by
          have hb := Classical.not_not.1 hb
          obtain ⟨q1, q2, q3, q4, q5⟩ := hb
          simp only [c08, b1g hx, Option.bind_some, hu]
          rw [if_pos (by simpa using b1b hx), if_neg (by
              simp only [b4m, Bool.or_eq_true, Bool.not_eq_true', Bool.and_eq_false_iff, decide_eq_false_iff_not, decide_eq_true_eq]
              omega)]
          rcases d4f hk hs (hk.2.1.2 x (List.mem_of_getElem? hx)) with ⟨d1, d2⟩ | ⟨⟨j, y, hy, hb⟩, d2⟩
          · rw [d2]; simp only [Option.bind_some, c6n, b2m (b1b hx) e2]
          · exact absurd (q5 j y hy) hb) (by simp [c08]) with ⟨t1, t2⟩ | ⟨⟨k, x, hx, hb⟩, t2⟩
      · rw [t2]
        simp only [Option.bind_some, c6p]
        rcases c3h (f := c09 h) h.Shifts (fun k x => ¬ b99 h.Combs.length h.Until h.Shifts k x) (.inr 60) (.inl ()) (fun k x _ hx hb => by
            simp only [c09, b1g hx, Option.bind_some, hu, hn]
            rw [if_pos (by simpa using b1b hx)]
            unfold b99 at hb
            by_cases q : 0 ≤ x.At ∧ x.At < h.Until ∧ 0 ≤ x.Comb ∧ x.Comb < h.Combs.length ∧ 0 ≤ x.Rate ∧ x.Rate ≤ 1000
            · rw [if_neg (by
                simp only [b2h, Bool.or_eq_true, Bool.not_eq_true', Bool.and_eq_false_iff, decide_eq_false_iff_not, decide_eq_true_eq]
                omega)]
              cases k with
              | zero => exact absurd ⟨q.1, q.2.1, q.2.2.1, q.2.2.2.1, q.2.2.2.2.1, q.2.2.2.2.2, fun j y hj => by omega⟩ hb
              | succ j =>
                obtain ⟨y, hy⟩ := b1u (show j < h.Shifts.length by have := b1b hx; omega)
                rw [if_pos (by simp <;> omega), c7d (b1b hx) e3, b1g hy]
                simp only [Option.bind_some]
                rw [if_pos]
                simp only [decide_eq_true_eq]
                refine Classical.byContradiction fun hc => hb ⟨by omega, by omega, by omega, by omega, by omega, by omega, fun j' y' hj' hy' => by
                  obtain rfl : j' = j := by omega
                  rw [hy] at hy'; cases hy'; omega⟩
            · rw [if_pos (by
                simp only [b2h, Bool.or_eq_true, Bool.not_eq_true', Bool.and_eq_false_iff, decide_eq_false_iff_not, decide_eq_true_eq]
                omega)]
              simp) (fun k x _ hx hb => by
            have hb := Classical.not_not.1 hb
            obtain ⟨q1, q2, q3, q4, q5, q6, q7⟩ := hb
            simp only [c09, b1g hx, Option.bind_some, hu, hn]
            rw [if_pos (by simpa using b1b hx), if_neg (by
                simp only [b2h, Bool.or_eq_true, Bool.not_eq_true', Bool.and_eq_false_iff, decide_eq_false_iff_not, decide_eq_true_eq]
                omega)]
            cases k with
            | zero => simp; rfl
            | succ j =>
              obtain ⟨y, hy⟩ := b1u (show j < h.Shifts.length by have := b1b hx; omega)
              have := q7 j y rfl hy
              rw [if_pos (by simp <;> omega), c7d (b1b hx) e3, b1g hy]
              simp only [Option.bind_some]
              rw [if_neg (by simp only [decide_eq_true_eq]; omega), b2m (b1b hx) e3]) (by simp [c09]) with ⟨d1, d2⟩ | ⟨⟨k, x, hx, hb⟩, d2⟩
        · rw [d2]
          exact .inl ⟨⟨hs, fun k x hx => Classical.not_not.1 (c1 k x hx), fun k x hx => Classical.not_not.1 (t1 k x hx), fun k x hx => Classical.not_not.1 (d1 k x hx)⟩, rfl⟩
        · rw [d2]
          exact .inr ⟨fun hv => hb (hv.2.2.2 k x hx), rfl⟩
      · rw [t2]
        exact .inr ⟨fun hv => hb (hv.2.2.1 k x hx), rfl⟩
    · rw [c2]
      exact .inr ⟨fun hv => hb (hv.2.1 k x hx), rfl⟩
  · exact .inr ⟨fun hv => hs hv.1, h1⟩
theorem g1y {h : Hall} (hk : b5i h) : (V h ∧ b4s h = some 0 ∧ b5g h = some 0) ∨ (¬ V h ∧ b4s h = some 60 ∧ b5g h = some 60) := by
  rcases g1z hk with ⟨h1, h2⟩ | ⟨h1, h2⟩ <;> rcases d22 hk with ⟨h3, h4⟩ | ⟨h3, h4⟩
  · exact .inl ⟨h1, h2, h4⟩
  · exact absurd h1 h3
  · exact absurd h3 h1
  · exact .inr ⟨h1, h2, h4⟩
end Go.Nw.HM
namespace Go.Nw.HM
def T (h : Hall) : Nat := h.Until.toNat
def b8c (h : Hall) (c : Nat) : Int := ((h.Combs[c]?).map (·.Rate)).getD 0
def b6m (c : Nat) (t : Int) (a : Int) (s : Shift) : Int := if s.Comb = (c : Int) ∧ s.At ≤ t then s.Rate else a
def b1l (h : Hall) (c : Nat) (t : Nat) : Int := h.Shifts.foldl (b6m c t) (b8c h c)
theorem b6q {h : Hall} (hv : V h) : (T h : Int) = h.Until := by have := hv.1.1; unfold T; omega
theorem b4o {h : Hall} (hv : V h) : T h ≤ 100 := by have := hv.1.2.1; unfold T; omega
def c31 (c : Nat) (a : Int) (s : Shift) : Int := if s.Comb = (c : Int) then s.Rate else a
def G (h : Hall) (c k : Nat) : Int := (h.Shifts.take k).foldl (c31 c) (b8c h c)
theorem g17 {h : Hall} {c k : Nat} {x : Shift} (hx : h.Shifts[k]? = some x) : G h c (k + 1) = if x.Comb = (c : Int) then x.Rate else G h c k := by
  unfold G
  rw [List.take_add_one, hx]
  simp [List.foldl_append, c31]
theorem j7z {h : Hall} (hv : V h) : ∀ (d j : Nat) (x y : Shift), h.Shifts[j]? = some x → h.Shifts[j + d]? = some y → x.At ≤ y.At := by
  intro d
  induction d with
  | zero => intro j x y hx hy; rw [Nat.add_zero, hx] at hy; cases hy; exact Int.le_refl _
  | succ d ih =>
    intro j x y hx hy
    obtain ⟨z, hz⟩ := b1u (show j + d < h.Shifts.length by have := b1b hy; omega)
    have h1 := ih j x z hx hz
    have h2 := (hv.2.2.2 _ y hy).2.2.2.2.2.2 (j + d) z (by omega) hz
    omega
def d29 (h : Hall) (t : Int) (k : Nat) : Prop := k ≤ h.Shifts.length ∧ (∀ j x, j < k → h.Shifts[j]? = some x → x.At ≤ t) ∧ ∀ x, h.Shifts[k]? = some x → t < x.At
theorem g16 {h : Hall} (hv : V h) {c k t : Nat} (hu : d29 h t k) : G h c k = b1l h c t := by
  unfold G b1l
  conv => rhs; rw [← List.take_append_drop k h.Shifts, List.foldl_append]
  have e1 : (h.Shifts.take k).foldl (c31 c) (b8c h c) = (h.Shifts.take k).foldl (b6m c t) (b8c h c) := by
    have : ∀ (l : List Shift), (∀ x ∈ l, x.At ≤ (t : Int)) → ∀ a, l.foldl (c31 c) a = l.foldl (b6m c t) a := by
      intro l
      induction l with
      | nil => intro _ a; rfl
      | cons s l ih =>
        intro hl a
        simp only [List.foldl_cons]
        rw [ih (fun x hx => hl x (List.mem_cons_of_mem _ hx))]
        congr 1
        simp [c31, b6m, hl s List.mem_cons_self]
    refine this _ (fun x hx => ?_) _
    obtain ⟨j, hj, rfl⟩ := List.getElem_of_mem hx
    have hj' : j < k := by simp at hj; omega
    have hjl : j < h.Shifts.length := by simp at hj; omega
    refine hu.2.1 j _ hj' ?_
    rw [List.getElem_take, List.getElem?_eq_getElem hjl]
  rw [e1]
  have : ∀ (l : List Shift), (∀ x ∈ l, (t : Int) < x.At) → ∀ a, l.foldl (b6m c t) a = a := by
    intro l
    induction l with
    | nil => intro _ a; rfl
    | cons s l ih =>
      intro hl a
      have := hl s List.mem_cons_self
      simp only [List.foldl_cons]
      rw [show b6m c t a s = a from by unfold b6m; rw [if_neg (by omega)]]
      exact ih (fun x hx => hl x (List.mem_cons_of_mem _ hx)) a
  refine (this _ ?_ _).symm
  intro x hx
  obtain ⟨j, hj, rfl⟩ := List.getElem_of_mem hx
  have hjl : k + j < h.Shifts.length := by simp at hj; omega
  obtain ⟨z, hz⟩ := b1u (show k < h.Shifts.length by omega)
  have h1 := hu.2.2 z hz
  have h2 := j7z hv j k z _ hz (List.getElem?_eq_getElem hjl)
  rw [List.getElem_drop]
  omega
theorem c57 {h : Hall} (hv : V h) (c t : Nat) : ∀ (d k : Nat), h.Shifts.length - k = d → k ≤ h.Shifts.length → (∀ j x, j < k → h.Shifts[j]? = some x → x.At ≤ (t : Int)) →
    ∃ k', b07 (b7y h c t) (G h c k, (k : Int)) = some (G h c k', (k' : Int)) ∧ d29 h t k' := by
  have hl : h.Shifts.length ≤ maxLen := by have := hv.1.2.2.2.2.2; simp only [maxLen]; omega
  intro d
  induction d with
  | zero =>
    intro k hd hk hb
    have : k = h.Shifts.length := by omega
    subst this
    refine ⟨h.Shifts.length, b5n (by simp [b7y]), Nat.le_refl _, hb, fun x hx => ?_⟩
    have := b1b hx; omega
  | succ d ih =>
    intro k hd hk hb
    obtain ⟨x, hx⟩ := b1u (show k < h.Shifts.length by omega)
    by_cases hat : x.At ≤ (t : Int)
    · rw [c04 (s' := (G h c (k + 1), ((k + 1 : Nat) : Int))) (by
        simp only [b7y, b1g hx, Option.bind_some]
        rw [if_pos (by simpa using b1b hx)]
        simp only [Option.bind_some, hat, decide_true, if_true, b82, b2m (b1b hx) hl, g17 hx]
        by_cases e : x.Comb = (c : Int)
        · simp [e]
        · simp [e])]
      refine ih (k + 1) (by omega) (by omega) fun j y hj hy => ?_
      by_cases e : j = k
      · subst e; rw [hx] at hy; cases hy; exact hat
      · exact hb j y (by omega) hy
    · refine ⟨k, b5n (by
        simp only [b7y, b1g hx, Option.bind_some]
        rw [if_pos (by simpa using b1b hx)]
        simp [hat]), by omega, hb, fun y hy => ?_⟩
      rw [hx] at hy; cases hy; omega
theorem d9o {h : Hall} (hv : V h) {c : Nat} (hc : c < h.Combs.length) : b7x h c = some (tab (T h) (b1l h c)) := by
  obtain ⟨x, hx⟩ := b1u hc
  have hT := b4o hv
  unfold b7x
  rw [← b6q hv, c3i (by omega) (by omega)]
  simp only [Option.bind_some, b1g hx]
  obtain ⟨b, h1, h2⟩ := d1l (f := b81 h c (tab (T h) fun _ => 0)) (T h) (fun (s : List Int × Int × Int) k => (s.1, s.2.1, s.2.2, k))
    (fun k s => ∃ m : Nat, s = (fill (T h) (b1l h c) 0 k, G h c m, (m : Int)) ∧ m ≤ h.Shifts.length ∧ ∀ j x, j < m → h.Shifts[j]? = some x → x.At < (k : Int)) (fun b => b = tab (T h) (b1l h c))
    (fun s k hk ⟨m, hs, hm, hm2⟩ => by
      subst hs
      obtain ⟨k', i1, i2⟩ := c57 hv c k (h.Shifts.length - m) m rfl hm fun j x hj hx => by have := hm2 j x hj hx; omega
      refine .inl ⟨(fill (T h) (b1l h c) 0 (k + 1), G h c k', (k' : Int)), ?_, k', rfl, i2.1, fun j x hj hx => by have := i2.2.1 j x hj hx; omega⟩
      simp only [b81, b36]
      rw [if_pos (by simpa using hk), i1]
      simp only [Option.bind_some, c0s, c8z hk, c0r, b2m hk (by simp only [maxLen]; omega)]
      rw [show ((k : Nat) : Int).toNat = k from by omega, c4z (g16 hv i2)])
    (fun s ⟨m, hs, _⟩ => by
      subst hs
      exact ⟨fill (T h) (b1l h c) 0 (T h), by simp [b81, b36], by rw [c8s (Nat.le_refl _)]⟩) (s := (tab (T h) (fun _ => 0), x.Rate, 0)) 0 (by omega) ⟨0, by
        rw [← c33, c8u (f := b1l h c)]
        simp [G, b8c, hx], by omega, fun j x hj => by omega⟩
  simp only at h1
  rw [show ((0 : Nat) : Int) = 0 from rfl] at h1
  rw [h1, h2]; rfl
theorem c6t {h : Hall} (hv : V h) {c : Nat} (t : Nat) : 0 ≤ b1l h c t ∧ b1l h c t ≤ 1000 := by
  unfold b1l
  have h0 : 0 ≤ b8c h c ∧ b8c h c ≤ 1000 := by
    unfold b8c
    cases hx : h.Combs[c]? with
    | none => simp
    | some x => have := hv.2.1 c x hx; simp [b4a] at this ⊢; omega
  have : ∀ (l : List Shift), (∀ x ∈ l, 0 ≤ x.Rate ∧ x.Rate ≤ 1000) → ∀ a, 0 ≤ a ∧ a ≤ 1000 → 0 ≤ l.foldl (b6m c t) a ∧ l.foldl (b6m c t) a ≤ 1000 := by
    intro l
    induction l with
    | nil => intro _ a ha; exact ha
    | cons s l ih =>
      intro hl a ha
      refine ih (fun x hx => hl x (List.mem_cons_of_mem _ hx)) _ ?_
      have := hl s List.mem_cons_self
      unfold b6m; split <;> omega
  refine this _ (fun x hx => ?_) _ h0
  obtain ⟨j, hj, rfl⟩ := List.getElem_of_mem hx
  have := hv.2.2.2 j _ (List.getElem?_eq_getElem hj)
  exact ⟨this.2.2.2.2.1, this.2.2.2.2.2.1⟩
theorem j5q {h : Hall} (hv : V h) : b4t h = some (tab h.Combs.length fun c => tab (T h) (b1l h c)) := by
  unfold b4t
  have hn := hv.1.2.2.2.1
  have := b4c (f := b7w h) h.Combs.length (fun s k => (s, k)) (fun k => tab k fun c => tab (T h) (b1l h c)) (tab h.Combs.length fun c => tab (T h) (b1l h c)) (s0 := []) rfl (fun k hk => by
    simp only [b7w]
    rw [if_pos (by simpa using hk), d9o hv hk]
    simp only [Option.bind_some]
    rw [b5t (by simp [b36]; omega)]
    simp only [Option.bind_some, b2m hk (by simp only [maxLen]; omega), b9l]) (by simp [b7w])
  rw [this]; rfl
end Go.Nw.HM
namespace Go.Nw.HM
def b4i (c : Nat) (y : Crowd) : Int := if y.Comb = (c : Int) then y.People.High else 0
def b3l (c s t : Nat) (x : Train) : Int := if x.At.High < (s : Int) ∨ (t : Int) < x.At.Low then 0 else (x.Crowds.map (b4i c)).sum
def b3v (h : Hall) (c s t : Nat) : Int := (h.Trains.map (b3l c s t)).sum
theorem c8m {h : Hall} (hv : V h) {x : Train} (hx : x ∈ h.Trains) (c k : Nat) (hk : k ≤ x.Crowds.length) : 0 ≤ b3m x.Crowds (b4i c) k ∧ b3m x.Crowds (b4i c) k ≤ 4000 := by
  obtain ⟨j, hj, rfl⟩ := List.getElem_of_mem hx
  have hg := hv.2.2.1 j _ (List.getElem?_eq_getElem hj)
  have := d9m (l := h.Trains[j].Crowds) (g := b4i c) (B := 1000) (fun y hy => by
    obtain ⟨i, hi, rfl⟩ := List.getElem_of_mem hy
    have := hg.2.2.2.2 i _ (List.getElem?_eq_getElem hi)
    unfold b4j at this
    unfold b4i; split <;> omega) k hk
  have := hg.2.2.2.1
  omega
theorem g0k {h : Hall} (hv : V h) {x : Train} (hx : x ∈ h.Trains) (c s t : Nat) : 0 ≤ b3l c s t x ∧ b3l c s t x ≤ 4000 := by
  unfold b3l
  split
  · omega
  · rw [← b74]; exact c8m hv hx c _ (Nat.le_refl _)
theorem g0l {h : Hall} (hv : V h) (c s t k : Nat) (hk : k ≤ h.Trains.length) : 0 ≤ b3m h.Trains (b3l c s t) k ∧ b3m h.Trains (b3l c s t) k ≤ 48000 := by
  have := d9m (l := h.Trains) (g := b3l c s t) (B := 4000) (fun x hx => g0k hv hx c s t) k hk
  have := hv.1.2.2.2.2.1
  omega
theorem d3u {h : Hall} (hv : V h) (c s t : Nat) : 0 ≤ b3v h c s t ∧ b3v h c s t ≤ 48000 := by
  unfold b3v; rw [← b74]; exact g0l hv c s t _ (Nat.le_refl _)
theorem b2s {n : Int} (h1 : -1000000000000 ≤ n) (h2 : n ≤ 1000000000000) : wr n = n := b8g (by omega) (by omega)
theorem g25 {h : Hall} (hv : V h) (c s t : Nat) : b8u h c s t = some (b3v h c s t) := by
  have e2 : h.Trains.length ≤ maxLen := by have := hv.1.2.2.2.2.1; simp only [maxLen]; omega
  unfold b8u
  have := b4c (f := b8w h c s t) h.Trains.length (fun s k => (s, k)) (b3m h.Trains (b3l c s t)) (b3v h c s t) (s0 := 0) b9f.symm (fun k hk => by
    obtain ⟨x, hx⟩ := b1u hk
    have hm := List.mem_of_getElem? hx
    simp only [b8w, b1g hx, Option.bind_some]
    rw [if_pos (by simpa using hk), b75 hx]
    have hb := g0l hv c s t k (by omega)
    by_cases q : x.At.High < (s : Int) ∨ (t : Int) < x.At.Low
    · rw [if_pos (by simpa using q)]
      simp only [b7u, b2m hk e2]
      rw [show b3l c s t x = 0 from if_pos q, Int.add_zero]
    · rw [if_neg (by simpa using q)]
      have e3 : x.Crowds.length ≤ maxLen := by have := (hv.2.2.1 k x hx).2.2.2.1; simp only [maxLen]; omega
      have := b4c (f := b8v c x) x.Crowds.length (fun s k => (s, k)) (fun j => b3m h.Trains (b3l c s t) k + b3m x.Crowds (b4i c) j) (b3m h.Trains (b3l c s t) k + b3l c s t x) (s0 := b3m h.Trains (b3l c s t) k) (by simp [b9f]) (fun j hj => by
        obtain ⟨y, hy⟩ := b1u hj
        have hc1 := c8m hv hm c j (by omega)
        have hc2 := c8m hv hm c (j + 1) (by omega)
        simp only [b8v, b1g hy, Option.bind_some]
        rw [if_pos (by simpa using hj), b75 hy]
        rw [b75 hy] at hc2
        by_cases e : y.Comb = (c : Int)
        · rw [if_pos (by simpa using e)]
          rw [show b4i c y = y.People.High from if_pos e] at hc2 ⊢
          simp only [b7t, b2m hj e3]
          rw [b2s (by omega) (by omega), Int.add_assoc]
        · rw [if_neg (by simpa using e)]
          rw [show b4i c y = 0 from if_neg e]
          simp only [b7t, b2m hj e3, Int.add_zero]) (by
        simp only [b8v]
        rw [if_neg (by simp), b74, show b3l c s t x = (x.Crowds.map (b4i c)).sum from if_neg q])
      rw [this]
      simp only [Option.bind_some, b7u, b2m hk e2]) (by
    simp only [b8w]
    rw [if_neg (by simp), b74]; rfl)
  rw [this]; rfl
structure Bd where
  come : Nat → Nat → Int
  most : Nat → Int
  flow : Nat → Int
  deriving Inhabited
def b4p (b : Bd) (to k : Nat) : Int := if k < to then b.come (k + 1) to else 0
def way (b : Bd) (a to k : Nat) : Int := b0p b.flow k - b0p b.flow a + b.most k + b4p b to k
def b9e (b : Bd) (a to : Nat) : Int := b6h (min (b.come 0 to) (b0p b.flow (to + 1) - b0p b.flow a)) (way b a to) a (to + 1 - a)
def b73 (b : Bd) (from_ to_ : Int) : Int := if to_ < from_ ∨ to_ < 0 then 0 else b9e b (max from_ 0).toNat to_.toNat
def b2w (h : Hall) (c : Nat) (prev : Nat → Bd) (s t u : Nat) : Int := match h.Combs[u]? with
  | some x => if x.Next = (c : Int) then b73 (prev u) ((s : Int) - x.Walk.High) ((t : Int) - x.Walk.Low) else 0
  | none => 0
def b4r (h : Hall) (c : Nat) (prev : Nat → Bd) (s t : Nat) : Int := b3v h c s t + b0p (b2w h c prev s t) c
def c6h (come : Nat → Nat → Int) (R : Nat → Int) (t : Nat) : Int := b33 0 (fun s => come s t - (b0p R t - b0p R s)) 0 (t + 1)
def c05 (h : Hall) (R : Nat → Nat → Int) (c : Nat) (prev : Nat → Bd) : Bd :=
  { come := b4r h c prev, most := c6h (b4r h c prev) (R c), flow := fun t => min (c6h (b4r h c prev) (R c) t) (R c t) }
def bdL (h : Hall) (R : Nat → Nat → Int) : Nat → Nat → Bd
  | 0 => fun _ => default
  | n + 1 => fun u => if u = n then c05 h R n (bdL h R n) else bdL h R n u
def bd (h : Hall) (R : Nat → Nat → Int) (c : Nat) : Bd := bdL h R (c + 1) c
theorem d3o {h : Hall} {R : Nat → Nat → Int} {n u : Nat} : bdL h R (n + 1) u = if u = n then c05 h R n (bdL h R n) else bdL h R n u := rfl
theorem g2j {h : Hall} {R : Nat → Nat → Int} {n u : Nat} (hu : u < n) : bdL h R n u = bd h R u := by
  induction n with
  | zero => omega
  | succ n ih =>
    by_cases e : u = n
    · subst e; rfl
    · rw [d3o, if_neg e]; exact ih (by omega)
theorem j8m {h : Hall} {c s t u : Nat} {p q : Nat → Bd} (hpq : p u = q u) : b2w h c p s t u = b2w h c q s t u := by
  unfold b2w; rw [hpq]
theorem g4z {h : Hall} {c : Nat} {p q : Nat → Bd} (hpq : ∀ u, u < c → p u = q u) : b4r h c p = b4r h c q := by
  funext s t
  unfold b4r
  rw [b6j fun u hu => j8m (hpq u hu)]
theorem b69 {h : Hall} {R : Nat → Nat → Int} {c : Nat} : bd h R c = c05 h R c (bd h R) := by
  have : bd h R c = c05 h R c (bdL h R c) := by show bdL h R (c + 1) c = _; rw [d3o, if_pos rfl]
  rw [this]
  unfold c05
  rw [g4z fun u hu => g2j hu]
end Go.Nw.HM
namespace Go.Nw.HM
structure BdOk (b : Bd) (n : Nat) (B : Int) : Prop where
  come : ∀ s t, s ≤ t → t < n → 0 ≤ b.come s t ∧ b.come s t ≤ B
  most : ∀ t, t < n → 0 ≤ b.most t ∧ b.most t ≤ B
  flow : ∀ t, t < n → 0 ≤ b.flow t ∧ b.flow t ≤ 1000
def b5b (n : Nat) (b : Bd) (s : Nat) : List Int := tab n fun t => if s ≤ t then b.come s t else 0
def bdT (n : Nat) (b : Bd) (r : Nat → Int) : halls_bound := ⟨tab (n + 1) (b0p r), tab (n + 1) (b0p b.flow), tab n b.most, tab n (b5b n b)⟩
theorem c4r {n : Nat} {b : Bd} {s t : Nat} (ht : t < n) (hst : s ≤ t) : get (b5b n b s) (t : Int) = some (b.come s t) := by
  unfold b5b; rw [b2o ht, if_pos hst]
section
variable {n : Nat} {b : Bd} {B : Int} (hb : BdOk b n B) (hB : B ≤ 1000000000) (hn : n ≤ 1000) {r : Nat → Int}
include hb hB hn
theorem c40 {a k : Nat} (hak : a ≤ k) (hk : k ≤ n) : 0 ≤ b0p b.flow k - b0p b.flow a ∧ b0p b.flow k - b0p b.flow a ≤ 1000000 := by
  have := d83 (f := b.flow) (B := 1000) hak fun i h1 h2 => hb.flow i (by omega)
  omega
theorem d3p {to k : Nat} (hk : k ≤ to) (hto : to < n) : 0 ≤ b4p b to k ∧ b4p b to k ≤ B := by
  have := hb.most k (by omega)
  unfold b4p; split
  · exact hb.come _ _ (by omega) hto
  · omega
theorem j8p {a to k : Nat} (hak : a ≤ k) (hk : k ≤ to) (hto : to < n) : 0 ≤ way b a to k ∧ way b a to k ≤ 3000000000 := by
  have h1 := c40 hb hB hn hak (show k ≤ n by omega)
  have h2 := hb.most k (by omega)
  have h3 := d3p hb hB hn hk hto
  unfold way; omega
theorem j6e {a to : Nat} (ha : a ≤ to) (hto : to < n) : 0 ≤ b9e b a to ∧ b9e b a to ≤ B := by
  have h1 := hb.come 0 to (by omega) hto
  have h2 := c40 hb hB hn (show a ≤ to + 1 by omega) (show to + 1 ≤ n by omega)
  unfold b9e
  refine ⟨d1g.2 ⟨by omega, fun i hi => (j8p hb hB hn (by omega) (show a + i ≤ to by omega) hto).1⟩, ?_⟩
  have := j08 (z := min (b.come 0 to) (b0p b.flow (to + 1) - b0p b.flow a)) (g := way b a to) (a := a) (n := to + 1 - a)
  omega
theorem d9h {f t : Int} (ht : t < n) : 0 ≤ b73 b f t ∧ b73 b f t ≤ max 0 B := by
  unfold b73
  split
  · omega
  · have := j6e hb hB hn (a := (max f 0).toNat) (to := t.toNat) (by omega) (by omega)
    omega
theorem j6g {f t : Int} (hf : -1000 ≤ f) (ht : t < n) : b8j (bdT n b r) f t = some (b73 b f t) := by
  unfold b8j b73
  by_cases q : t < f ∨ t < 0
  · rw [if_pos (by simpa using q), if_pos q]
  · rw [if_neg (by simpa using q), if_neg q]
    obtain ⟨to, hto⟩ : ∃ to : Nat, t = to := ⟨t.toNat, by omega⟩
    subst hto
    obtain ⟨a, ha⟩ : ∃ a : Nat, max f 0 = a := ⟨(max f 0).toNat, by omega⟩
    have hm : mx f 0 = (a : Int) := by rw [d1q]; exact ha
    have hat : a ≤ to := by omega
    have hton : to < n := by omega
    rw [hm, ha]
    have e0 : ((0 : Int)) = ((0 : Nat) : Int) := rfl
    simp only [bdT]
    rw [e0, b2o (show 0 < n by omega)]
    simp only [Option.bind_some]
    rw [c4r hton (by omega), show wr ((to : Int) + 1) = ((to + 1 : Nat) : Int) from by rw [b2s (by omega) (by omega)]; omega, b2o (show to + 1 < n + 1 by omega)]
    simp only [Option.bind_some]
    rw [b2o (show a < n + 1 by omega)]
    simp only [Option.bind_some]
    have hc := hb.come 0 to (by omega) hton
    have hfd := c40 hb hB hn (show a ≤ to + 1 by omega) (show to + 1 ≤ n by omega)
    rw [b2s (by omega) (by omega), c3j]
    have := d8v (f := b8k ⟨tab (n + 1) (b0p r), tab (n + 1) (b0p b.flow), tab n b.most, tab n (b5b n b)⟩ f to) (to + 1) (fun s k => (s, k))
      (fun k => b6h (min (b.come 0 to) (b0p b.flow (to + 1) - b0p b.flow a)) (way b a to) a (k - a)) (b9e b a to) (s0 := min (b.come 0 to) (b0p b.flow (to + 1) - b0p b.flow a)) a (by rw [Nat.sub_self]; rfl) (by omega) (fun k hak hk => ?_) (by
        simp only [b8k]
        rw [if_neg (by simp; omega)]; rfl)
    · rw [this]
      simp [b9v]
    · have hst : b6h (min (b.come 0 to) (b0p b.flow (to + 1) - b0p b.flow a)) (way b a to) a (k + 1 - a) = min (b6h (min (b.come 0 to) (b0p b.flow (to + 1) - b0p b.flow a)) (way b a to) a (k - a)) (way b a to k) := by
        rw [show k + 1 - a = (k - a) + 1 by omega]
        show min _ (way b a to (a + (k - a))) = _
        rw [show a + (k - a) = k by omega]
      rw [hst]
      have hfk := c40 hb hB hn hak (show k ≤ n by omega)
      have hmk := hb.most k (by omega)
      have hbk := d3p hb hB hn (show k ≤ to by omega) hton
      have fin2 : ∀ L : Int, b68 ⟨tab (n + 1) (b0p r), tab (n + 1) (b0p b.flow), tab n b.most, tab n (b5b n b)⟩ f L k (b4p b to k) = some (.nx (min L (way b a to k), (k : Int) + 1)) := fun L => by
        unfold b68
        simp only [hm]
        rw [b2o (show k < n + 1 by omega)]
        simp only [Option.bind_some]
        rw [b2o (show a < n + 1 by omega)]
        simp only [Option.bind_some]
        rw [b2o (show k < n by omega)]
        simp only [Option.bind_some]
        rw [b2s (n := b0p b.flow k - b0p b.flow a) (by omega) (by omega), b2s (n := b0p b.flow k - b0p b.flow a + b.most k) (by omega) (by omega), b2s (n := b0p b.flow k - b0p b.flow a + b.most k + b4p b to k) (by omega) (by omega), b2s (n := (k : Int) + 1) (by omega) (by omega), c3j]
        rfl
      simp only [b8k]
      rw [if_pos (by simp; omega)]
      by_cases e : k < to
      · rw [if_pos (by simpa using e), show wr ((k : Int) + 1) = ((k + 1 : Nat) : Int) from by rw [b2s (by omega) (by omega)]; omega, b2o (show k + 1 < n by omega)]
        simp only [Option.bind_some]
        rw [c4r hton (by omega)]
        simp only [Option.bind_some]
        rw [show b.come (k + 1) to = b4p b to k from by unfold b4p; rw [if_pos e]]
        exact fin2 _
      · rw [if_neg (by simpa using e)]
        have := fin2 (b6h (min (b.come 0 to) (b0p b.flow (to + 1) - b0p b.flow a)) (way b a to) a (k - a))
        rw [show b4p b to k = 0 from by unfold b4p; rw [if_neg e]] at this
        exact this
end
end Go.Nw.HM
namespace Go.Nw.HM
def Bn (c : Nat) : Int := 48000 * 2 ^ c
theorem c7e (c : Nat) : Bn (c + 1) = 2 * Bn c := by unfold Bn; rw [Int.pow_succ]; omega
theorem c38 (c : Nat) : 48000 ≤ Bn c := by
  induction c with
  | zero => simp [Bn]
  | succ c ih => rw [c7e]; omega
theorem d20 (c : Nat) : b0p Bn c = Bn c - 48000 := by
  induction c with
  | zero => simp [b4x, Bn]
  | succ c ih => rw [b2v, ih, c7e]; omega
theorem g1x {a b : Nat} (h : a ≤ b) : Bn a ≤ Bn b := by
  induction b with
  | zero => have : a = 0 := by omega
            subst this; exact Int.le_refl _
  | succ b ih =>
    by_cases e : a = b + 1
    · subst e; exact Int.le_refl _
    · have := ih (by omega); have := c38 b; rw [c7e]; omega
theorem b9q {c : Nat} (h : c ≤ 8) : Bn c ≤ 1000000000 := by
  have := g1x h
  have e : Bn 8 = 12288000 := by decide
  omega
theorem b9d {f g : Nat → Int} : ∀ {k : Nat}, (∀ i, i < k → f i ≤ g i) → b0p f k ≤ b0p g k
  | 0, _ => by simp [b4x]
  | k + 1, h => by rw [b2v, b2v]; have := b9d (k := k) fun i hi => h i (by omega); have := h k (by omega); omega
theorem c3m {f : Nat → Int} : ∀ {k : Nat}, (∀ i, i < k → 0 ≤ f i) → 0 ≤ b0p f k
  | 0, _ => by simp [b4x]
  | k + 1, h => by rw [b2v]; have := c3m (k := k) fun i hi => h i (by omega); have := h k (by omega); omega
structure Rt (h : Hall) (R : Nat → Nat → Int) : Prop where
  r : ∀ c t, c < h.Combs.length → t < T h → 0 ≤ R c t ∧ R c t ≤ 1000
section
variable {h : Hall} (hv : V h) {R : Nat → Nat → Int} (hR : Rt h R)
include hv hR
theorem b9z : ∀ (c : Nat), c < h.Combs.length → BdOk (bd h R c) (T h) (Bn c) := by
  intro c
  induction c using Nat.strongRecOn with
  | _ c ih =>
    intro hc
    have hn := hv.1.2.2.2.1
    have hT := b4o hv
    have hw : ∀ s t u, s ≤ t → t < T h → u < c → 0 ≤ b2w h c (bd h R) s t u ∧ b2w h c (bd h R) s t u ≤ Bn u := fun s t u hst ht hu => by
      obtain ⟨x, hx⟩ := b1u (show u < h.Combs.length by omega)
      have hg := hv.2.1 u x hx
      unfold b4a at hg
      have hB := c38 u
      unfold b2w
      rw [hx]
      simp only
      split
      · have := d9h (ih u hu (by omega)) (b9q (by omega)) (show T h ≤ 1000 by omega) (f := (s : Int) - x.Walk.High) (t := (t : Int) - x.Walk.Low) (by omega)
        omega
      · omega
    have hcome : ∀ s t, s ≤ t → t < T h → 0 ≤ b4r h c (bd h R) s t ∧ b4r h c (bd h R) s t ≤ Bn c := fun s t hst ht => by
      unfold b4r
      have h1 := d3u hv c s t
      have h2 := c3m (f := b2w h c (bd h R) s t) (k := c) fun u hu => (hw s t u hst ht hu).1
      have h3 := b9d (f := b2w h c (bd h R) s t) (g := Bn) (k := c) fun u hu => (hw s t u hst ht hu).2
      rw [d20] at h3
      omega
    have hmost : ∀ t, t < T h → 0 ≤ c6h (b4r h c (bd h R)) (R c) t ∧ c6h (b4r h c (bd h R)) (R c) t ≤ Bn c := fun t ht => by
      refine ⟨j07, d1f.2 ⟨by have := c38 c; omega, fun i hi => ?_⟩⟩
      rw [Nat.zero_add]
      have h1 := hcome i t (by omega) ht
      have h2 := j4w (f := R c) (show i ≤ t by omega) fun j h1 h2 => (hR.r c j hc (by omega)).1
      omega
    rw [b69]
    exact ⟨hcome, hmost, fun t ht => by
      have h1 := hmost t ht
      have h2 := hR.r c t hc ht
      simp only [c05]; omega⟩
theorem g0q {c : Nat} (hc : c < h.Combs.length) {s t : Nat} (hst : s ≤ t) (ht : t < T h) (u : Nat) (hu : u ≤ c) : 0 ≤ b0p (b2w h c (bd h R) s t) u ∧ b0p (b2w h c (bd h R) s t) u ≤ 1000000000 := by
  have hn := hv.1.2.2.2.1
  have hT := b4o hv
  have hw : ∀ u, u < c → 0 ≤ b2w h c (bd h R) s t u ∧ b2w h c (bd h R) s t u ≤ Bn u := fun u hu => by
    obtain ⟨x, hx⟩ := b1u (show u < h.Combs.length by omega)
    have hg := hv.2.1 u x hx
    unfold b4a at hg
    have hB := c38 u
    unfold b2w
    rw [hx]
    simp only
    split
    · have := d9h (b9z hv hR u (by omega)) (b9q (by omega)) (show T h ≤ 1000 by omega) (f := (s : Int) - x.Walk.High) (t := (t : Int) - x.Walk.Low) (by omega)
      omega
    · omega
  have h2 := c3m (f := b2w h c (bd h R) s t) (k := u) fun i hi => (hw i (by omega)).1
  have h3 := b9d (f := b2w h c (bd h R) s t) (g := Bn) (k := u) fun i hi => (hw i (by omega)).2
  rw [d20] at h3
  have := b9q (c := u) (by omega)
  omega
def b55 (b : Bd) (n s t : Nat) : List Int := tab n fun i => if s ≤ i ∧ i < t then b.come s i else 0
theorem j7f {c : Nat} (hc : c < h.Combs.length) {s : Nat} (hs : s < T h) :
    b07 (b6s h (tab c fun u => bdT (T h) (bd h R u) (R u)) c s) (tab (T h) (fun _ => 0), (s : Int)) = some (b5b (T h) (bd h R c) s) := by
  have hn := hv.1.2.2.2.1
  have hT := b4o hv
  have hTi := b6q hv
  have hb := b9z hv hR c hc
  refine d8v (f := b6s h (tab c fun u => bdT (T h) (bd h R u) (R u)) c s) (T h) (fun r k => (r, k)) (b55 (bd h R c) (T h) s) _ s (by
    unfold b55
    exact b6n fun i hi => by rw [if_neg (by omega)]) (by omega) (fun t hst ht => ?_) (by
    simp only [b6s]
    rw [← hTi, if_neg (by simp)]
    simp only [b55, b5b, Option.some.injEq, Out.br.injEq]
    exact b6n fun i hi => by by_cases q : s ≤ i <;> simp [q, hi])
  simp only [b6s]
  rw [← hTi, if_pos (by simpa using ht), g25 hv]
  simp only [Option.bind_some]
  rw [show get (b55 (bd h R c) (T h) s t) (t : Int) = some 0 from by unfold b55; rw [b2o ht, if_neg (by omega)]]
  simp only [Option.bind_some]
  rw [j76 (by omega) (by omega) (by omega)]
  simp only [Option.bind_some]
  have el : (h.Combs.take ((c : Int)).toNat).drop ((0 : Int)).toNat = h.Combs.take c := by simp
  rw [el]
  have hlen : (h.Combs.take c).length = c := by simp; omega
  have hat : ∀ u, u < c → (h.Combs.take c)[u]? = h.Combs[u]? := fun u hu => by rw [List.getElem?_take, if_pos hu]
  have := b4c (f := b7j (tab c fun u => bdT (T h) (bd h R u) (R u)) c s t (h.Combs.take c)) c (fun r k => (r, k))
    (fun u => (b55 (bd h R c) (T h) s t).set t (b3v h c s t + b0p (b2w h c (bd h R) s t) u)) (b55 (bd h R c) (T h) s (t + 1)) (s0 := (b55 (bd h R c) (T h) s t).set ((t : Int)).toNat (b3v h c s t)) (by simp [b4x]) (fun u hu => by
      obtain ⟨x, hx⟩ := b1u (show u < h.Combs.length by omega)
      have hg := hv.2.1 u x hx
      unfold b4a at hg
      have hx' : (h.Combs.take c)[u]? = some x := by rw [hat u hu]; exact hx
      have hwb := g0q hv hR hc hst ht u (by omega)
      have hwb' := g0q hv hR hc hst ht (u + 1) (by omega)
      have hbb := d3u hv c s t
      simp only [b7j, hlen]
      rw [if_pos (by simpa using hu), b1g hx']
      simp only [Option.bind_some]
      rw [b2v] at hwb' ⊢
      by_cases e : x.Next = (c : Int)
      · rw [if_pos (by simpa using e)]
        rw [show get ((b55 (bd h R c) (T h) s t).set t (b3v h c s t + b0p (b2w h c (bd h R) s t) u)) (t : Int) = some (b3v h c s t + b0p (b2w h c (bd h R) s t) u) from by unfold b55; rw [c1j, b2o ht, if_pos rfl]]
        simp only [Option.bind_some]
        rw [b2o hu]
        simp only [Option.bind_some]
        rw [b2s (n := (s : Int) - x.Walk.High) (by omega) (by omega), b2s (n := (t : Int) - x.Walk.Low) (by omega) (by omega),
          j6g (b9z hv hR u (by omega)) (b9q (by omega)) (by omega) (by omega) (by omega)]
        have ew : b2w h c (bd h R) s t u = b73 (bd h R u) ((s : Int) - x.Walk.High) ((t : Int) - x.Walk.Low) := by
          unfold b2w; rw [hx]; simp only; rw [if_pos e]
        rw [← ew]
        simp only [Option.bind_some, b6e]
        rw [b2s (n := b3v h c s t + b0p (b2w h c (bd h R) s t) u + b2w h c (bd h R) s t u) (by omega) (by omega), b2s (n := (u : Int) + 1) (by omega) (by omega)]
        simp [Int.add_assoc]
      · rw [if_neg (by simpa using e)]
        have ew : b2w h c (bd h R) s t u = 0 := by
          unfold b2w; rw [hx]; simp only; rw [if_neg e]
        rw [ew, Int.add_zero]
        simp only [b6e]
        rw [b2s (n := (u : Int) + 1) (by omega) (by omega)]) (by
      simp only [b7j, hlen]
      rw [if_neg (by simp)]
      simp only [Option.some.injEq, Out.br.injEq]
      unfold b55
      rw [c1j]
      refine b6n fun i hi => ?_
      by_cases e : i = t
      · subst e
        rw [if_pos rfl, if_pos (by omega)]
        rw [b69]; rfl
      · rw [if_neg e]
        by_cases q : s ≤ i ∧ i < t
        · rw [if_pos q, if_pos (by omega)]
        · rw [if_neg q, if_neg (by omega)])
  rw [this]
  simp only [Option.bind_some, b7r]
  rw [b2s (n := (t : Int) + 1) (by omega) (by omega)]
end
end Go.Nw.HM
namespace Go.Nw.HM
section
variable {h : Hall} (hv : V h) {R : Nat → Nat → Int} (hR : Rt h R)
include hv hR
abbrev opT (h : Hall) (R : Nat → Nat → Int) : List (List Int) := tab h.Combs.length fun c => tab (T h) (R c)
omit hv in
theorem d18 {c : Nat} (hc : c < h.Combs.length) {k : Nat} (hk : k ≤ T h) : 0 ≤ b0p (R c) k ∧ b0p (R c) k ≤ 1000 * k :=
  b6i fun i hi => hR.r c i hc (by omega)
theorem g4y {c : Nat} (hc : c < h.Combs.length) :
    b07 (b6t h (opT h R) (tab c fun u => bdT (T h) (bd h R u) (R u)) c) ([0], [], 0) = some (tab (T h + 1) (b0p (R c)), tab (T h) (b5b (T h) (bd h R c))) := by
  have hT := b4o hv
  have hTi := b6q hv
  refine b4c (f := b6t h (opT h R) (tab c fun u => bdT (T h) (bd h R u) (R u)) c) (T h) (fun (p : List Int × List (List Int)) k => (p.1, p.2, k))
    (fun k => (tab (k + 1) (b0p (R c)), tab k (b5b (T h) (bd h R c)))) _ (s0 := ([0], [])) rfl (fun s hs => ?_) (by
    simp only [b6t]
    rw [← hTi, if_neg (by simp)])
  simp only [b6t]
  rw [← hTi, if_pos (by simpa using hs), c3i (by omega) (by omega)]
  simp only [Option.bind_some]
  rw [j7f hv hR hc hs]
  simp only [Option.bind_some, b7p]
  rw [b5t (by simp [b36]; omega)]
  simp only [Option.bind_some]
  rw [b2o (show s < s + 1 by omega)]
  simp only [Option.bind_some]
  rw [b2o hc]
  simp only [Option.bind_some]
  rw [b2o hs]
  simp only [Option.bind_some]
  rw [b5t (by simp [b36]; omega)]
  simp only [Option.bind_some, b7o]
  have h1 := d18 hR hc (show s ≤ T h by omega)
  have h2 := hR.r c s hc hs
  rw [b2s (n := b0p (R c) s + R c s) (by omega) (by omega), b2s (n := (s : Int) + 1) (by omega) (by omega), ← b2v, ← b9l, ← b9l]
theorem j1g {c : Nat} (hc : c < h.Combs.length) {t : Nat} (ht : t < T h) :
    b07 (b6u (tab (T h + 1) (b0p (R c))) (tab (T h) (b5b (T h) (bd h R c))) t) (0, 0) = some ((bd h R c).most t) := by
  have hT := b4o hv
  have hb := b9z hv hR c hc
  have hn := hv.1.2.2.2.1
  have hB := b9q (c := c) (by omega)
  have e1 : wr ((t : Int) + 1) = ((t + 1 : Nat) : Int) := by rw [b2s (by omega) (by omega)]; omega
  have em : (bd h R c).most t = b33 0 (fun s => (bd h R c).come s t - (b0p (R c) t - b0p (R c) s)) 0 (t + 1) := by rw [b69]; rfl
  refine b4c (f := b6u (tab (T h + 1) (b0p (R c))) (tab (T h) (b5b (T h) (bd h R c))) t) (t + 1) (fun p k => (p, k))
    (b33 0 (fun s => (bd h R c).come s t - (b0p (R c) t - b0p (R c) s)) 0) _ (s0 := 0) rfl (fun s hs => ?_) (by
    simp only [b6u, e1]
    rw [if_neg (by simp), em])
  simp only [b6u, e1]
  rw [if_pos (by simp; omega), b2o (show s < T h by omega)]
  simp only [Option.bind_some]
  rw [c4r ht (by omega)]
  simp only [Option.bind_some]
  rw [b2o (show t < T h + 1 by omega)]
  simp only [Option.bind_some]
  rw [b2o (show s < T h + 1 by omega)]
  simp only [Option.bind_some]
  have h1 := d18 hR hc (show s ≤ T h by omega)
  have h2 := d18 hR hc (show t ≤ T h by omega)
  have h3 := hb.come s t (by omega) ht
  rw [b2s (n := b0p (R c) t - b0p (R c) s) (by omega) (by omega), b2s (n := (bd h R c).come s t - (b0p (R c) t - b0p (R c) s)) (by omega) (by omega), b2s (n := (s : Int) + 1) (by omega) (by omega), d1q]
  simp only [b33, Nat.zero_add]
theorem g50 {c : Nat} (hc : c < h.Combs.length) :
    b07 (b6v h (opT h R) c (tab (T h + 1) (b0p (R c))) (tab (T h) (b5b (T h) (bd h R c)))) ([0], [], 0) = some (tab (T h + 1) (b0p (bd h R c).flow), tab (T h) (bd h R c).most) := by
  have hT := b4o hv
  have hTi := b6q hv
  have hb := b9z hv hR c hc
  refine b4c (f := b6v h (opT h R) c (tab (T h + 1) (b0p (R c))) (tab (T h) (b5b (T h) (bd h R c)))) (T h) (fun (p : List Int × List Int) k => (p.1, p.2, k))
    (fun k => (tab (k + 1) (b0p (bd h R c).flow), tab k (bd h R c).most)) _ (s0 := ([0], [])) rfl (fun t ht => ?_) (by
    simp only [b6v]
    rw [← hTi, if_neg (by simp)])
  simp only [b6v]
  rw [← hTi, if_pos (by simpa using ht), j1g hv hR hc ht]
  simp only [Option.bind_some, b7n]
  rw [b5t (by simp [b36]; omega)]
  simp only [Option.bind_some]
  rw [b2o (show t < t + 1 by omega)]
  simp only [Option.bind_some]
  rw [b2o hc]
  simp only [Option.bind_some]
  rw [b2o ht]
  simp only [Option.bind_some]
  rw [b5t (by simp [b36]; omega)]
  simp only [Option.bind_some, b7m]
  have ef : min ((bd h R c).most t) (R c t) = (bd h R c).flow t := by rw [b69]; rfl
  have h1 := b6i (f := (bd h R c).flow) (B := 1000) (k := t) fun i hi => hb.flow i (by omega)
  have h2 := hb.flow t ht
  rw [c3j, ef, b2s (n := b0p (bd h R c).flow t + (bd h R c).flow t) (by omega) (by omega), b2s (n := (t : Int) + 1) (by omega) (by omega), ← b2v, ← b9l, ← b9l]
theorem g2w : b44 h (opT h R) = some (tab h.Combs.length fun c => bdT (T h) (bd h R c) (R c)) := by
  have hn := hv.1.2.2.2.1
  unfold b44
  have := b4c (f := b7k h (opT h R)) h.Combs.length (fun s k => (s, k)) (fun k => tab k fun c => bdT (T h) (bd h R c) (R c)) (tab h.Combs.length fun c => bdT (T h) (bd h R c) (R c)) (s0 := []) rfl (fun c hc => by
    simp only [b7k]
    rw [if_pos (by simpa using hc), g4y hv hR hc]
    simp only [Option.bind_some, b7s]
    rw [g50 hv hR hc]
    simp only [Option.bind_some, b7l]
    rw [b5t (by simp [b36]; omega)]
    simp only [Option.bind_some, b7q]
    rw [b2s (n := (c : Int) + 1) (by omega) (by omega), b9l (n := c)]
    rfl) (by simp [b7k])
  rw [this]; rfl
end
theorem d1x {h : Hall} (hv : V h) : Rt h (b1l h) := ⟨fun c t _ _ => c6t hv t⟩
theorem j6a {h : Hall} (hv : V h) : (b4t h).bind (b44 h) = some (tab h.Combs.length fun c => bdT (T h) (bd h (b1l h) c) (b1l h c)) := by
  rw [j5q hv]; exact g2w hv (d1x hv)
abbrev own (h : Hall) : Nat → Bd := bd h (b1l h)
end Go.Nw.HM
namespace Go.Nw.HM
theorem d3a {h : Hall} (hv : V h) : b5i h := by
  obtain ⟨⟨s1, s2, s3, s4, s5, s6⟩, hc, ht, hs⟩ := hv
  have at_ : ∀ {α : Type} {l : List α} {x : α}, x ∈ l → ∃ k : Nat, l[k]? = some x := fun {α l x} hx => by
    obtain ⟨j, hj, rfl⟩ := List.getElem_of_mem hx
    exact ⟨j, List.getElem?_eq_getElem hj⟩
  refine ⟨⟨by simp only [maxLen]; omega, fun x hx => ?_⟩, ⟨by simp only [maxLen]; omega, fun x hx => ?_⟩, ⟨by simp only [maxLen]; omega, fun x hx => ?_⟩, by unfold b22; omega⟩
  · obtain ⟨k, hk⟩ := at_ hx
    have := hc k x hk
    unfold b4a at this
    simp only [c1t, b9t, b22]; omega
  · obtain ⟨k, hk⟩ := at_ hx
    obtain ⟨q1, q2, q3, q4, q5⟩ := ht k x hk
    refine ⟨by simp only [b9t, b22]; omega, by simp only [maxLen]; omega, fun y hy => ?_⟩
    obtain ⟨j, hj⟩ := at_ hy
    have h5 := q5 j y hj
    have : -1 < y.Comb := by
      have key : ∀ (j : Nat) (y : Crowd), x.Crowds[j]? = some y → -1 < y.Comb := by
        intro j
        induction j with
        | zero => intro y hy; exact (q5 0 y hy).2.2.2.2
        | succ j ih =>
          intro y hy
          obtain ⟨z, hz⟩ := b1u (show j < x.Crowds.length by have := b1b hy; omega)
          have := ih z hz
          have := (q5 (j + 1) y hy).2.2.2.2 z hz
          omega
      exact key j y hj
    unfold b4j at h5
    simp only [c1u, b9t, b22]; omega
  · obtain ⟨k, hk⟩ := at_ hx
    have := hs k x hk
    unfold b99 at this
    simp only [c1v, b22]; omega
theorem d23 {h : Hall} (hv : V h) : b4s h = some 0 ∧ b5g h = some 0 := by
  rcases g1y (d3a hv) with ⟨_, h1, h2⟩ | ⟨h1, _⟩
  · exact ⟨h1, h2⟩
  · exact absurd hv h1
theorem d39 {h : Hall} (hv : V h) (c : Int) (ts : List Int) (hl : ts.length ≤ maxLen) :
    b6f h c ts = some (if (0 ≤ c ∧ c < h.Combs.length) ∧ ∀ t ∈ ts, 0 ≤ t ∧ t < h.Until then 0 else 1) := by
  unfold b6f
  rw [(d23 hv).1]
  simp only [Option.bind_some]
  rw [if_neg (by simp)]
  by_cases q : 0 ≤ c ∧ c < h.Combs.length
  · rw [if_neg (by simp; omega)]
    obtain ⟨b, b1, b2⟩ := d0c (l := ts) (f := fun z => some (b6w z h)) (p := fun t => ¬ (0 ≤ t ∧ t < h.Until)) hl fun t ht => ⟨_, rfl, by
      simp only [b6w, Bool.or_eq_true, decide_eq_true_eq]; omega⟩
    rw [b1]
    simp only [Option.bind_some]
    cases b with
    | true =>
      obtain ⟨t, h1, h2⟩ := b2.1 rfl
      rw [if_pos rfl, if_neg fun hh => h2 (hh.2 t h1)]
    | false =>
      rw [if_neg (by simp), if_pos ⟨q, fun t ht => Classical.byContradiction fun hh => by have := b2.2 ⟨t, ht, hh⟩; cases this⟩]
  · rw [if_pos (by simp; omega)]
    simp only [Option.bind_some, if_true]
    rw [if_neg fun hh => q hh.1]
theorem g4x {h : Hall} (hv : V h) {c : Nat} (hc : c < h.Combs.length) : b6f h c [] = some 0 := by
  rw [d39 hv c [] (by simp), if_pos ⟨by omega, fun t ht => by cases ht⟩]
theorem d3t {h : Hall} (hv : V h) {α : Type} (f : List halls_bound → Option α) : ((b4t h).bind fun y => (b44 h y).bind f) = f (tab h.Combs.length fun c => bdT (T h) (own h c) (b1l h c)) := by
  have := j6a hv
  cases e : b4t h with
  | none => rw [e] at this; cases this
  | some y =>
    rw [e] at this
    simp only [Option.bind_some] at this ⊢
    rw [this]; rfl
theorem g18 {h : Hall} (hv : V h) {c : Nat} (hc : c < h.Combs.length) : c2k h c = some (tab (T h) (own h c).most, 0) := by
  unfold c2k
  rw [g4x hv hc]
  simp only [Option.bind_some]
  rw [if_neg (by simp), d3t hv, b2o hc]
  rfl
section
variable {h : Hall} (hv : V h) {c : Nat} (hc : c < h.Combs.length) {r : Int} (hr : 0 ≤ r ∧ r ≤ 1000)
include hv hc
end
theorem d8z {h : Hall} {R : Nat → Nat → Int} {c t : Nat} : (bd h R c).most t = b33 0 (fun s => (bd h R c).come s t - (b0p (R c) t - b0p (R c) s)) 0 (t + 1) := by rw [b69]; rfl
end Go.Nw.HM
namespace Go.Nw.HM
section
variable {h : Hall} (hv : V h) {c : Nat} (hc : c < h.Combs.length)
include hv hc
theorem j59 : BdOk (own h c) (T h) 1000000000 := by
  have hn := hv.1.2.2.2.1
  have := b9z hv (d1x hv) c hc
  have hB := b9q (c := c) (by omega)
  exact ⟨fun s t hst ht => by have := this.come s t hst ht; unfold own; omega, fun t ht => by have := this.most t ht; unfold own; omega, this.flow⟩
end
theorem g6w {h : Hall} (hk : b5i h) : ((b89 h).bind fun y4 => (if y4 then some true else (b5g h).bind fun y5 => some (decide (¬y5 = 0)))) = some true ∨ (V h ∧ ((b89 h).bind fun y4 => (if y4 then some true else (b5g h).bind fun y5 => some (decide (¬y5 = 0)))) = some false) := by
  obtain ⟨b, hb1⟩ := g13 hk
  rw [hb1]
  simp only [Option.bind_some]
  cases b with
  | true => exact .inl rfl
  | false =>
    rw [if_neg (by simp)]
    rcases d22 hk with ⟨h1, h2⟩ | ⟨h1, h2⟩
    · rw [h2]; exact .inr ⟨h1, rfl⟩
    · rw [h2]; exact .inl rfl
end Go.Nw.HM
namespace Go.Nw.HM
def shA (h : Hall) (f : Nat) : List Shift := h.Shifts.filter fun s => decide (s.At ≤ (f : Int))
section
variable {h : Hall} (hv : V h) {c : Nat} (hc : c < h.Combs.length) {f k : Nat} (hf : f < T h) (hk : 0 < k) (hfk : f + k ≤ T h)
end
end Go.Nw.HM
namespace Go.Nw.HM
section
variable {h : Hall} (hv : V h) {c : Nat} {f k : Nat}
include hv
end
section
variable {h : Hall} (hv : V h) {c : Nat} (hc : c < h.Combs.length) {f : Nat} (hf : f < T h)
include hv hc hf
end
end Go.Nw.HM
namespace Go.Nw.HM
def c2g (x : Train) (a : Int) (p : List Int) : Prop := (x.At.Low ≤ a ∧ a ≤ x.At.High) ∧ p.length = x.Crowds.length ∧ ∀ (k : Nat) y n, x.Crowds[k]? = some y → p[k]? = some n → y.People.Low ≤ n ∧ n ≤ y.People.High
def c2h (x : Comb) (w : List Int) : Prop := 1 ≤ w.length ∧ w.length ≤ 20 ∧ ∀ n ∈ w, x.Walk.Low ≤ n ∧ n ≤ x.Walk.High
structure Fit (h : Hall) (d : Day) : Prop where
  at_ : d.At.length = h.Trains.length
  people : d.People.length = h.Trains.length
  walks : d.Walks.length = h.Combs.length
  ride : ∀ (i : Nat) x a p, h.Trains[i]? = some x → d.At[i]? = some a → d.People[i]? = some p → c2g x a p
  walk : ∀ (u : Nat) x w, h.Combs[u]? = some x → d.Walks[u]? = some w → c2h x w
section
variable {d : Day} {i : Nat} {x : Train} {p : List Int} (hp : d.People[i]? = some p) (hl : p.length = x.Crowds.length) (hm : x.Crowds.length ≤ maxLen)
include hp hl hm
theorem d4d : ((∀ (k : Nat) y n, x.Crowds[k]? = some y → p[k]? = some n → y.People.Low ≤ n ∧ n ≤ y.People.High) ∧ b07 (b7v d i x) 0 = some (.inl ())) ∨
    ((∃ (k : Nat) (y : Crowd) (n : Int), x.Crowds[k]? = some y ∧ p[k]? = some n ∧ ¬ (y.People.Low ≤ n ∧ n ≤ y.People.High)) ∧ b07 (b7v d i x) 0 = some (.inr false)) := by
  rcases b53 (f := b7v d i x) x.Crowds (fun k y => ∃ n, p[k]? = some n ∧ ¬ (y.People.Low ≤ n ∧ n ≤ y.People.High)) (.inr false) (.inl ()) (fun k y hy hb => by
      obtain ⟨n, hn, hb⟩ := hb
      simp only [b7v, b1g hy, b1g hp, b1g hn, Option.bind_some]
      rw [if_pos (by simpa using b1b hy), if_pos]
      simp only [b3a, Bool.not_eq_true', Bool.and_eq_false_iff, decide_eq_false_iff_not]; omega) (fun k y hy hb => by
      obtain ⟨n, hn⟩ := b1u (show k < p.length by rw [hl]; exact b1b hy)
      simp only [b7v, b1g hy, b1g hp, b1g hn, Option.bind_some]
      rw [if_pos (by simpa using b1b hy), if_neg, b2m (b1b hy) hm]
      have hb : y.People.Low ≤ n ∧ n ≤ y.People.High := Classical.not_not.1 fun hh => hb ⟨n, hn, hh⟩
      simp only [b3a, Bool.not_eq_true', Bool.and_eq_false_iff, decide_eq_false_iff_not]; omega) (by simp [b7v]) with ⟨h1, h2⟩ | ⟨⟨k, y, hy, n, hn, hb⟩, h2⟩
  · exact .inl ⟨fun k y n hy hn => Classical.not_not.1 fun hh => h1 k y hy ⟨n, hn, hh⟩, h2⟩
  · exact .inr ⟨⟨k, y, n, hy, hn, hb⟩, h2⟩
theorem d4e : ((∀ (k : Nat) y n, x.Crowds[k]? = some y → p[k]? = some n → y.People.Low ≤ n ∧ n ≤ y.People.High) ∧ b07 (b8a d i x) 0 = some (.inl ())) ∨
    ((∃ (k : Nat) (y : Crowd) (n : Int), x.Crowds[k]? = some y ∧ p[k]? = some n ∧ ¬ (y.People.Low ≤ n ∧ n ≤ y.People.High)) ∧ b07 (b8a d i x) 0 = some (.inr false)) := by
  rcases b53 (f := b8a d i x) x.Crowds (fun k y => ∃ n, p[k]? = some n ∧ ¬ (y.People.Low ≤ n ∧ n ≤ y.People.High)) (.inr false) (.inl ()) (fun k y hy hb => by
      obtain ⟨n, hn, hb⟩ := hb
      simp only [b8a, b1g hy, b1g hp, b1g hn, Option.bind_some]
      rw [if_pos (by simpa using b1b hy), if_pos]
      simp only [b2h, Bool.not_eq_true', Bool.and_eq_false_iff, decide_eq_false_iff_not]; omega) (fun k y hy hb => by
      obtain ⟨n, hn⟩ := b1u (show k < p.length by rw [hl]; exact b1b hy)
      simp only [b8a, b1g hy, b1g hp, b1g hn, Option.bind_some]
      rw [if_pos (by simpa using b1b hy), if_neg, b2m (b1b hy) hm]
      have hb : y.People.Low ≤ n ∧ n ≤ y.People.High := Classical.not_not.1 fun hh => hb ⟨n, hn, hh⟩
      simp only [b2h, Bool.not_eq_true', Bool.and_eq_false_iff, decide_eq_false_iff_not]; omega) (by simp [b8a]) with ⟨h1, h2⟩ | ⟨⟨k, y, hy, n, hn, hb⟩, h2⟩
  · exact .inl ⟨fun k y n hy hn => Classical.not_not.1 fun hh => h1 k y hy ⟨n, hn, hh⟩, h2⟩
  · exact .inr ⟨⟨k, y, n, hy, hn, hb⟩, h2⟩
end
section
variable {h : Hall} (hv : V h) {d : Day} (hd : c4j d)
include hv hd
theorem j0l : (Fit h d ∧ b8y h d = some true) ∨ (¬ Fit h d ∧ b8y h d = some false) := by
  have hn := hv.1.2.2.2.1
  have ht := hv.1.2.2.2.2.1
  unfold b8y
  by_cases q : d.At.length = h.Trains.length ∧ d.People.length = h.Trains.length ∧ d.Walks.length = h.Combs.length
  · obtain ⟨q1, q2, q3⟩ := q
    rw [if_neg (by simp; omega)]
    rcases b53 (f := c0l h d) h.Trains (fun i x => ∃ a p, d.At[i]? = some a ∧ d.People[i]? = some p ∧ ¬ c2g x a p) (.inr false) (.inl ()) (fun i x hx hb => by
        obtain ⟨a, p, ha, hp, hb⟩ := hb
        simp only [c0l, b1g hx, b1g ha, b1g hp, Option.bind_some]
        rw [if_pos (by simpa using b1b hx)]
        by_cases r1 : x.At.Low ≤ a ∧ a ≤ x.At.High
        · rw [if_neg (by simp only [b3a, Bool.not_eq_true', Bool.and_eq_false_iff, decide_eq_false_iff_not]; omega)]
          simp only [Option.bind_some]
          by_cases r2 : p.length = x.Crowds.length
          · rw [if_neg (by simp; omega)]
            rcases d4d hp r2 (by have := (hv.2.2.1 i x hx).2.2.2.1; simp only [maxLen]; omega) with ⟨c1, _⟩ | ⟨_, c2⟩
            · exact absurd ⟨r1, r2, c1⟩ hb
            · rw [c2]; rfl
          · rw [if_pos (by simp; omega)]
        · rw [if_pos (by simp only [b3a, Bool.not_eq_true', Bool.and_eq_false_iff, decide_eq_false_iff_not]; omega)]
          simp only [Option.bind_some, if_true]) (fun i x hx hb => by
        obtain ⟨a, ha⟩ := b1u (show i < d.At.length by rw [q1]; exact b1b hx)
        obtain ⟨p, hp⟩ := b1u (show i < d.People.length by rw [q2]; exact b1b hx)
        obtain ⟨r1, r2, r3⟩ : c2g x a p := Classical.not_not.1 fun hh => hb ⟨a, p, ha, hp, hh⟩
        simp only [c0l, b1g hx, b1g ha, b1g hp, Option.bind_some]
        rw [if_pos (by simpa using b1b hx), if_neg (by simp only [b3a, Bool.not_eq_true', Bool.and_eq_false_iff, decide_eq_false_iff_not]; omega)]
        simp only [Option.bind_some]
        rw [if_neg (by simp; omega)]
        rcases d4d hp r2 (by have := (hv.2.2.1 i x hx).2.2.2.1; simp only [maxLen]; omega) with ⟨_, c2⟩ | ⟨⟨k, y, n, hy, hn', hb⟩, _⟩
        · rw [c2]; simp only [Option.bind_some, c5q, b2m (b1b hx) (show h.Trains.length ≤ maxLen by simp only [maxLen]; omega)]
        · exact absurd (r3 k y n hy hn') hb) (by simp [c0l]) with ⟨t1, t2⟩ | ⟨⟨i, x, hx, a, p, ha, hp, hb⟩, t2⟩
    · rw [t2]
      simp only [Option.bind_some, c5r]
      rcases b53 (f := c0m h d) h.Combs (fun u x => ∃ w, d.Walks[u]? = some w ∧ ¬ c2h x w) (.inr false) (.inl ()) (fun u x hx hb => by
          obtain ⟨w, hw, hb⟩ := hb
          have hwl : w.length ≤ maxLen := (hd.2.2.2 w (List.mem_of_getElem? hw)).1
          simp only [c0m, b1g hx, b1g hw, Option.bind_some]
          rw [if_pos (by simpa using b1b hx)]
          by_cases r1 : 1 ≤ w.length ∧ w.length ≤ 20
          · rw [if_neg (by simp; omega)]
            obtain ⟨b, b1, b2⟩ := d0c (l := w) (f := fun z20 => some (b6x z20 x)) (p := fun n => ¬ (x.Walk.Low ≤ n ∧ n ≤ x.Walk.High)) hwl (fun n _ => ⟨_, rfl, by
              simp only [b6x, b3a, Bool.not_eq_true', Bool.and_eq_false_iff, decide_eq_false_iff_not]; omega⟩)
            rw [b1]
            simp only [Option.bind_some]
            have : b = true := b2.2 (Classical.byContradiction fun hh => hb ⟨r1.1, r1.2, fun n hn => Classical.not_not.1 fun hh2 => hh ⟨n, hn, hh2⟩⟩)
            rw [this, if_pos rfl]
          · rw [if_pos (by simp; omega)]
            simp only [Option.bind_some, if_true]) (fun u x hx hb => by
          obtain ⟨w, hw⟩ := b1u (show u < d.Walks.length by rw [q3]; exact b1b hx)
          obtain ⟨r1, r2, r3⟩ : c2h x w := Classical.not_not.1 fun hh => hb ⟨w, hw, hh⟩
          simp only [c0m, b1g hx, b1g hw, Option.bind_some]
          rw [if_pos (by simpa using b1b hx), if_neg (by simp; omega)]
          obtain ⟨b, b1, b2⟩ := d0c (l := w) (f := fun z20 => some (b6x z20 x)) (p := fun n => ¬ (x.Walk.Low ≤ n ∧ n ≤ x.Walk.High)) (by simp only [maxLen]; omega) (fun n _ => ⟨_, rfl, by
            simp only [b6x, b3a, Bool.not_eq_true', Bool.and_eq_false_iff, decide_eq_false_iff_not]; omega⟩)
          rw [b1]
          simp only [Option.bind_some]
          have : b = false := d3r fun hh => by
            obtain ⟨n, hn, hbad⟩ := b2.1 hh
            exact hbad (r3 n hn)
          rw [this, if_neg (by simp), b2m (b1b hx) (show h.Combs.length ≤ maxLen by simp only [maxLen]; omega)]) (by simp [c0m]) with ⟨w1, w2⟩ | ⟨⟨u, x, hx, w, hw, hb⟩, w2⟩
      · rw [w2]
        exact .inl ⟨⟨q1, q2, q3, fun i x a p hx ha hp => Classical.not_not.1 fun hh => t1 i x hx ⟨a, p, ha, hp, hh⟩, fun u x w hx hw => Classical.not_not.1 fun hh => w1 u x hx ⟨w, hw, hh⟩⟩, rfl⟩
      · rw [w2]
        exact .inr ⟨fun hf => hb (hf.walk u x w hx hw), rfl⟩
    · rw [t2]
      exact .inr ⟨fun hf => hb (hf.ride i x a p hx ha hp), rfl⟩
  · rw [if_pos (by simp; omega)]
    exact .inr ⟨fun hf => q ⟨hf.at_, hf.people, hf.walks⟩, rfl⟩
theorem g5z : (Fit h d ∧ c1c h d = some true) ∨ (¬ Fit h d ∧ c1c h d = some false) := by
  have hn := hv.1.2.2.2.1
  have ht := hv.1.2.2.2.2.1
  unfold c1c
  by_cases q : d.At.length = h.Trains.length ∧ d.People.length = h.Trains.length ∧ d.Walks.length = h.Combs.length
  · obtain ⟨q1, q2, q3⟩ := q
    rw [if_neg (by simp; omega)]
    rcases b53 (f := c1d h d) h.Trains (fun i x => ∃ a p, d.At[i]? = some a ∧ d.People[i]? = some p ∧ ¬ c2g x a p) (.inr false) (.inl ()) (fun i x hx hb => by
        obtain ⟨a, p, ha, hp, hb⟩ := hb
        simp only [c1d, b1g hx, b1g ha, b1g hp, Option.bind_some]
        rw [if_pos (by simpa using b1b hx)]
        by_cases r1 : x.At.Low ≤ a ∧ a ≤ x.At.High
        · rw [if_neg (by simp only [b2h, Bool.not_eq_true', Bool.and_eq_false_iff, decide_eq_false_iff_not]; omega)]
          simp only [Option.bind_some]
          by_cases r2 : p.length = x.Crowds.length
          · rw [if_neg (by simp; omega)]
            rcases d4e hp r2 (by have := (hv.2.2.1 i x hx).2.2.2.1; simp only [maxLen]; omega) with ⟨c1, _⟩ | ⟨_, c2⟩
            · exact absurd ⟨r1, r2, c1⟩ hb
            · rw [c2]; rfl
          · rw [if_pos (by simp; omega)]
        · rw [if_pos (by simp only [b2h, Bool.not_eq_true', Bool.and_eq_false_iff, decide_eq_false_iff_not]; omega)]
          simp only [Option.bind_some, if_true]) (fun i x hx hb => by
        obtain ⟨a, ha⟩ := b1u (show i < d.At.length by rw [q1]; exact b1b hx)
        obtain ⟨p, hp⟩ := b1u (show i < d.People.length by rw [q2]; exact b1b hx)
        obtain ⟨r1, r2, r3⟩ : c2g x a p := Classical.not_not.1 fun hh => hb ⟨a, p, ha, hp, hh⟩
        simp only [c1d, b1g hx, b1g ha, b1g hp, Option.bind_some]
        rw [if_pos (by simpa using b1b hx), if_neg (by simp only [b2h, Bool.not_eq_true', Bool.and_eq_false_iff, decide_eq_false_iff_not]; omega)]
        simp only [Option.bind_some]
        rw [if_neg (by simp; omega)]
        rcases d4e hp r2 (by have := (hv.2.2.1 i x hx).2.2.2.1; simp only [maxLen]; omega) with ⟨_, c2⟩ | ⟨⟨k, y, n, hy, hn', hb⟩, _⟩
        · rw [c2]; simp only [Option.bind_some, c6r, b2m (b1b hx) (show h.Trains.length ≤ maxLen by simp only [maxLen]; omega)]
        · exact absurd (r3 k y n hy hn') hb) (by simp [c1d]) with ⟨t1, t2⟩ | ⟨⟨i, x, hx, a, p, ha, hp, hb⟩, t2⟩
    · rw [t2]
      simp only [Option.bind_some, c6s]
      have c57 : ∀ (u : Nat) x w, h.Combs[u]? = some x → d.Walks[u]? = some w → ((∀ n ∈ w, x.Walk.Low ≤ n ∧ n ≤ x.Walk.High) ∧ b07 (b8b h d u) 0 = some (.inl ())) ∨ ((∃ n ∈ w, ¬ (x.Walk.Low ≤ n ∧ n ≤ x.Walk.High)) ∧ b07 (b8b h d u) 0 = some (.inr false)) := fun u x w hx hw => by
        have hwl : w.length ≤ maxLen := (hd.2.2.2 w (List.mem_of_getElem? hw)).1
        rcases b53 (f := b8b h d u) w (fun _ n => ¬ (x.Walk.Low ≤ n ∧ n ≤ x.Walk.High)) (.inr false) (.inl ()) (fun k n hn hb => by
            simp only [b8b, b1g hw, b1g hn, b1g hx, Option.bind_some]
            rw [if_pos (by simpa using b1b hn), if_pos]
            simp only [b2h, Bool.not_eq_true', Bool.and_eq_false_iff, decide_eq_false_iff_not]; omega) (fun k n hn hb => by
            simp only [b8b, b1g hw, b1g hn, b1g hx, Option.bind_some]
            rw [if_pos (by simpa using b1b hn), if_neg, b2m (b1b hn) hwl]
            simp only [b2h, Bool.not_eq_true', Bool.and_eq_false_iff, decide_eq_false_iff_not]; omega) (by simp [b8b, b1g hw]) with ⟨h1, h2⟩ | ⟨⟨k, n, hn, hb⟩, h2⟩
        · refine .inl ⟨fun n hn => ?_, h2⟩
          obtain ⟨j, hj, rfl⟩ := List.getElem_of_mem hn
          exact Classical.not_not.1 (h1 j _ (List.getElem?_eq_getElem hj))
        · exact .inr ⟨⟨n, List.mem_of_getElem? hn, hb⟩, h2⟩
      rcases b53 (f := c1e h d) h.Combs (fun u x => ∃ w, d.Walks[u]? = some w ∧ ¬ c2h x w) (.inr false) (.inl ()) (fun u x hx hb => by
          obtain ⟨w, hw, hb⟩ := hb
          simp only [c1e, b1g hw, Option.bind_some]
          rw [if_pos (by simpa using b1b hx)]
          by_cases r1 : 1 ≤ w.length ∧ w.length ≤ 20
          · rw [if_neg (by simp only [b2h, Bool.not_eq_true', Bool.and_eq_false_iff, decide_eq_false_iff_not]; omega)]
            rcases c57 u x w hx hw with ⟨i1, _⟩ | ⟨_, i2⟩
            · exact absurd ⟨r1.1, r1.2, i1⟩ hb
            · rw [i2]; rfl
          · rw [if_pos (by simp only [b2h, Bool.not_eq_true', Bool.and_eq_false_iff, decide_eq_false_iff_not]; omega)]) (fun u x hx hb => by
          obtain ⟨w, hw⟩ := b1u (show u < d.Walks.length by rw [q3]; exact b1b hx)
          obtain ⟨r1, r2, r3⟩ : c2h x w := Classical.not_not.1 fun hh => hb ⟨w, hw, hh⟩
          simp only [c1e, b1g hw, Option.bind_some]
          rw [if_pos (by simpa using b1b hx), if_neg (by simp only [b2h, Bool.not_eq_true', Bool.and_eq_false_iff, decide_eq_false_iff_not]; omega)]
          rcases c57 u x w hx hw with ⟨_, i2⟩ | ⟨⟨n, hn, hb⟩, _⟩
          · rw [i2]; simp only [Option.bind_some, c6q, b2m (b1b hx) (show h.Combs.length ≤ maxLen by simp only [maxLen]; omega)]
          · exact absurd (r3 n hn) hb) (by simp [c1e]) with ⟨w1, w2⟩ | ⟨⟨u, x, hx, w, hw, hb⟩, w2⟩
      · rw [w2]
        exact .inl ⟨⟨q1, q2, q3, fun i x a p hx ha hp => Classical.not_not.1 fun hh => t1 i x hx ⟨a, p, ha, hp, hh⟩, fun u x w hx hw => Classical.not_not.1 fun hh => w1 u x hx ⟨w, hw, hh⟩⟩, rfl⟩
      · rw [w2]
        exact .inr ⟨fun hf => hb (hf.walk u x w hx hw), rfl⟩
    · rw [t2]
      exact .inr ⟨fun hf => hb (hf.ride i x a p hx ha hp), rfl⟩
  · rw [if_pos (by simp; omega)]
    exact .inr ⟨fun hf => q ⟨hf.at_, hf.people, hf.walks⟩, rfl⟩
end
end Go.Nw.HM
namespace Go.Nw.HM
theorem d85 {f g : Nat → Int} {c : Nat} (h : ∀ u, u ≠ c → f u = g u) : ∀ {n : Nat}, c < n → b0p f n = b0p g n + (f c - g c)
  | 0, hc => by omega
  | n + 1, hc => by
    rw [b2v, b2v]
    by_cases e : c = n
    · subst e
      rw [b6j fun i hi => h i (by omega)]; omega
    · rw [d85 h (by omega), h n (by omega)]; omega
theorem b6k {f : Nat → Int} {n : Nat} (h : ∀ i, i < n → f i = 0) : b0p f n = 0 := by
  have := b6i (f := f) (B := 0) (k := n) fun i hi => by have := h i hi; omega
  omega
theorem c3n {f : Nat → Int} {s : Nat} (h : ∀ i, s ≤ i → f i = 0) : ∀ {m : Nat}, s ≤ m → b0p f m = b0p f s
  | 0, hm => by rw [show s = 0 by omega]
  | m + 1, hm => by
    by_cases e : s = m + 1
    · rw [e]
    · rw [b2v, c3n h (by omega), h m (by omega)]; omega
theorem d1w {f g : Nat → Int} {n : Nat} : b0p (fun i => f i + g i) n = b0p f n + b0p g n := by
  induction n with
  | zero => simp [b4x]
  | succ n ih => rw [b2v, b2v, b2v, ih]; omega
def dAt (d : Day) (i : Nat) : Int := (d.At[i]?).getD 0
def dPe (d : Day) (i k : Nat) : Int := (((d.People[i]?).getD [])[k]?).getD 0
def wlk (d : Day) (u t : Nat) : Nat := ((((d.Walks[u]?).getD [])[t % ((d.Walks[u]?).getD []).length]?).getD 0).toNat
def tr (h : Hall) (i : Nat) : Train := (h.Trains[i]?).getD default
def crC (h : Hall) (i k : Nat) : Int := (((tr h i).Crowds[k]?).map (·.Comb)).getD (-1)
def nxt (h : Hall) (u : Nat) : Int := ((h.Combs[u]?).map (·.Next)).getD (-1)
def b3u (h : Hall) (d : Day) (c i k : Nat) : Int := if crC h i k = (c : Int) then dPe d i k else 0
def b37 (h : Hall) (d : Day) (t c i : Nat) : Int := if dAt d i = (t : Int) then b0p (b3u h d c i) (tr h i).Crowds.length else 0
def arr (h : Hall) (d : Day) (t c : Nat) : Int := b0p (b37 h d t c) h.Trains.length
def psN (h : Hall) (n : Nat → Nat → Int) (t c : Nat) : Int := min (n t c) (b1l h c t)
def lfN (h : Hall) (n : Nat → Nat → Int) (t c : Nat) : Int := n t c - psN h n t c
def Wt (h : Hall) (d : Day) (p : Nat → Nat → Int) (s e u t : Nat) : Int := if nxt h u = (e : Int) ∧ t + wlk d u t = s then p t u else 0
def b9h (h : Hall) (d : Day) (n : Nat → Nat → Int) (t c : Nat) : Int := (arr h d t c + b0p (fun u => b0p (Wt h d (psN h n) t c u) t) h.Combs.length) + if 0 < t then lfN h n (t - 1) c else 0
def nL (h : Hall) (d : Day) : Nat → Nat → Nat → Int
  | 0 => fun _ _ => 0
  | k + 1 => fun t c => if t = k then b9h h d (nL h d k) k c else nL h d k t c
def nn (h : Hall) (d : Day) (t c : Nat) : Int := nL h d (t + 1) t c
abbrev ps (h : Hall) (d : Day) : Nat → Nat → Int := psN h (nn h d)
abbrev lf (h : Hall) (d : Day) : Nat → Nat → Int := lfN h (nn h d)
theorem j68 {h : Hall} {d : Day} {p q : Nat → Nat → Int} {t c : Nat} (hpq : ∀ t', t' < t → ∀ c, p t' c = q t' c) : b9h h d p t c = b9h h d q t c := by
  unfold b9h
  congr 1
  · congr 1
    refine b6j fun u _ => b6j fun t' ht' => ?_
    unfold Wt psN
    rw [hpq t' ht']
  · split
    · unfold lfN psN; rw [hpq (t - 1) (by omega)]
    · rfl
theorem j1o {h : Hall} {d : Day} {k t c : Nat} (ht : t < k) : nL h d k t c = nn h d t c := by
  induction k with
  | zero => omega
  | succ k ih =>
    by_cases e : t = k
    · subst e; rfl
    · show (if t = k then _ else nL h d k t c) = _
      rw [if_neg e]; exact ih (by omega)
theorem d1v {h : Hall} {d : Day} {t c : Nat} : nn h d t c = b9h h d (nn h d) t c := by
  show (if t = t then b9h h d (nL h d t) t c else _) = _
  rw [if_pos rfl]
  exact j68 fun t' ht' c => j1o ht'
section
variable {h : Hall} {d : Day}
def Cm (h : Hall) (d : Day) (m : Nat → Nat) (s e : Nat) : Int := arr h d s e + b0p (fun u => b0p (Wt h d (ps h d) s e u) (m u)) h.Combs.length
def Pm (h : Hall) (d : Day) (m : Nat → Nat) (s e : Nat) : Int := Cm h d m s e + if 0 < s ∧ s ≤ m e then lf h d (s - 1) e else 0
theorem g12 {m m' : Nat → Nat} {c : Nat} (hc : c < h.Combs.length) (h1 : ∀ u, u ≠ c → m' u = m u) (h2 : m' c = m c + 1) (s e : Nat) : Cm h d m' s e = Cm h d m s e + Wt h d (ps h d) s e c (m c) := by
  unfold Cm
  rw [d85 (f := fun u => b0p (Wt h d (ps h d) s e u) (m' u)) (g := fun u => b0p (Wt h d (ps h d) s e u) (m u)) (c := c) (fun u hu => by simp only [h1 u hu]) hc]
  simp only [h2, b2v]
  omega
theorem d27 {m m' : Nat → Nat} {c : Nat} (hc : c < h.Combs.length) (h1 : ∀ u, u ≠ c → m' u = m u) (h2 : m' c = m c + 1) (s e : Nat) :
    Pm h d m' s e = (Pm h d m s e + if s = m c + 1 ∧ e = c then lf h d (m c) c else 0) + Wt h d (ps h d) s e c (m c) := by
  unfold Pm
  rw [g12 hc h1 h2]
  by_cases e1 : e = c
  · subst e1
    rw [h2]
    by_cases q : s = m e + 1
    · subst q
      rw [if_pos (by omega), if_neg (by omega), if_pos (by omega), Nat.add_sub_cancel]; omega
    · rw [if_neg (c := s = m e + 1 ∧ e = e) (by omega)]
      by_cases q2 : 0 < s ∧ s ≤ m e
      · rw [if_pos (by omega), if_pos q2]; omega
      · rw [if_neg (by omega), if_neg q2]; omega
  · rw [h1 e e1, if_neg (c := s = m c + 1 ∧ e = c) (by omega)]; omega
variable (hv : V h) (hf : Fit h d)
include hv hf
theorem d2q {u : Nat} (hu : u < h.Combs.length) (t : Nat) : ∃ x w, h.Combs[u]? = some x ∧ d.Walks[u]? = some w ∧ 1 ≤ w.length ∧ w.length ≤ 20 ∧ w[t % w.length]? = some (wlk d u t : Int) ∧ x.Walk.Low ≤ wlk d u t ∧ wlk d u t ≤ x.Walk.High ∧ 1 ≤ wlk d u t ∧ wlk d u t ≤ 20 := by
  obtain ⟨x, hx⟩ := b1u hu
  obtain ⟨w, hw⟩ := b1u (show u < d.Walks.length by rw [hf.walks]; exact hu)
  obtain ⟨g1, g2, g3⟩ := hf.walk u x w hx hw
  have hg := hv.2.1 u x hx
  unfold b4a at hg
  obtain ⟨n, hn⟩ := b1u (show t % w.length < w.length from Nat.mod_lt _ (by omega))
  have := g3 n (List.mem_of_getElem? hn)
  have e : wlk d u t = n.toNat := by unfold wlk; rw [hw]; simp [hn]
  rw [e]
  refine ⟨x, w, hx, hw, g1, g2, ?_, by omega, by omega, by omega, by omega⟩
  rw [hn]; congr 1; omega
theorem d3c {s e u t : Nat} (hu : u < h.Combs.length) (ht : s ≤ t) (p : Nat → Nat → Int) : Wt h d p s e u t = 0 := by
  obtain ⟨x, w, _, _, _, _, _, _, _, h1, _⟩ := d2q hv hf hu t
  unfold Wt; rw [if_neg (by omega)]
theorem g11 {m : Nat → Nat} {s e : Nat} (hm : ∀ u, u < h.Combs.length → nxt h u = (e : Int) → s ≤ m u) : Cm h d m s e = arr h d s e + b0p (fun u => b0p (Wt h d (ps h d) s e u) s) h.Combs.length := by
  unfold Cm
  congr 1
  refine b6j fun u hu => ?_
  by_cases q : nxt h u = (e : Int)
  · exact c3n (fun i hi => d3c hv hf hu hi _) (hm u hu q)
  · rw [b6k fun i _ => by unfold Wt; rw [if_neg fun hh => q hh.1], b6k fun i _ => by unfold Wt; rw [if_neg fun hh => q hh.1]]
theorem j4v {m : Nat → Nat} {s e : Nat} (hm : ∀ u, u < h.Combs.length → nxt h u = (e : Int) → s ≤ m u) : nn h d s e = Cm h d m s e + if 0 < s then lf h d (s - 1) e else 0 := by
  rw [d1v, g11 hv hf hm]; rfl
theorem d81 {m : Nat → Nat} {s e : Nat} (hm : ∀ u, u < h.Combs.length → nxt h u = (e : Int) → s ≤ m u) (he : s ≤ m e) : nn h d s e = Pm h d m s e := by
  rw [j4v hv hf hm]
  unfold Pm
  by_cases q : 0 < s
  · rw [if_pos q, if_pos ⟨q, he⟩]
  · rw [if_neg q, if_neg (by omega)]
theorem d1z {i k : Nat} (hi : i < h.Trains.length) (hk : k < (tr h i).Crowds.length) : 0 ≤ dPe d i k ∧ dPe d i k ≤ 1000 ∧ ∃ y, (tr h i).Crowds[k]? = some y ∧ y.People.Low ≤ dPe d i k ∧ dPe d i k ≤ y.People.High := by
  obtain ⟨x, hx⟩ := b1u hi
  obtain ⟨a, ha⟩ := b1u (show i < d.At.length by rw [hf.at_]; exact hi)
  obtain ⟨p, hp⟩ := b1u (show i < d.People.length by rw [hf.people]; exact hi)
  obtain ⟨_, g2, g3⟩ := hf.ride i x a p hx ha hp
  have et : tr h i = x := by unfold tr; rw [hx]; rfl
  rw [et] at hk ⊢
  obtain ⟨y, hy⟩ := b1u hk
  obtain ⟨n, hn⟩ := b1u (show k < p.length by omega)
  have := g3 k y n hy hn
  have hg := (hv.2.2.1 i x hx).2.2.2.2 k y hy
  unfold b4j at hg
  have e : dPe d i k = n := by unfold dPe; rw [hp]; simp [hn]
  rw [e]
  exact ⟨by omega, by omega, y, hy, by omega, by omega⟩
theorem d3l {i : Nat} (hi : i < h.Trains.length) : ∃ x a, h.Trains[i]? = some x ∧ d.At[i]? = some (a : Nat) ∧ dAt d i = (a : Nat) ∧ a < T h ∧ x.At.Low ≤ (a : Nat) ∧ (a : Int) ≤ x.At.High ∧ tr h i = x := by
  obtain ⟨x, hx⟩ := b1u hi
  obtain ⟨a, ha⟩ := b1u (show i < d.At.length by rw [hf.at_]; exact hi)
  obtain ⟨p, hp⟩ := b1u (show i < d.People.length by rw [hf.people]; exact hi)
  obtain ⟨g1, _, _⟩ := hf.ride i x a p hx ha hp
  have hg := hv.2.2.1 i x hx
  have := b6q hv
  obtain ⟨q1, q2, q3, _⟩ := hg
  refine ⟨x, a.toNat, hx, ?_, ?_, by omega, by omega, by omega, by unfold tr; rw [hx]; rfl⟩
  · rw [ha]; congr 1; omega
  · unfold dAt; rw [ha]; simp; omega
omit hf in
theorem d4c {i : Nat} (hi : i < h.Trains.length) : (tr h i).Crowds.length ≤ 4 := by
  obtain ⟨x, hx⟩ := b1u hi
  have : tr h i = x := by unfold tr; rw [hx]; rfl
  rw [this]; exact (hv.2.2.1 i x hx).2.2.2.1
theorem d3j {c i : Nat} (hi : i < h.Trains.length) {k : Nat} (hk : k ≤ (tr h i).Crowds.length) : 0 ≤ b0p (b3u h d c i) k ∧ b0p (b3u h d c i) k ≤ 4000 := by
  have := b6i (f := b3u h d c i) (B := 1000) (k := k) fun j hj => by
    have := d1z hv hf hi (show j < (tr h i).Crowds.length by omega)
    unfold b3u; split <;> omega
  have := d4c hv hi
  omega
theorem d3i {t c i : Nat} (hi : i < h.Trains.length) : 0 ≤ b37 h d t c i ∧ b37 h d t c i ≤ 4000 := by
  have := d3j hv hf (c := c) hi (Nat.le_refl _)
  unfold b37; split <;> omega
theorem c8a {t c k : Nat} (hk : k ≤ h.Trains.length) : 0 ≤ b0p (b37 h d t c) k ∧ b0p (b37 h d t c) k ≤ 48000 := by
  have := b6i (f := b37 h d t c) (B := 4000) (k := k) fun i hi => d3i hv hf (by omega)
  have := hv.1.2.2.2.2.1
  omega
omit hf in
theorem d3b {n : Nat → Nat → Int} {s e u t : Nat} (hn : ∀ t c, t < s → 0 ≤ n t c) (ht : t < s) : 0 ≤ Wt h d (psN h n) s e u t ∧ Wt h d (psN h n) s e u t ≤ 1000 := by
  have h1 := hn t u ht
  have h2 := c6t hv (c := u) t
  unfold Wt; split
  · unfold psN; omega
  · omega
theorem d1u : ∀ (t : Nat), t < T h → ∀ c, 0 ≤ nn h d t c ∧ nn h d t c ≤ 1000000 * (t + 1) := by
  intro t
  induction t using Nat.strongRecOn with
  | _ t ih =>
    intro ht c
    have hT := b4o hv
    have hN := hv.1.2.2.2.1
    have h1 := c8a hv hf (t := t) (c := c) (Nat.le_refl _)
    have h2 : 0 ≤ b0p (fun u => b0p (Wt h d (psN h (nn h d)) t c u) t) h.Combs.length ∧ b0p (fun u => b0p (Wt h d (psN h (nn h d)) t c u) t) h.Combs.length ≤ 800000 := by
      have := b6i (f := fun u => b0p (Wt h d (psN h (nn h d)) t c u) t) (B := 100000) (k := h.Combs.length) fun u hu => by
        have := b6i (f := Wt h d (psN h (nn h d)) t c u) (B := 1000) (k := t) fun t' ht' => d3b hv (fun t c htt => by
          by_cases q : t < T h
          · exact (ih t (by omega) q c).1
          · omega) ht'
        omega
      omega
    rw [d1v]
    unfold b9h
    unfold arr
    split
    · have h3 := ih (t - 1) (by omega) (by omega) c
      have h4 := c6t hv (c := c) (t - 1)
      have e1 : lfN h (nn h d) (t - 1) c = nn h d (t - 1) c - min (nn h d (t - 1) c) (b1l h c (t - 1)) := rfl
      rw [e1]
      have : ((t - 1 : Nat) : Int) = (t : Int) - 1 := by omega
      rw [this] at h3
      omega
    · omega
theorem c06 {t : Nat} (ht : t < T h) (c : Nat) : 0 ≤ ps h d t c ∧ ps h d t c ≤ 1000 ∧ 0 ≤ lf h d t c ∧ lf h d t c ≤ 1000000 * (t + 1) := by
  have h1 := d1u hv hf t ht c
  have h2 := c6t hv (c := c) t
  have e1 : ps h d t c = min (nn h d t c) (b1l h c t) := rfl
  have e2 : lf h d t c = nn h d t c - ps h d t c := rfl
  omega
theorem g10 {m : Nat → Nat} (hm : ∀ u, u < h.Combs.length → m u ≤ T h) (s e : Nat) : 0 ≤ Cm h d m s e ∧ Cm h d m s e ≤ 1000000 := by
  have hT := b4o hv
  have hN := hv.1.2.2.2.1
  have h1 := c8a hv hf (t := s) (c := e) (Nat.le_refl _)
  have := b6i (f := fun u => b0p (Wt h d (ps h d) s e u) (m u)) (B := 100000) (k := h.Combs.length) fun u hu => by
    have hmu := hm u hu
    have := b6i (f := Wt h d (ps h d) s e u) (B := 1000) (k := m u) fun t' ht' => by
      have := c06 hv hf (show t' < T h by omega) u
      unfold Wt; split <;> omega
    omega
  unfold Cm arr
  omega
theorem c76 {m : Nat → Nat} (hm : ∀ u, u < h.Combs.length → m u ≤ T h) {s : Nat} (hs : s < T h) (e : Nat) : 0 ≤ Pm h d m s e ∧ Pm h d m s e ≤ 1000000000 := by
  have h1 := g10 hv hf hm s e
  have hT := b4o hv
  unfold Pm
  split
  · have := c06 hv hf (show s - 1 < T h by omega) e
    omega
  · omega
end
def b21 (m n : Nat) (g : Nat → Nat → Int) : List (List Int) := tab m fun t => tab n (g t)
theorem b98 {m n t : Nat} {g : Nat → Nat → Int} (ht : t < m) : get (b21 m n g) (t : Int) = some (tab n (g t)) := b2o ht
theorem d2b {m n a b : Nat} {g : Nat → Nat → Int} {v : Int} : (b21 m n g).set a ((tab n (g a)).set b v) = b21 m n fun t c => if t = a ∧ c = b then v else g t c := by
  unfold b21
  rw [c1j]
  refine b6n fun t _ => ?_
  by_cases e : t = a
  · subst e
    rw [if_pos rfl, c1j]
    exact b6n fun c _ => by
      by_cases e2 : c = b
      · rw [if_pos e2]; show v = if t = t ∧ c = b then v else g t c; rw [if_pos ⟨rfl, e2⟩]
      · rw [if_neg e2]; show g t c = if t = t ∧ c = b then v else g t c; rw [if_neg fun hh => e2 hh.2]
  · rw [if_neg e]
    exact b6n fun c _ => by show g t c = if t = a ∧ c = b then v else g t c; rw [if_neg fun hh => e hh.1]
theorem b8f {m n : Nat} {g k : Nat → Nat → Int} (h : ∀ t, t < m → ∀ c, c < n → g t c = k t c) : b21 m n g = b21 m n k := b6n fun t ht => b6n fun c hc => h t ht c hc
theorem c7a {m n : Nat} {g : Nat → Nat → Int} : (b21 m n g).length = m := b36
end Go.Nw.HM
namespace Go.Nw.HM
theorem j77 {m n : Nat} {g : Nat → Nat → Int} : b21 (m + 1) n g = b21 m n g ++ [tab n (g m)] := b9l
theorem j6x {t n : Nat} (hn : 1 ≤ n) : rem (t : Int) (n : Int) = some ((t % n : Nat) : Int) := by
  unfold rem
  rw [if_neg (by omega)]
  rfl
section
variable {h : Hall} {d : Day} (hv : V h) (hf : Fit h d)
include hv hf
theorem j8c : b07 (c0c h d) (b21 (T h) h.Combs.length fun _ _ => 0, 0) = some (b21 (T h) h.Combs.length (arr h d)) := by
  have hT := b4o hv
  have hN := hv.1.2.2.2.1
  have hTr := hv.1.2.2.2.2.1
  refine b4c (f := c0c h d) h.Trains.length (fun s k => (s, k)) (fun i => b21 (T h) h.Combs.length fun t c => b0p (b37 h d t c) i) _ (s0 := b21 (T h) h.Combs.length fun _ _ => 0) rfl (fun i hi => ?_) (by
    simp only [c0c]
    rw [if_neg (by simp)]; rfl)
  obtain ⟨x, a, hx, ha, hda, haT, _, _, htr⟩ := d3l hv hf hi
  simp only [c0c, b1g hx, Option.bind_some]
  rw [if_pos (by simpa using hi)]
  have hcl := d4c hv hi
  rw [htr] at hcl
  have := b4c (f := c2o d i x) x.Crowds.length (fun s k => (s, k)) (fun k => b21 (T h) h.Combs.length fun t c => b0p (b37 h d t c) i + if dAt d i = (t : Int) then b0p (b3u h d c i) k else 0) (b21 (T h) h.Combs.length fun t c => b0p (b37 h d t c) (i + 1))
    (s0 := b21 (T h) h.Combs.length fun t c => b0p (b37 h d t c) i) (b8f fun t _ c _ => by simp [b4x]) (fun k hk => by
      obtain ⟨y, hy⟩ := b1u hk
      obtain ⟨p, hp⟩ := b1u (show i < d.People.length by rw [hf.people]; exact hi)
      obtain ⟨_, g2, _⟩ := hf.ride i x a p hx ha hp
      obtain ⟨n, hn⟩ := b1u (show k < p.length by omega)
      have hpe : dPe d i k = n := by unfold dPe; rw [hp]; simp [hn]
      have hb := d1z hv hf hi (k := k) (by rw [htr]; exact hk)
      have hgc := (hv.2.2.1 i x hx).2.2.2.2 k y hy
      have hyc : 0 ≤ y.Comb := by
        have := (d3a hv).2.1.2 x (List.mem_of_getElem? hx)
        have key : ∀ (j : Nat) (z : Crowd), x.Crowds[j]? = some z → -1 < z.Comb := by
          intro j
          induction j with
          | zero => intro z hz; exact ((hv.2.2.1 i x hx).2.2.2.2 0 z hz).2.2.2.2
          | succ j ih =>
            intro z hz
            obtain ⟨z', hz'⟩ := b1u (show j < x.Crowds.length by have := b1b hz; omega)
            have := ih z' hz'
            have := ((hv.2.2.1 i x hx).2.2.2.2 (j + 1) z hz).2.2.2.2 z' hz'
            omega
        have := key k y hy; omega
      obtain ⟨b, hb'⟩ : ∃ b : Nat, y.Comb = b := ⟨y.Comb.toNat, by omega⟩
      have hbN : b < h.Combs.length := by unfold b4j at hgc; omega
      have hcr : crC h i k = b := by unfold crC; rw [htr, hy, ← hb']; rfl
      have hs := c8a hv hf (t := a) (c := b) (k := i) (by omega)
      have hs2 := d3j hv hf (c := b) hi (k := k) (by rw [htr]; omega)
      simp only [c2o, b1g hy, b1g ha, b1g hp, b1g hn, Option.bind_some]
      rw [if_pos (by simpa using hk), b98 haT]
      simp only [Option.bind_some, hb']
      rw [b2o hbN]
      simp only [Option.bind_some]
      rw [show ((a : Nat) : Int).toNat = a from by omega, show ((b : Nat) : Int).toNat = b from by omega, b2m hk (show x.Crowds.length ≤ maxLen by simp only [maxLen]; omega), hda, if_pos rfl, b2s (by omega) (by omega),
        d2b (g := fun t c => b0p (b37 h d t c) i + if ((a : Nat) : Int) = (t : Int) then b0p (b3u h d c i) k else 0)]
      congr 3
      refine b8f fun t ht c hc => ?_
      by_cases e : t = a
      · subst e
        rw [if_pos rfl]
        by_cases e2 : c = b
        · subst e2
          rw [if_pos ⟨rfl, rfl⟩, b2v]
          simp only [b3u, hcr, if_true, hpe]
          omega
        · rw [if_neg (by omega), if_pos rfl, b2v]
          simp only [b3u, hcr]
          rw [if_neg (c := (b : Int) = c) (by omega)]; omega
      · rw [if_neg (by omega), if_neg (by omega), if_neg (by omega)]) (by
    simp only [c2o]
    rw [if_neg (by simp)]
    congr 2
    refine b8f fun t _ c _ => ?_
    rw [b2v]
    unfold b37
    rw [htr])
  rw [this]
  simp only [Option.bind_some, c5g, b2m hi (show h.Trains.length ≤ maxLen by simp only [maxLen]; omega)]
def mAt (t c : Nat) : Nat → Nat := fun u => if u < c then t + 1 else t
omit hf in
theorem d86 {c : Nat} (hc : c < h.Combs.length) : ∃ x, h.Combs[c]? = some x ∧ nxt h c = x.Next ∧ (x.Next = -1 ∨ ((c : Int) < x.Next ∧ x.Next < h.Combs.length)) := by
  obtain ⟨x, hx⟩ := b1u hc
  exact ⟨x, hx, by unfold nxt; rw [hx]; rfl, (hv.2.1 c x hx).2.2.2.2.1⟩
theorem j6l {t : Nat} (ht : t < T h) :
    b07 (c0d h d (tab h.Combs.length fun c => tab (T h) (b1l h c)) t (tab h.Combs.length (Pm h d (fun _ => t) t))) (b21 (T h) h.Combs.length (Pm h d fun _ => t), 0) = some (b21 (T h) h.Combs.length (Pm h d fun _ => t + 1)) := by
  have hT := b4o hv
  have hTi := b6q hv
  have hN := hv.1.2.2.2.1
  refine b4c (f := c0d h d (tab h.Combs.length fun c => tab (T h) (b1l h c)) t (tab h.Combs.length (Pm h d (fun _ => t) t))) h.Combs.length (fun s k => (s, k)) (fun c => b21 (T h) h.Combs.length (Pm h d (mAt t c))) _ (s0 := b21 (T h) h.Combs.length (Pm h d fun _ => t)) rfl (fun c hc => ?_) (by
    simp only [c0d, b36]
    rw [if_neg (by simp)]
    congr 2
    refine b8f fun s _ e he => ?_
    unfold Pm Cm
    congr 1
    · congr 1
      refine b6j fun u hu => ?_
      unfold mAt; rw [if_pos hu]
    · unfold mAt; rw [if_pos he])
  obtain ⟨x, hx, hnx, hnb⟩ := d86 hv hc
  obtain ⟨x', w, hx', hw, hw1, hw2, hwv, _, _, hk1, hk2⟩ := d2q hv hf hc t
  have hmle : ∀ u, u < h.Combs.length → mAt t c u ≤ T h := fun u _ => by unfold mAt; split <;> omega
  have hmle' : ∀ u, u < h.Combs.length → mAt t (c + 1) u ≤ T h := fun u _ => by unfold mAt; split <;> omega
  have hmc : mAt t c c = t := by unfold mAt; rw [if_neg (by omega)]
  have hmc' : mAt t (c + 1) c = mAt t c c + 1 := by rw [hmc]; unfold mAt; rw [if_pos (by omega)]
  have hmu : ∀ u, u ≠ c → mAt t (c + 1) u = mAt t c u := fun u hu => by
    unfold mAt
    by_cases q : u < c
    · rw [if_pos q, if_pos (by omega)]
    · rw [if_neg q, if_neg (by omega)]
  have hval : Pm h d (mAt t c) t c = nn h d t c := (d81 hv hf (fun u _ _ => by unfold mAt; split <;> omega) (by rw [hmc]; omega)).symm
  have hnb2 := d1u hv hf t ht c
  have hps := c06 hv hf ht c
  have eps : min (nn h d t c) (b1l h c t) = ps h d t c := rfl
  have elf : nn h d t c - ps h d t c = lf h d t c := rfl
  simp only [c0d, b36]
  rw [if_pos (by simpa using hc), b98 ht]
  simp only [Option.bind_some]
  rw [b2o hc]
  simp only [Option.bind_some, hval]
  rw [b2o hc]
  simp only [Option.bind_some]
  rw [b2o ht]
  simp only [Option.bind_some, c3j, eps]
  rw [show wr ((t : Int) + 1) = ((t + 1 : Nat) : Int) from by rw [b2s (by omega) (by omega)]; omega]
  have wl : ∀ g : Nat → Nat → Int, (∀ s, s < T h → ∀ e, -1000000000 ≤ g s e ∧ g s e ≤ 2000000000) → (∀ s, s < T h → ∀ e, e < h.Combs.length → g s e + Wt h d (ps h d) s e c t = Pm h d (mAt t (c + 1)) s e) →
      c0f h d t c (nn h d t c) (b1l h c t) (b21 (T h) h.Combs.length g) = some (.nx (b21 (T h) h.Combs.length (Pm h d (mAt t (c + 1))), (c : Int) + 1)) := fun g hgb hg => by
    unfold c0f
    rw [b1g hw]
    simp only [Option.bind_some]
    rw [j6x hw1]
    simp only [Option.bind_some]
    rw [b1g hwv]
    simp only [Option.bind_some]
    rw [b1g hx]
    simp only [Option.bind_some, c3j, eps]
    rw [show wr ((t : Int) + (wlk d c t : Int)) = ((t + wlk d c t : Nat) : Int) from by rw [b2s (by omega) (by omega)]; omega]
    by_cases q : 0 ≤ x.Next ∧ t + wlk d c t < T h
    · obtain ⟨e', he'⟩ : ∃ e' : Nat, x.Next = e' := ⟨x.Next.toNat, by omega⟩
      rw [if_pos (by rw [← hTi]; simp; omega), b98 q.2]
      simp only [Option.bind_some, he']
      rw [b2o (show e' < h.Combs.length by omega)]
      simp only [Option.bind_some, c0e]
      have := hgb _ q.2 e'
      rw [show ((t + wlk d c t : Nat) : Int).toNat = t + wlk d c t from by omega, show ((e' : Nat) : Int).toNat = e' from by omega, d2b, b2m hc (show h.Combs.length ≤ maxLen by simp only [maxLen]; omega), b2s (by omega) (by omega)]
      congr 3
      refine b8f fun s hs e he => ?_
      rw [← hg s hs e he]
      unfold Wt
      by_cases q2 : s = t + wlk d c t ∧ e = e'
      · obtain ⟨rfl, rfl⟩ := q2
        rw [if_pos ⟨rfl, rfl⟩, if_pos ⟨by omega, rfl⟩]
      · rw [if_neg q2, if_neg (by omega)]; omega
    · rw [if_neg (by rw [← hTi]; simp; omega)]
      simp only [c0e]
      rw [b2m hc (show h.Combs.length ≤ maxLen by simp only [maxLen]; omega)]
      congr 3
      refine b8f fun s hs e he => ?_
      rw [← hg s hs e he]
      unfold Wt
      rw [if_neg (by omega)]; omega
  by_cases q : t + 1 < T h
  · rw [if_pos (by rw [← hTi]; simp; omega), b98 q]
    simp only [Option.bind_some]
    rw [b2o hc]
    simp only [Option.bind_some]
    have hb1 := c76 hv hf hmle q c
    rw [show ((t + 1 : Nat) : Int).toNat = t + 1 from by omega, show ((c : Nat) : Int).toNat = c from by omega, d2b, b2s (n := nn h d t c - ps h d t c) (by omega) (by omega), elf, b2s (by omega) (by omega)]
    refine wl _ (fun s hs e => ?_) (fun s hs e he => ?_)
    · have hb2 := c76 hv hf hmle hs e
      by_cases q2 : s = t + 1 ∧ e = c
      · rw [if_pos q2]; omega
      · rw [if_neg q2]; omega
    · rw [d27 hc hmu hmc', hmc]
      by_cases q2 : s = t + 1 ∧ e = c
      · obtain ⟨rfl, rfl⟩ := q2
        rw [if_pos ⟨rfl, rfl⟩, if_pos ⟨rfl, rfl⟩]
      · rw [if_neg q2, if_neg q2]; omega
  · rw [if_neg (by rw [← hTi]; simp; omega)]
    refine wl _ (fun s hs e => ?_) (fun s hs e he => ?_)
    · have hb2 := c76 hv hf hmle hs e; omega
    · rw [d27 hc hmu hmc', hmc, if_neg (by omega)]; omega
theorem g19 (hd : c4j d) : c2m h d = some (b21 (T h) h.Combs.length (nn h d), 0) := by
  have hT := b4o hv
  have hTi := b6q hv
  have hN := hv.1.2.2.2.1
  have hday : b8y h d = some true := by
    rcases j0l hv hd with ⟨_, h1⟩ | ⟨h1, _⟩
    · exact h1
    · exact absurd hf h1
  unfold c2m
  rw [(d23 hv).1]
  simp only [Option.bind_some]
  rw [if_neg (by simp), hday]
  simp only [Option.bind_some]
  rw [if_neg (by simp)]
  have l1 := b4c (f := c2n h) (T h) (fun s k => (s, k)) (fun k => b21 k h.Combs.length fun _ _ => 0) (b21 (T h) h.Combs.length fun _ _ => 0) (s0 := []) rfl (fun t ht => by
    simp only [c2n]
    rw [← hTi, if_pos (by simpa using ht), c3i (by omega) (by omega)]
    simp only [Option.bind_some]
    rw [b5t (by simp only [c7a, List.length_cons, List.length_nil]; omega)]
    simp only [Option.bind_some, b2m ht (show T h ≤ maxLen by simp only [maxLen]; omega)]
    rw [j77]) (by
    simp only [c2n]
    rw [← hTi, if_neg (by simp)])
  rw [l1]
  simp only [Option.bind_some, c5c]
  rw [j8c hv hf]
  simp only [Option.bind_some, c5d]
  rw [c3i (by omega) (by omega)]
  simp only [Option.bind_some]
  have l2 := b4c (f := c2p h) h.Combs.length (fun s k => (s, k)) (fill h.Combs.length (fun c => tab (T h) (b1l h c)) []) (tab h.Combs.length fun c => tab (T h) (b1l h c)) (s0 := tab h.Combs.length fun _ => []) (by rw [← c33, c8u]) (fun c hc => by
    simp only [c2p]
    rw [if_pos (by simpa using hc), d9o hv hc]
    simp only [Option.bind_some]
    rw [c8z hc]
    simp only [Option.bind_some]
    rw [show ((c : Nat) : Int).toNat = c from by omega, c4z rfl, b2m hc (show h.Combs.length ≤ maxLen by simp only [maxLen]; omega)]) (by
    simp only [c2p]
    rw [if_neg (by simp), c8s (Nat.le_refl _)])
  rw [l2]
  simp only [Option.bind_some, c5e]
  have l3 := b4c (f := c2q h d (b21 (T h) h.Combs.length (arr h d)) (tab h.Combs.length fun c => tab (T h) (b1l h c))) (T h) (fun s k => (s, k)) (fun t => b21 (T h) h.Combs.length (Pm h d fun _ => t)) (b21 (T h) h.Combs.length (nn h d)) (s0 := b21 (T h) h.Combs.length (arr h d)) (b8f fun s _ e _ => by
    unfold Pm Cm
    rw [b6k fun u _ => b4x, if_neg fun hh => by have h2 : s ≤ 0 := hh.2; omega]; omega) (fun t ht => by
    simp only [c2q, c7a]
    rw [if_pos (by simpa using ht), b98 ht]
    simp only [Option.bind_some]
    rw [j6l hv hf ht]
    simp only [Option.bind_some, c5f, b2m ht (show T h ≤ maxLen by simp only [maxLen]; omega)]) (by
    simp only [c2q, c7a]
    rw [if_neg (by simp)]
    congr 2
    exact b8f fun s hs e he => (d81 hv hf (fun u _ _ => by omega) (by omega)).symm)
  rw [l3]; rfl
end
end Go.Nw.HM
namespace Go.Nw.HM
def cm (h : Hall) (d : Day) (c t : Nat) : Int := arr h d t c + b0p (fun u => b0p (Wt h d (ps h d) t c u) t) h.Combs.length
def b1j (f : Nat → Int) (a b : Nat) : Int := b0p f b - b0p f a
theorem b4y {f : Nat → Int} {a b : Nat} : b1j f a (b + 1) = b1j f a b + f b := by unfold b1j; rw [b2v]; omega
theorem b3r {f : Nat → Int} {a : Nat} : b1j f a a = 0 := by unfold b1j; omega
theorem c6y {f : Nat → Int} {a b c : Nat} : b1j f a c = b1j f a b + b1j f b c := by unfold b1j; omega
theorem c6w {f g : Nat → Int} {a b : Nat} (hab : a ≤ b) (h : ∀ i, a ≤ i → i < b → f i ≤ g i) : b1j f a b ≤ b1j g a b := by
  induction b with
  | zero => have : a = 0 := by omega
            subst this; rw [b3r, b3r]; exact Int.le_refl _
  | succ b ih =>
    by_cases e : a = b + 1
    · subst e; rw [b3r, b3r]; exact Int.le_refl _
    · rw [b4y, b4y]
      have := ih (by omega) fun i h1 h2 => h i h1 (by omega)
      have := h b (by omega) (by omega)
      omega
theorem d9x {f : Nat → Int} {a b : Nat} (hab : a ≤ b) (h : ∀ i, a ≤ i → i < b → 0 ≤ f i) : 0 ≤ b1j f a b := by
  have := c6w (f := fun _ => 0) (g := f) hab h
  have e : b1j (fun _ => (0 : Int)) a b = 0 := by unfold b1j; rw [b6k fun _ _ => rfl, b6k fun _ _ => rfl]; rfl
  omega
theorem d84 {f : Nat → Nat → Int} {n m : Nat} : b0p (fun i => b0p (f i) m) n = b0p (fun j => b0p (fun i => f i j) n) m := by
  induction n with
  | zero => rw [b4x, b6k fun j _ => b4x]
  | succ n ih =>
    rw [b2v, ih, ← d1w]
    exact b6j fun j _ => by rw [b2v]
theorem c6x {f : Nat → Nat → Int} {a b n : Nat} : b1j (fun x => b0p (f x) n) a b = b0p (fun i => b1j (fun x => f x i) a b) n := by
  unfold b1j
  rw [d84, d84 (n := a)]
  have : ∀ k : Nat, b0p (fun i => b0p (fun x => f x i) b - b0p (fun x => f x i) a) k = b0p (fun i => b0p (fun x => f x i) b) k - b0p (fun i => b0p (fun x => f x i) a) k := by
    intro k
    induction k with
    | zero => rfl
    | succ k ih => rw [b2v, b2v, b2v, ih]; omega
  rw [this]
theorem d19 {v : Int} {k a b : Nat} (hab : a ≤ b) : b1j (fun x => if k = x then v else 0) a b = if a ≤ k ∧ k < b then v else 0 := by
  induction b with
  | zero => have : a = 0 := by omega
            subst this; rw [b3r, if_neg (by omega)]
  | succ b ih =>
    by_cases e : a = b + 1
    · subst e; rw [b3r, if_neg (by omega)]
    · rw [b4y, ih (by omega)]
      by_cases q : k = b
      · rw [if_neg (by omega), if_pos q, if_pos (by omega)]; omega
      · rw [if_neg q]
        by_cases q2 : a ≤ k ∧ k < b
        · rw [if_pos q2, if_pos (by omega)]; omega
        · rw [if_neg q2, if_neg (by omega)]; omega
section
variable {h : Hall} {d : Day} (hv : V h) (hf : Fit h d)
include hv hf
omit hv hf in
theorem c3l {t c : Nat} : nn h d t c = cm h d c t + if 0 < t then lf h d (t - 1) c else 0 := by rw [d1v]; rfl
theorem d9n (c : Nat) {s t : Nat} (hst : s ≤ t) : nn h d t c + b1j (fun x => ps h d x c) s t = (nn h d s c - cm h d c s) + b1j (cm h d c) s (t + 1) := by
  induction t with
  | zero => have : s = 0 := by omega
            subst this; rw [b3r, b4y, b3r]; omega
  | succ t ih =>
    by_cases e : s = t + 1
    · subst e; rw [b3r, b4y, b3r]; omega
    · have := ih (by omega)
      have h1 := c3l (h := h) (d := d) (t := t + 1) (c := c)
      rw [if_pos (by omega), Nat.add_sub_cancel] at h1
      have h2 : lf h d t c = nn h d t c - ps h d t c := rfl
      rw [b4y (b := t), b4y (b := t + 1)]
      omega
theorem j05 {t : Nat} (ht : t < T h) (c : Nat) : 0 ≤ nn h d t c - cm h d c t := by
  have h1 := c3l (h := h) (d := d) (t := t) (c := c)
  by_cases q : 0 < t
  · rw [if_pos q] at h1
    have := c06 hv hf (show t - 1 < T h by omega) c
    omega
  · rw [if_neg q] at h1; omega
theorem j7w (c : Nat) : ∀ t, t < T h → ∃ s, s ≤ t ∧ nn h d t c = b1j (cm h d c) s (t + 1) - b1j (b1l h c) s t := by
  intro t
  induction t with
  | zero =>
    intro ht
    refine ⟨0, Nat.le_refl _, ?_⟩
    rw [b3r, b4y, b3r, c3l, if_neg (by omega)]; omega
  | succ t ih =>
    intro ht
    obtain ⟨s, hs, e⟩ := ih (by omega)
    have h1 := c3l (h := h) (d := d) (t := t + 1) (c := c)
    rw [if_pos (by omega), Nat.add_sub_cancel] at h1
    have h2 : lf h d t c = nn h d t c - min (nn h d t c) (b1l h c t) := rfl
    by_cases q : nn h d t c ≤ b1l h c t
    · refine ⟨t + 1, Nat.le_refl _, ?_⟩
      rw [b3r, b4y, b3r]; omega
    · refine ⟨s, by omega, ?_⟩
      rw [b4y (b := t + 1), b4y (f := b1l h c)]; omega
theorem c3g (c : Nat) {s t : Nat} (hst : s ≤ t) (ht : t < T h) : b1j (cm h d c) s (t + 1) - b1j (b1l h c) s t ≤ nn h d t c := by
  have h1 := d9n hv hf c hst
  have h2 := j05 hv hf (show s < T h by omega) c
  have h3 : b1j (fun x => ps h d x c) s t ≤ b1j (b1l h c) s t := c6w hst fun i _ _ => by
    have : ps h d i c = min (nn h d i c) (b1l h c i) := rfl
    omega
  omega
theorem g2h (c : Nat) {s t : Nat} (hst : s ≤ t) : b1j (fun x => arr h d x c) s (t + 1) ≤ b3v h c s t := by
  unfold arr
  rw [c6x]
  have e : b3v h c s t = b0p (fun i => b3l c s t (tr h i)) h.Trains.length := by
    unfold b3v
    rw [← b74]
    have key : ∀ k, k ≤ h.Trains.length → b3m h.Trains (b3l c s t) k = b0p (fun i => b3l c s t (tr h i)) k := by
      intro k
      induction k with
      | zero => intro _; rw [b9f, b4x]
      | succ k ih =>
        intro hk
        obtain ⟨x, hx⟩ := b1u (show k < h.Trains.length by omega)
        rw [b75 hx, b2v, ih (by omega)]
        unfold tr; rw [hx]; rfl
    exact key _ (Nat.le_refl _)
  rw [e]
  refine b9d fun i hi => ?_
  obtain ⟨x, a, hx, ha, hda, haT, ha1, ha2, htr⟩ := d3l hv hf hi
  have hsum : b0p (b3u h d c i) (tr h i).Crowds.length ≤ (x.Crowds.map (b4i c)).sum := by
    rw [htr, ← b74]
    have key : ∀ k, k ≤ x.Crowds.length → b0p (b3u h d c i) k ≤ b3m x.Crowds (b4i c) k := by
      intro k
      induction k with
      | zero => intro _; rw [b9f, b4x]; exact Int.le_refl _
      | succ k ih =>
        intro hk
        obtain ⟨y, hy⟩ := b1u (show k < x.Crowds.length by omega)
        obtain ⟨p1, p2, y', hy', p3, p4⟩ := d1z hv hf hi (k := k) (by rw [htr]; omega)
        rw [htr, hy] at hy'; cases hy'
        rw [b75 hy, b2v]
        have := ih (by omega)
        have e1 : crC h i k = y.Comb := by unfold crC; rw [htr, hy]; rfl
        have e2 : b3u h d c i k ≤ b4i c y := by
          unfold b3u b4i; rw [e1]
          split <;> omega
        omega
    exact key _ (Nat.le_refl _)
  have e3 : b1j (fun x => b37 h d x c i) s (t + 1) = if s ≤ a ∧ a < t + 1 then b0p (b3u h d c i) (tr h i).Crowds.length else 0 := by
    rw [← d19 (by omega)]
    congr 1
    funext x
    unfold b37
    rw [hda]
    by_cases q : a = x
    · rw [if_pos (by omega), if_pos q]
    · rw [if_neg (by omega), if_neg q]
  rw [e3]
  have hnn := (g0k hv (List.mem_of_getElem? hx) c s t).1
  rw [htr]
  split
  · unfold b3l
    rw [if_neg (by omega)]; rwa [htr] at hsum
  · exact hnn
theorem j8n (c u : Nat) (hu : u < h.Combs.length) {s t : Nat} (hst : s ≤ t) (ht : t < T h) (hn : nxt h u = (c : Int)) {x : Comb} (hx : h.Combs[u]? = some x) :
    b1j (fun y => b0p (Wt h d (ps h d) y c u) y) s (t + 1) ≤ if (t : Int) - x.Walk.Low < 0 then 0 else b1j (fun y => ps h d y u) ((s : Int) - x.Walk.High).toNat (((t : Int) - x.Walk.Low).toNat + 1) := by
  have hg := hv.2.1 u x hx
  unfold b4a at hg
  have e1 : b1j (fun y => b0p (Wt h d (ps h d) y c u) y) s (t + 1) = b0p (fun t' => b1j (fun y => Wt h d (ps h d) y c u t') s (t + 1)) (t + 1) := by
    rw [← c6x]
    unfold b1j
    have e : ∀ k, k ≤ t + 1 → b0p (fun y => b0p (Wt h d (ps h d) y c u) y) k = b0p (fun y => b0p (Wt h d (ps h d) y c u) (t + 1)) k := fun k hk => b6j fun y hy => (c3n (fun i hi => d3c hv hf hu hi _) (by omega)).symm
    rw [e _ (Nat.le_refl _), e s (by omega)]
  rw [e1]
  have hw : ∀ t' : Nat, x.Walk.Low ≤ wlk d u t' ∧ (wlk d u t' : Int) ≤ x.Walk.High := fun t' => by
    obtain ⟨x', w, hx', _, _, _, _, q1, q2, _, _⟩ := d2q hv hf hu t'
    rw [hx] at hx'; cases hx'
    exact ⟨q1, q2⟩
  have e2 : ∀ t', b1j (fun y => Wt h d (ps h d) y c u t') s (t + 1) = if s ≤ t' + wlk d u t' ∧ t' + wlk d u t' < t + 1 then ps h d t' u else 0 := fun t' => by
    rw [← d19 (by omega)]
    congr 1
    funext y
    unfold Wt
    by_cases q : t' + wlk d u t' = y
    · rw [if_pos ⟨hn, q⟩, if_pos q]
    · rw [if_neg fun hh => q hh.2, if_neg q]
  rw [b6j fun t' _ => e2 t']
  have hnnp : ∀ t', t' < t + 1 → 0 ≤ ps h d t' u := fun t' ht' => (c06 hv hf (show t' < T h by omega) u).1
  split
  · refine Int.le_of_eq (b6k fun t' ht' => if_neg ?_)
    have := hw t'
    omega
  · generalize ha : ((s : Int) - x.Walk.High).toNat = a
    generalize hb : ((t : Int) - x.Walk.Low).toNat = b
    have hab : a ≤ b + 1 := by omega
    have hbt : b + 1 ≤ t + 1 := by omega
    have key : b0p (fun t' => if s ≤ t' + wlk d u t' ∧ t' + wlk d u t' < t + 1 then ps h d t' u else 0) (t + 1) ≤ b0p (fun t' => if a ≤ t' ∧ t' < b + 1 then ps h d t' u else 0) (t + 1) := b9d fun t' ht' => by
      have := hw t'
      have := hnnp t' ht'
      by_cases q : s ≤ t' + wlk d u t' ∧ t' + wlk d u t' < t + 1
      · rw [if_pos q, if_pos (by omega)]; exact Int.le_refl _
      · rw [if_neg q]; split <;> omega
    have e3 : ∀ k, k ≤ b + 1 → b0p (fun t' => if a ≤ t' ∧ t' < b + 1 then ps h d t' u else 0) k = if a ≤ k then b1j (fun y => ps h d y u) a k else 0 := by
      intro k
      induction k with
      | zero =>
        intro _
        rw [b4x]
        split
        · have : a = 0 := by omega
          subst this; rw [b3r]
        · rfl
      | succ k ih =>
        intro hk
        rw [b2v, ih (by omega)]
        by_cases q : a ≤ k
        · rw [if_pos q, if_pos (by omega), if_pos (by omega), b4y]
        · rw [if_neg q, if_neg (by omega)]
          by_cases q2 : a = k + 1
          · rw [if_pos (by omega), q2, b3r]; rfl
          · rw [if_neg (by omega)]; rfl
    have e4 : b0p (fun t' => if a ≤ t' ∧ t' < b + 1 then ps h d t' u else 0) (t + 1) = b0p (fun t' => if a ≤ t' ∧ t' < b + 1 then ps h d t' u else 0) (b + 1) := c3n (fun i hi => if_neg (by omega)) (by omega)
    rw [e4, e3 _ (Nat.le_refl _), if_pos hab] at key
    exact key
structure Bnd (h : Hall) (d : Day) (c : Nat) : Prop where
  come : ∀ s t, s ≤ t → t < T h → b1j (cm h d c) s (t + 1) ≤ (own h c).come s t
  most : ∀ t, t < T h → nn h d t c ≤ (own h c).most t
  flow : ∀ t, t < T h → ps h d t c ≤ (own h c).flow t
theorem j6f {c : Nat} (hb : Bnd h d c) {a b : Nat} (hab : a ≤ b) (hbT : b < T h) : b1j (fun y => ps h d y c) a (b + 1) ≤ b9e (own h c) a b := by
  have hps : ∀ i, i < T h → 0 ≤ ps h d i c := fun i hi => (c06 hv hf hi c).1
  have hfl : ∀ {x y : Nat}, x ≤ y → y ≤ T h → b1j (fun y => ps h d y c) x y ≤ b1j (own h c).flow x y := fun hxy hy => c6w hxy fun i _ hi => hb.flow i (by omega)
  have hle : ∀ k, k ≤ b → b1j (fun y => ps h d y c) k (b + 1) ≤ nn h d k c + b1j (cm h d c) (k + 1) (b + 1) := fun k hk => by
    have h1 := d9n hv hf c (show k ≤ b from hk)
    have h2 : b1j (fun y => ps h d y c) k (b + 1) = b1j (fun y => ps h d y c) k b + ps h d b c := b4y
    have h3 : b1j (cm h d c) k (b + 1) = b1j (cm h d c) k (k + 1) + b1j (cm h d c) (k + 1) (b + 1) := c6y
    rw [show b1j (cm h d c) k (k + 1) = cm h d c k from by rw [b4y, b3r]; omega] at h3
    have h4 : ps h d b c = min (nn h d b c) (b1l h c b) := rfl
    omega
  unfold b9e
  rw [d1g]
  refine ⟨Int.le_min.2 ⟨?_, ?_⟩, fun i hi => ?_⟩
  · have h1 := hb.come 0 b (by omega) hbT
    have h2 := hle 0 (by omega)
    simp only [Nat.zero_add] at h2
    have h3 : b1j (fun y => ps h d y c) 0 (b + 1) = b1j (fun y => ps h d y c) 0 a + b1j (fun y => ps h d y c) a (b + 1) := c6y
    have h4 := d9x (f := fun y => ps h d y c) (show 0 ≤ a by omega) fun i _ hi => hps i (by omega)
    have h5 := c3l (h := h) (d := d) (t := 0) (c := c)
    rw [if_neg (by omega)] at h5
    have h6 : b1j (cm h d c) 0 (b + 1) = b1j (cm h d c) 0 1 + b1j (cm h d c) 1 (b + 1) := c6y
    rw [show b1j (cm h d c) 0 1 = cm h d c 0 from by rw [b4y, b3r]; omega] at h6
    omega
  · exact hfl (by omega) (by omega)
  · generalize hk : a + i = k
    unfold way
    have h1 := hfl (x := a) (y := k) (by omega) (by omega)
    have h2 := hle k (by omega)
    have h3 : b1j (fun y => ps h d y c) a (b + 1) = b1j (fun y => ps h d y c) a k + b1j (fun y => ps h d y c) k (b + 1) := c6y
    have h4 := hb.most k (by omega)
    have h5 : b1j (cm h d c) (k + 1) (b + 1) ≤ b4p (own h c) b k := by
      unfold b4p
      by_cases q : k < b
      · rw [if_pos q]; exact hb.come _ _ (by omega) hbT
      · rw [if_neg q, show k = b by omega, b3r]; exact Int.le_refl _
    have h6 : b1j (own h c).flow a k = b0p (own h c).flow k - b0p (own h c).flow a := rfl
    omega
theorem bnd : ∀ c, c < h.Combs.length → Bnd h d c := by
  intro c
  induction c using Nat.strongRecOn with
  | _ c ih =>
    intro hc
    have hcome : ∀ s t, s ≤ t → t < T h → b1j (cm h d c) s (t + 1) ≤ (own h c).come s t := fun s t hst ht => by
      have e : (own h c).come s t = b4r h c (own h) s t := by unfold own; rw [b69]; rfl
      rw [e]
      unfold b4r
      have e1 : b1j (cm h d c) s (t + 1) = b1j (fun x => arr h d x c) s (t + 1) + b1j (fun x => b0p (fun u => b0p (Wt h d (ps h d) x c u) x) h.Combs.length) s (t + 1) := by
        have e0 : cm h d c = fun x => arr h d x c + b0p (fun u => b0p (Wt h d (ps h d) x c u) x) h.Combs.length := rfl
        unfold b1j
        rw [e0, d1w, d1w]; omega
      rw [e1]
      have h1 := g2h hv hf c hst
      rw [c6x]
      have h2 : b0p (fun u => b1j (fun x => b0p (Wt h d (ps h d) x c u) x) s (t + 1)) h.Combs.length ≤ b0p (fun u => if u < c then b2w h c (own h) s t u else 0) h.Combs.length := b9d fun u hu => by
        obtain ⟨x, hx, hnx, hnb⟩ := d86 hv hu
        by_cases q : nxt h u = (c : Int)
        · have huc : u < c := by omega
          have hw := j8n hv hf c u hu hst ht q hx
          have hg := hv.2.1 u x hx
          unfold b4a at hg
          rw [if_pos huc]
          refine Int.le_trans hw ?_
          unfold b2w
          rw [hx]
          simp only
          rw [if_pos (c := x.Next = (c : Int)) (by omega)]
          unfold b73
          by_cases q2 : (t : Int) - x.Walk.Low < 0
          · rw [if_pos q2, if_pos (.inr q2)]; exact Int.le_refl _
          · rw [if_neg q2, if_neg (by omega)]
            have := j6f hv hf (ih u huc hu) (a := ((s : Int) - x.Walk.High).toNat) (b := ((t : Int) - x.Walk.Low).toNat) (by omega) (by omega)
            rwa [show (max ((s : Int) - x.Walk.High) 0).toNat = ((s : Int) - x.Walk.High).toNat by omega]
        · have e0 : b1j (fun x => b0p (Wt h d (ps h d) x c u) x) s (t + 1) = 0 := by
            have hz : ∀ k, b0p (fun x => b0p (Wt h d (ps h d) x c u) x) k = 0 := fun k => b6k fun y _ => b6k fun t' _ => by unfold Wt; exact if_neg fun hh => q hh.1
            unfold b1j
            rw [hz, hz]; rfl
          rw [e0]
          by_cases huc : u < c
          · rw [if_pos huc]
            unfold b2w
            rw [hx]
            simp only
            rw [if_neg (by omega)]; exact Int.le_refl _
          · rw [if_neg huc]; exact Int.le_refl _
      have h3 : b0p (fun u => if u < c then b2w h c (own h) s t u else 0) h.Combs.length = b0p (b2w h c (own h) s t) c := by
        rw [c3n (s := c) (fun i hi => if_neg (by omega)) (by omega)]
        exact b6j fun u hu => if_pos hu
      rw [h3] at h2
      omega
    have hmost : ∀ t, t < T h → nn h d t c ≤ (own h c).most t := fun t ht => by
      obtain ⟨s, hs, e⟩ := j7w hv hf c t ht
      have h1 := hcome s t hs ht
      have h2 := d8q (z := 0) (g := fun s => (own h c).come s t - (b0p (b1l h c) t - b0p (b1l h c) s)) (a := 0) (n := t + 1) (i := s) (by omega)
      have h3 : (own h c).most t = b33 0 (fun s => (own h c).come s t - (b0p (b1l h c) t - b0p (b1l h c) s)) 0 (t + 1) := d8z
      rw [Nat.zero_add] at h2
      rw [h3]
      have h4 : b1j (b1l h c) s t = b0p (b1l h c) t - b0p (b1l h c) s := rfl
      omega
    refine ⟨hcome, hmost, fun t ht => ?_⟩
    have h1 := hmost t ht
    have h2 : (own h c).flow t = min ((own h c).most t) (b1l h c t) := by unfold own; rw [b69]; rfl
    have h3 : ps h d t c = min (nn h d t c) (b1l h c t) := rfl
    omega
end
end Go.Nw.HM
namespace Go.Nw.HM
end Go.Nw.HM
namespace Go.Nw.HM
end Go.Nw.HM
