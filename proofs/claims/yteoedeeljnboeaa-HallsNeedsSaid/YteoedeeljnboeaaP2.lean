/- Plain laws on the models. -/
import Derived.Test.YteoedeeljnboeaaP1
import Derived.Test.YteoedeeljnboeaaNwSearch
set_option linter.all false
set_option linter.unusedVariables false
set_option linter.unusedSimpArgs false
set_option linter.unusedSectionVars false
namespace Go.Nw.HM
structure Crowded (n : Nat) (lo : Int) (l : List Crowd) : Prop where
  each : ∀ (k : Nat) x, l[k]? = some x → 0 ≤ x.Comb ∧ x.Comb < n ∧ 0 ≤ x.People.Low ∧ x.People.Low ≤ x.People.High ∧ x.People.High ≤ 1000
structure Valid (h : Hall) : Prop where
  u1 : 1 ≤ h.Until
  u2 : h.Until ≤ 100
  c1 : 1 ≤ h.Combs.length
  c2 : h.Combs.length ≤ 8
  t2 : h.Trains.length ≤ 12
  s2 : h.Shifts.length ≤ 20
  comb : ∀ (k : Nat) x, h.Combs[k]? = some x → 0 ≤ x.Rate ∧ x.Rate ≤ 1000 ∧ 0 ≤ x.Limit ∧ x.Limit ≤ 100000 ∧ (x.Next = -1 ∨ (k < x.Next ∧ x.Next < h.Combs.length)) ∧ 1 ≤ x.Walk.Low ∧ x.Walk.Low ≤ x.Walk.High ∧ x.Walk.High ≤ 20
  train : ∀ (k : Nat) x, h.Trains[k]? = some x → 0 ≤ x.At.Low ∧ x.At.Low ≤ x.At.High ∧ x.At.High ≤ h.Until - 1 ∧ x.Crowds.length ≤ 4 ∧
    (∀ (j : Nat) y, x.Crowds[j]? = some y → 0 ≤ y.People.Low ∧ y.People.Low ≤ y.People.High ∧ y.People.High ≤ 1000 ∧ y.Comb < h.Combs.length ∧ (match j with | 0 => -1 < y.Comb | j + 1 => ∀ z, x.Crowds[j]? = some z → z.Comb < y.Comb))
  shift : ∀ (k : Nat) x, h.Shifts[k]? = some x → 0 ≤ x.At ∧ x.At < h.Until ∧ 0 ≤ x.Comb ∧ x.Comb < h.Combs.length ∧ 0 ≤ x.Rate ∧ x.Rate ≤ 1000 ∧ (∀ j y, k = j + 1 → h.Shifts[j]? = some y → y.At ≤ x.At)
def b4z (n : Nat) (k : Nat) (x : Comb) : Prop := 0 ≤ x.Rate ∧ x.Rate ≤ 1000 ∧ 0 ≤ x.Limit ∧ x.Limit ≤ 100000 ∧ (x.Next = -1 ∨ ((k : Int) < x.Next ∧ x.Next < n)) ∧ 1 ≤ x.Walk.Low ∧ x.Walk.Low ≤ x.Walk.High ∧ x.Walk.High ≤ 20
def b5k (n : Nat) (l : List Crowd) (j : Nat) (y : Crowd) : Prop := 0 ≤ y.People.Low ∧ y.People.Low ≤ y.People.High ∧ y.People.High ≤ 1000 ∧ y.Comb < n ∧ (match j with | 0 => -1 < y.Comb | j + 1 => ∀ z, l[j]? = some z → z.Comb < y.Comb)
def c0p (n : Nat) (u : Int) (x : Train) : Prop := 0 ≤ x.At.Low ∧ x.At.Low ≤ x.At.High ∧ x.At.High ≤ u - 1 ∧ x.Crowds.length ≤ 4 ∧ ∀ (j : Nat) y, x.Crowds[j]? = some y → b5k n x.Crowds j y
def c0o (n : Nat) (u : Int) (l : List Shift) (k : Nat) (x : Shift) : Prop := 0 ≤ x.At ∧ x.At < u ∧ 0 ≤ x.Comb ∧ x.Comb < n ∧ 0 ≤ x.Rate ∧ x.Rate ≤ 1000 ∧ (∀ j y, k = j + 1 → l[j]? = some y → y.At ≤ x.At)
theorem g2m {h : Hall} (hk : b55 h) : ∃ b, c3v h = some b := by
  unfold c3v
  split
  · exact ⟨_, rfl⟩
  · have hl : h.Trains.length ≤ maxLen := hk.2.1.1
    rcases j2b (f := c1b h) h.Trains (fun _ x => 10 < x.Crowds.length) (.inr true) (.inl ()) (fun k x hx hb => by
      simp only [c1b, b2f hx, Option.bind_some]
      rw [if_pos (by simpa using b1w hx), if_pos (by simp; omega)]) (fun k x hx hb => by
      simp only [c1b, b2f hx, Option.bind_some]
      rw [if_pos (by simpa using b1w hx), if_neg (by simp; omega), b2l (b1w hx) hl]) (by simp [c1b]) with ⟨_, h2⟩ | ⟨_, h2⟩
    · rw [h2]; exact ⟨_, rfl⟩
    · rw [h2]; exact ⟨_, rfl⟩
end Go.Nw.HM
namespace Go.Nw.HM
def b65 (h : Hall) : Prop := 1 ≤ h.Until ∧ h.Until ≤ 100 ∧ 1 ≤ h.Combs.length ∧ h.Combs.length ≤ 8 ∧ h.Trains.length ≤ 12 ∧ h.Shifts.length ≤ 20
def V (h : Hall) : Prop := b65 h ∧ (∀ (k : Nat) x, h.Combs[k]? = some x → b4z h.Combs.length k x) ∧ (∀ (k : Nat) x, h.Trains[k]? = some x → c0p h.Combs.length h.Until x) ∧ (∀ (k : Nat) x, h.Shifts[k]? = some x → c0o h.Combs.length h.Until h.Shifts k x)
def b5o (l : List Crowd) : Nat → Int
  | 0 => -1
  | j + 1 => ((l[j]?).map (·.Comb)).getD 0
theorem d19 {l : List Crowd} {k : Nat} {x : Crowd} (h : l[k]? = some x) : b5o l (k + 1) = x.Comb := by simp [b5o, h]
theorem c26 {n : Nat} {l : List Crowd} {k : Nat} {x : Crowd} (hx : l[k]? = some x) : b5k n l k x ↔ (0 ≤ x.People.Low ∧ x.People.Low ≤ x.People.High ∧ x.People.High ≤ 1000 ∧ x.Comb < n ∧ b5o l k < x.Comb) := by
  unfold b5k
  cases k with
  | zero => simp [b5o]
  | succ j =>
    obtain ⟨z, hz⟩ := b2i (show j < l.length by have := b1w hx; omega)
    simp [b5o, hz]
section
variable {h : Hall} (hk : b55 h) (hs : b65 h)
include hk hs
theorem d4c {t : Train} (ht : b8m t) : ((∀ k x, t.Crowds[k]? = some x → b5k h.Combs.length t.Crowds k x) ∧ b02 (b8g h t) (-1, 0) = some (.inl ())) ∨ ((∃ k x, t.Crowds[k]? = some x ∧ ¬ b5k h.Combs.length t.Crowds k x) ∧ b02 (b8g h t) (-1, 0) = some (.inr 60)) := by
  have hn := d22 (n := h.Combs.length) (by have := hs.2.2.2.1; simp only [maxLen]; omega)
  have hl : t.Crowds.length ≤ maxLen := ht.2.1
  have hpb : ∀ k, (∀ j y, j < k → t.Crowds[j]? = some y → ¬ ¬ b5k h.Combs.length t.Crowds j y) → k ≤ t.Crowds.length → -1 ≤ b5o t.Crowds k ∧ b5o t.Crowds k < 8 := fun k hg hkl => by
    have key : ∀ m, m ≤ k → -1 ≤ b5o t.Crowds m ∧ b5o t.Crowds m < 8 := by
      intro m
      induction m with
      | zero => intro _; simp [b5o]
      | succ m ih =>
        intro hm
        obtain ⟨y, hy⟩ := b2i (show m < t.Crowds.length by omega)
        have hgy := (c26 hy).1 (Classical.not_not.1 (hg m y (by omega) hy))
        have := ih (by omega)
        rw [d19 hy]
        have := hs.2.2.2.1
        omega
    exact key k (Nat.le_refl _)
  have := c30 (f := b8g h t) t.Crowds (fun s k => (s, k)) (b5o t.Crowds) (fun k x => ¬ b5k h.Combs.length t.Crowds k x) (.inr 60) (.inl ()) (fun k x hg hx hb => by
    obtain ⟨p1, p2⟩ := hpb k hg (by have := b1w hx; omega)
    simp only [b8g, b2f hx, Option.bind_some, hn, b8j (show -9223372036854775808 ≤ b5o t.Crowds k + 1 by omega) (by omega)]
    rw [if_pos (by simpa using b1w hx), if_pos]
    rw [c26 hx] at hb
    simp only [b2y, b4v, Bool.or_eq_true, Bool.not_eq_true', Bool.and_eq_false_iff, decide_eq_false_iff_not]
    omega) (fun k x hg hx hb => by
    obtain ⟨p1, p2⟩ := hpb k hg (by have := b1w hx; omega)
    simp only [b8g, b2f hx, Option.bind_some, hn, b8j (show -9223372036854775808 ≤ b5o t.Crowds k + 1 by omega) (by omega)]
    rw [if_pos (by simpa using b1w hx), if_neg, b2l (b1w hx) hl, d19 hx]
    have hb := (c26 hx).1 (Classical.not_not.1 hb)
    simp only [b2y, b4v, Bool.or_eq_true, Bool.not_eq_true', Bool.and_eq_false_iff, decide_eq_false_iff_not]
    omega) (by simp [b8g]) (s0 := -1) rfl
  simpa using this
theorem g54 {t : Train} (ht : b8m t) : ((∀ k x, t.Crowds[k]? = some x → b5k h.Combs.length t.Crowds k x) ∧ b02 (b6w h t) (-1, 0) = some (.inl ())) ∨ ((∃ k x, t.Crowds[k]? = some x ∧ ¬ b5k h.Combs.length t.Crowds k x) ∧ b02 (b6w h t) (-1, 0) = some (.inr false)) := by
  have hl : t.Crowds.length ≤ maxLen := ht.2.1
  have := c30 (f := b6w h t) t.Crowds (fun s k => (s, k)) (b5o t.Crowds) (fun k x => ¬ b5k h.Combs.length t.Crowds k x) (.inr false) (.inl ()) (fun k x hg hx hb => by
    simp only [b6w, b2f hx, Option.bind_some]
    rw [if_pos (by simpa using b1w hx), if_pos]
    rw [c26 hx] at hb
    simp only [b43, Bool.or_eq_true, Bool.not_eq_true', Bool.and_eq_false_iff, decide_eq_false_iff_not, decide_eq_true_eq]
    omega) (fun k x hg hx hb => by
    simp only [b6w, b2f hx, Option.bind_some]
    rw [if_pos (by simpa using b1w hx), if_neg, b2l (b1w hx) hl, d19 hx]
    have hb := (c26 hx).1 (Classical.not_not.1 hb)
    simp only [b43, Bool.or_eq_true, Bool.not_eq_true', Bool.and_eq_false_iff, decide_eq_false_iff_not, decide_eq_true_eq]
    omega) (by simp [b6w]) (s0 := -1) rfl
  simpa using this
theorem j1l {t : Train} (ht : b8m t) : ∃ b, b86 h t = some b ∧ (b = true ↔ c0p h.Combs.length h.Until t) := by
  have hu : wr (h.Until - 1) = h.Until - 1 := b8j (by have := hs.1; omega) (by have := hs.2.1; omega)
  unfold b86
  rcases g54 hk hs ht with ⟨h1, h2⟩ | ⟨⟨k, x, hx, hb⟩, h2⟩
  · rw [h2]
    simp only [Option.bind_some, c01, hu]
    refine ⟨_, rfl, ?_⟩
    simp only [b43, Bool.and_eq_true, decide_eq_true_eq, c0p]
    constructor
    · rintro ⟨⟨⟨a, b⟩, c⟩, d⟩; exact ⟨a, b, c, by omega, h1⟩
    · rintro ⟨a, b, c, d, _⟩; exact ⟨⟨⟨a, b⟩, c⟩, by omega⟩
  · rw [h2]
    refine ⟨false, rfl, by simp; exact fun hg => hb (hg.2.2.2.2 k x hx)⟩
end
end Go.Nw.HM
namespace Go.Nw.HM
theorem g82 {l : List Train} {f : Train → Option Bool} {p : Train → Prop} (hl : l.length ≤ maxLen) (hf : ∀ x ∈ l, ∃ b, f x = some b ∧ (b = true ↔ p x)) :
    ∃ b, c19 l f = some b ∧ (b = true ↔ ∃ x ∈ l, p x) := d57 rfl hl hf
theorem g81 {l : List Int} {f : Int → Option Bool} {p : Int → Prop} (hl : l.length ≤ maxLen) (hf : ∀ x ∈ l, ∃ b, f x = some b ∧ (b = true ↔ p x)) :
    ∃ b, c2a l f = some b ∧ (b = true ↔ ∃ x ∈ l, p x) := d57 rfl hl hf
theorem c7z {j n : Nat} (h : j + 1 < n) (hn : n ≤ maxLen) : wr (((j + 1 : Nat) : Int) - 1) = (j : Int) := by
  rw [b8j (by omega) (by simp only [maxLen] at hn; omega)]; omega
theorem d8b {h : Hall} {k : Nat} {x : Comb} (hx : h.Combs[k]? = some x) : ∃ b, b85 h k = some b ∧ (b = true ↔ b4z h.Combs.length k x) := by
  unfold b85
  rw [b2f hx]
  refine ⟨_, rfl, ?_⟩
  simp only [b4s, b43, b4z, Bool.and_eq_true, Bool.or_eq_true, decide_eq_true_eq]
  omega
theorem g0l {h : Hall} (hk : b55 h) : b65 h ∨ (¬ b65 h ∧ b5l h = some 60 ∧ b5z h = some 60) := by
  by_cases hs : b65 h
  · exact .inl hs
  · refine .inr ⟨hs, ?_, ?_⟩
    · unfold b5l
      rw [if_pos]
      simp only [Bool.or_eq_true, decide_eq_true_eq]
      unfold b65 at hs; omega
    · unfold b5z
      rw [if_pos]
      simp only [b2y, Bool.or_eq_true, Bool.not_eq_true', Bool.and_eq_false_iff, decide_eq_false_iff_not, decide_eq_true_eq]
      unfold b65 at hs; omega
theorem g2k {h : Hall} (hk : b55 h) : (V h ∧ b5l h = some 0) ∨ (¬ V h ∧ b5l h = some 60) := by
  rcases g0l hk with hs | ⟨hs, h1, _⟩
  · have e1 : h.Combs.length ≤ maxLen := hk.1.1
    have e2 : h.Trains.length ≤ maxLen := hk.2.1.1
    have e3 : h.Shifts.length ≤ maxLen := hk.2.2.1.1
    unfold b5l
    rw [if_neg (by simp only [Bool.or_eq_true, decide_eq_true_eq]; unfold b65 at hs; omega)]
    rcases c3z (f := b7t h) h.Combs (fun k x => ¬ b4z h.Combs.length k x) (.inr 60) (.inl ()) (fun k x _ hx hb => by
        obtain ⟨b, b1, b2⟩ := d8b hx
        have : b = false := c8w fun hh => hb (b2.1 hh)
        subst this
        simp [b7t, b1, b1w hx]) (fun k x _ hx hb => by
        obtain ⟨b, b1, b2⟩ := d8b hx
        have : b = true := b2.2 (Classical.not_not.1 hb)
        subst this
        simp [b7t, b1, b1w hx, b2l (b1w hx) e1]) (by simp [b7t]) with ⟨c1, c2⟩ | ⟨⟨k, x, hx, hb⟩, c2⟩
    · rw [c2]
      simp only [Option.bind_some, c0q]
      obtain ⟨b, b1, b2⟩ := g82 (l := h.Trains) (f := fun z => b7r z h) (p := fun t => ¬ c0p h.Combs.length h.Until t) e2 fun t ht => by
        obtain ⟨b, b1, b2⟩ := j1l hk hs (hk.2.1.2 t ht)
        refine ⟨!b, by simp [b7r, b1], ?_⟩
        cases b <;> simp_all
      rw [b1]
      simp only [Option.bind_some]
      cases b with
      | true =>
        rw [if_pos rfl]
        obtain ⟨t, ht, hbad⟩ := b2.1 rfl
        obtain ⟨j, hj, rfl⟩ := List.getElem_of_mem ht
        exact .inr ⟨fun hv => hbad (hv.2.2.1 j _ (List.getElem?_eq_getElem hj)), rfl⟩
      | false =>
        rw [if_neg (by simp)]
        have ht : ∀ (k : Nat) x, h.Trains[k]? = some x → c0p h.Combs.length h.Until x := fun k x hx => Classical.byContradiction fun hn => by have := b2.2 ⟨x, List.mem_of_getElem? hx, hn⟩; cases this
        rcases c3z (f := b7s h) h.Shifts (fun k x => ¬ c0o h.Combs.length h.Until h.Shifts k x) (.inr 60) (.inl ()) (fun k x _ hx hb => by
            simp only [b7s, b2f hx, Option.bind_some]
            rw [if_pos (by simpa using b1w hx)]
            unfold c0o at hb
            by_cases q : x.At < 0 ∨ h.Until ≤ x.At
            · rw [if_pos (by simpa using q)]; simp
            · rw [if_neg (by simpa using q)]
              cases k with
              | zero =>
                simp only [Int.natCast_zero, Int.lt_irrefl, decide_false, Bool.false_eq_true, if_false, Option.bind_some, Bool.false_or]
                rw [if_pos]
                simp only [b4s, Bool.or_eq_true, Bool.not_eq_true', Bool.and_eq_false_iff, decide_eq_false_iff_not, decide_eq_true_eq]
                refine Classical.byContradiction fun hc => hb ⟨by omega, by omega, by omega, by omega, by omega, by omega, fun j y hj => by omega⟩
              | succ j =>
                obtain ⟨y, hy⟩ := b2i (show j < h.Shifts.length by have := b1w hx; omega)
                rw [if_pos (by simp <;> omega), c7z (b1w hx) e3, b2f hy]
                simp only [Option.bind_some]
                rw [if_pos]
                simp only [b4s, Bool.or_eq_true, Bool.not_eq_true', Bool.and_eq_false_iff, decide_eq_false_iff_not, decide_eq_true_eq]
                refine Classical.byContradiction fun hc => hb ⟨by omega, by omega, by omega, by omega, by omega, by omega, fun j' y' hj' hy' => by
                  obtain rfl : j' = j := by omega
                  rw [hy] at hy'; cases hy'; omega⟩) (fun k x _ hx hb => by
            have hb := Classical.not_not.1 hb
            obtain ⟨q1, q2, q3, q4, q5, q6, q7⟩ := hb
            simp only [b7s, b2f hx, Option.bind_some]
            rw [if_pos (by simpa using b1w hx), if_neg (by simp; omega)]
            cases k with
            | zero =>
              simp only [Int.natCast_zero, Int.lt_irrefl, decide_false, Bool.false_eq_true, if_false, Option.bind_some, Bool.false_or]
              rw [if_neg]
              · rfl
              · simp only [b4s, Bool.or_eq_true, Bool.not_eq_true', Bool.and_eq_false_iff, decide_eq_false_iff_not, decide_eq_true_eq]
                omega
            | succ j =>
              obtain ⟨y, hy⟩ := b2i (show j < h.Shifts.length by have := b1w hx; omega)
              have := q7 j y rfl hy
              rw [if_pos (by simp <;> omega), c7z (b1w hx) e3, b2f hy]
              simp only [Option.bind_some]
              rw [if_neg, b2l (b1w hx) e3]
              simp only [b4s, Bool.or_eq_true, Bool.not_eq_true', Bool.and_eq_false_iff, decide_eq_false_iff_not, decide_eq_true_eq]
              omega) (by simp [b7s]) with ⟨d1, d2⟩ | ⟨⟨k, x, hx, hb⟩, d2⟩
        · rw [d2]
          exact .inl ⟨⟨hs, fun k x hx => Classical.not_not.1 (c1 k x hx), ht, fun k x hx => Classical.not_not.1 (d1 k x hx)⟩, rfl⟩
        · rw [d2]
          exact .inr ⟨fun hv => hb (hv.2.2.2 k x hx), rfl⟩
    · rw [c2]
      exact .inr ⟨fun hv => hb (hv.2.1 k x hx), rfl⟩
  · exact .inr ⟨fun hv => hs hv.1, h1⟩
end Go.Nw.HM
namespace Go.Nw.HM
theorem g2l {h : Hall} (hk : b55 h) : (V h ∧ b5z h = some 0) ∨ (¬ V h ∧ b5z h = some 60) := by
  rcases g0l hk with hs | ⟨hs, _, h1⟩
  · have e1 : h.Combs.length ≤ maxLen := hk.1.1
    have e2 : h.Trains.length ≤ maxLen := hk.2.1.1
    have e3 : h.Shifts.length ≤ maxLen := hk.2.2.1.1
    have hu : wr (h.Until - 1) = h.Until - 1 := b8j (by have := hs.1; omega) (by have := hs.2.1; omega)
    have hn := d22 e1
    unfold b5z
    rw [if_neg (by simp only [b2y, Bool.or_eq_true, Bool.not_eq_true', Bool.and_eq_false_iff, decide_eq_false_iff_not, decide_eq_true_eq]; unfold b65 at hs; omega)]
    rcases c3z (f := c1u h) h.Combs (fun k x => ¬ b4z h.Combs.length k x) (.inr 60) (.inl ()) (fun k x _ hx hb => by
        simp only [c1u, b2f hx, Option.bind_some, hn, b2l (b1w hx) e1]
        rw [if_pos (by simpa using b1w hx), if_pos]
        simp only [b2y, b4v, Bool.or_eq_true, Bool.and_eq_true, Bool.not_eq_true', Bool.and_eq_false_iff, decide_eq_false_iff_not, decide_eq_true_eq]
        unfold b4z at hb; omega) (fun k x _ hx hb => by
        have hb := Classical.not_not.1 hb
        simp only [c1u, b2f hx, Option.bind_some, hn, b2l (b1w hx) e1]
        rw [if_pos (by simpa using b1w hx), if_neg]
        simp only [b2y, b4v, Bool.or_eq_true, Bool.and_eq_true, Bool.not_eq_true', Bool.and_eq_false_iff, decide_eq_false_iff_not, decide_eq_true_eq]
        unfold b4z at hb; omega) (by simp [c1u]) with ⟨c1, c2⟩ | ⟨⟨k, x, hx, hb⟩, c2⟩
    · rw [c2]
      simp only [Option.bind_some, c7c]
      rcases c3z (f := c1v h) h.Trains (fun _ x => ¬ c0p h.Combs.length h.Until x) (.inr 60) (.inl ()) (fun k x _ hx hb => by
          simp only [c1v, b2f hx, Option.bind_some, hu]
          rw [if_pos (by simpa using b1w hx)]
          by_cases q : ¬ (0 ≤ x.At.Low ∧ x.At.Low ≤ x.At.High ∧ x.At.High ≤ h.Until - 1) ∨ 4 < x.Crowds.length
          · rw [if_pos]
            simp only [b4v, Bool.or_eq_true, Bool.not_eq_true', Bool.and_eq_false_iff, decide_eq_false_iff_not, decide_eq_true_eq]
            omega
          · rw [if_neg (by
              simp only [b4v, Bool.or_eq_true, Bool.not_eq_true', Bool.and_eq_false_iff, decide_eq_false_iff_not, decide_eq_true_eq]
              omega)]
            rcases d4c hk hs (hk.2.1.2 x (List.mem_of_getElem? hx)) with ⟨d1, d2⟩ | ⟨_, d2⟩
            · exact absurd ⟨by omega, by omega, by omega, by omega, d1⟩ hb
            · rw [d2]; rfl) (fun k x _ hx hb => by
          have hb := Classical.not_not.1 hb
          obtain ⟨q1, q2, q3, q4, q5⟩ := hb
          simp only [c1v, b2f hx, Option.bind_some, hu]
          rw [if_pos (by simpa using b1w hx), if_neg (by
              simp only [b4v, Bool.or_eq_true, Bool.not_eq_true', Bool.and_eq_false_iff, decide_eq_false_iff_not, decide_eq_true_eq]
              omega)]
          rcases d4c hk hs (hk.2.1.2 x (List.mem_of_getElem? hx)) with ⟨d1, d2⟩ | ⟨⟨j, y, hy, hb⟩, d2⟩
          · rw [d2]; simp only [Option.bind_some, c7b, b2l (b1w hx) e2]
          · exact absurd (q5 j y hy) hb) (by simp [c1v]) with ⟨t1, t2⟩ | ⟨⟨k, x, hx, hb⟩, t2⟩
      · rw [t2]
        simp only [Option.bind_some, c7d]
        rcases c3z (f := c1w h) h.Shifts (fun k x => ¬ c0o h.Combs.length h.Until h.Shifts k x) (.inr 60) (.inl ()) (fun k x _ hx hb => by
            simp only [c1w, b2f hx, Option.bind_some, hu, hn]
            rw [if_pos (by simpa using b1w hx)]
            unfold c0o at hb
            by_cases q : 0 ≤ x.At ∧ x.At < h.Until ∧ 0 ≤ x.Comb ∧ x.Comb < h.Combs.length ∧ 0 ≤ x.Rate ∧ x.Rate ≤ 1000
            · rw [if_neg (by
                simp only [b2y, Bool.or_eq_true, Bool.not_eq_true', Bool.and_eq_false_iff, decide_eq_false_iff_not, decide_eq_true_eq]
                omega)]
              cases k with
              | zero => exact absurd ⟨q.1, q.2.1, q.2.2.1, q.2.2.2.1, q.2.2.2.2.1, q.2.2.2.2.2, fun j y hj => by omega⟩ hb
              | succ j =>
                obtain ⟨y, hy⟩ := b2i (show j < h.Shifts.length by have := b1w hx; omega)
                rw [if_pos (by simp <;> omega), c7z (b1w hx) e3, b2f hy]
                simp only [Option.bind_some]
                rw [if_pos]
                simp only [decide_eq_true_eq]
                refine Classical.byContradiction fun hc => hb ⟨by omega, by omega, by omega, by omega, by omega, by omega, fun j' y' hj' hy' => by
                  obtain rfl : j' = j := by omega
                  rw [hy] at hy'; cases hy'; omega⟩
            · rw [if_pos (by
                simp only [b2y, Bool.or_eq_true, Bool.not_eq_true', Bool.and_eq_false_iff, decide_eq_false_iff_not, decide_eq_true_eq]
                omega)]
              simp) (fun k x _ hx hb => by
            have hb := Classical.not_not.1 hb
            obtain ⟨q1, q2, q3, q4, q5, q6, q7⟩ := hb
            simp only [c1w, b2f hx, Option.bind_some, hu, hn]
            rw [if_pos (by simpa using b1w hx), if_neg (by
                simp only [b2y, Bool.or_eq_true, Bool.not_eq_true', Bool.and_eq_false_iff, decide_eq_false_iff_not, decide_eq_true_eq]
                omega)]
            cases k with
            | zero => simp; rfl
            | succ j =>
              obtain ⟨y, hy⟩ := b2i (show j < h.Shifts.length by have := b1w hx; omega)
              have := q7 j y rfl hy
              rw [if_pos (by simp <;> omega), c7z (b1w hx) e3, b2f hy]
              simp only [Option.bind_some]
              rw [if_neg (by simp only [decide_eq_true_eq]; omega), b2l (b1w hx) e3]) (by simp [c1w]) with ⟨d1, d2⟩ | ⟨⟨k, x, hx, hb⟩, d2⟩
        · rw [d2]
          exact .inl ⟨⟨hs, fun k x hx => Classical.not_not.1 (c1 k x hx), fun k x hx => Classical.not_not.1 (t1 k x hx), fun k x hx => Classical.not_not.1 (d1 k x hx)⟩, rfl⟩
        · rw [d2]
          exact .inr ⟨fun hv => hb (hv.2.2.2 k x hx), rfl⟩
      · rw [t2]
        exact .inr ⟨fun hv => hb (hv.2.2.1 k x hx), rfl⟩
    · rw [c2]
      exact .inr ⟨fun hv => hb (hv.2.1 k x hx), rfl⟩
  · exact .inr ⟨fun hv => hs hv.1, h1⟩
theorem d27 {h : Hall} (hk : b55 h) : (V h ∧ b5l h = some 0 ∧ b5z h = some 0) ∨ (¬ V h ∧ b5l h = some 60 ∧ b5z h = some 60) := by
  rcases g2k hk with ⟨h1, h2⟩ | ⟨h1, h2⟩ <;> rcases g2l hk with ⟨h3, h4⟩ | ⟨h3, h4⟩
  · exact .inl ⟨h1, h2, h4⟩
  · exact absurd h1 h3
  · exact absurd h3 h1
  · exact .inr ⟨h1, h2, h4⟩
end Go.Nw.HM
namespace Go.Nw.HM
def T (h : Hall) : Nat := h.Until.toNat
def b3p (h : Hall) (c : Nat) : Int := ((h.Combs[c]?).map (·.Rate)).getD 0
def b2d (c : Nat) (t : Int) (a : Int) (s : Shift) : Int := if s.Comb = (c : Int) ∧ s.At ≤ t then s.Rate else a
def b1t (h : Hall) (c : Nat) (t : Nat) : Int := h.Shifts.foldl (b2d c t) (b3p h c)
theorem b34 {h : Hall} (hv : V h) : (T h : Int) = h.Until := by have := hv.1.1; unfold T; omega
theorem b29 {h : Hall} (hv : V h) : T h ≤ 100 := by have := hv.1.2.1; unfold T; omega
def c4p (c : Nat) (a : Int) (s : Shift) : Int := if s.Comb = (c : Int) then s.Rate else a
def G (h : Hall) (c k : Nat) : Int := (h.Shifts.take k).foldl (c4p c) (b3p h c)
theorem g2q {h : Hall} {c k : Nat} {x : Shift} (hx : h.Shifts[k]? = some x) : G h c (k + 1) = if x.Comb = (c : Int) then x.Rate else G h c k := by
  unfold G
  rw [List.take_add_one, hx]
  simp [List.foldl_append, c4p]
theorem c7v {h : Hall} (hv : V h) : ∀ (d j : Nat) (x y : Shift), h.Shifts[j]? = some x → h.Shifts[j + d]? = some y → x.At ≤ y.At := by
  intro d
  induction d with
  | zero => intro j x y hx hy; rw [Nat.add_zero, hx] at hy; cases hy; exact Int.le_refl _
  | succ d ih =>
    intro j x y hx hy
    obtain ⟨z, hz⟩ := b2i (show j + d < h.Shifts.length by have := b1w hy; omega)
    have h1 := ih j x z hx hz
    have h2 := (hv.2.2.2 _ y hy).2.2.2.2.2.2 (j + d) z (by omega) hz
    omega
def d3a (h : Hall) (t : Int) (k : Nat) : Prop := k ≤ h.Shifts.length ∧ (∀ j x, j < k → h.Shifts[j]? = some x → x.At ≤ t) ∧ ∀ x, h.Shifts[k]? = some x → t < x.At
theorem g2p {h : Hall} (hv : V h) {c k t : Nat} (hu : d3a h t k) : G h c k = b1t h c t := by
  unfold G b1t
  conv => rhs; rw [← List.take_append_drop k h.Shifts, List.foldl_append]
  have e1 : (h.Shifts.take k).foldl (c4p c) (b3p h c) = (h.Shifts.take k).foldl (b2d c t) (b3p h c) := by
    have : ∀ (l : List Shift), (∀ x ∈ l, x.At ≤ (t : Int)) → ∀ a, l.foldl (c4p c) a = l.foldl (b2d c t) a := by
      intro l
      induction l with
      | nil => intro _ a; rfl
      | cons s l ih =>
        intro hl a
        simp only [List.foldl_cons]
        rw [ih (fun x hx => hl x (List.mem_cons_of_mem _ hx))]
        congr 1
        simp [c4p, b2d, hl s List.mem_cons_self]
    refine this _ (fun x hx => ?_) _
    obtain ⟨j, hj, rfl⟩ := List.getElem_of_mem hx
    have hj' : j < k := by simp at hj; omega
    have hjl : j < h.Shifts.length := by simp at hj; omega
    refine hu.2.1 j _ hj' ?_
    rw [List.getElem_take, List.getElem?_eq_getElem hjl]
  rw [e1]
  have : ∀ (l : List Shift), (∀ x ∈ l, (t : Int) < x.At) → ∀ a, l.foldl (b2d c t) a = a := by
    intro l
    induction l with
    | nil => intro _ a; rfl
    | cons s l ih =>
      intro hl a
      have := hl s List.mem_cons_self
      simp only [List.foldl_cons]
      rw [show b2d c t a s = a from by unfold b2d; rw [if_neg (by omega)]]
      exact ih (fun x hx => hl x (List.mem_cons_of_mem _ hx)) a
  refine (this _ ?_ _).symm
  intro x hx
  obtain ⟨j, hj, rfl⟩ := List.getElem_of_mem hx
  have hjl : k + j < h.Shifts.length := by simp at hj; omega
  obtain ⟨z, hz⟩ := b2i (show k < h.Shifts.length by omega)
  have h1 := hu.2.2 z hz
  have h2 := c7v hv j k z _ hz (List.getElem?_eq_getElem hjl)
  rw [List.getElem_drop]
  omega
theorem j0s {h : Hall} (hv : V h) (c t : Nat) : ∀ (d k : Nat), h.Shifts.length - k = d → k ≤ h.Shifts.length → (∀ j x, j < k → h.Shifts[j]? = some x → x.At ≤ (t : Int)) →
    ∃ k', b02 (b73 h c t) (G h c k, (k : Int)) = some (G h c k', (k' : Int)) ∧ d3a h t k' := by
  have hl : h.Shifts.length ≤ maxLen := by have := hv.1.2.2.2.2.2; simp only [maxLen]; omega
  intro d
  induction d with
  | zero =>
    intro k hd hk hb
    have : k = h.Shifts.length := by omega
    subst this
    refine ⟨h.Shifts.length, b4k (by simp [b73]), Nat.le_refl _, hb, fun x hx => ?_⟩
    have := b1w hx; omega
  | succ d ih =>
    intro k hd hk hb
    obtain ⟨x, hx⟩ := b2i (show k < h.Shifts.length by omega)
    by_cases hat : x.At ≤ (t : Int)
    · rw [b7e (s' := (G h c (k + 1), ((k + 1 : Nat) : Int))) (by
        simp only [b73, b2f hx, Option.bind_some]
        rw [if_pos (by simpa using b1w hx)]
        simp only [Option.bind_some, hat, decide_true, if_true, b9c, b2l (b1w hx) hl, g2q hx]
        by_cases e : x.Comb = (c : Int)
        · simp [e]
        · simp [e])]
      refine ih (k + 1) (by omega) (by omega) fun j y hj hy => ?_
      by_cases e : j = k
      · subst e; rw [hx] at hy; cases hy; exact hat
      · exact hb j y (by omega) hy
    · refine ⟨k, b4k (by
        simp only [b73, b2f hx, Option.bind_some]
        rw [if_pos (by simpa using b1w hx)]
        simp [hat]), by omega, hb, fun y hy => ?_⟩
      rw [hx] at hy; cases hy; omega
theorem j7z {h : Hall} (hv : V h) {c : Nat} (hc : c < h.Combs.length) : b9a h c = some (tab (T h) (b1t h c)) := by
  obtain ⟨x, hx⟩ := b2i hc
  have hT := b29 hv
  unfold b9a
  rw [← b34 hv, b8c (by omega) (by omega)]
  simp only [Option.bind_some, b2f hx]
  obtain ⟨b, h1, h2⟩ := d1v (f := b9b h c (tab (T h) fun _ => 0)) (T h) (fun (s : List Int × Int × Int) k => (s.1, s.2.1, s.2.2, k))
    (fun k s => ∃ m : Nat, s = (fill (T h) (b1t h c) 0 k, G h c m, (m : Int)) ∧ m ≤ h.Shifts.length ∧ ∀ j x, j < m → h.Shifts[j]? = some x → x.At < (k : Int)) (fun b => b = tab (T h) (b1t h c))
    (fun s k hk ⟨m, hs, hm, hm2⟩ => by
      subst hs
      obtain ⟨k', i1, i2⟩ := j0s hv c k (h.Shifts.length - m) m rfl hm fun j x hj hx => by have := hm2 j x hj hx; omega
      refine .inl ⟨(fill (T h) (b1t h c) 0 (k + 1), G h c k', (k' : Int)), ?_, k', rfl, i2.1, fun j x hj hx => by have := i2.2.1 j x hj hx; omega⟩
      simp only [b9b, b3t]
      rw [if_pos (by simpa using hk), i1]
      simp only [Option.bind_some, c03, c0n hk, c02, b2l hk (by simp only [maxLen]; omega)]
      rw [show ((k : Nat) : Int).toNat = k from by omega, c0j (g2p hv i2)])
    (fun s ⟨m, hs, _⟩ => by
      subst hs
      exact ⟨fill (T h) (b1t h c) 0 (T h), by simp [b9b, b3t], by rw [b8x (Nat.le_refl _)]⟩) (s := (tab (T h) (fun _ => 0), x.Rate, 0)) 0 (by omega) ⟨0, by
        rw [← b9z, c0k (f := b1t h c)]
        simp [G, b3p, hx], by omega, fun j x hj => by omega⟩
  simp only at h1
  rw [show ((0 : Nat) : Int) = 0 from rfl] at h1
  rw [h1, h2]; rfl
theorem c4d {h : Hall} (hv : V h) {c : Nat} (t : Nat) : 0 ≤ b1t h c t ∧ b1t h c t ≤ 1000 := by
  unfold b1t
  have h0 : 0 ≤ b3p h c ∧ b3p h c ≤ 1000 := by
    unfold b3p
    cases hx : h.Combs[c]? with
    | none => simp
    | some x => have := hv.2.1 c x hx; simp [b4z] at this ⊢; omega
  have : ∀ (l : List Shift), (∀ x ∈ l, 0 ≤ x.Rate ∧ x.Rate ≤ 1000) → ∀ a, 0 ≤ a ∧ a ≤ 1000 → 0 ≤ l.foldl (b2d c t) a ∧ l.foldl (b2d c t) a ≤ 1000 := by
    intro l
    induction l with
    | nil => intro _ a ha; exact ha
    | cons s l ih =>
      intro hl a ha
      refine ih (fun x hx => hl x (List.mem_cons_of_mem _ hx)) _ ?_
      have := hl s List.mem_cons_self
      unfold b2d; split <;> omega
  refine this _ (fun x hx => ?_) _ h0
  obtain ⟨j, hj, rfl⟩ := List.getElem_of_mem hx
  have := hv.2.2.2 j _ (List.getElem?_eq_getElem hj)
  exact ⟨this.2.2.2.2.1, this.2.2.2.2.2.1⟩
theorem d9a {h : Hall} (hv : V h) : b5y h = some (tab h.Combs.length fun c => tab (T h) (b1t h c)) := by
  unfold b5y
  have hn := hv.1.2.2.2.1
  have := b3m (f := b88 h) h.Combs.length (fun s k => (s, k)) (fun k => tab k fun c => tab (T h) (b1t h c)) (tab h.Combs.length fun c => tab (T h) (b1t h c)) (s0 := []) rfl (fun k hk => by
    simp only [b88]
    rw [if_pos (by simpa using hk), j7z hv hk]
    simp only [Option.bind_some]
    rw [b3v (by simp [b3t]; omega)]
    simp only [Option.bind_some, b2l hk (by simp only [maxLen]; omega), b64]) (by simp [b88])
  rw [this]; rfl
end Go.Nw.HM
namespace Go.Nw.HM
def b5v (c : Nat) (y : Crowd) : Int := if y.Comb = (c : Int) then y.People.High else 0
def b4n (c s t : Nat) (x : Train) : Int := if x.At.High < (s : Int) ∨ (t : Int) < x.At.Low then 0 else (x.Crowds.map (b5v c)).sum
def b4i (h : Hall) (c s t : Nat) : Int := (h.Trains.map (b4n c s t)).sum
theorem c5j {h : Hall} (hv : V h) {x : Train} (hx : x ∈ h.Trains) (c k : Nat) (hk : k ≤ x.Crowds.length) : 0 ≤ b3y x.Crowds (b5v c) k ∧ b3y x.Crowds (b5v c) k ≤ 4000 := by
  obtain ⟨j, hj, rfl⟩ := List.getElem_of_mem hx
  have hg := hv.2.2.1 j _ (List.getElem?_eq_getElem hj)
  have := d9s (l := h.Trains[j].Crowds) (g := b5v c) (B := 1000) (fun y hy => by
    obtain ⟨i, hi, rfl⟩ := List.getElem_of_mem hy
    have := hg.2.2.2.2 i _ (List.getElem?_eq_getElem hi)
    unfold b5k at this
    unfold b5v; split <;> omega) k hk
  have := hg.2.2.2.1
  omega
theorem j9k {h : Hall} (hv : V h) {x : Train} (hx : x ∈ h.Trains) (c s t : Nat) : 0 ≤ b4n c s t x ∧ b4n c s t x ≤ 4000 := by
  unfold b4n
  split
  · omega
  · rw [← c1e]; exact c5j hv hx c _ (Nat.le_refl _)
theorem d2y {h : Hall} (hv : V h) (c s t k : Nat) (hk : k ≤ h.Trains.length) : 0 ≤ b3y h.Trains (b4n c s t) k ∧ b3y h.Trains (b4n c s t) k ≤ 48000 := by
  have := d9s (l := h.Trains) (g := b4n c s t) (B := 4000) (fun x hx => j9k hv hx c s t) k hk
  have := hv.1.2.2.2.2.1
  omega
theorem c8x {h : Hall} (hv : V h) (c s t : Nat) : 0 ≤ b4i h c s t ∧ b4i h c s t ≤ 48000 := by
  unfold b4i; rw [← c1e]; exact d2y hv c s t _ (Nat.le_refl _)
theorem b1v {n : Int} (h1 : -1000000000000 ≤ n) (h2 : n ≤ 1000000000000) : wr n = n := b8j (by omega) (by omega)
theorem g34 {h : Hall} (hv : V h) (c s t : Nat) : b82 h c s t = some (b4i h c s t) := by
  have e2 : h.Trains.length ≤ maxLen := by have := hv.1.2.2.2.2.1; simp only [maxLen]; omega
  unfold b82
  have := b3m (f := b84 h c s t) h.Trains.length (fun s k => (s, k)) (b3y h.Trains (b4n c s t)) (b4i h c s t) (s0 := 0) c35.symm (fun k hk => by
    obtain ⟨x, hx⟩ := b2i hk
    have hm := List.mem_of_getElem? hx
    simp only [b84, b2f hx, Option.bind_some]
    rw [if_pos (by simpa using hk), c1f hx]
    have hb := d2y hv c s t k (by omega)
    by_cases q : x.At.High < (s : Int) ∨ (t : Int) < x.At.Low
    · rw [if_pos (by simpa using q)]
      simp only [b70, b2l hk e2]
      rw [show b4n c s t x = 0 from if_pos q, Int.add_zero]
    · rw [if_neg (by simpa using q)]
      have e3 : x.Crowds.length ≤ maxLen := by have := (hv.2.2.1 k x hx).2.2.2.1; simp only [maxLen]; omega
      have := b3m (f := b83 c x) x.Crowds.length (fun s k => (s, k)) (fun j => b3y h.Trains (b4n c s t) k + b3y x.Crowds (b5v c) j) (b3y h.Trains (b4n c s t) k + b4n c s t x) (s0 := b3y h.Trains (b4n c s t) k) (by simp [c35]) (fun j hj => by
        obtain ⟨y, hy⟩ := b2i hj
        have hc1 := c5j hv hm c j (by omega)
        have hc2 := c5j hv hm c (j + 1) (by omega)
        simp only [b83, b2f hy, Option.bind_some]
        rw [if_pos (by simpa using hj), c1f hy]
        rw [c1f hy] at hc2
        by_cases e : y.Comb = (c : Int)
        · rw [if_pos (by simpa using e)]
          rw [show b5v c y = y.People.High from if_pos e] at hc2 ⊢
          simp only [b7z, b2l hj e3]
          rw [b1v (by omega) (by omega), Int.add_assoc]
        · rw [if_neg (by simpa using e)]
          rw [show b5v c y = 0 from if_neg e]
          simp only [b7z, b2l hj e3, Int.add_zero]) (by
        simp only [b83]
        rw [if_neg (by simp), c1e, show b4n c s t x = (x.Crowds.map (b5v c)).sum from if_neg q])
      rw [this]
      simp only [Option.bind_some, b70, b2l hk e2]) (by
    simp only [b84]
    rw [if_neg (by simp), c1e]; rfl)
  rw [this]; rfl
structure Bd where
  come : Nat → Nat → Int
  most : Nat → Int
  flow : Nat → Int
  deriving Inhabited
def b4g (b : Bd) (to k : Nat) : Int := if k < to then b.come (k + 1) to else 0
def way (b : Bd) (a to k : Nat) : Int := b01 b.flow k - b01 b.flow a + b.most k + b4g b to k
def b9n (b : Bd) (a to : Nat) : Int := b4c (min (b.come 0 to) (b01 b.flow (to + 1) - b01 b.flow a)) (way b a to) a (to + 1 - a)
def b6k (b : Bd) (from_ to_ : Int) : Int := if to_ < from_ ∨ to_ < 0 then 0 else b9n b (max from_ 0).toNat to_.toNat
def b2s (h : Hall) (c : Nat) (prev : Nat → Bd) (s t u : Nat) : Int := match h.Combs[u]? with
  | some x => if x.Next = (c : Int) then b6k (prev u) ((s : Int) - x.Walk.High) ((t : Int) - x.Walk.Low) else 0
  | none => 0
def b5h (h : Hall) (c : Nat) (prev : Nat → Bd) (s t : Nat) : Int := b4i h c s t + b01 (b2s h c prev s t) c
def c6s (come : Nat → Nat → Int) (R : Nat → Int) (t : Nat) : Int := b36 0 (fun s => come s t - (b01 R t - b01 R s)) 0 (t + 1)
def b8b (h : Hall) (R : Nat → Nat → Int) (c : Nat) (prev : Nat → Bd) : Bd :=
  { come := b5h h c prev, most := c6s (b5h h c prev) (R c), flow := fun t => min (c6s (b5h h c prev) (R c) t) (R c t) }
def bdL (h : Hall) (R : Nat → Nat → Int) : Nat → Nat → Bd
  | 0 => fun _ => default
  | n + 1 => fun u => if u = n then b8b h R n (bdL h R n) else bdL h R n u
def bd (h : Hall) (R : Nat → Nat → Int) (c : Nat) : Bd := bdL h R (c + 1) c
theorem d3n {h : Hall} {R : Nat → Nat → Int} {n u : Nat} : bdL h R (n + 1) u = if u = n then b8b h R n (bdL h R n) else bdL h R n u := rfl
theorem g3g {h : Hall} {R : Nat → Nat → Int} {n u : Nat} (hu : u < n) : bdL h R n u = bd h R u := by
  induction n with
  | zero => omega
  | succ n ih =>
    by_cases e : u = n
    · subst e; rfl
    · rw [d3n, if_neg e]; exact ih (by omega)
theorem j9t {h : Hall} {c s t u : Nat} {p q : Nat → Bd} (hpq : p u = q u) : b2s h c p s t u = b2s h c q s t u := by
  unfold b2s; rw [hpq]
theorem c5f {h : Hall} {c : Nat} {p q : Nat → Bd} (hpq : ∀ u, u < c → p u = q u) : b5h h c p = b5h h c q := by
  funext s t
  unfold b5h
  rw [c6u fun u hu => j9t (hpq u hu)]
theorem b5r {h : Hall} {R : Nat → Nat → Int} {c : Nat} : bd h R c = b8b h R c (bd h R) := by
  have : bd h R c = b8b h R c (bdL h R c) := by show bdL h R (c + 1) c = _; rw [d3n, if_pos rfl]
  rw [this]
  unfold b8b
  rw [c5f fun u hu => g3g hu]
end Go.Nw.HM
namespace Go.Nw.HM
structure BdOk (b : Bd) (n : Nat) (B : Int) : Prop where
  come : ∀ s t, s ≤ t → t < n → 0 ≤ b.come s t ∧ b.come s t ≤ B
  most : ∀ t, t < n → 0 ≤ b.most t ∧ b.most t ≤ B
  flow : ∀ t, t < n → 0 ≤ b.flow t ∧ b.flow t ≤ 1000
def b22 (n : Nat) (b : Bd) (s : Nat) : List Int := tab n fun t => if s ≤ t then b.come s t else 0
def bdT (n : Nat) (b : Bd) (r : Nat → Int) : halls_bound := ⟨tab (n + 1) (b01 r), tab (n + 1) (b01 b.flow), tab n b.most, tab n (b22 n b)⟩
theorem b68 {n : Nat} {b : Bd} {s t : Nat} (ht : t < n) (hst : s ≤ t) : get (b22 n b s) (t : Int) = some (b.come s t) := by
  unfold b22; rw [b2c ht, if_pos hst]
section
variable {n : Nat} {b : Bd} {B : Int} (hb : BdOk b n B) (hB : B ≤ 1000000000) (hn : n ≤ 1000) {r : Nat → Int}
include hb hB hn
theorem c21 {a k : Nat} (hak : a ≤ k) (hk : k ≤ n) : 0 ≤ b01 b.flow k - b01 b.flow a ∧ b01 b.flow k - b01 b.flow a ≤ 1000000 := by
  have := d12 (f := b.flow) (B := 1000) hak fun i h1 h2 => hb.flow i (by omega)
  omega
theorem c8u {to k : Nat} (hk : k ≤ to) (hto : to < n) : 0 ≤ b4g b to k ∧ b4g b to k ≤ B := by
  have := hb.most k (by omega)
  unfold b4g; split
  · exact hb.come _ _ (by omega) hto
  · omega
theorem j9x {a to k : Nat} (hak : a ≤ k) (hk : k ≤ to) (hto : to < n) : 0 ≤ way b a to k ∧ way b a to k ≤ 3000000000 := by
  have h1 := c21 hb hB hn hak (show k ≤ n by omega)
  have h2 := hb.most k (by omega)
  have h3 := c8u hb hB hn hk hto
  unfold way; omega
theorem j7i {a to : Nat} (ha : a ≤ to) (hto : to < n) : 0 ≤ b9n b a to ∧ b9n b a to ≤ B := by
  have h1 := hb.come 0 to (by omega) hto
  have h2 := c21 hb hB hn (show a ≤ to + 1 by omega) (show to + 1 ≤ n by omega)
  unfold b9n
  refine ⟨c3x.2 ⟨by omega, fun i hi => (j9x hb hB hn (by omega) (show a + i ≤ to by omega) hto).1⟩, ?_⟩
  have := c6n (z := min (b.come 0 to) (b01 b.flow (to + 1) - b01 b.flow a)) (g := way b a to) (a := a) (n := to + 1 - a)
  omega
theorem d9n {f t : Int} (ht : t < n) : 0 ≤ b6k b f t ∧ b6k b f t ≤ max 0 B := by
  unfold b6k
  split
  · omega
  · have := j7i hb hB hn (a := (max f 0).toNat) (to := t.toNat) (by omega) (by omega)
    omega
theorem j7l {f t : Int} (hf : -1000 ≤ f) (ht : t < n) : b8n (bdT n b r) f t = some (b6k b f t) := by
  unfold b8n b6k
  by_cases q : t < f ∨ t < 0
  · rw [if_pos (by simpa using q), if_pos q]
  · rw [if_neg (by simpa using q), if_neg q]
    obtain ⟨to, hto⟩ : ∃ to : Nat, t = to := ⟨t.toNat, by omega⟩
    subst hto
    obtain ⟨a, ha⟩ : ∃ a : Nat, max f 0 = a := ⟨(max f 0).toNat, by omega⟩
    have hm : mx f 0 = (a : Int) := by rw [b9k]; exact ha
    have hat : a ≤ to := by omega
    have hton : to < n := by omega
    rw [hm, ha]
    have e0 : ((0 : Int)) = ((0 : Nat) : Int) := rfl
    simp only [bdT]
    rw [e0, b2c (show 0 < n by omega)]
    simp only [Option.bind_some]
    rw [b68 hton (by omega), show wr ((to : Int) + 1) = ((to + 1 : Nat) : Int) from by rw [b1v (by omega) (by omega)]; omega, b2c (show to + 1 < n + 1 by omega)]
    simp only [Option.bind_some]
    rw [b2c (show a < n + 1 by omega)]
    simp only [Option.bind_some]
    have hc := hb.come 0 to (by omega) hton
    have hfd := c21 hb hB hn (show a ≤ to + 1 by omega) (show to + 1 ≤ n by omega)
    rw [b1v (by omega) (by omega), c1d]
    have := c1c (f := b8o ⟨tab (n + 1) (b01 r), tab (n + 1) (b01 b.flow), tab n b.most, tab n (b22 n b)⟩ f to) (to + 1) (fun s k => (s, k))
      (fun k => b4c (min (b.come 0 to) (b01 b.flow (to + 1) - b01 b.flow a)) (way b a to) a (k - a)) (b9n b a to) (s0 := min (b.come 0 to) (b01 b.flow (to + 1) - b01 b.flow a)) a (by rw [Nat.sub_self]; rfl) (by omega) (fun k hak hk => ?_) (by
        simp only [b8o]
        rw [if_neg (by simp; omega)]; rfl)
    · rw [this]
      simp [b97]
    · have hst : b4c (min (b.come 0 to) (b01 b.flow (to + 1) - b01 b.flow a)) (way b a to) a (k + 1 - a) = min (b4c (min (b.come 0 to) (b01 b.flow (to + 1) - b01 b.flow a)) (way b a to) a (k - a)) (way b a to k) := by
        rw [show k + 1 - a = (k - a) + 1 by omega]
        show min _ (way b a to (a + (k - a))) = _
        rw [show a + (k - a) = k by omega]
      rw [hst]
      have hfk := c21 hb hB hn hak (show k ≤ n by omega)
      have hmk := hb.most k (by omega)
      have hbk := c8u hb hB hn (show k ≤ to by omega) hton
      have fin2 : ∀ L : Int, b7k ⟨tab (n + 1) (b01 r), tab (n + 1) (b01 b.flow), tab n b.most, tab n (b22 n b)⟩ f L k (b4g b to k) = some (.nx (min L (way b a to k), (k : Int) + 1)) := fun L => by
        unfold b7k
        simp only [hm]
        rw [b2c (show k < n + 1 by omega)]
        simp only [Option.bind_some]
        rw [b2c (show a < n + 1 by omega)]
        simp only [Option.bind_some]
        rw [b2c (show k < n by omega)]
        simp only [Option.bind_some]
        rw [b1v (n := b01 b.flow k - b01 b.flow a) (by omega) (by omega), b1v (n := b01 b.flow k - b01 b.flow a + b.most k) (by omega) (by omega), b1v (n := b01 b.flow k - b01 b.flow a + b.most k + b4g b to k) (by omega) (by omega), b1v (n := (k : Int) + 1) (by omega) (by omega), c1d]
        rfl
      simp only [b8o]
      rw [if_pos (by simp; omega)]
      by_cases e : k < to
      · rw [if_pos (by simpa using e), show wr ((k : Int) + 1) = ((k + 1 : Nat) : Int) from by rw [b1v (by omega) (by omega)]; omega, b2c (show k + 1 < n by omega)]
        simp only [Option.bind_some]
        rw [b68 hton (by omega)]
        simp only [Option.bind_some]
        rw [show b.come (k + 1) to = b4g b to k from by unfold b4g; rw [if_pos e]]
        exact fin2 _
      · rw [if_neg (by simpa using e)]
        have := fin2 (b4c (min (b.come 0 to) (b01 b.flow (to + 1) - b01 b.flow a)) (way b a to) a (k - a))
        rw [show b4g b to k = 0 from by unfold b4g; rw [if_neg e]] at this
        exact this
end
end Go.Nw.HM
namespace Go.Nw.HM
def Bn (c : Nat) : Int := 48000 * 2 ^ c
theorem c70 (c : Nat) : Bn (c + 1) = 2 * Bn c := by unfold Bn; rw [Int.pow_succ]; omega
theorem c4s (c : Nat) : 48000 ≤ Bn c := by
  induction c with
  | zero => simp [Bn]
  | succ c ih => rw [c70]; omega
theorem d25 (c : Nat) : b01 Bn c = Bn c - 48000 := by
  induction c with
  | zero => simp [b9m, Bn]
  | succ c ih => rw [b48, ih, c70]; omega
theorem g2j {a b : Nat} (h : a ≤ b) : Bn a ≤ Bn b := by
  induction b with
  | zero => have : a = 0 := by omega
            subst this; exact Int.le_refl _
  | succ b ih =>
    by_cases e : a = b + 1
    · subst e; exact Int.le_refl _
    · have := ih (by omega); have := c4s b; rw [c70]; omega
theorem b8k {c : Nat} (h : c ≤ 8) : Bn c ≤ 1000000000 := by
  have := g2j h
  have e : Bn 8 = 12288000 := by decide
  omega
theorem d13 {f g : Nat → Int} : ∀ {k : Nat}, (∀ i, i < k → f i ≤ g i) → b01 f k ≤ b01 g k
  | 0, _ => by simp [b9m]
  | k + 1, h => by rw [b48, b48]; have := d13 (k := k) fun i hi => h i (by omega); have := h k (by omega); omega
theorem d14 {f : Nat → Int} : ∀ {k : Nat}, (∀ i, i < k → 0 ≤ f i) → 0 ≤ b01 f k
  | 0, _ => by simp [b9m]
  | k + 1, h => by rw [b48]; have := d14 (k := k) fun i hi => h i (by omega); have := h k (by omega); omega
structure Rt (h : Hall) (R : Nat → Nat → Int) : Prop where
  r : ∀ c t, c < h.Combs.length → t < T h → 0 ≤ R c t ∧ R c t ≤ 1000
section
variable {h : Hall} (hv : V h) {R : Nat → Nat → Int} (hR : Rt h R)
include hv hR
theorem b8q : ∀ (c : Nat), c < h.Combs.length → BdOk (bd h R c) (T h) (Bn c) := by
  intro c
  induction c using Nat.strongRecOn with
  | _ c ih =>
    intro hc
    have hn := hv.1.2.2.2.1
    have hT := b29 hv
    have hw : ∀ s t u, s ≤ t → t < T h → u < c → 0 ≤ b2s h c (bd h R) s t u ∧ b2s h c (bd h R) s t u ≤ Bn u := fun s t u hst ht hu => by
      obtain ⟨x, hx⟩ := b2i (show u < h.Combs.length by omega)
      have hg := hv.2.1 u x hx
      unfold b4z at hg
      have hB := c4s u
      unfold b2s
      rw [hx]
      simp only
      split
      · have := d9n (ih u hu (by omega)) (b8k (by omega)) (show T h ≤ 1000 by omega) (f := (s : Int) - x.Walk.High) (t := (t : Int) - x.Walk.Low) (by omega)
        omega
      · omega
    have hcome : ∀ s t, s ≤ t → t < T h → 0 ≤ b5h h c (bd h R) s t ∧ b5h h c (bd h R) s t ≤ Bn c := fun s t hst ht => by
      unfold b5h
      have h1 := c8x hv c s t
      have h2 := d14 (f := b2s h c (bd h R) s t) (k := c) fun u hu => (hw s t u hst ht hu).1
      have h3 := d13 (f := b2s h c (bd h R) s t) (g := Bn) (k := c) fun u hu => (hw s t u hst ht hu).2
      rw [d25] at h3
      omega
    have hmost : ∀ t, t < T h → 0 ≤ c6s (b5h h c (bd h R)) (R c) t ∧ c6s (b5h h c (bd h R)) (R c) t ≤ Bn c := fun t ht => by
      refine ⟨d1p, b9h.2 ⟨by have := c4s c; omega, fun i hi => ?_⟩⟩
      rw [Nat.zero_add]
      have h1 := hcome i t (by omega) ht
      have h2 := j5z (f := R c) (show i ≤ t by omega) fun j h1 h2 => (hR.r c j hc (by omega)).1
      omega
    rw [b5r]
    exact ⟨hcome, hmost, fun t ht => by
      have h1 := hmost t ht
      have h2 := hR.r c t hc ht
      simp only [b8b]; omega⟩
theorem c7x {c : Nat} (hc : c < h.Combs.length) {s t : Nat} (hst : s ≤ t) (ht : t < T h) (u : Nat) (hu : u ≤ c) : 0 ≤ b01 (b2s h c (bd h R) s t) u ∧ b01 (b2s h c (bd h R) s t) u ≤ 1000000000 := by
  have hn := hv.1.2.2.2.1
  have hT := b29 hv
  have hw : ∀ u, u < c → 0 ≤ b2s h c (bd h R) s t u ∧ b2s h c (bd h R) s t u ≤ Bn u := fun u hu => by
    obtain ⟨x, hx⟩ := b2i (show u < h.Combs.length by omega)
    have hg := hv.2.1 u x hx
    unfold b4z at hg
    have hB := c4s u
    unfold b2s
    rw [hx]
    simp only
    split
    · have := d9n (b8q hv hR u (by omega)) (b8k (by omega)) (show T h ≤ 1000 by omega) (f := (s : Int) - x.Walk.High) (t := (t : Int) - x.Walk.Low) (by omega)
      omega
    · omega
  have h2 := d14 (f := b2s h c (bd h R) s t) (k := u) fun i hi => (hw i (by omega)).1
  have h3 := d13 (f := b2s h c (bd h R) s t) (g := Bn) (k := u) fun i hi => (hw i (by omega)).2
  rw [d25] at h3
  have := b8k (c := u) (by omega)
  omega
def b3s (b : Bd) (n s t : Nat) : List Int := tab n fun i => if s ≤ i ∧ i < t then b.come s i else 0
theorem j8n {c : Nat} (hc : c < h.Combs.length) {s : Nat} (hs : s < T h) :
    b02 (b7u h (tab c fun u => bdT (T h) (bd h R u) (R u)) c s) (tab (T h) (fun _ => 0), (s : Int)) = some (b22 (T h) (bd h R c) s) := by
  have hn := hv.1.2.2.2.1
  have hT := b29 hv
  have hTi := b34 hv
  have hb := b8q hv hR c hc
  refine c1c (f := b7u h (tab c fun u => bdT (T h) (bd h R u) (R u)) c s) (T h) (fun r k => (r, k)) (b3s (bd h R c) (T h) s) _ s (by
    unfold b3s
    exact b5q fun i hi => by rw [if_neg (by omega)]) (by omega) (fun t hst ht => ?_) (by
    simp only [b7u]
    rw [← hTi, if_neg (by simp)]
    simp only [b3s, b22, Option.some.injEq, Out.br.injEq]
    exact b5q fun i hi => by by_cases q : s ≤ i <;> simp [q, hi])
  simp only [b7u]
  rw [← hTi, if_pos (by simpa using ht), g34 hv]
  simp only [Option.bind_some]
  rw [show get (b3s (bd h R c) (T h) s t) (t : Int) = some 0 from by unfold b3s; rw [b2c ht, if_neg (by omega)]]
  simp only [Option.bind_some]
  rw [j9f (by omega) (by omega) (by omega)]
  simp only [Option.bind_some]
  have el : (h.Combs.take ((c : Int)).toNat).drop ((0 : Int)).toNat = h.Combs.take c := by simp
  rw [el]
  have hlen : (h.Combs.take c).length = c := by simp; omega
  have hat : ∀ u, u < c → (h.Combs.take c)[u]? = h.Combs[u]? := fun u hu => by rw [List.getElem?_take, if_pos hu]
  have := b3m (f := b80 (tab c fun u => bdT (T h) (bd h R u) (R u)) c s t (h.Combs.take c)) c (fun r k => (r, k))
    (fun u => (b3s (bd h R c) (T h) s t).set t (b4i h c s t + b01 (b2s h c (bd h R) s t) u)) (b3s (bd h R c) (T h) s (t + 1)) (s0 := (b3s (bd h R c) (T h) s t).set ((t : Int)).toNat (b4i h c s t)) (by simp [b9m]) (fun u hu => by
      obtain ⟨x, hx⟩ := b2i (show u < h.Combs.length by omega)
      have hg := hv.2.1 u x hx
      unfold b4z at hg
      have hx' : (h.Combs.take c)[u]? = some x := by rw [hat u hu]; exact hx
      have hwb := c7x hv hR hc hst ht u (by omega)
      have hwb' := c7x hv hR hc hst ht (u + 1) (by omega)
      have hbb := c8x hv c s t
      simp only [b80, hlen]
      rw [if_pos (by simpa using hu), b2f hx']
      simp only [Option.bind_some]
      rw [b48] at hwb' ⊢
      by_cases e : x.Next = (c : Int)
      · rw [if_pos (by simpa using e)]
        rw [show get ((b3s (bd h R c) (T h) s t).set t (b4i h c s t + b01 (b2s h c (bd h R) s t) u)) (t : Int) = some (b4i h c s t + b01 (b2s h c (bd h R) s t) u) from by unfold b3s; rw [b63, b2c ht, if_pos rfl]]
        simp only [Option.bind_some]
        rw [b2c hu]
        simp only [Option.bind_some]
        rw [b1v (n := (s : Int) - x.Walk.High) (by omega) (by omega), b1v (n := (t : Int) - x.Walk.Low) (by omega) (by omega),
          j7l (b8q hv hR u (by omega)) (b8k (by omega)) (by omega) (by omega) (by omega)]
        have ew : b2s h c (bd h R) s t u = b6k (bd h R u) ((s : Int) - x.Walk.High) ((t : Int) - x.Walk.Low) := by
          unfold b2s; rw [hx]; simp only; rw [if_pos e]
        rw [← ew]
        simp only [Option.bind_some, b7y]
        rw [b1v (n := b4i h c s t + b01 (b2s h c (bd h R) s t) u + b2s h c (bd h R) s t u) (by omega) (by omega), b1v (n := (u : Int) + 1) (by omega) (by omega)]
        simp [Int.add_assoc]
      · rw [if_neg (by simpa using e)]
        have ew : b2s h c (bd h R) s t u = 0 := by
          unfold b2s; rw [hx]; simp only; rw [if_neg e]
        rw [ew, Int.add_zero]
        simp only [b7y]
        rw [b1v (n := (u : Int) + 1) (by omega) (by omega)]) (by
      simp only [b80, hlen]
      rw [if_neg (by simp)]
      simp only [Option.some.injEq, Out.br.injEq]
      unfold b3s
      rw [b63]
      refine b5q fun i hi => ?_
      by_cases e : i = t
      · subst e
        rw [if_pos rfl, if_pos (by omega)]
        rw [b5r]; rfl
      · rw [if_neg e]
        by_cases q : s ≤ i ∧ i < t
        · rw [if_pos q, if_pos (by omega)]
        · rw [if_neg q, if_neg (by omega)])
  rw [this]
  simp only [Option.bind_some, c0z]
  rw [b1v (n := (t : Int) + 1) (by omega) (by omega)]
end
end Go.Nw.HM
namespace Go.Nw.HM
section
variable {h : Hall} (hv : V h) {R : Nat → Nat → Int} (hR : Rt h R)
include hv hR
abbrev opT (h : Hall) (R : Nat → Nat → Int) : List (List Int) := tab h.Combs.length fun c => tab (T h) (R c)
omit hv in
theorem d2k {c : Nat} (hc : c < h.Combs.length) {k : Nat} (hk : k ≤ T h) : 0 ≤ b01 (R c) k ∧ b01 (R c) k ≤ 1000 * k :=
  b9l fun i hi => hR.r c i hc (by omega)
theorem g5u {c : Nat} (hc : c < h.Combs.length) :
    b02 (b7v h (opT h R) (tab c fun u => bdT (T h) (bd h R u) (R u)) c) ([0], [], 0) = some (tab (T h + 1) (b01 (R c)), tab (T h) (b22 (T h) (bd h R c))) := by
  have hT := b29 hv
  have hTi := b34 hv
  refine b3m (f := b7v h (opT h R) (tab c fun u => bdT (T h) (bd h R u) (R u)) c) (T h) (fun (p : List Int × List (List Int)) k => (p.1, p.2, k))
    (fun k => (tab (k + 1) (b01 (R c)), tab k (b22 (T h) (bd h R c)))) _ (s0 := ([0], [])) rfl (fun s hs => ?_) (by
    simp only [b7v]
    rw [← hTi, if_neg (by simp)])
  simp only [b7v]
  rw [← hTi, if_pos (by simpa using hs), b8c (by omega) (by omega)]
  simp only [Option.bind_some]
  rw [j8n hv hR hc hs]
  simp only [Option.bind_some, c0x]
  rw [b3v (by simp [b3t]; omega)]
  simp only [Option.bind_some]
  rw [b2c (show s < s + 1 by omega)]
  simp only [Option.bind_some]
  rw [b2c hc]
  simp only [Option.bind_some]
  rw [b2c hs]
  simp only [Option.bind_some]
  rw [b3v (by simp [b3t]; omega)]
  simp only [Option.bind_some, c0w]
  have h1 := d2k hR hc (show s ≤ T h by omega)
  have h2 := hR.r c s hc hs
  rw [b1v (n := b01 (R c) s + R c s) (by omega) (by omega), b1v (n := (s : Int) + 1) (by omega) (by omega), ← b48, ← b64, ← b64]
theorem j2f {c : Nat} (hc : c < h.Combs.length) {t : Nat} (ht : t < T h) :
    b02 (b7w (tab (T h + 1) (b01 (R c))) (tab (T h) (b22 (T h) (bd h R c))) t) (0, 0) = some ((bd h R c).most t) := by
  have hT := b29 hv
  have hb := b8q hv hR c hc
  have hn := hv.1.2.2.2.1
  have hB := b8k (c := c) (by omega)
  have e1 : wr ((t : Int) + 1) = ((t + 1 : Nat) : Int) := by rw [b1v (by omega) (by omega)]; omega
  have em : (bd h R c).most t = b36 0 (fun s => (bd h R c).come s t - (b01 (R c) t - b01 (R c) s)) 0 (t + 1) := by rw [b5r]; rfl
  refine b3m (f := b7w (tab (T h + 1) (b01 (R c))) (tab (T h) (b22 (T h) (bd h R c))) t) (t + 1) (fun p k => (p, k))
    (b36 0 (fun s => (bd h R c).come s t - (b01 (R c) t - b01 (R c) s)) 0) _ (s0 := 0) rfl (fun s hs => ?_) (by
    simp only [b7w, e1]
    rw [if_neg (by simp), em])
  simp only [b7w, e1]
  rw [if_pos (by simp; omega), b2c (show s < T h by omega)]
  simp only [Option.bind_some]
  rw [b68 ht (by omega)]
  simp only [Option.bind_some]
  rw [b2c (show t < T h + 1 by omega)]
  simp only [Option.bind_some]
  rw [b2c (show s < T h + 1 by omega)]
  simp only [Option.bind_some]
  have h1 := d2k hR hc (show s ≤ T h by omega)
  have h2 := d2k hR hc (show t ≤ T h by omega)
  have h3 := hb.come s t (by omega) ht
  rw [b1v (n := b01 (R c) t - b01 (R c) s) (by omega) (by omega), b1v (n := (bd h R c).come s t - (b01 (R c) t - b01 (R c) s)) (by omega) (by omega), b1v (n := (s : Int) + 1) (by omega) (by omega), b9k]
  simp only [b36, Nat.zero_add]
theorem g6x {c : Nat} (hc : c < h.Combs.length) :
    b02 (b7x h (opT h R) c (tab (T h + 1) (b01 (R c))) (tab (T h) (b22 (T h) (bd h R c)))) ([0], [], 0) = some (tab (T h + 1) (b01 (bd h R c).flow), tab (T h) (bd h R c).most) := by
  have hT := b29 hv
  have hTi := b34 hv
  have hb := b8q hv hR c hc
  refine b3m (f := b7x h (opT h R) c (tab (T h + 1) (b01 (R c))) (tab (T h) (b22 (T h) (bd h R c)))) (T h) (fun (p : List Int × List Int) k => (p.1, p.2, k))
    (fun k => (tab (k + 1) (b01 (bd h R c).flow), tab k (bd h R c).most)) _ (s0 := ([0], [])) rfl (fun t ht => ?_) (by
    simp only [b7x]
    rw [← hTi, if_neg (by simp)])
  simp only [b7x]
  rw [← hTi, if_pos (by simpa using ht), j2f hv hR hc ht]
  simp only [Option.bind_some, c0v]
  rw [b3v (by simp [b3t]; omega)]
  simp only [Option.bind_some]
  rw [b2c (show t < t + 1 by omega)]
  simp only [Option.bind_some]
  rw [b2c hc]
  simp only [Option.bind_some]
  rw [b2c ht]
  simp only [Option.bind_some]
  rw [b3v (by simp [b3t]; omega)]
  simp only [Option.bind_some, c0u]
  have ef : min ((bd h R c).most t) (R c t) = (bd h R c).flow t := by rw [b5r]; rfl
  have h1 := b9l (f := (bd h R c).flow) (B := 1000) (k := t) fun i hi => hb.flow i (by omega)
  have h2 := hb.flow t ht
  rw [c1d, ef, b1v (n := b01 (bd h R c).flow t + (bd h R c).flow t) (by omega) (by omega), b1v (n := (t : Int) + 1) (by omega) (by omega), ← b48, ← b64, ← b64]
theorem d3q : b6e h (opT h R) = some (tab h.Combs.length fun c => bdT (T h) (bd h R c) (R c)) := by
  have hn := hv.1.2.2.2.1
  unfold b6e
  have := b3m (f := b81 h (opT h R)) h.Combs.length (fun s k => (s, k)) (fun k => tab k fun c => bdT (T h) (bd h R c) (R c)) (tab h.Combs.length fun c => bdT (T h) (bd h R c) (R c)) (s0 := []) rfl (fun c hc => by
    simp only [b81]
    rw [if_pos (by simpa using hc), g5u hv hR hc]
    simp only [Option.bind_some, c00]
    rw [g6x hv hR hc]
    simp only [Option.bind_some, c0t]
    rw [b3v (by simp [b3t]; omega)]
    simp only [Option.bind_some, c0y]
    rw [b1v (n := (c : Int) + 1) (by omega) (by omega), b64 (n := c)]
    rfl) (by simp [b81])
  rw [this]; rfl
end
theorem d17 {h : Hall} (hv : V h) : Rt h (b1t h) := ⟨fun c t _ _ => c4d hv t⟩
theorem j7d {h : Hall} (hv : V h) : (b5y h).bind (b6e h) = some (tab h.Combs.length fun c => bdT (T h) (bd h (b1t h) c) (b1t h c)) := by
  rw [d9a hv]; exact d3q hv (d17 hv)
abbrev own (h : Hall) : Nat → Bd := bd h (b1t h)
end Go.Nw.HM
namespace Go.Nw.HM
theorem g2v {h : Hall} (hv : V h) : b55 h := by
  obtain ⟨⟨s1, s2, s3, s4, s5, s6⟩, hc, ht, hs⟩ := hv
  have at_ : ∀ {α : Type} {l : List α} {x : α}, x ∈ l → ∃ k : Nat, l[k]? = some x := fun {α l x} hx => by
    obtain ⟨j, hj, rfl⟩ := List.getElem_of_mem hx
    exact ⟨j, List.getElem?_eq_getElem hj⟩
  refine ⟨⟨by simp only [maxLen]; omega, fun x hx => ?_⟩, ⟨by simp only [maxLen]; omega, fun x hx => ?_⟩, ⟨by simp only [maxLen]; omega, fun x hx => ?_⟩, by unfold b3d; omega⟩
  · obtain ⟨k, hk⟩ := at_ hx
    have := hc k x hk
    unfold b4z at this
    simp only [c2i, b95, b3d]; omega
  · obtain ⟨k, hk⟩ := at_ hx
    obtain ⟨q1, q2, q3, q4, q5⟩ := ht k x hk
    refine ⟨by simp only [b95, b3d]; omega, by simp only [maxLen]; omega, fun y hy => ?_⟩
    obtain ⟨j, hj⟩ := at_ hy
    have h5 := q5 j y hj
    have : -1 < y.Comb := by
      have key : ∀ (j : Nat) (y : Crowd), x.Crowds[j]? = some y → -1 < y.Comb := by
        intro j
        induction j with
        | zero => intro y hy; exact (q5 0 y hy).2.2.2.2
        | succ j ih =>
          intro y hy
          obtain ⟨z, hz⟩ := b2i (show j < x.Crowds.length by have := b1w hy; omega)
          have := ih z hz
          have := (q5 (j + 1) y hy).2.2.2.2 z hz
          omega
      exact key j y hj
    unfold b5k at h5
    simp only [c2j, b95, b3d]; omega
  · obtain ⟨k, hk⟩ := at_ hx
    have := hs k x hk
    unfold c0o at this
    simp only [c2k, b3d]; omega
theorem c8p {h : Hall} (hv : V h) : b5l h = some 0 ∧ b5z h = some 0 := by
  rcases d27 (g2v hv) with ⟨_, h1, h2⟩ | ⟨h1, _⟩
  · exact ⟨h1, h2⟩
  · exact absurd hv h1
theorem c5e {h : Hall} (hv : V h) (c : Int) (ts : List Int) (hl : ts.length ≤ maxLen) :
    b6f h c ts = some (if (0 ≤ c ∧ c < h.Combs.length) ∧ ∀ t ∈ ts, 0 ≤ t ∧ t < h.Until then 0 else 1) := by
  unfold b6f
  rw [(c8p hv).1]
  simp only [Option.bind_some]
  rw [if_neg (by simp)]
  by_cases q : 0 ≤ c ∧ c < h.Combs.length
  · rw [if_neg (by simp; omega)]
    obtain ⟨b, b1, b2⟩ := g81 (l := ts) (f := fun z => some (b7a z h)) (p := fun t => ¬ (0 ≤ t ∧ t < h.Until)) hl fun t ht => ⟨_, rfl, by
      simp only [b7a, Bool.or_eq_true, decide_eq_true_eq]; omega⟩
    rw [b1]
    simp only [Option.bind_some]
    cases b with
    | true =>
      obtain ⟨t, h1, h2⟩ := b2.1 rfl
      rw [if_pos rfl, if_neg fun hh => h2 (hh.2 t h1)]
    | false =>
      rw [if_neg (by simp), if_pos ⟨q, fun t ht => Classical.byContradiction fun hh => by have := b2.2 ⟨t, ht, hh⟩; cases this⟩]
  · rw [if_pos (by simp; omega)]
    simp only [Option.bind_some, if_true]
    rw [if_neg fun hh => q hh.1]
theorem g5t {h : Hall} (hv : V h) {c : Nat} (hc : c < h.Combs.length) : b6f h c [] = some 0 := by
  rw [c5e hv c [] (by simp), if_pos ⟨by omega, fun t ht => by cases ht⟩]
theorem g3v {h : Hall} (hv : V h) {α : Type} (f : List halls_bound → Option α) : ((b5y h).bind fun y => (b6e h y).bind f) = f (tab h.Combs.length fun c => bdT (T h) (own h c) (b1t h c)) := by
  have := j7d hv
  cases e : b5y h with
  | none => rw [e] at this; cases this
  | some y =>
    rw [e] at this
    simp only [Option.bind_some] at this ⊢
    rw [this]; rfl
def b3h (h : Hall) (c : Nat) : Int := ((h.Combs[c]?).map (·.Limit)).getD 0
theorem b79 {h : Hall} {c : Nat} {x : Comb} (hx : h.Combs[c]? = some x) : b3h h c = x.Limit := by simp [b3h, hx]
def b7j (h : Hall) (c : Nat) : Prop := ∀ t, t < T h → (own h c).most t ≤ b3h h c
def c7o (r : Int) (x : Comb) : Comb := ⟨r, x.Limit, x.Next, x.Walk⟩
def atH (h : Hall) (c : Nat) (r : Int) : Hall := ⟨h.Combs.modify c (c7o r), h.Trains, h.Shifts.filter (fun s => decide (s.Comb ≠ (c : Int))), h.Until⟩
section
variable {h : Hall} (hv : V h) {c : Nat} (hc : c < h.Combs.length) {r : Int} (hr : 0 ≤ r ∧ r ≤ 1000)
theorem c2p {u : Nat} : (atH h c r).Combs[u]? = if c = u then (h.Combs[u]?).map (c7o r) else h.Combs[u]? := by
  simp only [atH, List.getElem?_modify]
  by_cases e : c = u
  · subst e; simp
  · simp [e]
theorem c0b : (atH h c r).Combs.length = h.Combs.length := by simp [atH]
include hv hc
theorem g2i : c37 h c r = some (atH h c r) := by
  obtain ⟨x, hx⟩ := b2i hc
  have hn := hv.1.2.2.2.1
  have hs := hv.1.2.2.2.2.2
  unfold c37
  rw [b3v (by simp; omega)]
  simp only [Option.bind_some, List.nil_append, b2f hx]
  have := b3m (f := c38 h c) h.Shifts.length (fun s k => (s, k)) (fun k => (h.Shifts.take k).filter (fun s => decide (s.Comb ≠ (c : Int)))) (h.Shifts.filter (fun s => decide (s.Comb ≠ (c : Int)))) (s0 := []) (by simp) (fun k hk => by
    obtain ⟨y, hy⟩ := b2i hk
    simp only [c38, b2f hy, Option.bind_some]
    rw [if_pos (by simpa using hk), List.take_add_one, hy, List.filter_append]
    have hfl : ((h.Shifts.take k).filter (fun s => decide (s.Comb ≠ (c : Int)))).length ≤ 20 := by
      have := List.length_filter_le (fun s : Shift => decide (s.Comb ≠ (c : Int))) (h.Shifts.take k)
      have : (h.Shifts.take k).length ≤ h.Shifts.length := by rw [List.length_take]; omega
      omega
    by_cases e : y.Comb = (c : Int)
    · rw [if_neg (by simpa using e)]
      simp only [c1t, b2l hk (show h.Shifts.length ≤ maxLen by simp only [maxLen]; omega)]
      simp [e]
    · rw [if_pos (by simpa using e), b3v (by simp only [List.length_cons, List.length_nil]; omega)]
      simp only [Option.bind_some, c1t, b2l hk (show h.Shifts.length ≤ maxLen by simp only [maxLen]; omega)]
      simp [e]) (by simp [c38])
  rw [this]
  simp only [Option.bind_some, c7a, atH, Option.some.injEq, Hall.mk.injEq, and_true]
  refine List.ext_getElem? fun u => ?_
  rw [List.getElem?_modify, List.getElem?_set]
  by_cases e : c = u
  · subst e; rw [hx]; simp [hc, c7o]
  · simp [e]
include hr in
theorem g29 : V (atH h c r) := by
  obtain ⟨⟨s1, s2, s3, s4, s5, s6⟩, v1, v2, v3⟩ := hv
  refine ⟨⟨s1, s2, by rw [c0b]; exact s3, by rw [c0b]; exact s4, s5, ?_⟩, fun k x hx => ?_, fun k x hx => ?_, fun k x hx => ?_⟩
  · have := List.length_filter_le (fun s : Shift => decide (s.Comb ≠ (c : Int))) h.Shifts
    show (h.Shifts.filter _).length ≤ 20
    omega
  · rw [c0b]
    rw [c2p] at hx
    by_cases e : c = k
    · rw [if_pos e] at hx
      cases hy : h.Combs[k]? with
      | none => rw [hy] at hx; cases hx
      | some y =>
        rw [hy] at hx; cases hx
        have := v1 k y hy
        unfold b4z at this ⊢
        simp only [c7o]; omega
    · rw [if_neg e] at hx; exact v1 k x hx
  · rw [c0b]; exact v2 k x hx
  · rw [c0b]
    have hm : x ∈ h.Shifts := (List.mem_filter.1 (List.mem_of_getElem? hx)).1
    obtain ⟨j, hj, hj'⟩ := List.getElem_of_mem hm
    have hg := v3 j x (by rw [List.getElem?_eq_getElem hj, hj'])
    refine ⟨hg.1, hg.2.1, hg.2.2.1, hg.2.2.2.1, hg.2.2.2.2.1, hg.2.2.2.2.2.1, fun i y hi hy => ?_⟩
    have pw : h.Shifts.Pairwise fun a b => a.At ≤ b.At := by
      rw [List.pairwise_iff_getElem]
      intro a b ha hb hab
      obtain ⟨d, rfl⟩ : ∃ d, b = a + d := ⟨b - a, by omega⟩
      exact c7v ⟨⟨s1, s2, s3, s4, s5, s6⟩, v1, v2, v3⟩ d a _ _ (List.getElem?_eq_getElem ha) (List.getElem?_eq_getElem hb)
    have pf := (List.pairwise_iff_getElem.1 (pw.filter (fun s => decide (s.Comb ≠ (c : Int)))))
    subst hi
    obtain ⟨a1, a2⟩ := List.getElem?_eq_some_iff.1 hy
    obtain ⟨b1, b2⟩ := List.getElem?_eq_some_iff.1 hx
    have := pf i (i + 1) a1 b1 (by omega)
    have e1 : (List.filter (fun s => decide (s.Comb ≠ (c : Int))) h.Shifts)[i]'a1 = y := a2
    have e2 : (List.filter (fun s => decide (s.Comb ≠ (c : Int))) h.Shifts)[i + 1]'b1 = x := b2
    rw [e1, e2] at this
    exact this
omit hv hc in
theorem d3j : T (atH h c r) = T h := rfl
omit hv in
theorem g3d {t : Nat} : b1t (atH h c r) c t = r := by
  unfold b1t
  have h0 : b3p (atH h c r) c = r := by
    obtain ⟨x, hx⟩ := b2i hc
    unfold b3p; rw [c2p, if_pos rfl, hx]; rfl
  rw [h0]
  have : ∀ (l : List Shift), (∀ s ∈ l, s.Comb ≠ (c : Int)) → l.foldl (b2d c t) r = r := by
    intro l
    induction l with
    | nil => intro _; rfl
    | cons s l ih =>
      intro hl
      rw [List.foldl_cons, show b2d c t r s = r from by unfold b2d; rw [if_neg fun hh => hl s List.mem_cons_self hh.1]]
      exact ih fun x hx => hl x (List.mem_cons_of_mem _ hx)
  exact this _ fun s hs => by simpa using (List.mem_filter.1 hs).2
omit hv hc in
theorem g3e {u t : Nat} (hu : u ≠ c) : b1t (atH h c r) u t = b1t h u t := by
  unfold b1t
  have h0 : b3p (atH h c r) u = b3p h u := by unfold b3p; rw [c2p, if_neg fun hh => hu hh.symm]
  rw [h0]
  have : ∀ (l : List Shift) (a : Int), (l.filter (fun s => decide (s.Comb ≠ (c : Int)))).foldl (b2d u t) a = l.foldl (b2d u t) a := by
    intro l
    induction l with
    | nil => intro _; rfl
    | cons s l ih =>
      intro a
      by_cases e : s.Comb = (c : Int)
      · rw [List.filter_cons_of_neg (by simp [e]), List.foldl_cons, show b2d u t a s = a from by unfold b2d; rw [if_neg fun hh => by omega]]
        exact ih a
      · rw [List.filter_cons_of_pos (by simp [e]), List.foldl_cons, List.foldl_cons]
        exact ih _
  exact this _ _
omit hv hc in
theorem d3k {u : Nat} : b3h (atH h c r) u = b3h h u := by
  unfold b3h; rw [c2p]
  by_cases e : c = u
  · rw [if_pos e]; cases h.Combs[u]? <;> rfl
  · rw [if_neg e]
omit hv hc in
theorem g3f {u c' s t : Nat} {p : Nat → Bd} : b2s (atH h c r) c' p s t u = b2s h c' p s t u := by
  unfold b2s; rw [c2p]
  by_cases e : c = u
  · rw [if_pos e]; cases h.Combs[u]? <;> rfl
  · rw [if_neg e]
omit hv hc in
theorem g3b {c' : Nat} {p : Nat → Bd} : b5h (atH h c r) c' p = b5h h c' p := by
  funext s t
  unfold b5h
  rw [c6u fun u _ => g3f]; rfl
end
theorem g3i {h : Hall} {R S : Nat → Nat → Int} : ∀ {c : Nat}, (∀ u, u ≤ c → R u = S u) → bd h R c = bd h S c := by
  intro c
  induction c using Nat.strongRecOn with
  | _ c ih =>
    intro hR
    rw [b5r, b5r (R := S)]
    unfold b8b
    rw [c5f fun u hu => ih u hu fun v hv => hR v (by omega), hR c (Nat.le_refl _)]
theorem g3h {h : Hall} {c : Nat} {r : Int} {R : Nat → Nat → Int} : ∀ {u : Nat}, bd (atH h c r) R u = bd h R u := by
  intro u
  induction u using Nat.strongRecOn with
  | _ u ih =>
    rw [b5r, b5r (h := h)]
    unfold b8b
    rw [g3b, c5f fun v hv => ih v hv]
theorem g5w {h : Hall} {R S : Nat → Nat → Int} {c : Nat} (hR : ∀ u, u < c → R u = S u) : (bd h R c).come = (bd h S c).come := by
  rw [b5r, b5r (R := S)]
  exact c5f fun u hu => g3i fun v hv => hR v (by omega)
theorem g3a {h : Hall} {c : Nat} {r : Int} : (own (atH h c r) c).come = (own h c).come := by
  unfold own
  rw [g3h]
  exact g5w fun u hu => funext fun t => g3e (by omega)
theorem d81 {h : Hall} {R : Nat → Nat → Int} {c t : Nat} : (bd h R c).most t = b36 0 (fun s => (bd h R c).come s t - (b01 (R c) t - b01 (R c) s)) 0 (t + 1) := by rw [b5r]; rfl
theorem d87 {r : Int} {k : Nat} : b01 (fun _ => r) k = r * k := by
  induction k with
  | zero => simp [b9m]
  | succ k ih => rw [b48, ih, Int.natCast_add, Int.mul_add]; simp
theorem g3c {h : Hall} (hv : V h) {c : Nat} (hc : c < h.Combs.length) {r : Int} : b7j (atH h c r) c ↔ ∀ t, t < T h → ∀ s, s ≤ t → (own h c).come s t - r * ((t : Int) - s) ≤ b3h h c := by
  have hl : 0 ≤ b3h h c := by
    obtain ⟨x, hx⟩ := b2i hc
    rw [b79 hx]; exact (hv.2.1 c x hx).2.2.1
  unfold b7j
  rw [d3j, d3k]
  refine forall_congr' fun t => imp_congr_right fun ht => ?_
  unfold own
  rw [d81, b9h]
  have e : ∀ s, s ≤ t → (bd (atH h c r) (b1t (atH h c r)) c).come (0 + s) t - (b01 (b1t (atH h c r) c) t - b01 (b1t (atH h c r) c) (0 + s)) = (bd h (b1t h) c).come s t - r * ((t : Int) - s) := fun s hs => by
    have e1 : b1t (atH h c r) c = fun _ => r := funext fun t => g3d hc
    have := g3a (h := h) (c := c) (r := r)
    unfold own at this
    rw [this, e1, d87, d87, Nat.zero_add, Int.mul_sub]
  constructor
  · rintro ⟨_, h2⟩ s hs
    have := h2 s (by omega)
    rwa [e s hs] at this
  · intro h2
    refine ⟨hl, fun s hs => ?_⟩
    rw [e s (by omega)]
    exact h2 s (by omega)
end Go.Nw.HM
namespace Go.Nw.HM
theorem d9w {a d r : Int} (hd : 1 ≤ d) (hr : 0 ≤ r) : (a + d - 1).tdiv d ≤ r ↔ a ≤ r * d := by
  by_cases h : 0 ≤ a + d - 1
  · rw [Int.tdiv_eq_ediv_of_nonneg h]
    have := Int.ediv_lt_iff_lt_mul (a := a + d - 1) (b := r + 1) (c := d) (by omega)
    rw [Int.add_mul, Int.one_mul] at this
    omega
  · have h1 : (a + d - 1).tdiv d ≤ 0 := by
      have := Int.neg_tdiv (a := -(a + d - 1)) (b := d)
      rw [Int.neg_neg] at this
      rw [this]
      have := Int.tdiv_nonneg (a := -(a + d - 1)) (b := d) (by omega) (by omega)
      omega
    have h2 : 0 ≤ r * d := Int.mul_nonneg hr (by omega)
    omega
theorem d9v {a d : Int} (ha : -1000000000000 ≤ a) (ha' : a ≤ 1000000000000) : -1000000000000 ≤ a.tdiv d ∧ a.tdiv d ≤ 1000000000000 := by
  have h := Int.natAbs_tdiv a d
  have h2 : (a.tdiv d).natAbs ≤ a.natAbs := by rw [h]; exact Nat.div_le_self _ _
  omega
section
variable {h : Hall} (hv : V h) {c : Nat} (hc : c < h.Combs.length)
def qN (h : Hall) (c s t : Nat) : Int := ((own h c).come s t - b3h h c + ((t : Int) - s) - 1).tdiv ((t : Int) - s)
def b5t (h : Hall) (c : Nat) : Nat → Int
  | 0 => 0
  | s + 1 => b36 (b5t h c s) (qN h c s) (s + 1) (T h - (s + 1))
theorem d1y {n : Nat} {r : Int} : b5t h c n ≤ r ↔ 0 ≤ r ∧ ∀ s, s < n → ∀ t, s < t → t < T h → qN h c s t ≤ r := by
  induction n with
  | zero => simp [b5t]
  | succ n ih =>
    simp only [b5t, b9h, ih]
    constructor
    · rintro ⟨⟨h1, h2⟩, h3⟩
      refine ⟨h1, fun s hs t hst ht => ?_⟩
      by_cases e : s = n
      · subst e
        have := h3 (t - (s + 1)) (by omega)
        rwa [show s + 1 + (t - (s + 1)) = t by omega] at this
      · exact h2 s (by omega) t hst ht
    · rintro ⟨h1, h2⟩
      exact ⟨⟨h1, fun s hs => h2 s (by omega)⟩, fun i hi => h2 n (by omega) _ (by omega) (by omega)⟩
include hv hc
theorem d9l : BdOk (own h c) (T h) 1000000000 := by
  have hn := hv.1.2.2.2.1
  have := b8q hv (d17 hv) c hc
  have hB := b8k (c := c) (by omega)
  exact ⟨fun s t hst ht => by have := this.come s t hst ht; unfold own; omega, fun t ht => by have := this.most t ht; unfold own; omega, this.flow⟩
theorem d8o : 0 ≤ b3h h c ∧ b3h h c ≤ 100000 := by
  obtain ⟨x, hx⟩ := b2i hc
  have := hv.2.1 c x hx
  unfold b4z at this
  rw [b79 hx]; omega
theorem j4m (n : Nat) : 0 ≤ b5t h c n ∧ b5t h c n ≤ 1000000000000 := by
  refine ⟨?_, d1y.2 ⟨by omega, fun s hs t hst ht => ?_⟩⟩
  · have := (d1y (h := h) (c := c) (n := n) (r := b5t h c n)).1 (Int.le_refl _)
    exact this.1
  · have h1 := (d9l hv hc).come s t (by omega) ht
    have h2 := d8o hv hc
    have h3 := b29 hv
    exact (d9v (by omega) (by omega)).2
theorem j8m {x : Comb} (hx : h.Combs[c]? = some x) {s : Nat} (hs : s < T h) (N : Int) :
    b02 (c0r h (bdT (T h) (own h c) (b1t h c)) x s) (N, ((s + 1 : Nat) : Int)) = some (b36 N (qN h c s) (s + 1) (T h - (s + 1))) := by
  have hT := b29 hv
  have hTi := b34 hv
  refine c1c (f := c0r h (bdT (T h) (own h c) (b1t h c)) x s) (T h) (fun s k => (s, k)) (fun k => b36 N (qN h c s) (s + 1) (k - (s + 1))) _ (s + 1) (by rw [Nat.sub_self]; rfl) (by omega) (fun t hst ht => ?_) (by
    simp only [c0r]
    rw [← hTi, if_neg (by simp)])
  simp only [c0r]
  have h1 := (d9l hv hc).come s t (by omega) ht
  have h2 := d8o hv hc
  have hl := b79 hx
  rw [← hTi, if_pos (by simpa using ht)]
  simp only [bdT]
  rw [b2c hs]
  simp only [Option.bind_some]
  rw [b68 ht (by omega)]
  simp only [Option.bind_some]
  rw [← hl, b1v (n := (own h c).come s t - b3h h c) (by omega) (by omega), b1v (n := (own h c).come s t - b3h h c + t) (by omega) (by omega),
    b1v (n := (own h c).come s t - b3h h c + t - s) (by omega) (by omega), b1v (n := (own h c).come s t - b3h h c + t - s - 1) (by omega) (by omega), b1v (n := (t : Int) - s) (by omega) (by omega), b1v (n := (t : Int) + 1) (by omega) (by omega), d9x (by omega)]
  have hq := d9v (a := (own h c).come s t - b3h h c + t - s - 1) (d := (t : Int) - s) (by omega) (by omega)
  simp only [Option.bind_some]
  rw [show IntKind.i64.wrap (((own h c).come s t - b3h h c + t - s - 1).tdiv ((t : Int) - s)) = ((own h c).come s t - b3h h c + t - s - 1).tdiv ((t : Int) - s) from b1v (by omega) (by omega), b9k]
  rw [show t + 1 - (s + 1) = (t - (s + 1)) + 1 by omega]
  simp only [b36]
  rw [show s + 1 + (t - (s + 1)) = t by omega]
  congr 4
  unfold qN
  congr 1
  omega
theorem j33 : (∃ r, b6d h c = some r ∧ r = (0, 3) ∧ ∀ r, 0 ≤ r → r ≤ 1000 → ¬ b7j (atH h c r) c) ∨ (∃ m, b6d h c = some (m, 0) ∧ 0 ≤ m ∧ m ≤ 1000 ∧ ∀ r, 0 ≤ r → (b7j (atH h c r) c ↔ m ≤ r)) := by
  obtain ⟨x, hx⟩ := b2i hc
  have hT := b29 hv
  have hTi := b34 hv
  have hl := b79 hx
  unfold b6d
  rw [g5t hv hc]
  simp only [Option.bind_some]
  rw [if_neg (by simp), g3v hv, b2c hc]
  simp only [Option.bind_some, b2f hx]
  have keyR : ∀ r, 0 ≤ r → (b7j (atH h c r) c ↔ (∀ s, s < T h → (own h c).come s s ≤ b3h h c) ∧ b5t h c (T h) ≤ r) := fun r hr => by
    rw [g3c hv hc, d1y]
    constructor
    · intro hk
      refine ⟨fun s hs => ?_, hr, fun s hs t hst ht => ?_⟩
      · have := hk s hs s (Nat.le_refl _)
        rw [Int.sub_self, Int.mul_zero] at this; omega
      · have h1 := hk t ht s (by omega)
        unfold qN
        rw [d9w (by omega) hr]; omega
    · rintro ⟨hd, _, hn⟩ t ht s hst
      by_cases e : s = t
      · subst e
        have := hd s ht
        rw [Int.sub_self, Int.mul_zero]; omega
      · have := hn s (by omega) t (by omega) ht
        unfold qN at this
        rw [d9w (by omega) hr] at this
        omega
  have hat : ∀ k y, (List.range (T h))[k]? = some y → k < T h := fun k y hk => by have := b1w hk; simpa using this
  rcases c30 (f := c0s h (bdT (T h) (own h c) (b1t h c)) x) (List.range (T h)) (fun s k => (s, k)) (b5t h c) (fun k _ => b3h h c < (own h c).come k k) (.inr (0, 3)) (.inl (b5t h c (T h))) (fun s y _ hy hb => by
      have hs := hat s y hy
      simp only [c0s]
      rw [← hTi, if_pos (by simpa using hs)]
      simp only [bdT]
      rw [b2c hs]
      simp only [Option.bind_some]
      rw [b68 hs (Nat.le_refl _)]
      simp only [Option.bind_some]
      rw [if_pos (by rw [← hl]; simpa using hb)]) (fun s y _ hy hb => by
      have hs := hat s y hy
      simp only [c0s]
      rw [← hTi, if_pos (by simpa using hs)]
      have := j8m hv hc hx hs (b5t h c s)
      rw [show wr ((s : Int) + 1) = ((s + 1 : Nat) : Int) from by rw [b1v (by omega) (by omega)]; omega, this]
      simp only [bdT]
      rw [b2c hs]
      simp only [Option.bind_some]
      rw [b68 hs (Nat.le_refl _)]
      simp only [Option.bind_some]
      rw [if_neg (by rw [← hl]; simpa using hb)]
      simp only [c5x]
      rw [show wr ((s : Int) + 1) = ((s + 1 : Nat) : Int) from by rw [b1v (by omega) (by omega)]; omega]
      simp [b5t]) (by
      simp only [c0s, List.length_range]
      rw [← hTi, if_neg (by simp)]) (s0 := 0) rfl with ⟨h1, h2⟩ | ⟨⟨k, y, hy, hb⟩, h2⟩
  · rw [h2]
    have hd : ∀ s, s < T h → (own h c).come s s ≤ b3h h c := fun s hs => Int.not_lt.1 (h1 s s (by simp [hs]))
    simp only [Option.bind_some, c5w]
    by_cases q : 1000 < b5t h c (T h)
    · rw [if_pos (by simpa using q)]
      exact .inl ⟨_, rfl, rfl, fun r h1 h2 hk => by have := ((keyR r h1).1 hk).2; omega⟩
    · rw [if_neg (by simpa using q)]
      exact .inr ⟨_, rfl, (j4m hv hc _).1, by omega, fun r hr => by rw [keyR r hr]; exact ⟨fun hh => hh.2, fun hh => ⟨hd, hh⟩⟩⟩
  · rw [h2]
    refine .inl ⟨_, rfl, rfl, fun r h1 h2 hk => ?_⟩
    have := ((keyR r h1).1 hk).1 k (hat k y hy)
    omega
end
end Go.Nw.HM
namespace Go.Nw.HM
def b4x (n : Nat) (p : Nat → Bool) : Option Nat := (List.range n).find? p
theorem c0l {n : Nat} {p : Nat → Bool} : b4x n p = none ↔ ∀ t, t < n → p t = false := by
  unfold b4x
  rw [List.find?_eq_none]
  constructor
  · intro h t ht; have := h t (List.mem_range.2 ht); simpa using this
  · intro h t ht; rw [h t (List.mem_range.1 ht)]; simp
theorem c9c {n : Nat} {p : Nat → Bool} {k : Nat} (hk : k < n) (hp : p k = true) (hb : ∀ j, j < k → p j = false) : b4x n p = some k := by
  unfold b4x
  rw [List.find?_range_eq_some]
  exact ⟨hp, List.mem_range.2 hk, fun j hj => by simp [hb j hj]⟩
def b49 (h : Hall) (R : Nat → Nat → Int) (c t : Nat) : Bool := decide (b3h h c < (bd h R c).most t)
def b3x (h : Hall) (R : Nat → Nat → Int) (n : Nat) : List (Int × Int) := (List.range n).filterMap fun c => (b4x (T h) (b49 h R c)).map fun (t : Nat) => ((c : Int), (t : Int))
def b5f (h : Hall) (R : Nat → Nat → Int) : Prop := ∀ c, c < h.Combs.length → ∀ t, t < T h → (bd h R c).most t ≤ b3h h c
theorem d15 {h : Hall} {R : Nat → Nat → Int} : b3x h R h.Combs.length = [] ↔ b5f h R := by
  unfold b3x b5f
  rw [List.filterMap_eq_nil_iff]
  constructor
  · intro hh c hc t ht
    have := hh c (List.mem_range.2 hc)
    rw [Option.map_eq_none_iff, c0l] at this
    have := this t ht
    unfold b49 at this
    simpa using this
  · intro hh c hc
    rw [Option.map_eq_none_iff, c0l]
    intro t ht
    have := hh c (List.mem_range.1 hc) t ht
    unfold b49
    simpa using this
theorem d16 {h : Hall} {R : Nat → Nat → Int} {n : Nat} : b3x h R (n + 1) = b3x h R n ++ match b4x (T h) (b49 h R n) with | some t => [((n : Int), (t : Int))] | none => [] := by
  unfold b3x
  rw [List.range_succ, List.filterMap_append]
  congr 1
  cases h' : b4x (T h) (b49 h R n) <;> simp [h']
theorem d9j {h : Hall} {R : Nat → Nat → Int} {n : Nat} : (b3x h R n).length ≤ n := by
  unfold b3x
  have := List.length_filterMap_le (fun c => (b4x (T h) (b49 h R c)).map fun (t : Nat) => ((c : Int), (t : Int))) (List.range n)
  simpa using this
theorem j7a {h : Hall} (hv : V h) (R : Nat → Nat → Int) : b71 h (tab h.Combs.length fun c => bdT (T h) (bd h R c) (R c)) = some (b3x h R h.Combs.length) := by
  have hn := hv.1.2.2.2.1
  have hT := b29 hv
  unfold b71
  have := b3m (f := b89 h (tab h.Combs.length fun c => bdT (T h) (bd h R c) (R c))) h.Combs.length (fun s k => (s, k)) (b3x h R) (b3x h R h.Combs.length) (s0 := []) rfl (fun c hc => by
    obtain ⟨x, hx⟩ := b2i hc
    have hll := d9j (h := h) (R := R) (n := c)
    simp only [b89, b3t]
    rw [if_pos (by simpa using hc), b2c hc]
    simp only [Option.bind_some]
    have key := d7g (s := (bdT (T h) (bd h R c) (R c)).most) (f := fun z12 => b7b z12 h c) (p := fun m => b3h h c < m) (g := b9y (bdT (T h) (bd h R c) (R c)).most (fun z12 => b7b z12 h c)) rfl (by simp only [bdT, b3t, maxLen]; omega) (fun m _ => by
      simp only [b7b, b2f hx, Option.bind_some]
      exact ⟨_, rfl, by rw [← b79 hx]; simp⟩)
    rcases key with ⟨k, m, hm, hp, hf, e⟩ | ⟨hf, e⟩
    · have hkt : k < T h := by have := b1w hm; simpa [bdT, b3t] using this
      have hat : ∀ j, j < T h → (bdT (T h) (bd h R c) (R c)).most[j]? = some ((bd h R c).most j) := fun j hj => c2b hj
      have hfst : b4x (T h) (b49 h R c) = some k := c9c hkt (by
        rw [hat k hkt] at hm; cases hm
        unfold b49; simpa using hp) (fun j hj => by
        have := hf j _ hj (hat j (by omega))
        unfold b49; simpa using this)
      rw [e]
      simp only [Option.bind_some]
      rw [if_pos (by simp), b3v (by simp only [List.length_cons, List.length_nil]; omega)]
      simp only [Option.bind_some, b72, b2l hc (show h.Combs.length ≤ maxLen by simp only [maxLen]; omega)]
      rw [d16, hfst]
    · have hfst : b4x (T h) (b49 h R c) = none := c0l.2 fun t ht => by
        have := hf ((bd h R c).most t) (List.mem_of_getElem? (show (bdT (T h) (bd h R c) (R c)).most[t]? = _ from c2b ht))
        unfold b49; simpa using this
      rw [e]
      simp only [Option.bind_some]
      rw [if_neg (by simp)]
      simp only [b72, b2l hc (show h.Combs.length ≤ maxLen by simp only [maxLen]; omega)]
      rw [d16, hfst]
      simp) (by simp [b89, b3t])
  rw [this]; rfl
theorem d9z {h : Hall} (h1 : 1 ≤ h.Until) (h2 : h.Until ≤ 100) (hl : h.Shifts.length ≤ maxLen) {c : Nat} (hc : c < h.Combs.length) : b7i h c = some (tab (T h) (b1t h c)) := by
  obtain ⟨x, hx⟩ := b2i hc
  have hT : T h ≤ 100 := by unfold T; omega
  have hTi : (T h : Int) = h.Until := by unfold T; omega
  unfold b7i
  rw [← hTi, b8c (by omega) (by omega)]
  simp only [Option.bind_some]
  have := b3m (f := c4c h c) (T h) (fun s k => (s, k)) (fill (T h) (b1t h c) 0) (tab (T h) (b1t h c)) (s0 := tab (T h) fun _ => 0) (by rw [← b9z, c0k]) (fun t ht => by
    simp only [c4c]
    rw [← hTi, if_pos (by simpa using ht), b2f hx]
    simp only [Option.bind_some]
    rw [c0n ht]
    simp only [Option.bind_some]
    have ein := b3m (f := c4b h c t) h.Shifts.length (fun s k => (s, k)) (fun j => (fill (T h) (b1t h c) 0 t).set t ((h.Shifts.take j).foldl (b2d c t) (b3p h c))) (fill (T h) (b1t h c) 0 (t + 1))
      (s0 := (fill (T h) (b1t h c) 0 t).set ((t : Int)).toNat x.Rate) (by simp [b3p, hx]) (fun j hj => by
        obtain ⟨y, hy⟩ := b2i hj
        simp only [c4b, b2f hy, Option.bind_some]
        rw [if_pos (by simpa using hj), List.take_add_one, hy]
        simp only [Option.toList_some, List.foldl_append, List.foldl_cons, List.foldl_nil]
        by_cases e : y.Comb = (c : Int) ∧ y.At ≤ (t : Int)
        · rw [if_pos (by simpa using e), show b2d c t _ y = y.Rate from if_pos e]
          rw [show get ((fill (T h) (b1t h c) 0 t).set t ((h.Shifts.take j).foldl (b2d c t) (b3p h c))) (t : Int) = some ((h.Shifts.take j).foldl (b2d c t) (b3p h c)) from by unfold fill; rw [b63, b2c ht, if_pos rfl]]
          simp only [Option.bind_some, c15, b2l hj hl]
          rw [show ((t : Nat) : Int).toNat = t from by omega, List.set_set]
        · rw [if_neg (by simpa using e), show b2d c t _ y = _ from if_neg e]
          simp only [c15, b2l hj hl]) (by
        simp only [c4b]
        rw [if_neg (by simp), List.take_length, c0j (f := b1t h c) (v := h.Shifts.foldl (b2d c t) (b3p h c)) rfl])
    rw [ein]
    simp only [Option.bind_some, c7j, b2l ht (show T h ≤ maxLen by simp only [maxLen]; omega)]) (by
    simp only [c4c]
    rw [← hTi, if_neg (by simp), b8x (Nat.le_refl _)])
  rw [this]; rfl
theorem d90 {h : Hall} (hv : V h) {c : Nat} (hc : c < h.Combs.length) : b7i h c = some (tab (T h) (b1t h c)) := d9z hv.1.1 hv.1.2.1 (by have := hv.1.2.2.2.2.2; simp only [maxLen]; omega) hc
def shA (h : Hall) (f : Nat) : List Shift := h.Shifts.filter fun s => decide (s.At ≤ (f : Int))
def shB (h : Hall) (c f k : Nat) : List Shift := h.Shifts.filter fun s => ((decide ((f : Int) < s.At)) && (decide (s.At ≤ (f : Int) + k))) && ((decide (¬s.Comb = (c : Int))) || (decide (s.At = (f : Int) + k)))
def shW (h : Hall) (c f k : Nat) : List Shift := if f + k < T h then [⟨(f : Int) + k, c, b1t h c (f + k)⟩] else []
def shC (h : Hall) (f k : Nat) : List Shift := h.Shifts.filter fun s => decide ((f : Int) + k < s.At)
def b5d (h : Hall) (c f k : Nat) : Hall := ⟨h.Combs, h.Trains, (((shA h f ++ [⟨f, c, 0⟩]) ++ shB h c f k) ++ shW h c f k) ++ shC h f k, h.Until⟩
section
variable {h : Hall} (hv : V h) {c : Nat} (hc : c < h.Combs.length) {f k : Nat} (hf : f < T h) (hk : 0 < k) (hfk : f + k ≤ T h)
theorem d4l {l : List Shift} {p : Shift → Bool} {n : Nat} (hl : l.length ≤ n) (j : Nat) : ((l.take j).filter p).length ≤ n := by
  have := List.length_filter_le p (l.take j)
  have : (l.take j).length ≤ l.length := by rw [List.length_take]; omega
  omega
include hv hc hk hfk in
theorem g2u : b9q h c f k = some (b5d h c f k) := by
  have hT := b29 hv
  have hTi := b34 hv
  have hs := hv.1.2.2.2.2.2
  have hl : h.Shifts.length ≤ maxLen := by simp only [maxLen]; omega
  have hA : (shA h f).length ≤ 20 := by unfold shA; have := List.length_filter_le (fun s : Shift => decide (s.At ≤ (f : Int))) h.Shifts; omega
  have hB : (shB h c f k).length ≤ 20 := by unfold shB; have := List.length_filter_le (fun s : Shift => ((decide ((f : Int) < s.At)) && (decide (s.At ≤ (f : Int) + k))) && ((decide (¬s.Comb = (c : Int))) || (decide (s.At = (f : Int) + k)))) h.Shifts; omega
  have hW : (shW h c f k).length ≤ 1 := by unfold shW; split <;> simp
  have ew : wr ((f : Int) + k) = (f : Int) + k := b1v (by omega) (by omega)
  unfold b9q
  rw [if_neg (by simp; omega), d90 hv hc]
  simp only [Option.bind_some]
  have l1 : b02 (b9r h f) ([], 0) = some (shA h f) := by
    have tk : ∀ k, k ≤ h.Shifts.length → (∀ j y, j < k → h.Shifts[j]? = some y → ¬ ((f : Int) < y.At)) → (∀ x, h.Shifts[k]? = some x → (f : Int) < x.At) → h.Shifts.take k = shA h f := fun k hk h1 h2 => by
      unfold shA
      conv => rhs; rw [← List.take_append_drop k h.Shifts, List.filter_append]
      rw [List.filter_eq_self.2 (fun x hx => by
        obtain ⟨j, hj, rfl⟩ := List.getElem_of_mem hx
        have hj' : j < k ∧ j < h.Shifts.length := by simp at hj; omega
        have := h1 j _ hj'.1 (List.getElem?_eq_getElem hj'.2)
        rw [List.getElem_take]
        simpa using this), List.filter_eq_nil_iff.2 (fun x hx => by
        obtain ⟨j, hj, rfl⟩ := List.getElem_of_mem hx
        have hjl : k + j < h.Shifts.length := by simp at hj; omega
        obtain ⟨z, hz⟩ := b2i (show k < h.Shifts.length by omega)
        have h3 := h2 z hz
        have h4 := c7v hv j k z _ hz (List.getElem?_eq_getElem hjl)
        rw [List.getElem_drop]
        simp only [decide_eq_true_eq]; omega), List.append_nil]
    rcases c30 (f := b9r h f) h.Shifts (fun s k => (s, k)) (fun k => h.Shifts.take k) (fun _ x => (f : Int) < x.At) (shA h f) h.Shifts (fun k x hg hx hb => by
        simp only [b9r, b2f hx, Option.bind_some]
        rw [if_pos (by simpa using b1w hx)]
        simp only [Option.bind_some]
        rw [if_neg (by simpa using hb), tk k (by have := b1w hx; omega) hg (fun y hy => by rw [hx] at hy; cases hy; exact hb)]) (fun k x hg hx hb => by
        have := b1w hx
        simp only [b9r, b2f hx, Option.bind_some]
        rw [if_pos (by simpa using b1w hx)]
        simp only [Option.bind_some]
        rw [if_pos (by simpa using hb), b3v (by simp only [List.length_take, List.length_cons, List.length_nil]; omega)]
        simp only [Option.bind_some, b2l (b1w hx) hl, List.take_add_one, hx]
        rfl) (by
        simp only [b9r]
        rw [if_neg (by simp)]
        simp only [Option.bind_some]
        rw [if_neg (by simp), List.take_length]) (s0 := []) rfl with ⟨h1, h2⟩ | ⟨_, h2⟩
    · have := tk h.Shifts.length (Nat.le_refl _) (fun j y _ hy => h1 j y hy) (fun x hx => by have := b1w hx; omega)
      rw [List.take_length] at this
      rw [h2, this]
    · exact h2
  rw [l1]
  simp only [Option.bind_some, c7g]
  rw [b3v (by simp only [List.length_cons, List.length_nil]; omega)]
  simp only [Option.bind_some]
  have l2 : b02 (c1y h c f k) (shA h f ++ [⟨f, c, 0⟩], 0) = some ((shA h f ++ [⟨f, c, 0⟩]) ++ shB h c f k) := by
    refine b3m (f := c1y h c f k) h.Shifts.length (fun s k => (s, k)) (fun j => (shA h f ++ [⟨f, c, 0⟩]) ++ (h.Shifts.take j).filter fun s => ((decide ((f : Int) < s.At)) && (decide (s.At ≤ (f : Int) + k))) && ((decide (¬s.Comb = (c : Int))) || (decide (s.At = (f : Int) + k)))) _ (by simp) (fun j hj => ?_) (by
      simp only [c1y]
      rw [if_neg (by simp), List.take_length]; rfl)
    obtain ⟨y, hy⟩ := b2i hj
    simp only [c1y, b2f hy, Option.bind_some]
    rw [if_pos (by simpa using hj), List.take_add_one, hy, ew]
    have := d4l hs (p := fun s : Shift => ((decide ((f : Int) < s.At)) && (decide (s.At ≤ (f : Int) + k))) && ((decide (¬s.Comb = (c : Int))) || (decide (s.At = (f : Int) + k)))) j
    simp only [Option.toList_some, List.filter_append]
    cases e : ((decide ((f : Int) < y.At)) && (decide (y.At ≤ (f : Int) + k))) && ((decide (¬y.Comb = (c : Int))) || (decide (y.At = (f : Int) + k))) with
    | true =>
      rw [if_pos rfl, b3v (by simp only [List.length_append, List.length_cons, List.length_nil]; omega)]
      simp only [Option.bind_some, c12, b2l hj hl]
      rw [List.filter_cons_of_pos (by exact e), List.filter_nil, List.append_assoc]
    | false =>
      rw [if_neg (by simp)]
      simp only [c12, b2l hj hl]
      rw [List.filter_cons_of_neg (by rw [e]; simp), List.filter_nil, List.append_nil]
  rw [l2]
  simp only [Option.bind_some, c7f, ew]
  have l3 : ∀ pre : List Shift, pre.length ≤ 50 → c1z h f k pre = some ⟨h.Combs, h.Trains, pre ++ shC h f k, h.Until⟩ := fun pre hp => by
    unfold c1z
    have := b3m (f := c39 h f k) h.Shifts.length (fun s k => (s, k)) (fun j => pre ++ (h.Shifts.take j).filter fun s => decide ((f : Int) + k < s.At)) (pre ++ shC h f k) (s0 := pre) (by simp) (fun j hj => by
      obtain ⟨y, hy⟩ := b2i hj
      simp only [c39, b2f hy, Option.bind_some]
      rw [if_pos (by simpa using hj), List.take_add_one, hy, ew]
      have := d4l hs (p := fun s : Shift => decide ((f : Int) + k < s.At)) j
      simp only [Option.toList_some, List.filter_append]
      by_cases e : (f : Int) + k < y.At
      · rw [if_pos (by simpa using e), b3v (by simp only [List.length_append, List.length_cons, List.length_nil]; omega)]
        simp only [Option.bind_some, c11, b2l hj hl]
        rw [List.filter_cons_of_pos (by simpa using e), List.filter_nil, List.append_assoc]
      · rw [if_neg (by simpa using e)]
        simp only [c11, b2l hj hl]
        rw [List.filter_cons_of_neg (by simpa using e), List.filter_nil, List.append_nil]) (by
      simp only [c39]
      rw [if_neg (by simp), List.take_length]; rfl)
    rw [this]; rfl
  by_cases e : f + k < T h
  · rw [if_pos (by rw [← hTi]; simp; omega)]
    rw [show ((f : Int) + k) = ((f + k : Nat) : Int) from by omega, b2c e]
    simp only [Option.bind_some]
    rw [b3v (by simp only [List.length_append, List.length_cons, List.length_nil]; omega)]
    simp only [Option.bind_some]
    rw [l3 _ (by simp only [List.length_append, List.length_cons, List.length_nil]; omega)]
    unfold b5d shW
    rw [if_pos e]
    simp
  · rw [if_neg (by rw [← hTi]; simp; omega), l3 _ (by simp only [List.length_append, List.length_cons, List.length_nil]; omega)]
    unfold b5d shW
    rw [if_neg e, List.append_nil]
end
end Go.Nw.HM
namespace Go.Nw.HM
def Z (h : Hall) (c f k : Nat) : Nat → Nat → Int := fun u t => if u = c ∧ f ≤ t ∧ (t < f + k ∨ T h ≤ f + k) then 0 else b1t h u t
theorem c9h {u t : Nat} {p : Shift → Bool} : ∀ {l : List Shift}, (∀ s ∈ l, p s = false → s.Comb ≠ (u : Int) ∨ (t : Int) < s.At) → ∀ a, (l.filter p).foldl (b2d u t) a = l.foldl (b2d u t) a
  | [], _, _ => rfl
  | s :: l, h, a => by
    cases e : p s with
    | true => rw [List.filter_cons_of_pos e, List.foldl_cons, List.foldl_cons]; exact c9h (fun x hx => h x (List.mem_cons_of_mem _ hx)) _
    | false =>
      have := h s List.mem_cons_self e
      rw [List.filter_cons_of_neg (by rw [e]; simp), List.foldl_cons, show b2d u t a s = a from by unfold b2d; rw [if_neg (by omega)]]
      exact c9h (fun x hx => h x (List.mem_cons_of_mem _ hx)) _
theorem b6s {u t : Nat} : ∀ {l : List Shift}, (∀ s ∈ l, s.Comb ≠ (u : Int) ∨ (t : Int) < s.At) → ∀ a, l.foldl (b2d u t) a = a
  | [], _, _ => rfl
  | s :: l, h, a => by
    have := h s List.mem_cons_self
    rw [List.foldl_cons, show b2d u t a s = a from by unfold b2d; rw [if_neg (by omega)]]
    exact b6s (fun x hx => h x (List.mem_cons_of_mem _ hx)) _
theorem c9i {u t t' : Nat} : ∀ {l : List Shift}, (∀ s ∈ l, s.At ≤ (t : Int)) → t ≤ t' → ∀ a, l.foldl (b2d u t) a = l.foldl (b2d u t') a
  | [], _, _, _ => rfl
  | s :: l, h, ht, a => by
    have := h s List.mem_cons_self
    rw [List.foldl_cons, List.foldl_cons, show b2d u t a s = b2d u t' a s from by
      unfold b2d
      by_cases e : s.Comb = (u : Int)
      · rw [if_pos ⟨e, by omega⟩, if_pos ⟨e, by omega⟩]
      · rw [if_neg (by omega), if_neg (by omega)]]
    exact c9i (fun x hx => h x (List.mem_cons_of_mem _ hx)) ht _
theorem d2v : ∀ {l : List Shift} (g : Int), l.Pairwise (fun a b => a.At ≤ b.At) → l = l.filter (fun s => decide (s.At ≤ g)) ++ l.filter (fun s => decide (g < s.At))
  | [], _, _ => rfl
  | s :: l, g, h => by
    obtain ⟨h1, h2⟩ := List.pairwise_cons.1 h
    by_cases e : s.At ≤ g
    · rw [List.filter_cons_of_pos (by simpa using e), List.filter_cons_of_neg (by simpa using e), List.cons_append]
      congr 1
      exact d2v g h2
    · have hn : ∀ x ∈ s :: l, ¬ x.At ≤ g := fun x hx => by
        rcases List.mem_cons.1 hx with rfl | hx
        · exact e
        · have := h1 x hx; omega
      rw [List.filter_eq_nil_iff.2 (fun x hx => by simpa using hn x hx), List.nil_append, List.filter_eq_self.2 (fun x hx => by have := hn x hx; simpa using this)]
theorem d9u {h : Hall} (hv : V h) : h.Shifts.Pairwise fun a b => a.At ≤ b.At := by
  rw [List.pairwise_iff_getElem]
  intro a b ha hb hab
  obtain ⟨d, rfl⟩ : ∃ d, b = a + d := ⟨b - a, by omega⟩
  exact c7v hv d a _ _ (List.getElem?_eq_getElem ha) (List.getElem?_eq_getElem hb)
section
variable {h : Hall} (hv : V h) {c : Nat} {f k : Nat}
def shM (h : Hall) (f k : Nat) : List Shift := h.Shifts.filter fun s => (decide ((f : Int) < s.At)) && (decide (s.At ≤ (f : Int) + k))
include hv
theorem j84 : h.Shifts = shA h f ++ (shM h f k ++ shC h f k) := by
  have h1 := d2v (f : Int) (d9u hv)
  have h2 := d2v ((f : Int) + k) (List.Pairwise.filter (fun s : Shift => decide ((f : Int) < s.At)) (d9u hv))
  rw [List.filter_filter, List.filter_filter] at h2
  conv => lhs; rw [h1, h2]
  unfold shA shM shC
  congr 2
  · exact List.filter_congr fun s _ => by rw [Bool.and_comm]
  · exact List.filter_congr fun s _ => by
      by_cases e : (f : Int) + k < s.At
      · simp [e]; omega
      · simp [e]
theorem g2y (hk : 0 < k) (hfk : f + k ≤ T h) (u t : Nat) : b1t (b5d h c f k) u t = Z h c f k u t := by
  have hA : ∀ s ∈ shA h f, s.At ≤ (f : Int) := fun s hs => by simpa using (List.mem_filter.1 hs).2
  have hM : ∀ s ∈ shM h f k, (f : Int) < s.At ∧ s.At ≤ (f : Int) + k := fun s hs => by simpa using (List.mem_filter.1 hs).2
  have hB : ∀ s ∈ shB h c f k, (f : Int) < s.At ∧ s.At ≤ (f : Int) + k ∧ (s.Comb = (c : Int) → s.At = (f : Int) + k) := fun s hs => by
    have := (List.mem_filter.1 hs).2
    simp only [Bool.and_eq_true, Bool.or_eq_true, decide_eq_true_eq] at this
    omega
  have hC : ∀ s ∈ shC h f k, (f : Int) + k < s.At := fun s hs => by simpa using (List.mem_filter.1 hs).2
  have hBM : shB h c f k = (shM h f k).filter (fun s => (decide (¬s.Comb = (c : Int))) || (decide (s.At = (f : Int) + k))) := by
    unfold shB shM; rw [List.filter_filter]
    exact List.filter_congr fun s _ => by rw [Bool.and_comm]
  have h0 : b3p (b5d h c f k) u = b3p h u := rfl
  have hall : ∀ t, b1t h u t = (shC h f k).foldl (b2d u t) ((shM h f k).foldl (b2d u t) ((shA h f).foldl (b2d u t) (b3p h u))) := fun t => by
    unfold b1t
    conv => lhs; rw [j84 hv (f := f) (k := k)]
    rw [List.foldl_append, List.foldl_append]
  have hsh : b1t (b5d h c f k) u t = (shC h f k).foldl (b2d u t) ((shW h c f k).foldl (b2d u t) ((shB h c f k).foldl (b2d u t) (b2d u t ((shA h f).foldl (b2d u t) (b3p h u)) ⟨f, c, 0⟩))) := by
    unfold b1t
    rw [h0]
    unfold b5d
    simp only [List.foldl_append, List.foldl_cons, List.foldl_nil]
  rw [hsh]
  unfold Z
  by_cases e : u = c
  · subst e
    by_cases q1 : t < f
    · rw [if_neg (by omega), hall, show b2d u t _ ⟨f, u, 0⟩ = _ from if_neg (by simp only; omega), b6s (l := shB h u f k) (fun s hs => by have := hB s hs; omega), b6s (l := shW h u f k) (fun s hs => by
        unfold shW at hs
        split at hs
        · rcases List.mem_singleton.1 hs with rfl; right; simp only; omega
        · cases hs), b6s (l := shM h f k) (fun s hs => by have := hM s hs; omega)]
    · by_cases q2 : t < f + k
      · rw [if_pos ⟨rfl, by omega, .inl q2⟩, show b2d u t _ ⟨f, u, 0⟩ = 0 from if_pos ⟨rfl, by show (f : Int) ≤ t; omega⟩, b6s (l := shB h u f k) (fun s hs => by have := hB s hs; omega), b6s (l := shW h u f k) (fun s hs => by
          unfold shW at hs
          split at hs
          · rcases List.mem_singleton.1 hs with rfl; right; simp only; omega
          · cases hs), b6s (l := shC h f k) (fun s hs => by have := hC s hs; omega)]
      · by_cases q3 : f + k < T h
        · rw [if_neg (by omega)]
          unfold shW
          rw [if_pos q3, List.foldl_cons, List.foldl_nil, show b2d u t _ ⟨(f : Int) + k, u, b1t h u (f + k)⟩ = b1t h u (f + k) from if_pos ⟨rfl, by show (f : Int) + k ≤ t; omega⟩, hall (f + k), hall t,
            b6s (u := u) (t := f + k) (l := shC h f k) (fun s hs => by have := hC s hs; omega), c9i (t := f + k) (t' := t) (fun s hs => by have := hM s hs; omega) (by omega), c9i (t := f + k) (t' := t) (l := shA h f) (fun s hs => by have := hA s hs; omega) (by omega)]
        · rw [if_pos ⟨rfl, by omega, .inr (by omega)⟩]
          unfold shW
          rw [if_neg q3, List.foldl_nil, show b2d u t _ ⟨f, u, 0⟩ = 0 from if_pos ⟨rfl, by show (f : Int) ≤ t; omega⟩, ← List.foldl_append]
          have hno : ∀ s ∈ h.Shifts, s.At < T h := fun s hs => by
            obtain ⟨j, hj, rfl⟩ := List.getElem_of_mem hs
            have := (hv.2.2.2 j _ (List.getElem?_eq_getElem hj)).2.1
            have := b34 hv
            omega
          refine b6s (fun s hs => ?_) _
          rcases List.mem_append.1 hs with hs | hs
          · have h1 := hB s hs
            have h2 := hno s (List.mem_filter.1 hs).1
            omega
          · have h1 := hC s hs
            have h2 := hno s (List.mem_filter.1 hs).1
            omega
  · rw [if_neg (by omega), hall, show b2d u t _ ⟨f, c, 0⟩ = _ from if_neg (by simp only; omega), hBM, c9h (fun s _ hp => by
      simp only [Bool.or_eq_false_iff, decide_eq_false_iff_not] at hp
      omega), b6s (l := shW h c f k) (fun s hs => by
        unfold shW at hs
        split at hs
        · rcases List.mem_singleton.1 hs with rfl; left; simp only; omega
        · cases hs)]
end
section
variable {h : Hall} (hv : V h) {c : Nat} (hc : c < h.Combs.length) {f : Nat} (hf : f < T h)
include hv hc hf
omit hv hc in
theorem d3c : Z h c f 0 = b1t h := by
  funext u t
  unfold Z
  rw [if_neg (by omega)]
omit hc hf in
theorem d3b (k : Nat) : Rt h (Z h c f k) := ⟨fun u t _ _ => by
  unfold Z
  split
  · omega
  · exact c4d hv t⟩
omit hv hf in
theorem g2z {k : Nat} (hfk : f + k < T h) : (opT h (Z h c f k)).set c ((tab (T h) (Z h c f k c)).set (f + k) 0) = opT h (Z h c f (k + 1)) := by
  unfold opT
  rw [b63]
  refine b5q fun u hu => ?_
  by_cases e : u = c
  · subst e
    rw [if_pos rfl, b63]
    refine b5q fun t ht => ?_
    unfold Z
    by_cases q : t = f + k
    · rw [if_pos q, if_pos (by omega)]
    · rw [if_neg q]
      by_cases q2 : f ≤ t ∧ t < f + k
      · rw [if_pos (by omega), if_pos (by omega)]
      · rw [if_neg (by omega), if_neg (by omega)]
  · rw [if_neg e]
    refine b5q fun t ht => ?_
    unfold Z
    rw [if_neg (by omega), if_neg (by omega)]
theorem g7x : (∃ n : Nat, b42 h c f = some ((n : Int), 0) ∧ f + n ≤ T h ∧ b5f h (Z h c f n) ∧ ∀ m, m < n → ¬ b5f h (Z h c f m)) ∨ (b42 h c f = some (0, 3) ∧ ∀ m, f + m ≤ T h → ¬ b5f h (Z h c f m)) := by
  have hT := b29 hv
  have hTi := b34 hv
  classical
  have e0 : b42 h c f = (b02 (b69 h c f) (opT h (Z h c f 0), 0)).bind fun r' => some r' := by
    unfold b42
    rw [c5e hv c [(f : Int)] (by simp [maxLen]), if_pos ⟨by omega, fun t ht => by rcases List.mem_singleton.1 ht with rfl; omega⟩]
    simp only [Option.bind_some]
    rw [if_neg (by simp), d9a hv, d3c hf]
    rfl
  rw [e0]
  have step : ∀ k, f + k ≤ T h → b69 h c f (opT h (Z h c f k), (k : Int)) = (if b5f h (Z h c f k) then some (Out.br ((k : Int), (0 : Int))) else if f + k = T h then some (Out.br ((0 : Int), (3 : Int))) else some (Out.nx (opT h (Z h c f (k + 1)), ((k + 1 : Nat) : Int)))) := fun k hk => by
    unfold b69
    simp only
    rw [d3q hv (d3b hv k)]
    simp only [Option.bind_some]
    rw [j7a hv]
    simp only [Option.bind_some]
    by_cases q : b5f h (Z h c f k)
    · rw [if_pos q, if_pos (by rw [d15.2 q]; simp)]
    · rw [if_neg q, if_neg (by
        intro hh
        refine q (d15.1 ?_)
        simp only [decide_eq_true_eq] at hh
        exact List.length_eq_zero_iff.1 (by omega)), show wr ((f : Int) + k) = ((f + k : Nat) : Int) from by rw [b1v (by omega) (by omega)]; omega]
      by_cases q2 : f + k = T h
      · rw [if_pos q2, if_pos (by rw [q2, hTi]; simp)]
      · rw [if_neg q2, if_neg (by rw [← hTi]; simp; omega)]
        rw [show get (opT h (Z h c f k)) (c : Int) = some (tab (T h) (Z h c f k c)) from b2c hc]
        simp only [Option.bind_some]
        rw [b2c (show f + k < T h by omega)]
        simp only [Option.bind_some]
        rw [show ((c : Int)).toNat = c from by omega, show (((f + k : Nat) : Int)).toNat = f + k from by omega, g2z hc (by omega), b1v (by omega) (by omega)]
        rfl
  have key : ∀ (d k : Nat), T h - f - k = d → f + k ≤ T h → (∀ m, m < k → ¬ b5f h (Z h c f m)) →
      (∃ n : Nat, (b02 (b69 h c f) (opT h (Z h c f k), (k : Int))).bind (fun r' => some r') = some ((n : Int), 0) ∧ f + n ≤ T h ∧ b5f h (Z h c f n) ∧ ∀ m, m < n → ¬ b5f h (Z h c f m)) ∨
      ((b02 (b69 h c f) (opT h (Z h c f k), (k : Int))).bind (fun r' => some r') = some (0, 3) ∧ ∀ m, f + m ≤ T h → ¬ b5f h (Z h c f m)) := by
    intro d
    induction d with
    | zero =>
      intro k hd hk hb
      have hs := step k hk
      by_cases q : b5f h (Z h c f k)
      · rw [if_pos q] at hs
        rw [b4k hs]
        exact .inl ⟨k, rfl, hk, q, hb⟩
      · rw [if_neg q, if_pos (by omega)] at hs
        rw [b4k hs]
        exact .inr ⟨rfl, fun m hm => by
          by_cases e : m = k
          · subst e; exact q
          · exact hb m (by omega)⟩
    | succ d ih =>
      intro k hd hk hb
      have hs := step k hk
      by_cases q : b5f h (Z h c f k)
      · rw [if_pos q] at hs
        rw [b4k hs]
        exact .inl ⟨k, rfl, hk, q, hb⟩
      · rw [if_neg q, if_neg (by omega)] at hs
        rw [b7e hs]
        exact ih (k + 1) (by omega) (by omega) fun m hm => by
          by_cases e : m = k
          · subst e; exact q
          · exact hb m (by omega)
  exact key _ 0 rfl (by omega) fun m hm => by omega
end
end Go.Nw.HM
namespace Go.Nw.HM
def g7t (x : Train) (a : Int) (p : List Int) : Prop := (x.At.Low ≤ a ∧ a ≤ x.At.High) ∧ p.length = x.Crowds.length ∧ ∀ (k : Nat) y n, x.Crowds[k]? = some y → p[k]? = some n → y.People.Low ≤ n ∧ n ≤ y.People.High
def g7u (x : Comb) (w : List Int) : Prop := 1 ≤ w.length ∧ w.length ≤ 20 ∧ ∀ n ∈ w, x.Walk.Low ≤ n ∧ n ≤ x.Walk.High
structure Fit (h : Hall) (d : Day) : Prop where
  at_ : d.At.length = h.Trains.length
  people : d.People.length = h.Trains.length
  walks : d.Walks.length = h.Combs.length
  ride : ∀ (i : Nat) x a p, h.Trains[i]? = some x → d.At[i]? = some a → d.People[i]? = some p → g7t x a p
  walk : ∀ (u : Nat) x w, h.Combs[u]? = some x → d.Walks[u]? = some w → g7u x w
section
variable {d : Day} {i : Nat} {x : Train} {p : List Int} (hp : d.People[i]? = some p) (hl : p.length = x.Crowds.length) (hm : x.Crowds.length ≤ maxLen)
include hp hl hm
end
section
variable {h : Hall} (hv : V h) {d : Day} (hd : g2t d)
include hv hd
end
end Go.Nw.HM
namespace Go.Nw.HM
def dAt (d : Day) (i : Nat) : Int := (d.At[i]?).getD 0
def dPe (d : Day) (i k : Nat) : Int := (((d.People[i]?).getD [])[k]?).getD 0
def wlk (d : Day) (u t : Nat) : Nat := ((((d.Walks[u]?).getD [])[t % ((d.Walks[u]?).getD []).length]?).getD 0).toNat
def tr (h : Hall) (i : Nat) : Train := (h.Trains[i]?).getD default
def crC (h : Hall) (i k : Nat) : Int := (((tr h i).Crowds[k]?).map (·.Comb)).getD (-1)
def nxt (h : Hall) (u : Nat) : Int := ((h.Combs[u]?).map (·.Next)).getD (-1)
def c2m (h : Hall) (d : Day) (c i k : Nat) : Int := if crC h i k = (c : Int) then dPe d i k else 0
def b8p (h : Hall) (d : Day) (t c i : Nat) : Int := if dAt d i = (t : Int) then b01 (c2m h d c i) (tr h i).Crowds.length else 0
def arr (h : Hall) (d : Day) (t c : Nat) : Int := b01 (b8p h d t c) h.Trains.length
def psN (h : Hall) (n : Nat → Nat → Int) (t c : Nat) : Int := min (n t c) (b1t h c t)
def lfN (h : Hall) (n : Nat → Nat → Int) (t c : Nat) : Int := n t c - psN h n t c
def Wt (h : Hall) (d : Day) (p : Nat → Nat → Int) (s e u t : Nat) : Int := if nxt h u = (e : Int) ∧ t + wlk d u t = s then p t u else 0
def b9u (h : Hall) (d : Day) (n : Nat → Nat → Int) (t c : Nat) : Int := (arr h d t c + b01 (fun u => b01 (Wt h d (psN h n) t c u) t) h.Combs.length) + if 0 < t then lfN h n (t - 1) c else 0
def nL (h : Hall) (d : Day) : Nat → Nat → Nat → Int
  | 0 => fun _ _ => 0
  | k + 1 => fun t c => if t = k then b9u h d (nL h d k) k c else nL h d k t c
def nn (h : Hall) (d : Day) (t c : Nat) : Int := nL h d (t + 1) t c
abbrev ps (h : Hall) (d : Day) : Nat → Nat → Int := psN h (nn h d)
abbrev lf (h : Hall) (d : Day) : Nat → Nat → Int := lfN h (nn h d)
theorem j8c {h : Hall} {d : Day} {p q : Nat → Nat → Int} {t c : Nat} (hpq : ∀ t', t' < t → ∀ c, p t' c = q t' c) : b9u h d p t c = b9u h d q t c := by
  unfold b9u
  congr 1
  · congr 1
    refine c6u fun u _ => c6u fun t' ht' => ?_
    unfold Wt psN
    rw [hpq t' ht']
  · split
    · unfold lfN psN; rw [hpq (t - 1) (by omega)]
    · rfl
theorem j2n {h : Hall} {d : Day} {k t c : Nat} (ht : t < k) : nL h d k t c = nn h d t c := by
  induction k with
  | zero => omega
  | succ k ih =>
    by_cases e : t = k
    · subst e; rfl
    · show (if t = k then _ else nL h d k t c) = _
      rw [if_neg e]; exact ih (by omega)
theorem d84 {h : Hall} {d : Day} {t c : Nat} : nn h d t c = b9u h d (nn h d) t c := by
  show (if t = t then b9u h d (nL h d t) t c else _) = _
  rw [if_pos rfl]
  exact j8c fun t' ht' c => j2n ht'
section
variable {h : Hall} {d : Day}
variable (hv : V h) (hf : Fit h d)
include hv hf
theorem j7n {i k : Nat} (hi : i < h.Trains.length) (hk : k < (tr h i).Crowds.length) : 0 ≤ dPe d i k ∧ dPe d i k ≤ 1000 ∧ ∃ y, (tr h i).Crowds[k]? = some y ∧ y.People.Low ≤ dPe d i k ∧ dPe d i k ≤ y.People.High := by
  obtain ⟨x, hx⟩ := b2i hi
  obtain ⟨a, ha⟩ := b2i (show i < d.At.length by rw [hf.at_]; exact hi)
  obtain ⟨p, hp⟩ := b2i (show i < d.People.length by rw [hf.people]; exact hi)
  obtain ⟨_, g2, g3⟩ := hf.ride i x a p hx ha hp
  have et : tr h i = x := by unfold tr; rw [hx]; rfl
  rw [et] at hk ⊢
  obtain ⟨y, hy⟩ := b2i hk
  obtain ⟨n, hn⟩ := b2i (show k < p.length by omega)
  have := g3 k y n hy hn
  have hg := (hv.2.2.1 i x hx).2.2.2.2 k y hy
  unfold b5k at hg
  have e : dPe d i k = n := by unfold dPe; rw [hp]; simp [hn]
  rw [e]
  exact ⟨by omega, by omega, y, hy, by omega, by omega⟩
omit hf in
theorem g53 {i : Nat} (hi : i < h.Trains.length) : (tr h i).Crowds.length ≤ 4 := by
  obtain ⟨x, hx⟩ := b2i hi
  have : tr h i = x := by unfold tr; rw [hx]; rfl
  rw [this]; exact (hv.2.2.1 i x hx).2.2.2.1
theorem g26 {c i : Nat} (hi : i < h.Trains.length) {k : Nat} (hk : k ≤ (tr h i).Crowds.length) : 0 ≤ b01 (c2m h d c i) k ∧ b01 (c2m h d c i) k ≤ 4000 := by
  have := b9l (f := c2m h d c i) (B := 1000) (k := k) fun j hj => by
    have := j7n hv hf hi (show j < (tr h i).Crowds.length by omega)
    unfold c2m; split <;> omega
  have := g53 hv hi
  omega
theorem g25 {t c i : Nat} (hi : i < h.Trains.length) : 0 ≤ b8p h d t c i ∧ b8p h d t c i ≤ 4000 := by
  have := g26 hv hf (c := c) hi (Nat.le_refl _)
  unfold b8p; split <;> omega
theorem g27 {t c k : Nat} (hk : k ≤ h.Trains.length) : 0 ≤ b01 (b8p h d t c) k ∧ b01 (b8p h d t c) k ≤ 48000 := by
  have := b9l (f := b8p h d t c) (B := 4000) (k := k) fun i hi => g25 hv hf (by omega)
  have := hv.1.2.2.2.2.1
  omega
omit hf in
theorem g2x {n : Nat → Nat → Int} {s e u t : Nat} (hn : ∀ t c, t < s → 0 ≤ n t c) (ht : t < s) : 0 ≤ Wt h d (psN h n) s e u t ∧ Wt h d (psN h n) s e u t ≤ 1000 := by
  have h1 := hn t u ht
  have h2 := c4d hv (c := u) t
  unfold Wt; split
  · unfold psN; omega
  · omega
theorem j5y : ∀ (t : Nat), t < T h → ∀ c, 0 ≤ nn h d t c ∧ nn h d t c ≤ 1000000 * (t + 1) := by
  intro t
  induction t using Nat.strongRecOn with
  | _ t ih =>
    intro ht c
    have hT := b29 hv
    have hN := hv.1.2.2.2.1
    have h1 := g27 hv hf (t := t) (c := c) (Nat.le_refl _)
    have h2 : 0 ≤ b01 (fun u => b01 (Wt h d (psN h (nn h d)) t c u) t) h.Combs.length ∧ b01 (fun u => b01 (Wt h d (psN h (nn h d)) t c u) t) h.Combs.length ≤ 800000 := by
      have := b9l (f := fun u => b01 (Wt h d (psN h (nn h d)) t c u) t) (B := 100000) (k := h.Combs.length) fun u hu => by
        have := b9l (f := Wt h d (psN h (nn h d)) t c u) (B := 1000) (k := t) fun t' ht' => g2x hv (fun t c htt => by
          by_cases q : t < T h
          · exact (ih t (by omega) q c).1
          · omega) ht'
        omega
      omega
    rw [d84]
    unfold b9u
    unfold arr
    split
    · have h3 := ih (t - 1) (by omega) (by omega) c
      have h4 := c4d hv (c := c) (t - 1)
      have e1 : lfN h (nn h d) (t - 1) c = nn h d (t - 1) c - min (nn h d (t - 1) c) (b1t h c (t - 1)) := rfl
      rw [e1]
      have : ((t - 1 : Nat) : Int) = (t : Int) - 1 := by omega
      rw [this] at h3
      omega
    · omega
theorem j7q {t : Nat} (ht : t < T h) (c : Nat) : 0 ≤ ps h d t c ∧ ps h d t c ≤ 1000 ∧ 0 ≤ lf h d t c ∧ lf h d t c ≤ 1000000 * (t + 1) := by
  have h1 := j5y hv hf t ht c
  have h2 := c4d hv (c := c) t
  have e1 : ps h d t c = min (nn h d t c) (b1t h c t) := rfl
  have e2 : lf h d t c = nn h d t c - ps h d t c := rfl
  omega
end
end Go.Nw.HM
namespace Go.Nw.HM
section
variable {h : Hall} {d : Day} (hv : V h) (hf : Fit h d)
include hv hf
end
end Go.Nw.HM
namespace Go.Nw.HM
def cm (h : Hall) (d : Day) (c t : Nat) : Int := arr h d t c + b01 (fun u => b01 (Wt h d (ps h d) t c u) t) h.Combs.length
def b3b (f : Nat → Int) (a b : Nat) : Int := b01 f b - b01 f a
theorem b9v {f : Nat → Int} {a b : Nat} : b3b f a (b + 1) = b3b f a b + f b := by unfold b3b; rw [b48]; omega
theorem b62 {f : Nat → Int} {a : Nat} : b3b f a a = 0 := by unfold b3b; omega
theorem j8s {f : Nat → Int} {a b c : Nat} : b3b f a c = b3b f a b + b3b f b c := by unfold b3b; omega
theorem j8r {f g : Nat → Int} {a b : Nat} (hab : a ≤ b) (h : ∀ i, a ≤ i → i < b → f i ≤ g i) : b3b f a b ≤ b3b g a b := by
  induction b with
  | zero => have : a = 0 := by omega
            subst this; rw [b62, b62]; exact Int.le_refl _
  | succ b ih =>
    by_cases e : a = b + 1
    · subst e; rw [b62, b62]; exact Int.le_refl _
    · rw [b9v, b9v]
      have := ih (by omega) fun i h1 h2 => h i h1 (by omega)
      have := h b (by omega) (by omega)
      omega
section
variable {h : Hall} {d : Day} (hv : V h) (hf : Fit h d)
include hv hf
omit hv hf in
theorem d83 {t c : Nat} : nn h d t c = cm h d c t + if 0 < t then lf h d (t - 1) c else 0 := by rw [d84]; rfl
theorem j7y (c : Nat) {s t : Nat} (hst : s ≤ t) : nn h d t c + b3b (fun x => ps h d x c) s t = (nn h d s c - cm h d c s) + b3b (cm h d c) s (t + 1) := by
  induction t with
  | zero => have : s = 0 := by omega
            subst this; rw [b62, b9v, b62]; omega
  | succ t ih =>
    by_cases e : s = t + 1
    · subst e; rw [b62, b9v, b62]; omega
    · have := ih (by omega)
      have h1 := d83 (h := h) (d := d) (t := t + 1) (c := c)
      rw [if_pos (by omega), Nat.add_sub_cancel] at h1
      have h2 : lf h d t c = nn h d t c - ps h d t c := rfl
      rw [b9v (b := t), b9v (b := t + 1)]
      omega
theorem j15 {t : Nat} (ht : t < T h) (c : Nat) : 0 ≤ nn h d t c - cm h d c t := by
  have h1 := d83 (h := h) (d := d) (t := t) (c := c)
  by_cases q : 0 < t
  · rw [if_pos q] at h1
    have := j7q hv hf (show t - 1 < T h by omega) c
    omega
  · rw [if_neg q] at h1; omega
theorem c6m (c : Nat) {s t : Nat} (hst : s ≤ t) (ht : t < T h) : b3b (cm h d c) s (t + 1) - b3b (b1t h c) s t ≤ nn h d t c := by
  have h1 := j7y hv hf c hst
  have h2 := j15 hv hf (show s < T h by omega) c
  have h3 : b3b (fun x => ps h d x c) s t ≤ b3b (b1t h c) s t := j8r hst fun i _ _ => by
    have : ps h d i c = min (nn h d i c) (b1t h c i) := rfl
    omega
  omega
structure Bnd (h : Hall) (d : Day) (c : Nat) : Prop where
  come : ∀ s t, s ≤ t → t < T h → b3b (cm h d c) s (t + 1) ≤ (own h c).come s t
  most : ∀ t, t < T h → nn h d t c ≤ (own h c).most t
  flow : ∀ t, t < T h → ps h d t c ≤ (own h c).flow t
end
end Go.Nw.HM
namespace Go.Nw.HM
end Go.Nw.HM
namespace Go.Nw.HM
end Go.Nw.HM
