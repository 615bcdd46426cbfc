/- Plain laws on the models. -/
import Derived.Test.YteoedeeljnboeaaP1
import Derived.Test.YteoedeeljnboeaaNwSearch
set_option linter.all false
set_option linter.unusedVariables false
set_option linter.unusedSimpArgs false
set_option linter.unusedSectionVars false
namespace Go.Nw.HM
structure Crowded (n : Nat) (lo : Int) (l : List Crowd) : Prop where
  each : ∀ (k : Nat) x, l[k]? = some x → 0 ≤ x.Comb ∧ x.Comb < n ∧ 0 ≤ x.People.Low ∧ x.People.Low ≤ x.People.High ∧ x.People.High ≤ 1000
structure Valid (h : Hall) : Prop where
  u1 : 1 ≤ h.Until
  u2 : h.Until ≤ 100
  c1 : 1 ≤ h.Combs.length
  c2 : h.Combs.length ≤ 8
  t2 : h.Trains.length ≤ 12
  s2 : h.Shifts.length ≤ 20
  comb : ∀ (k : Nat) x, h.Combs[k]? = some x → 0 ≤ x.Rate ∧ x.Rate ≤ 1000 ∧ 0 ≤ x.Limit ∧ x.Limit ≤ 100000 ∧ (x.Next = -1 ∨ (k < x.Next ∧ x.Next < h.Combs.length)) ∧ 1 ≤ x.Walk.Low ∧ x.Walk.Low ≤ x.Walk.High ∧ x.Walk.High ≤ 20
  train : ∀ (k : Nat) x, h.Trains[k]? = some x → 0 ≤ x.At.Low ∧ x.At.Low ≤ x.At.High ∧ x.At.High ≤ h.Until - 1 ∧ x.Crowds.length ≤ 4 ∧
    (∀ (j : Nat) y, x.Crowds[j]? = some y → 0 ≤ y.People.Low ∧ y.People.Low ≤ y.People.High ∧ y.People.High ≤ 1000 ∧ y.Comb < h.Combs.length ∧ (match j with | 0 => -1 < y.Comb | j + 1 => ∀ z, x.Crowds[j]? = some z → z.Comb < y.Comb))
  shift : ∀ (k : Nat) x, h.Shifts[k]? = some x → 0 ≤ x.At ∧ x.At < h.Until ∧ 0 ≤ x.Comb ∧ x.Comb < h.Combs.length ∧ 0 ≤ x.Rate ∧ x.Rate ≤ 1000 ∧ (∀ j y, k = j + 1 → h.Shifts[j]? = some y → y.At ≤ x.At)
def b5g (n : Nat) (k : Nat) (x : Comb) : Prop := 0 ≤ x.Rate ∧ x.Rate ≤ 1000 ∧ 0 ≤ x.Limit ∧ x.Limit ≤ 100000 ∧ (x.Next = -1 ∨ ((k : Int) < x.Next ∧ x.Next < n)) ∧ 1 ≤ x.Walk.Low ∧ x.Walk.Low ≤ x.Walk.High ∧ x.Walk.High ≤ 20
def b4z (n : Nat) (l : List Crowd) (j : Nat) (y : Crowd) : Prop := 0 ≤ y.People.Low ∧ y.People.Low ≤ y.People.High ∧ y.People.High ≤ 1000 ∧ y.Comb < n ∧ (match j with | 0 => -1 < y.Comb | j + 1 => ∀ z, l[j]? = some z → z.Comb < y.Comb)
def c0m (n : Nat) (u : Int) (x : Train) : Prop := 0 ≤ x.At.Low ∧ x.At.Low ≤ x.At.High ∧ x.At.High ≤ u - 1 ∧ x.Crowds.length ≤ 4 ∧ ∀ (j : Nat) y, x.Crowds[j]? = some y → b4z n x.Crowds j y
def c0l (n : Nat) (u : Int) (l : List Shift) (k : Nat) (x : Shift) : Prop := 0 ≤ x.At ∧ x.At < u ∧ 0 ≤ x.Comb ∧ x.Comb < n ∧ 0 ≤ x.Rate ∧ x.Rate ≤ 1000 ∧ (∀ j y, k = j + 1 → l[j]? = some y → y.At ≤ x.At)
theorem g1l {h : Hall} (hk : b5u h) : ∃ b, c08 h = some b := by
  unfold c08
  split
  · exact ⟨_, rfl⟩
  · have hl : h.Trains.length ≤ maxLen := hk.2.1.1
    rcases d75 (f := c09 h) h.Trains (fun _ x => 10 < x.Crowds.length) (.inr true) (.inl ()) (fun k x hx hb => by
      simp only [c09, b2k hx, Option.bind_some]
      rw [if_pos (by simpa using b1v hx), if_pos (by simp; omega)]) (fun k x hx hb => by
      simp only [c09, b2k hx, Option.bind_some]
      rw [if_pos (by simpa using b1v hx), if_neg (by simp; omega), b2m (b1v hx) hl]) (by simp [c09]) with ⟨_, h2⟩ | ⟨_, h2⟩
    · rw [h2]; exact ⟨_, rfl⟩
    · rw [h2]; exact ⟨_, rfl⟩
end Go.Nw.HM
namespace Go.Nw.HM
def b6v (h : Hall) : Prop := 1 ≤ h.Until ∧ h.Until ≤ 100 ∧ 1 ≤ h.Combs.length ∧ h.Combs.length ≤ 8 ∧ h.Trains.length ≤ 12 ∧ h.Shifts.length ≤ 20
def V (h : Hall) : Prop := b6v h ∧ (∀ (k : Nat) x, h.Combs[k]? = some x → b5g h.Combs.length k x) ∧ (∀ (k : Nat) x, h.Trains[k]? = some x → c0m h.Combs.length h.Until x) ∧ (∀ (k : Nat) x, h.Shifts[k]? = some x → c0l h.Combs.length h.Until h.Shifts k x)
def b49 (l : List Crowd) : Nat → Int
  | 0 => -1
  | j + 1 => ((l[j]?).map (·.Comb)).getD 0
theorem d1t {l : List Crowd} {k : Nat} {x : Crowd} (h : l[k]? = some x) : b49 l (k + 1) = x.Comb := by simp [b49, h]
theorem c2y {n : Nat} {l : List Crowd} {k : Nat} {x : Crowd} (hx : l[k]? = some x) : b4z n l k x ↔ (0 ≤ x.People.Low ∧ x.People.Low ≤ x.People.High ∧ x.People.High ≤ 1000 ∧ x.Comb < n ∧ b49 l k < x.Comb) := by
  unfold b4z
  cases k with
  | zero => simp [b49]
  | succ j =>
    obtain ⟨z, hz⟩ := b2q (show j < l.length by have := b1v hx; omega)
    simp [b49, hz]
section
variable {h : Hall} (hk : b5u h) (hs : b6v h)
include hk hs
theorem d3m {t : Train} (ht : b8e t) : ((∀ k x, t.Crowds[k]? = some x → b4z h.Combs.length t.Crowds k x) ∧ b04 (b71 h t) (-1, 0) = some (.inl ())) ∨ ((∃ k x, t.Crowds[k]? = some x ∧ ¬ b4z h.Combs.length t.Crowds k x) ∧ b04 (b71 h t) (-1, 0) = some (.inr 60)) := by
  have hn := d2m (n := h.Combs.length) (by have := hs.2.2.2.1; simp only [maxLen]; omega)
  have hl : t.Crowds.length ≤ maxLen := ht.2.1
  have hpb : ∀ k, (∀ j y, j < k → t.Crowds[j]? = some y → ¬ ¬ b4z h.Combs.length t.Crowds j y) → k ≤ t.Crowds.length → -1 ≤ b49 t.Crowds k ∧ b49 t.Crowds k < 8 := fun k hg hkl => by
    have key : ∀ m, m ≤ k → -1 ≤ b49 t.Crowds m ∧ b49 t.Crowds m < 8 := by
      intro m
      induction m with
      | zero => intro _; simp [b49]
      | succ m ih =>
        intro hm
        obtain ⟨y, hy⟩ := b2q (show m < t.Crowds.length by omega)
        have hgy := (c2y hy).1 (Classical.not_not.1 (hg m y (by omega) hy))
        have := ih (by omega)
        rw [d1t hy]
        have := hs.2.2.2.1
        omega
    exact key k (Nat.le_refl _)
  have := d1g (f := b71 h t) t.Crowds (fun s k => (s, k)) (b49 t.Crowds) (fun k x => ¬ b4z h.Combs.length t.Crowds k x) (.inr 60) (.inl ()) (fun k x hg hx hb => by
    obtain ⟨p1, p2⟩ := hpb k hg (by have := b1v hx; omega)
    simp only [b71, b2k hx, Option.bind_some, hn, b79 (show -9223372036854775808 ≤ b49 t.Crowds k + 1 by omega) (by omega)]
    rw [if_pos (by simpa using b1v hx), if_pos]
    rw [c2y hx] at hb
    simp only [b2t, b4m, Bool.or_eq_true, Bool.not_eq_true', Bool.and_eq_false_iff, decide_eq_false_iff_not]
    omega) (fun k x hg hx hb => by
    obtain ⟨p1, p2⟩ := hpb k hg (by have := b1v hx; omega)
    simp only [b71, b2k hx, Option.bind_some, hn, b79 (show -9223372036854775808 ≤ b49 t.Crowds k + 1 by omega) (by omega)]
    rw [if_pos (by simpa using b1v hx), if_neg, b2m (b1v hx) hl, d1t hx]
    have hb := (c2y hx).1 (Classical.not_not.1 hb)
    simp only [b2t, b4m, Bool.or_eq_true, Bool.not_eq_true', Bool.and_eq_false_iff, decide_eq_false_iff_not]
    omega) (by simp [b71]) (s0 := -1) rfl
  simpa using this
theorem g4z {t : Train} (ht : b8e t) : ((∀ k x, t.Crowds[k]? = some x → b4z h.Combs.length t.Crowds k x) ∧ b04 (b6p h t) (-1, 0) = some (.inl ())) ∨ ((∃ k x, t.Crowds[k]? = some x ∧ ¬ b4z h.Combs.length t.Crowds k x) ∧ b04 (b6p h t) (-1, 0) = some (.inr false)) := by
  have hl : t.Crowds.length ≤ maxLen := ht.2.1
  have := d1g (f := b6p h t) t.Crowds (fun s k => (s, k)) (b49 t.Crowds) (fun k x => ¬ b4z h.Combs.length t.Crowds k x) (.inr false) (.inl ()) (fun k x hg hx hb => by
    simp only [b6p, b2k hx, Option.bind_some]
    rw [if_pos (by simpa using b1v hx), if_pos]
    rw [c2y hx] at hb
    simp only [b4r, Bool.or_eq_true, Bool.not_eq_true', Bool.and_eq_false_iff, decide_eq_false_iff_not, decide_eq_true_eq]
    omega) (fun k x hg hx hb => by
    simp only [b6p, b2k hx, Option.bind_some]
    rw [if_pos (by simpa using b1v hx), if_neg, b2m (b1v hx) hl, d1t hx]
    have hb := (c2y hx).1 (Classical.not_not.1 hb)
    simp only [b4r, Bool.or_eq_true, Bool.not_eq_true', Bool.and_eq_false_iff, decide_eq_false_iff_not, decide_eq_true_eq]
    omega) (by simp [b6p]) (s0 := -1) rfl
  simpa using this
theorem j0h {t : Train} (ht : b8e t) : ∃ b, b8z h t = some b ∧ (b = true ↔ c0m h.Combs.length h.Until t) := by
  have hu : wr (h.Until - 1) = h.Until - 1 := b79 (by have := hs.1; omega) (by have := hs.2.1; omega)
  unfold b8z
  rcases g4z hk hs ht with ⟨h1, h2⟩ | ⟨⟨k, x, hx, hb⟩, h2⟩
  · rw [h2]
    simp only [Option.bind_some, c0z, hu]
    refine ⟨_, rfl, ?_⟩
    simp only [b4r, Bool.and_eq_true, decide_eq_true_eq, c0m]
    constructor
    · rintro ⟨⟨⟨a, b⟩, c⟩, d⟩; exact ⟨a, b, c, by omega, h1⟩
    · rintro ⟨a, b, c, d, _⟩; exact ⟨⟨⟨a, b⟩, c⟩, by omega⟩
  · rw [h2]
    refine ⟨false, rfl, by simp; exact fun hg => hb (hg.2.2.2.2 k x hx)⟩
end
end Go.Nw.HM
namespace Go.Nw.HM
theorem g7z {l : List Train} {f : Train → Option Bool} {p : Train → Prop} (hl : l.length ≤ maxLen) (hf : ∀ x ∈ l, ∃ b, f x = some b ∧ (b = true ↔ p x)) :
    ∃ b, c12 l f = some b ∧ (b = true ↔ ∃ x ∈ l, p x) := d5j rfl hl hf
theorem g7y {l : List Int} {f : Int → Option Bool} {p : Int → Prop} (hl : l.length ≤ maxLen) (hf : ∀ x ∈ l, ∃ b, f x = some b ∧ (b = true ↔ p x)) :
    ∃ b, c13 l f = some b ∧ (b = true ↔ ∃ x ∈ l, p x) := d5j rfl hl hf
theorem c7j {j n : Nat} (h : j + 1 < n) (hn : n ≤ maxLen) : wr (((j + 1 : Nat) : Int) - 1) = (j : Int) := by
  rw [b79 (by omega) (by simp only [maxLen] at hn; omega)]; omega
theorem d7m {h : Hall} {k : Nat} {x : Comb} (hx : h.Combs[k]? = some x) : ∃ b, b8y h k = some b ∧ (b = true ↔ b5g h.Combs.length k x) := by
  unfold b8y
  rw [b2k hx]
  refine ⟨_, rfl, ?_⟩
  simp only [b4h, b4r, b5g, Bool.and_eq_true, Bool.or_eq_true, decide_eq_true_eq]
  omega
theorem d9k {h : Hall} (hk : b5u h) : b6v h ∨ (¬ b6v h ∧ b4q h = some 60 ∧ b5a h = some 60) := by
  by_cases hs : b6v h
  · exact .inl hs
  · refine .inr ⟨hs, ?_, ?_⟩
    · unfold b4q
      rw [if_pos]
      simp only [Bool.or_eq_true, decide_eq_true_eq]
      unfold b6v at hs; omega
    · unfold b5a
      rw [if_pos]
      simp only [b2t, Bool.or_eq_true, Bool.not_eq_true', Bool.and_eq_false_iff, decide_eq_false_iff_not, decide_eq_true_eq]
      unfold b6v at hs; omega
theorem g1f {h : Hall} (hk : b5u h) : (V h ∧ b4q h = some 0) ∨ (¬ V h ∧ b4q h = some 60) := by
  rcases d9k hk with hs | ⟨hs, h1, _⟩
  · have e1 : h.Combs.length ≤ maxLen := hk.1.1
    have e2 : h.Trains.length ≤ maxLen := hk.2.1.1
    have e3 : h.Shifts.length ≤ maxLen := hk.2.2.1.1
    unfold b4q
    rw [if_neg (by simp only [Bool.or_eq_true, decide_eq_true_eq]; unfold b6v at hs; omega)]
    rcases c3s (f := b7k h) h.Combs (fun k x => ¬ b5g h.Combs.length k x) (.inr 60) (.inl ()) (fun k x _ hx hb => by
        obtain ⟨b, b1, b2⟩ := d7m hx
        have : b = false := g2l fun hh => hb (b2.1 hh)
        subst this
        simp [b7k, b1, b1v hx]) (fun k x _ hx hb => by
        obtain ⟨b, b1, b2⟩ := d7m hx
        have : b = true := b2.2 (Classical.not_not.1 hb)
        subst this
        simp [b7k, b1, b1v hx, b2m (b1v hx) e1]) (by simp [b7k]) with ⟨c1, c2⟩ | ⟨⟨k, x, hx, hb⟩, c2⟩
    · rw [c2]
      simp only [Option.bind_some, c0n]
      obtain ⟨b, b1, b2⟩ := g7z (l := h.Trains) (f := fun z => b7i z h) (p := fun t => ¬ c0m h.Combs.length h.Until t) e2 fun t ht => by
        obtain ⟨b, b1, b2⟩ := j0h hk hs (hk.2.1.2 t ht)
        refine ⟨!b, by simp [b7i, b1], ?_⟩
        cases b <;> simp_all
      rw [b1]
      simp only [Option.bind_some]
      cases b with
      | true =>
        rw [if_pos rfl]
        obtain ⟨t, ht, hbad⟩ := b2.1 rfl
        obtain ⟨j, hj, rfl⟩ := List.getElem_of_mem ht
        exact .inr ⟨fun hv => hbad (hv.2.2.1 j _ (List.getElem?_eq_getElem hj)), rfl⟩
      | false =>
        rw [if_neg (by simp)]
        have ht : ∀ (k : Nat) x, h.Trains[k]? = some x → c0m h.Combs.length h.Until x := fun k x hx => Classical.byContradiction fun hn => by have := b2.2 ⟨x, List.mem_of_getElem? hx, hn⟩; cases this
        rcases c3s (f := b7j h) h.Shifts (fun k x => ¬ c0l h.Combs.length h.Until h.Shifts k x) (.inr 60) (.inl ()) (fun k x _ hx hb => by
            simp only [b7j, b2k hx, Option.bind_some]
            rw [if_pos (by simpa using b1v hx)]
            unfold c0l at hb
            by_cases q : x.At < 0 ∨ h.Until ≤ x.At
            · rw [if_pos (by simpa using q)]; simp
            · rw [if_neg (by simpa using q)]
              cases k with
              | zero =>
                simp only [Int.natCast_zero, Int.lt_irrefl, decide_false, Bool.false_eq_true, if_false, Option.bind_some, Bool.false_or]
                rw [if_pos]
                simp only [b4h, Bool.or_eq_true, Bool.not_eq_true', Bool.and_eq_false_iff, decide_eq_false_iff_not, decide_eq_true_eq]
                refine Classical.byContradiction fun hc => hb ⟨by omega, by omega, by omega, by omega, by omega, by omega, fun j y hj => by omega⟩
              | succ j =>
                obtain ⟨y, hy⟩ := b2q (show j < h.Shifts.length by have := b1v hx; omega)
                rw [if_pos (by simp <;> omega), c7j (b1v hx) e3, b2k hy]
                simp only [Option.bind_some]
                rw [if_pos]
                simp only [b4h, Bool.or_eq_true, Bool.not_eq_true', Bool.and_eq_false_iff, decide_eq_false_iff_not, decide_eq_true_eq]
                refine Classical.byContradiction fun hc => hb ⟨by omega, by omega, by omega, by omega, by omega, by omega, fun j' y' hj' hy' => by
                  obtain rfl : j' = j := by omega
                  rw [hy] at hy'; cases hy'; omega⟩) (fun k x _ hx hb => by
            have hb := Classical.not_not.1 hb
            obtain ⟨q1, q2, q3, q4, q5, q6, q7⟩ := hb
            simp only [b7j, b2k hx, Option.bind_some]
            rw [if_pos (by simpa using b1v hx), if_neg (by simp; omega)]
            cases k with
            | zero =>
              simp only [Int.natCast_zero, Int.lt_irrefl, decide_false, Bool.false_eq_true, if_false, Option.bind_some, Bool.false_or]
              rw [if_neg]
              · rfl
              · simp only [b4h, Bool.or_eq_true, Bool.not_eq_true', Bool.and_eq_false_iff, decide_eq_false_iff_not, decide_eq_true_eq]
                omega
            | succ j =>
              obtain ⟨y, hy⟩ := b2q (show j < h.Shifts.length by have := b1v hx; omega)
              have := q7 j y rfl hy
              rw [if_pos (by simp <;> omega), c7j (b1v hx) e3, b2k hy]
              simp only [Option.bind_some]
              rw [if_neg, b2m (b1v hx) e3]
              simp only [b4h, Bool.or_eq_true, Bool.not_eq_true', Bool.and_eq_false_iff, decide_eq_false_iff_not, decide_eq_true_eq]
              omega) (by simp [b7j]) with ⟨d1, d2⟩ | ⟨⟨k, x, hx, hb⟩, d2⟩
        · rw [d2]
          exact .inl ⟨⟨hs, fun k x hx => Classical.not_not.1 (c1 k x hx), ht, fun k x hx => Classical.not_not.1 (d1 k x hx)⟩, rfl⟩
        · rw [d2]
          exact .inr ⟨fun hv => hb (hv.2.2.2 k x hx), rfl⟩
    · rw [c2]
      exact .inr ⟨fun hv => hb (hv.2.1 k x hx), rfl⟩
  · exact .inr ⟨fun hv => hs hv.1, h1⟩
end Go.Nw.HM
namespace Go.Nw.HM
theorem g1g {h : Hall} (hk : b5u h) : (V h ∧ b5a h = some 0) ∨ (¬ V h ∧ b5a h = some 60) := by
  rcases d9k hk with hs | ⟨hs, _, h1⟩
  · have e1 : h.Combs.length ≤ maxLen := hk.1.1
    have e2 : h.Trains.length ≤ maxLen := hk.2.1.1
    have e3 : h.Shifts.length ≤ maxLen := hk.2.2.1.1
    have hu : wr (h.Until - 1) = h.Until - 1 := b79 (by have := hs.1; omega) (by have := hs.2.1; omega)
    have hn := d2m e1
    unfold b5a
    rw [if_neg (by simp only [b2t, Bool.or_eq_true, Bool.not_eq_true', Bool.and_eq_false_iff, decide_eq_false_iff_not, decide_eq_true_eq]; unfold b6v at hs; omega)]
    rcases c3s (f := c1t h) h.Combs (fun k x => ¬ b5g h.Combs.length k x) (.inr 60) (.inl ()) (fun k x _ hx hb => by
        simp only [c1t, b2k hx, Option.bind_some, hn, b2m (b1v hx) e1]
        rw [if_pos (by simpa using b1v hx), if_pos]
        simp only [b2t, b4m, Bool.or_eq_true, Bool.and_eq_true, Bool.not_eq_true', Bool.and_eq_false_iff, decide_eq_false_iff_not, decide_eq_true_eq]
        unfold b5g at hb; omega) (fun k x _ hx hb => by
        have hb := Classical.not_not.1 hb
        simp only [c1t, b2k hx, Option.bind_some, hn, b2m (b1v hx) e1]
        rw [if_pos (by simpa using b1v hx), if_neg]
        simp only [b2t, b4m, Bool.or_eq_true, Bool.and_eq_true, Bool.not_eq_true', Bool.and_eq_false_iff, decide_eq_false_iff_not, decide_eq_true_eq]
        unfold b5g at hb; omega) (by simp [c1t]) with ⟨c1, c2⟩ | ⟨⟨k, x, hx, hb⟩, c2⟩
    · rw [c2]
      simp only [Option.bind_some, c6z]
      rcases c3s (f := c1u h) h.Trains (fun _ x => ¬ c0m h.Combs.length h.Until x) (.inr 60) (.inl ()) (fun k x _ hx hb => by
          simp only [c1u, b2k hx, Option.bind_some, hu]
          rw [if_pos (by simpa using b1v hx)]
          by_cases q : ¬ (0 ≤ x.At.Low ∧ x.At.Low ≤ x.At.High ∧ x.At.High ≤ h.Until - 1) ∨ 4 < x.Crowds.length
          · rw [if_pos]
            simp only [b4m, Bool.or_eq_true, Bool.not_eq_true', Bool.and_eq_false_iff, decide_eq_false_iff_not, decide_eq_true_eq]
            omega
          · rw [if_neg (by
              simp only [b4m, Bool.or_eq_true, Bool.not_eq_true', Bool.and_eq_false_iff, decide_eq_false_iff_not, decide_eq_true_eq]
              omega)]
            rcases d3m hk hs (hk.2.1.2 x (List.mem_of_getElem? hx)) with ⟨d1, d2⟩ | ⟨_, d2⟩
            · exact absurd ⟨by omega, by omega, by omega, by omega, d1⟩ hb
            · rw [d2]; rfl) (fun k x _ hx hb => by
          have hb := Classical.not_not.1 hb
          obtain ⟨q1, q2, q3, q4, q5⟩ := hb
          simp only [c1u, b2k hx, Option.bind_some, hu]
          rw [if_pos (by simpa using b1v hx), if_neg (by
              simp only [b4m, Bool.or_eq_true, Bool.not_eq_true', Bool.and_eq_false_iff, decide_eq_false_iff_not, decide_eq_true_eq]
              omega)]
          rcases d3m hk hs (hk.2.1.2 x (List.mem_of_getElem? hx)) with ⟨d1, d2⟩ | ⟨⟨j, y, hy, hb⟩, d2⟩
          · rw [d2]; simp only [Option.bind_some, c6y, b2m (b1v hx) e2]
          · exact absurd (q5 j y hy) hb) (by simp [c1u]) with ⟨t1, t2⟩ | ⟨⟨k, x, hx, hb⟩, t2⟩
      · rw [t2]
        simp only [Option.bind_some, c60]
        rcases c3s (f := c1v h) h.Shifts (fun k x => ¬ c0l h.Combs.length h.Until h.Shifts k x) (.inr 60) (.inl ()) (fun k x _ hx hb => by
            simp only [c1v, b2k hx, Option.bind_some, hu, hn]
            rw [if_pos (by simpa using b1v hx)]
            unfold c0l at hb
            by_cases q : 0 ≤ x.At ∧ x.At < h.Until ∧ 0 ≤ x.Comb ∧ x.Comb < h.Combs.length ∧ 0 ≤ x.Rate ∧ x.Rate ≤ 1000
            · rw [if_neg (by
                simp only [b2t, Bool.or_eq_true, Bool.not_eq_true', Bool.and_eq_false_iff, decide_eq_false_iff_not, decide_eq_true_eq]
                omega)]
              cases k with
              | zero => exact absurd ⟨q.1, q.2.1, q.2.2.1, q.2.2.2.1, q.2.2.2.2.1, q.2.2.2.2.2, fun j y hj => by omega⟩ hb
              | succ j =>
                obtain ⟨y, hy⟩ := b2q (show j < h.Shifts.length by have := b1v hx; omega)
                rw [if_pos (by simp <;> omega), c7j (b1v hx) e3, b2k hy]
                simp only [Option.bind_some]
                rw [if_pos]
                simp only [decide_eq_true_eq]
                refine Classical.byContradiction fun hc => hb ⟨by omega, by omega, by omega, by omega, by omega, by omega, fun j' y' hj' hy' => by
                  obtain rfl : j' = j := by omega
                  rw [hy] at hy'; cases hy'; omega⟩
            · rw [if_pos (by
                simp only [b2t, Bool.or_eq_true, Bool.not_eq_true', Bool.and_eq_false_iff, decide_eq_false_iff_not, decide_eq_true_eq]
                omega)]
              simp) (fun k x _ hx hb => by
            have hb := Classical.not_not.1 hb
            obtain ⟨q1, q2, q3, q4, q5, q6, q7⟩ := hb
            simp only [c1v, b2k hx, Option.bind_some, hu, hn]
            rw [if_pos (by simpa using b1v hx), if_neg (by
                simp only [b2t, Bool.or_eq_true, Bool.not_eq_true', Bool.and_eq_false_iff, decide_eq_false_iff_not, decide_eq_true_eq]
                omega)]
            cases k with
            | zero => simp; rfl
            | succ j =>
              obtain ⟨y, hy⟩ := b2q (show j < h.Shifts.length by have := b1v hx; omega)
              have := q7 j y rfl hy
              rw [if_pos (by simp <;> omega), c7j (b1v hx) e3, b2k hy]
              simp only [Option.bind_some]
              rw [if_neg (by simp only [decide_eq_true_eq]; omega), b2m (b1v hx) e3]) (by simp [c1v]) with ⟨d1, d2⟩ | ⟨⟨k, x, hx, hb⟩, d2⟩
        · rw [d2]
          exact .inl ⟨⟨hs, fun k x hx => Classical.not_not.1 (c1 k x hx), fun k x hx => Classical.not_not.1 (t1 k x hx), fun k x hx => Classical.not_not.1 (d1 k x hx)⟩, rfl⟩
        · rw [d2]
          exact .inr ⟨fun hv => hb (hv.2.2.2 k x hx), rfl⟩
      · rw [t2]
        exact .inr ⟨fun hv => hb (hv.2.2.1 k x hx), rfl⟩
    · rw [c2]
      exact .inr ⟨fun hv => hb (hv.2.1 k x hx), rfl⟩
  · exact .inr ⟨fun hv => hs hv.1, h1⟩
theorem d2p {h : Hall} (hk : b5u h) : (V h ∧ b4q h = some 0 ∧ b5a h = some 0) ∨ (¬ V h ∧ b4q h = some 60 ∧ b5a h = some 60) := by
  rcases g1f hk with ⟨h1, h2⟩ | ⟨h1, h2⟩ <;> rcases g1g hk with ⟨h3, h4⟩ | ⟨h3, h4⟩
  · exact .inl ⟨h1, h2, h4⟩
  · exact absurd h1 h3
  · exact absurd h3 h1
  · exact .inr ⟨h1, h2, h4⟩
end Go.Nw.HM
namespace Go.Nw.HM
def T (h : Hall) : Nat := h.Until.toNat
def b5k (h : Hall) (c : Nat) : Int := ((h.Combs[c]?).map (·.Rate)).getD 0
def b4n (c : Nat) (t : Int) (a : Int) (s : Shift) : Int := if s.Comb = (c : Int) ∧ s.At ≤ t then s.Rate else a
def b2d (h : Hall) (c : Nat) (t : Nat) : Int := h.Shifts.foldl (b4n c t) (b5k h c)
theorem b4x {h : Hall} (hv : V h) : (T h : Int) = h.Until := by have := hv.1.1; unfold T; omega
theorem b3k {h : Hall} (hv : V h) : T h ≤ 100 := by have := hv.1.2.1; unfold T; omega
def c4e (c : Nat) (a : Int) (s : Shift) : Int := if s.Comb = (c : Int) then s.Rate else a
def G (h : Hall) (c k : Nat) : Int := (h.Shifts.take k).foldl (c4e c) (b5k h c)
theorem g1p {h : Hall} {c k : Nat} {x : Shift} (hx : h.Shifts[k]? = some x) : G h c (k + 1) = if x.Comb = (c : Int) then x.Rate else G h c k := by
  unfold G
  rw [List.take_add_one, hx]
  simp [List.foldl_append, c4e]
theorem j71 {h : Hall} (hv : V h) : ∀ (d j : Nat) (x y : Shift), h.Shifts[j]? = some x → h.Shifts[j + d]? = some y → x.At ≤ y.At := by
  intro d
  induction d with
  | zero => intro j x y hx hy; rw [Nat.add_zero, hx] at hy; cases hy; exact Int.le_refl _
  | succ d ih =>
    intro j x y hx hy
    obtain ⟨z, hz⟩ := b2q (show j + d < h.Shifts.length by have := b1v hy; omega)
    have h1 := ih j x z hx hz
    have h2 := (hv.2.2.2 _ y hy).2.2.2.2.2.2 (j + d) z (by omega) hz
    omega
def d2t (h : Hall) (t : Int) (k : Nat) : Prop := k ≤ h.Shifts.length ∧ (∀ j x, j < k → h.Shifts[j]? = some x → x.At ≤ t) ∧ ∀ x, h.Shifts[k]? = some x → t < x.At
theorem g1o {h : Hall} (hv : V h) {c k t : Nat} (hu : d2t h t k) : G h c k = b2d h c t := by
  unfold G b2d
  conv => rhs; rw [← List.take_append_drop k h.Shifts, List.foldl_append]
  have e1 : (h.Shifts.take k).foldl (c4e c) (b5k h c) = (h.Shifts.take k).foldl (b4n c t) (b5k h c) := by
    have : ∀ (l : List Shift), (∀ x ∈ l, x.At ≤ (t : Int)) → ∀ a, l.foldl (c4e c) a = l.foldl (b4n c t) a := by
      intro l
      induction l with
      | nil => intro _ a; rfl
      | cons s l ih =>
        intro hl a
        simp only [List.foldl_cons]
        rw [ih (fun x hx => hl x (List.mem_cons_of_mem _ hx))]
        congr 1
        simp [c4e, b4n, hl s List.mem_cons_self]
    refine this _ (fun x hx => ?_) _
    obtain ⟨j, hj, rfl⟩ := List.getElem_of_mem hx
    have hj' : j < k := by simp at hj; omega
    have hjl : j < h.Shifts.length := by simp at hj; omega
    refine hu.2.1 j _ hj' ?_
    rw [List.getElem_take, List.getElem?_eq_getElem hjl]
  rw [e1]
  have : ∀ (l : List Shift), (∀ x ∈ l, (t : Int) < x.At) → ∀ a, l.foldl (b4n c t) a = a := by
    intro l
    induction l with
    | nil => intro _ a; rfl
    | cons s l ih =>
      intro hl a
      have := hl s List.mem_cons_self
      simp only [List.foldl_cons]
      rw [show b4n c t a s = a from by unfold b4n; rw [if_neg (by omega)]]
      exact ih (fun x hx => hl x (List.mem_cons_of_mem _ hx)) a
  refine (this _ ?_ _).symm
  intro x hx
  obtain ⟨j, hj, rfl⟩ := List.getElem_of_mem hx
  have hjl : k + j < h.Shifts.length := by simp at hj; omega
  obtain ⟨z, hz⟩ := b2q (show k < h.Shifts.length by omega)
  have h1 := hu.2.2 z hz
  have h2 := j71 hv j k z _ hz (List.getElem?_eq_getElem hjl)
  rw [List.getElem_drop]
  omega
theorem c3h {h : Hall} (hv : V h) (c t : Nat) : ∀ (d k : Nat), h.Shifts.length - k = d → k ≤ h.Shifts.length → (∀ j x, j < k → h.Shifts[j]? = some x → x.At ≤ (t : Int)) →
    ∃ k', b04 (b7u h c t) (G h c k, (k : Int)) = some (G h c k', (k' : Int)) ∧ d2t h t k' := by
  have hl : h.Shifts.length ≤ maxLen := by have := hv.1.2.2.2.2.2; simp only [maxLen]; omega
  intro d
  induction d with
  | zero =>
    intro k hd hk hb
    have : k = h.Shifts.length := by omega
    subst this
    refine ⟨h.Shifts.length, b45 (by simp [b7u]), Nat.le_refl _, hb, fun x hx => ?_⟩
    have := b1v hx; omega
  | succ d ih =>
    intro k hd hk hb
    obtain ⟨x, hx⟩ := b2q (show k < h.Shifts.length by omega)
    by_cases hat : x.At ≤ (t : Int)
    · rw [b9b (s' := (G h c (k + 1), ((k + 1 : Nat) : Int))) (by
        simp only [b7u, b2k hx, Option.bind_some]
        rw [if_pos (by simpa using b1v hx)]
        simp only [Option.bind_some, hat, decide_true, if_true, b84, b2m (b1v hx) hl, g1p hx]
        by_cases e : x.Comb = (c : Int)
        · simp [e]
        · simp [e])]
      refine ih (k + 1) (by omega) (by omega) fun j y hj hy => ?_
      by_cases e : j = k
      · subst e; rw [hx] at hy; cases hy; exact hat
      · exact hb j y (by omega) hy
    · refine ⟨k, b45 (by
        simp only [b7u, b2k hx, Option.bind_some]
        rw [if_pos (by simpa using b1v hx)]
        simp [hat]), by omega, hb, fun y hy => ?_⟩
      rw [hx] at hy; cases hy; omega
theorem j6r {h : Hall} (hv : V h) {c : Nat} (hc : c < h.Combs.length) : b82 h c = some (tab (T h) (b2d h c)) := by
  obtain ⟨x, hx⟩ := b2q hc
  have hT := b3k hv
  unfold b82
  rw [← b4x hv, b7y (by omega) (by omega)]
  simp only [Option.bind_some, b2k hx]
  obtain ⟨b, h1, h2⟩ := c3r (f := b83 h c (tab (T h) fun _ => 0)) (T h) (fun (s : List Int × Int × Int) k => (s.1, s.2.1, s.2.2, k))
    (fun k s => ∃ m : Nat, s = (fill (T h) (b2d h c) 0 k, G h c m, (m : Int)) ∧ m ≤ h.Shifts.length ∧ ∀ j x, j < m → h.Shifts[j]? = some x → x.At < (k : Int)) (fun b => b = tab (T h) (b2d h c))
    (fun s k hk ⟨m, hs, hm, hm2⟩ => by
      subst hs
      obtain ⟨k', i1, i2⟩ := c3h hv c k (h.Shifts.length - m) m rfl hm fun j x hj hx => by have := hm2 j x hj hx; omega
      refine .inl ⟨(fill (T h) (b2d h c) 0 (k + 1), G h c k', (k' : Int)), ?_, k', rfl, i2.1, fun j x hj hx => by have := i2.2.1 j x hj hx; omega⟩
      simp only [b83, b3a]
      rw [if_pos (by simpa using hk), i1]
      simp only [Option.bind_some, c01, c0k hk, c00, b2m hk (by simp only [maxLen]; omega)]
      rw [show ((k : Nat) : Int).toNat = k from by omega, c0i (g1o hv i2)])
    (fun s ⟨m, hs, _⟩ => by
      subst hs
      exact ⟨fill (T h) (b2d h c) 0 (T h), by simp [b83, b3a], by rw [b8p (Nat.le_refl _)]⟩) (s := (tab (T h) (fun _ => 0), x.Rate, 0)) 0 (by omega) ⟨0, by
        rw [← b9u, c0j (f := b2d h c)]
        simp [G, b5k, hx], by omega, fun j x hj => by omega⟩
  simp only at h1
  rw [show ((0 : Nat) : Int) = 0 from rfl] at h1
  rw [h1, h2]; rfl
theorem c65 {h : Hall} (hv : V h) {c : Nat} (t : Nat) : 0 ≤ b2d h c t ∧ b2d h c t ≤ 1000 := by
  unfold b2d
  have h0 : 0 ≤ b5k h c ∧ b5k h c ≤ 1000 := by
    unfold b5k
    cases hx : h.Combs[c]? with
    | none => simp
    | some x => have := hv.2.1 c x hx; simp [b5g] at this ⊢; omega
  have : ∀ (l : List Shift), (∀ x ∈ l, 0 ≤ x.Rate ∧ x.Rate ≤ 1000) → ∀ a, 0 ≤ a ∧ a ≤ 1000 → 0 ≤ l.foldl (b4n c t) a ∧ l.foldl (b4n c t) a ≤ 1000 := by
    intro l
    induction l with
    | nil => intro _ a ha; exact ha
    | cons s l ih =>
      intro hl a ha
      refine ih (fun x hx => hl x (List.mem_cons_of_mem _ hx)) _ ?_
      have := hl s List.mem_cons_self
      unfold b4n; split <;> omega
  refine this _ (fun x hx => ?_) _ h0
  obtain ⟨j, hj, rfl⟩ := List.getElem_of_mem hx
  have := hv.2.2.2 j _ (List.getElem?_eq_getElem hj)
  exact ⟨this.2.2.2.2.1, this.2.2.2.2.2.1⟩
theorem j5j {h : Hall} (hv : V h) : b42 h = some (tab h.Combs.length fun c => tab (T h) (b2d h c)) := by
  unfold b42
  have hn := hv.1.2.2.2.1
  have := b3r (f := b80 h) h.Combs.length (fun s k => (s, k)) (fun k => tab k fun c => tab (T h) (b2d h c)) (tab h.Combs.length fun c => tab (T h) (b2d h c)) (s0 := []) rfl (fun k hk => by
    simp only [b80]
    rw [if_pos (by simpa using hk), j6r hv hk]
    simp only [Option.bind_some]
    rw [b5c (by simp [b3a]; omega)]
    simp only [Option.bind_some, b2m hk (by simp only [maxLen]; omega), b6u]) (by simp [b80])
  rw [this]; rfl
end Go.Nw.HM
namespace Go.Nw.HM
def b5m (c : Nat) (y : Crowd) : Int := if y.Comb = (c : Int) then y.People.High else 0
def b4c (c s t : Nat) (x : Train) : Int := if x.At.High < (s : Int) ∨ (t : Int) < x.At.Low then 0 else (x.Crowds.map (b5m c)).sum
def b38 (h : Hall) (c s t : Nat) : Int := (h.Trains.map (b4c c s t)).sum
theorem c46 {h : Hall} (hv : V h) {x : Train} (hx : x ∈ h.Trains) (c k : Nat) (hk : k ≤ x.Crowds.length) : 0 ≤ b3s x.Crowds (b5m c) k ∧ b3s x.Crowds (b5m c) k ≤ 4000 := by
  obtain ⟨j, hj, rfl⟩ := List.getElem_of_mem hx
  have hg := hv.2.2.1 j _ (List.getElem?_eq_getElem hj)
  have := d8y (l := h.Trains[j].Crowds) (g := b5m c) (B := 1000) (fun y hy => by
    obtain ⟨i, hi, rfl⟩ := List.getElem_of_mem hy
    have := hg.2.2.2.2 i _ (List.getElem?_eq_getElem hi)
    unfold b4z at this
    unfold b5m; split <;> omega) k hk
  have := hg.2.2.2.1
  omega
theorem j8d {h : Hall} (hv : V h) {x : Train} (hx : x ∈ h.Trains) (c s t : Nat) : 0 ≤ b4c c s t x ∧ b4c c s t x ≤ 4000 := by
  unfold b4c
  split
  · omega
  · rw [← c1e]; exact c46 hv hx c _ (Nat.le_refl _)
theorem d2i {h : Hall} (hv : V h) (c s t k : Nat) (hk : k ≤ h.Trains.length) : 0 ≤ b3s h.Trains (b4c c s t) k ∧ b3s h.Trains (b4c c s t) k ≤ 48000 := by
  have := d8y (l := h.Trains) (g := b4c c s t) (B := 4000) (fun x hx => j8d hv hx c s t) k hk
  have := hv.1.2.2.2.2.1
  omega
theorem c8h {h : Hall} (hv : V h) (c s t : Nat) : 0 ≤ b38 h c s t ∧ b38 h c s t ≤ 48000 := by
  unfold b38; rw [← c1e]; exact d2i hv c s t _ (Nat.le_refl _)
theorem b2i {n : Int} (h1 : -1000000000000 ≤ n) (h2 : n ≤ 1000000000000) : wr n = n := b79 (by omega) (by omega)
theorem g2w {h : Hall} (hv : V h) (c s t : Nat) : b8v h c s t = some (b38 h c s t) := by
  have e2 : h.Trains.length ≤ maxLen := by have := hv.1.2.2.2.2.1; simp only [maxLen]; omega
  unfold b8v
  have := b3r (f := b8x h c s t) h.Trains.length (fun s k => (s, k)) (b3s h.Trains (b4c c s t)) (b38 h c s t) (s0 := 0) c3w.symm (fun k hk => by
    obtain ⟨x, hx⟩ := b2q hk
    have hm := List.mem_of_getElem? hx
    simp only [b8x, b2k hx, Option.bind_some]
    rw [if_pos (by simpa using hk), c1f hx]
    have hb := d2i hv c s t k (by omega)
    by_cases q : x.At.High < (s : Int) ∨ (t : Int) < x.At.Low
    · rw [if_pos (by simpa using q)]
      simp only [b7r, b2m hk e2]
      rw [show b4c c s t x = 0 from if_pos q, Int.add_zero]
    · rw [if_neg (by simpa using q)]
      have e3 : x.Crowds.length ≤ maxLen := by have := (hv.2.2.1 k x hx).2.2.2.1; simp only [maxLen]; omega
      have := b3r (f := b8w c x) x.Crowds.length (fun s k => (s, k)) (fun j => b3s h.Trains (b4c c s t) k + b3s x.Crowds (b5m c) j) (b3s h.Trains (b4c c s t) k + b4c c s t x) (s0 := b3s h.Trains (b4c c s t) k) (by simp [c3w]) (fun j hj => by
        obtain ⟨y, hy⟩ := b2q hj
        have hc1 := c46 hv hm c j (by omega)
        have hc2 := c46 hv hm c (j + 1) (by omega)
        simp only [b8w, b2k hy, Option.bind_some]
        rw [if_pos (by simpa using hj), c1f hy]
        rw [c1f hy] at hc2
        by_cases e : y.Comb = (c : Int)
        · rw [if_pos (by simpa using e)]
          rw [show b5m c y = y.People.High from if_pos e] at hc2 ⊢
          simp only [b7q, b2m hj e3]
          rw [b2i (by omega) (by omega), Int.add_assoc]
        · rw [if_neg (by simpa using e)]
          rw [show b5m c y = 0 from if_neg e]
          simp only [b7q, b2m hj e3, Int.add_zero]) (by
        simp only [b8w]
        rw [if_neg (by simp), c1e, show b4c c s t x = (x.Crowds.map (b5m c)).sum from if_neg q])
      rw [this]
      simp only [Option.bind_some, b7r, b2m hk e2]) (by
    simp only [b8x]
    rw [if_neg (by simp), c1e]; rfl)
  rw [this]; rfl
structure Bd where
  come : Nat → Nat → Int
  most : Nat → Int
  flow : Nat → Int
  deriving Inhabited
def b37 (b : Bd) (to k : Nat) : Int := if k < to then b.come (k + 1) to else 0
def way (b : Bd) (a to k : Nat) : Int := b00 b.flow k - b00 b.flow a + b.most k + b37 b to k
def b9g (b : Bd) (a to : Nat) : Int := b34 (min (b.come 0 to) (b00 b.flow (to + 1) - b00 b.flow a)) (way b a to) a (to + 1 - a)
def b6d (b : Bd) (from_ to_ : Int) : Int := if to_ < from_ ∨ to_ < 0 then 0 else b9g b (max from_ 0).toNat to_.toNat
def b2s (h : Hall) (c : Nat) (prev : Nat → Bd) (s t u : Nat) : Int := match h.Combs[u]? with
  | some x => if x.Next = (c : Int) then b6d (prev u) ((s : Int) - x.Walk.High) ((t : Int) - x.Walk.Low) else 0
  | none => 0
def b5y (h : Hall) (c : Nat) (prev : Nat → Bd) (s t : Nat) : Int := b38 h c s t + b00 (b2s h c prev s t) c
def c6h (come : Nat → Nat → Int) (R : Nat → Int) (t : Nat) : Int := b4s 0 (fun s => come s t - (b00 R t - b00 R s)) 0 (t + 1)
def c1a (h : Hall) (R : Nat → Nat → Int) (c : Nat) (prev : Nat → Bd) : Bd :=
  { come := b5y h c prev, most := c6h (b5y h c prev) (R c), flow := fun t => min (c6h (b5y h c prev) (R c) t) (R c t) }
def bdL (h : Hall) (R : Nat → Nat → Int) : Nat → Nat → Bd
  | 0 => fun _ => default
  | n + 1 => fun u => if u = n then c1a h R n (bdL h R n) else bdL h R n u
def bd (h : Hall) (R : Nat → Nat → Int) (c : Nat) : Bd := bdL h R (c + 1) c
theorem d22 {h : Hall} {R : Nat → Nat → Int} {n u : Nat} : bdL h R (n + 1) u = if u = n then c1a h R n (bdL h R n) else bdL h R n u := rfl
theorem g18 {h : Hall} {R : Nat → Nat → Int} {n u : Nat} (hu : u < n) : bdL h R n u = bd h R u := by
  induction n with
  | zero => omega
  | succ n ih =>
    by_cases e : u = n
    · subst e; rfl
    · rw [d22, if_neg e]; exact ih (by omega)
theorem j8n {h : Hall} {c s t u : Nat} {p q : Nat → Bd} (hpq : p u = q u) : b2s h c p s t u = b2s h c q s t u := by
  unfold b2s; rw [hpq]
theorem g4q {h : Hall} {c : Nat} {p q : Nat → Bd} (hpq : ∀ u, u < c → p u = q u) : b5y h c p = b5y h c q := by
  funext s t
  unfold b5y
  rw [d1m fun u hu => j8n (hpq u hu)]
theorem b8i {h : Hall} {R : Nat → Nat → Int} {c : Nat} : bd h R c = c1a h R c (bd h R) := by
  have : bd h R c = c1a h R c (bdL h R c) := by show bdL h R (c + 1) c = _; rw [d22, if_pos rfl]
  rw [this]
  unfold c1a
  rw [g4q fun u hu => g18 hu]
end Go.Nw.HM
namespace Go.Nw.HM
structure BdOk (b : Bd) (n : Nat) (B : Int) : Prop where
  come : ∀ s t, s ≤ t → t < n → 0 ≤ b.come s t ∧ b.come s t ≤ B
  most : ∀ t, t < n → 0 ≤ b.most t ∧ b.most t ≤ B
  flow : ∀ t, t < n → 0 ≤ b.flow t ∧ b.flow t ≤ 1000
def b2x (n : Nat) (b : Bd) (s : Nat) : List Int := tab n fun t => if s ≤ t then b.come s t else 0
def bdT (n : Nat) (b : Bd) (r : Nat → Int) : halls_bound := ⟨tab (n + 1) (b00 r), tab (n + 1) (b00 b.flow), tab n b.most, tab n (b2x n b)⟩
theorem c0d {n : Nat} {b : Bd} {s t : Nat} (ht : t < n) (hst : s ≤ t) : get (b2x n b s) (t : Int) = some (b.come s t) := by
  unfold b2x; rw [b1u ht, if_pos hst]
section
variable {n : Nat} {b : Bd} {B : Int} (hb : BdOk b n B) (hB : B ≤ 1000000000) (hn : n ≤ 1000) {r : Nat → Int}
include hb hB hn
theorem c2w {a k : Nat} (hak : a ≤ k) (hk : k ≤ n) : 0 ≤ b00 b.flow k - b00 b.flow a ∧ b00 b.flow k - b00 b.flow a ≤ 1000000 := by
  have := d1n (f := b.flow) (B := 1000) hak fun i h1 h2 => hb.flow i (by omega)
  omega
theorem c8f {to k : Nat} (hk : k ≤ to) (hto : to < n) : 0 ≤ b37 b to k ∧ b37 b to k ≤ B := by
  have := hb.most k (by omega)
  unfold b37; split
  · exact hb.come _ _ (by omega) hto
  · omega
theorem j8r {a to k : Nat} (hak : a ≤ k) (hk : k ≤ to) (hto : to < n) : 0 ≤ way b a to k ∧ way b a to k ≤ 3000000000 := by
  have h1 := c2w hb hB hn hak (show k ≤ n by omega)
  have h2 := hb.most k (by omega)
  have h3 := c8f hb hB hn hk hto
  unfold way; omega
theorem j59 {a to : Nat} (ha : a ≤ to) (hto : to < n) : 0 ≤ b9g b a to ∧ b9g b a to ≤ B := by
  have h1 := hb.come 0 to (by omega) hto
  have h2 := c2w hb hB hn (show a ≤ to + 1 by omega) (show to + 1 ≤ n by omega)
  unfold b9g
  refine ⟨c3o.2 ⟨by omega, fun i hi => (j8r hb hB hn (by omega) (show a + i ≤ to by omega) hto).1⟩, ?_⟩
  have := c6c (z := min (b.come 0 to) (b00 b.flow (to + 1) - b00 b.flow a)) (g := way b a to) (a := a) (n := to + 1 - a)
  omega
theorem d8t {f t : Int} (ht : t < n) : 0 ≤ b6d b f t ∧ b6d b f t ≤ max 0 B := by
  unfold b6d
  split
  · omega
  · have := j59 hb hB hn (a := (max f 0).toNat) (to := t.toNat) (by omega) (by omega)
    omega
theorem j6c {f t : Int} (hf : -1000 ≤ f) (ht : t < n) : b8f (bdT n b r) f t = some (b6d b f t) := by
  unfold b8f b6d
  by_cases q : t < f ∨ t < 0
  · rw [if_pos (by simpa using q), if_pos q]
  · rw [if_neg (by simpa using q), if_neg q]
    obtain ⟨to, hto⟩ : ∃ to : Nat, t = to := ⟨t.toNat, by omega⟩
    subst hto
    obtain ⟨a, ha⟩ : ∃ a : Nat, max f 0 = a := ⟨(max f 0).toNat, by omega⟩
    have hm : mx f 0 = (a : Int) := by rw [b9e]; exact ha
    have hat : a ≤ to := by omega
    have hton : to < n := by omega
    rw [hm, ha]
    have e0 : ((0 : Int)) = ((0 : Nat) : Int) := rfl
    simp only [bdT]
    rw [e0, b1u (show 0 < n by omega)]
    simp only [Option.bind_some]
    rw [c0d hton (by omega), show wr ((to : Int) + 1) = ((to + 1 : Nat) : Int) from by rw [b2i (by omega) (by omega)]; omega, b1u (show to + 1 < n + 1 by omega)]
    simp only [Option.bind_some]
    rw [b1u (show a < n + 1 by omega)]
    simp only [Option.bind_some]
    have hc := hb.come 0 to (by omega) hton
    have hfd := c2w hb hB hn (show a ≤ to + 1 by omega) (show to + 1 ≤ n by omega)
    rw [b2i (by omega) (by omega), c1b]
    have := c3q (f := b8g ⟨tab (n + 1) (b00 r), tab (n + 1) (b00 b.flow), tab n b.most, tab n (b2x n b)⟩ f to) (to + 1) (fun s k => (s, k))
      (fun k => b34 (min (b.come 0 to) (b00 b.flow (to + 1) - b00 b.flow a)) (way b a to) a (k - a)) (b9g b a to) (s0 := min (b.come 0 to) (b00 b.flow (to + 1) - b00 b.flow a)) a (by rw [Nat.sub_self]; rfl) (by omega) (fun k hak hk => ?_) (by
        simp only [b8g]
        rw [if_neg (by simp; omega)]; rfl)
    · rw [this]
      simp [b95]
    · have hst : b34 (min (b.come 0 to) (b00 b.flow (to + 1) - b00 b.flow a)) (way b a to) a (k + 1 - a) = min (b34 (min (b.come 0 to) (b00 b.flow (to + 1) - b00 b.flow a)) (way b a to) a (k - a)) (way b a to k) := by
        rw [show k + 1 - a = (k - a) + 1 by omega]
        show min _ (way b a to (a + (k - a))) = _
        rw [show a + (k - a) = k by omega]
      rw [hst]
      have hfk := c2w hb hB hn hak (show k ≤ n by omega)
      have hmk := hb.most k (by omega)
      have hbk := c8f hb hB hn (show k ≤ to by omega) hton
      have fin2 : ∀ L : Int, b7a ⟨tab (n + 1) (b00 r), tab (n + 1) (b00 b.flow), tab n b.most, tab n (b2x n b)⟩ f L k (b37 b to k) = some (.nx (min L (way b a to k), (k : Int) + 1)) := fun L => by
        unfold b7a
        simp only [hm]
        rw [b1u (show k < n + 1 by omega)]
        simp only [Option.bind_some]
        rw [b1u (show a < n + 1 by omega)]
        simp only [Option.bind_some]
        rw [b1u (show k < n by omega)]
        simp only [Option.bind_some]
        rw [b2i (n := b00 b.flow k - b00 b.flow a) (by omega) (by omega), b2i (n := b00 b.flow k - b00 b.flow a + b.most k) (by omega) (by omega), b2i (n := b00 b.flow k - b00 b.flow a + b.most k + b37 b to k) (by omega) (by omega), b2i (n := (k : Int) + 1) (by omega) (by omega), c1b]
        rfl
      simp only [b8g]
      rw [if_pos (by simp; omega)]
      by_cases e : k < to
      · rw [if_pos (by simpa using e), show wr ((k : Int) + 1) = ((k + 1 : Nat) : Int) from by rw [b2i (by omega) (by omega)]; omega, b1u (show k + 1 < n by omega)]
        simp only [Option.bind_some]
        rw [c0d hton (by omega)]
        simp only [Option.bind_some]
        rw [show b.come (k + 1) to = b37 b to k from by unfold b37; rw [if_pos e]]
        exact fin2 _
      · rw [if_neg (by simpa using e)]
        have := fin2 (b34 (min (b.come 0 to) (b00 b.flow (to + 1) - b00 b.flow a)) (way b a to) a (k - a))
        rw [show b37 b to k = 0 from by unfold b37; rw [if_neg e]] at this
        exact this
end
end Go.Nw.HM
namespace Go.Nw.HM
def Bn (c : Nat) : Int := 48000 * 2 ^ c
theorem c7k (c : Nat) : Bn (c + 1) = 2 * Bn c := by unfold Bn; rw [Int.pow_succ]; omega
theorem c4i (c : Nat) : 48000 ≤ Bn c := by
  induction c with
  | zero => simp [Bn]
  | succ c ih => rw [c7k]; omega
theorem d2n (c : Nat) : b00 Bn c = Bn c - 48000 := by
  induction c with
  | zero => simp [c1d, Bn]
  | succ c ih => rw [b46, ih, c7k]; omega
theorem g1e {a b : Nat} (h : a ≤ b) : Bn a ≤ Bn b := by
  induction b with
  | zero => have : a = 0 := by omega
            subst this; exact Int.le_refl _
  | succ b ih =>
    by_cases e : a = b + 1
    · subst e; exact Int.le_refl _
    · have := ih (by omega); have := c4i b; rw [c7k]; omega
theorem b9z {c : Nat} (h : c ≤ 8) : Bn c ≤ 1000000000 := by
  have := g1e h
  have e : Bn 8 = 12288000 := by decide
  omega
theorem d1o {f g : Nat → Int} : ∀ {k : Nat}, (∀ i, i < k → f i ≤ g i) → b00 f k ≤ b00 g k
  | 0, _ => by simp [c1d]
  | k + 1, h => by rw [b46, b46]; have := d1o (k := k) fun i hi => h i (by omega); have := h k (by omega); omega
theorem d1p {f : Nat → Int} : ∀ {k : Nat}, (∀ i, i < k → 0 ≤ f i) → 0 ≤ b00 f k
  | 0, _ => by simp [c1d]
  | k + 1, h => by rw [b46]; have := d1p (k := k) fun i hi => h i (by omega); have := h k (by omega); omega
structure Rt (h : Hall) (R : Nat → Nat → Int) : Prop where
  r : ∀ c t, c < h.Combs.length → t < T h → 0 ≤ R c t ∧ R c t ≤ 1000
section
variable {h : Hall} (hv : V h) {R : Nat → Nat → Int} (hR : Rt h R)
include hv hR
theorem b99 : ∀ (c : Nat), c < h.Combs.length → BdOk (bd h R c) (T h) (Bn c) := by
  intro c
  induction c using Nat.strongRecOn with
  | _ c ih =>
    intro hc
    have hn := hv.1.2.2.2.1
    have hT := b3k hv
    have hw : ∀ s t u, s ≤ t → t < T h → u < c → 0 ≤ b2s h c (bd h R) s t u ∧ b2s h c (bd h R) s t u ≤ Bn u := fun s t u hst ht hu => by
      obtain ⟨x, hx⟩ := b2q (show u < h.Combs.length by omega)
      have hg := hv.2.1 u x hx
      unfold b5g at hg
      have hB := c4i u
      unfold b2s
      rw [hx]
      simp only
      split
      · have := d8t (ih u hu (by omega)) (b9z (by omega)) (show T h ≤ 1000 by omega) (f := (s : Int) - x.Walk.High) (t := (t : Int) - x.Walk.Low) (by omega)
        omega
      · omega
    have hcome : ∀ s t, s ≤ t → t < T h → 0 ≤ b5y h c (bd h R) s t ∧ b5y h c (bd h R) s t ≤ Bn c := fun s t hst ht => by
      unfold b5y
      have h1 := c8h hv c s t
      have h2 := d1p (f := b2s h c (bd h R) s t) (k := c) fun u hu => (hw s t u hst ht hu).1
      have h3 := d1o (f := b2s h c (bd h R) s t) (g := Bn) (k := c) fun u hu => (hw s t u hst ht hu).2
      rw [d2n] at h3
      omega
    have hmost : ∀ t, t < T h → 0 ≤ c6h (b5y h c (bd h R)) (R c) t ∧ c6h (b5y h c (bd h R)) (R c) t ≤ Bn c := fun t ht => by
      refine ⟨d1b, c3n.2 ⟨by have := c4i c; omega, fun i hi => ?_⟩⟩
      rw [Nat.zero_add]
      have h1 := hcome i t (by omega) ht
      have h2 := j4q (f := R c) (show i ≤ t by omega) fun j h1 h2 => (hR.r c j hc (by omega)).1
      omega
    rw [b8i]
    exact ⟨hcome, hmost, fun t ht => by
      have h1 := hmost t ht
      have h2 := hR.r c t hc ht
      simp only [c1a]; omega⟩
theorem c7h {c : Nat} (hc : c < h.Combs.length) {s t : Nat} (hst : s ≤ t) (ht : t < T h) (u : Nat) (hu : u ≤ c) : 0 ≤ b00 (b2s h c (bd h R) s t) u ∧ b00 (b2s h c (bd h R) s t) u ≤ 1000000000 := by
  have hn := hv.1.2.2.2.1
  have hT := b3k hv
  have hw : ∀ u, u < c → 0 ≤ b2s h c (bd h R) s t u ∧ b2s h c (bd h R) s t u ≤ Bn u := fun u hu => by
    obtain ⟨x, hx⟩ := b2q (show u < h.Combs.length by omega)
    have hg := hv.2.1 u x hx
    unfold b5g at hg
    have hB := c4i u
    unfold b2s
    rw [hx]
    simp only
    split
    · have := d8t (b99 hv hR u (by omega)) (b9z (by omega)) (show T h ≤ 1000 by omega) (f := (s : Int) - x.Walk.High) (t := (t : Int) - x.Walk.Low) (by omega)
      omega
    · omega
  have h2 := d1p (f := b2s h c (bd h R) s t) (k := u) fun i hi => (hw i (by omega)).1
  have h3 := d1o (f := b2s h c (bd h R) s t) (g := Bn) (k := u) fun i hi => (hw i (by omega)).2
  rw [d2n] at h3
  have := b9z (c := u) (by omega)
  omega
def b3o (b : Bd) (n s t : Nat) : List Int := tab n fun i => if s ≤ i ∧ i < t then b.come s i else 0
theorem j7h {c : Nat} (hc : c < h.Combs.length) {s : Nat} (hs : s < T h) :
    b04 (b7l h (tab c fun u => bdT (T h) (bd h R u) (R u)) c s) (tab (T h) (fun _ => 0), (s : Int)) = some (b2x (T h) (bd h R c) s) := by
  have hn := hv.1.2.2.2.1
  have hT := b3k hv
  have hTi := b4x hv
  have hb := b99 hv hR c hc
  refine c3q (f := b7l h (tab c fun u => bdT (T h) (bd h R u) (R u)) c s) (T h) (fun r k => (r, k)) (b3o (bd h R c) (T h) s) _ s (by
    unfold b3o
    exact b6g fun i hi => by rw [if_neg (by omega)]) (by omega) (fun t hst ht => ?_) (by
    simp only [b7l]
    rw [← hTi, if_neg (by simp)]
    simp only [b3o, b2x, Option.some.injEq, Out.br.injEq]
    exact b6g fun i hi => by by_cases q : s ≤ i <;> simp [q, hi])
  simp only [b7l]
  rw [← hTi, if_pos (by simpa using ht), g2w hv]
  simp only [Option.bind_some]
  rw [show get (b3o (bd h R c) (T h) s t) (t : Int) = some 0 from by unfold b3o; rw [b1u ht, if_neg (by omega)]]
  simp only [Option.bind_some]
  rw [j78 (by omega) (by omega) (by omega)]
  simp only [Option.bind_some]
  have el : (h.Combs.take ((c : Int)).toNat).drop ((0 : Int)).toNat = h.Combs.take c := by simp
  rw [el]
  have hlen : (h.Combs.take c).length = c := by simp; omega
  have hat : ∀ u, u < c → (h.Combs.take c)[u]? = h.Combs[u]? := fun u hu => by rw [List.getElem?_take, if_pos hu]
  have := b3r (f := b8t (tab c fun u => bdT (T h) (bd h R u) (R u)) c s t (h.Combs.take c)) c (fun r k => (r, k))
    (fun u => (b3o (bd h R c) (T h) s t).set t (b38 h c s t + b00 (b2s h c (bd h R) s t) u)) (b3o (bd h R c) (T h) s (t + 1)) (s0 := (b3o (bd h R c) (T h) s t).set ((t : Int)).toNat (b38 h c s t)) (by simp [c1d]) (fun u hu => by
      obtain ⟨x, hx⟩ := b2q (show u < h.Combs.length by omega)
      have hg := hv.2.1 u x hx
      unfold b5g at hg
      have hx' : (h.Combs.take c)[u]? = some x := by rw [hat u hu]; exact hx
      have hwb := c7h hv hR hc hst ht u (by omega)
      have hwb' := c7h hv hR hc hst ht (u + 1) (by omega)
      have hbb := c8h hv c s t
      simp only [b8t, hlen]
      rw [if_pos (by simpa using hu), b2k hx']
      simp only [Option.bind_some]
      rw [b46] at hwb' ⊢
      by_cases e : x.Next = (c : Int)
      · rw [if_pos (by simpa using e)]
        rw [show get ((b3o (bd h R c) (T h) s t).set t (b38 h c s t + b00 (b2s h c (bd h R) s t) u)) (t : Int) = some (b38 h c s t + b00 (b2s h c (bd h R) s t) u) from by unfold b3o; rw [b76, b1u ht, if_pos rfl]]
        simp only [Option.bind_some]
        rw [b1u hu]
        simp only [Option.bind_some]
        rw [b2i (n := (s : Int) - x.Walk.High) (by omega) (by omega), b2i (n := (t : Int) - x.Walk.Low) (by omega) (by omega),
          j6c (b99 hv hR u (by omega)) (b9z (by omega)) (by omega) (by omega) (by omega)]
        have ew : b2s h c (bd h R) s t u = b6d (bd h R u) ((s : Int) - x.Walk.High) ((t : Int) - x.Walk.Low) := by
          unfold b2s; rw [hx]; simp only; rw [if_pos e]
        rw [← ew]
        simp only [Option.bind_some, b7p]
        rw [b2i (n := b38 h c s t + b00 (b2s h c (bd h R) s t) u + b2s h c (bd h R) s t u) (by omega) (by omega), b2i (n := (u : Int) + 1) (by omega) (by omega)]
        simp [Int.add_assoc]
      · rw [if_neg (by simpa using e)]
        have ew : b2s h c (bd h R) s t u = 0 := by
          unfold b2s; rw [hx]; simp only; rw [if_neg e]
        rw [ew, Int.add_zero]
        simp only [b7p]
        rw [b2i (n := (u : Int) + 1) (by omega) (by omega)]) (by
      simp only [b8t, hlen]
      rw [if_neg (by simp)]
      simp only [Option.some.injEq, Out.br.injEq]
      unfold b3o
      rw [b76]
      refine b6g fun i hi => ?_
      by_cases e : i = t
      · subst e
        rw [if_pos rfl, if_pos (by omega)]
        rw [b8i]; rfl
      · rw [if_neg e]
        by_cases q : s ≤ i ∧ i < t
        · rw [if_pos q, if_pos (by omega)]
        · rw [if_neg q, if_neg (by omega)])
  rw [this]
  simp only [Option.bind_some, c0x]
  rw [b2i (n := (t : Int) + 1) (by omega) (by omega)]
end
end Go.Nw.HM
namespace Go.Nw.HM
section
variable {h : Hall} (hv : V h) {R : Nat → Nat → Int} (hR : Rt h R)
include hv hR
abbrev opT (h : Hall) (R : Nat → Nat → Int) : List (List Int) := tab h.Combs.length fun c => tab (T h) (R c)
omit hv in
theorem d14 {c : Nat} (hc : c < h.Combs.length) {k : Nat} (hk : k ≤ T h) : 0 ≤ b00 (R c) k ∧ b00 (R c) k ≤ 1000 * k :=
  b9f fun i hi => hR.r c i hc (by omega)
theorem g4p {c : Nat} (hc : c < h.Combs.length) :
    b04 (b7m h (opT h R) (tab c fun u => bdT (T h) (bd h R u) (R u)) c) ([0], [], 0) = some (tab (T h + 1) (b00 (R c)), tab (T h) (b2x (T h) (bd h R c))) := by
  have hT := b3k hv
  have hTi := b4x hv
  refine b3r (f := b7m h (opT h R) (tab c fun u => bdT (T h) (bd h R u) (R u)) c) (T h) (fun (p : List Int × List (List Int)) k => (p.1, p.2, k))
    (fun k => (tab (k + 1) (b00 (R c)), tab k (b2x (T h) (bd h R c)))) _ (s0 := ([0], [])) rfl (fun s hs => ?_) (by
    simp only [b7m]
    rw [← hTi, if_neg (by simp)])
  simp only [b7m]
  rw [← hTi, if_pos (by simpa using hs), b7y (by omega) (by omega)]
  simp only [Option.bind_some]
  rw [j7h hv hR hc hs]
  simp only [Option.bind_some, c0v]
  rw [b5c (by simp [b3a]; omega)]
  simp only [Option.bind_some]
  rw [b1u (show s < s + 1 by omega)]
  simp only [Option.bind_some]
  rw [b1u hc]
  simp only [Option.bind_some]
  rw [b1u hs]
  simp only [Option.bind_some]
  rw [b5c (by simp [b3a]; omega)]
  simp only [Option.bind_some, c0u]
  have h1 := d14 hR hc (show s ≤ T h by omega)
  have h2 := hR.r c s hc hs
  rw [b2i (n := b00 (R c) s + R c s) (by omega) (by omega), b2i (n := (s : Int) + 1) (by omega) (by omega), ← b46, ← b6u, ← b6u]
theorem j1c {c : Nat} (hc : c < h.Combs.length) {t : Nat} (ht : t < T h) :
    b04 (b7n (tab (T h + 1) (b00 (R c))) (tab (T h) (b2x (T h) (bd h R c))) t) (0, 0) = some ((bd h R c).most t) := by
  have hT := b3k hv
  have hb := b99 hv hR c hc
  have hn := hv.1.2.2.2.1
  have hB := b9z (c := c) (by omega)
  have e1 : wr ((t : Int) + 1) = ((t + 1 : Nat) : Int) := by rw [b2i (by omega) (by omega)]; omega
  have em : (bd h R c).most t = b4s 0 (fun s => (bd h R c).come s t - (b00 (R c) t - b00 (R c) s)) 0 (t + 1) := by rw [b8i]; rfl
  refine b3r (f := b7n (tab (T h + 1) (b00 (R c))) (tab (T h) (b2x (T h) (bd h R c))) t) (t + 1) (fun p k => (p, k))
    (b4s 0 (fun s => (bd h R c).come s t - (b00 (R c) t - b00 (R c) s)) 0) _ (s0 := 0) rfl (fun s hs => ?_) (by
    simp only [b7n, e1]
    rw [if_neg (by simp), em])
  simp only [b7n, e1]
  rw [if_pos (by simp; omega), b1u (show s < T h by omega)]
  simp only [Option.bind_some]
  rw [c0d ht (by omega)]
  simp only [Option.bind_some]
  rw [b1u (show t < T h + 1 by omega)]
  simp only [Option.bind_some]
  rw [b1u (show s < T h + 1 by omega)]
  simp only [Option.bind_some]
  have h1 := d14 hR hc (show s ≤ T h by omega)
  have h2 := d14 hR hc (show t ≤ T h by omega)
  have h3 := hb.come s t (by omega) ht
  rw [b2i (n := b00 (R c) t - b00 (R c) s) (by omega) (by omega), b2i (n := (bd h R c).come s t - (b00 (R c) t - b00 (R c) s)) (by omega) (by omega), b2i (n := (s : Int) + 1) (by omega) (by omega), b9e]
  simp only [b4s, Nat.zero_add]
theorem g5t {c : Nat} (hc : c < h.Combs.length) :
    b04 (b7o h (opT h R) c (tab (T h + 1) (b00 (R c))) (tab (T h) (b2x (T h) (bd h R c)))) ([0], [], 0) = some (tab (T h + 1) (b00 (bd h R c).flow), tab (T h) (bd h R c).most) := by
  have hT := b3k hv
  have hTi := b4x hv
  have hb := b99 hv hR c hc
  refine b3r (f := b7o h (opT h R) c (tab (T h + 1) (b00 (R c))) (tab (T h) (b2x (T h) (bd h R c)))) (T h) (fun (p : List Int × List Int) k => (p.1, p.2, k))
    (fun k => (tab (k + 1) (b00 (bd h R c).flow), tab k (bd h R c).most)) _ (s0 := ([0], [])) rfl (fun t ht => ?_) (by
    simp only [b7o]
    rw [← hTi, if_neg (by simp)])
  simp only [b7o]
  rw [← hTi, if_pos (by simpa using ht), j1c hv hR hc ht]
  simp only [Option.bind_some, c0t]
  rw [b5c (by simp [b3a]; omega)]
  simp only [Option.bind_some]
  rw [b1u (show t < t + 1 by omega)]
  simp only [Option.bind_some]
  rw [b1u hc]
  simp only [Option.bind_some]
  rw [b1u ht]
  simp only [Option.bind_some]
  rw [b5c (by simp [b3a]; omega)]
  simp only [Option.bind_some, c0s]
  have ef : min ((bd h R c).most t) (R c t) = (bd h R c).flow t := by rw [b8i]; rfl
  have h1 := b9f (f := (bd h R c).flow) (B := 1000) (k := t) fun i hi => hb.flow i (by omega)
  have h2 := hb.flow t ht
  rw [c1b, ef, b2i (n := b00 (bd h R c).flow t + (bd h R c).flow t) (by omega) (by omega), b2i (n := (t : Int) + 1) (by omega) (by omega), ← b46, ← b6u, ← b6u]
theorem g2n : b5h h (opT h R) = some (tab h.Combs.length fun c => bdT (T h) (bd h R c) (R c)) := by
  have hn := hv.1.2.2.2.1
  unfold b5h
  have := b3r (f := b8u h (opT h R)) h.Combs.length (fun s k => (s, k)) (fun k => tab k fun c => bdT (T h) (bd h R c) (R c)) (tab h.Combs.length fun c => bdT (T h) (bd h R c) (R c)) (s0 := []) rfl (fun c hc => by
    simp only [b8u]
    rw [if_pos (by simpa using hc), g4p hv hR hc]
    simp only [Option.bind_some, c0y]
    rw [g5t hv hR hc]
    simp only [Option.bind_some, c0r]
    rw [b5c (by simp [b3a]; omega)]
    simp only [Option.bind_some, c0w]
    rw [b2i (n := (c : Int) + 1) (by omega) (by omega), b6u (n := c)]
    rfl) (by simp [b8u])
  rw [this]; rfl
end
theorem d8s {h : Hall} (hv : V h) : Rt h (b2d h) := ⟨fun c t _ _ => c65 hv t⟩
theorem j55 {h : Hall} (hv : V h) : (b42 h).bind (b5h h) = some (tab h.Combs.length fun c => bdT (T h) (bd h (b2d h) c) (b2d h c)) := by
  rw [j5j hv]; exact g2n hv (d8s hv)
abbrev own (h : Hall) : Nat → Bd := bd h (b2d h)
end Go.Nw.HM
namespace Go.Nw.HM
theorem g1w {h : Hall} (hv : V h) : b5u h := by
  obtain ⟨⟨s1, s2, s3, s4, s5, s6⟩, hc, ht, hs⟩ := hv
  have at_ : ∀ {α : Type} {l : List α} {x : α}, x ∈ l → ∃ k : Nat, l[k]? = some x := fun {α l x} hx => by
    obtain ⟨j, hj, rfl⟩ := List.getElem_of_mem hx
    exact ⟨j, List.getElem?_eq_getElem hj⟩
  refine ⟨⟨by simp only [maxLen]; omega, fun x hx => ?_⟩, ⟨by simp only [maxLen]; omega, fun x hx => ?_⟩, ⟨by simp only [maxLen]; omega, fun x hx => ?_⟩, by unfold b3g; omega⟩
  · obtain ⟨k, hk⟩ := at_ hx
    have := hc k x hk
    unfold b5g at this
    simp only [c2c, b93, b3g]; omega
  · obtain ⟨k, hk⟩ := at_ hx
    obtain ⟨q1, q2, q3, q4, q5⟩ := ht k x hk
    refine ⟨by simp only [b93, b3g]; omega, by simp only [maxLen]; omega, fun y hy => ?_⟩
    obtain ⟨j, hj⟩ := at_ hy
    have h5 := q5 j y hj
    have : -1 < y.Comb := by
      have key : ∀ (j : Nat) (y : Crowd), x.Crowds[j]? = some y → -1 < y.Comb := by
        intro j
        induction j with
        | zero => intro y hy; exact (q5 0 y hy).2.2.2.2
        | succ j ih =>
          intro y hy
          obtain ⟨z, hz⟩ := b2q (show j < x.Crowds.length by have := b1v hy; omega)
          have := ih z hz
          have := (q5 (j + 1) y hy).2.2.2.2 z hz
          omega
      exact key j y hj
    unfold b4z at h5
    simp only [c2d, b93, b3g]; omega
  · obtain ⟨k, hk⟩ := at_ hx
    have := hs k x hk
    unfold c0l at this
    simp only [c2e, b3g]; omega
theorem b8c {h : Hall} (hv : V h) : b4q h = some 0 ∧ b5a h = some 0 := by
  rcases d2p (g1w hv) with ⟨_, h1, h2⟩ | ⟨h1, _⟩
  · exact ⟨h1, h2⟩
  · exact absurd hv h1
theorem c42 {h : Hall} (hv : V h) (c : Int) (ts : List Int) (hl : ts.length ≤ maxLen) :
    b5p h c ts = some (if (0 ≤ c ∧ c < h.Combs.length) ∧ ∀ t ∈ ts, 0 ≤ t ∧ t < h.Until then 0 else 1) := by
  unfold b5p
  rw [(b8c hv).1]
  simp only [Option.bind_some]
  rw [if_neg (by simp)]
  by_cases q : 0 ≤ c ∧ c < h.Combs.length
  · rw [if_neg (by simp; omega)]
    obtain ⟨b, b1, b2⟩ := g7y (l := ts) (f := fun z => some (b6z z h)) (p := fun t => ¬ (0 ≤ t ∧ t < h.Until)) hl fun t ht => ⟨_, rfl, by
      simp only [b6z, Bool.or_eq_true, decide_eq_true_eq]; omega⟩
    rw [b1]
    simp only [Option.bind_some]
    cases b with
    | true =>
      obtain ⟨t, h1, h2⟩ := b2.1 rfl
      rw [if_pos rfl, if_neg fun hh => h2 (hh.2 t h1)]
    | false =>
      rw [if_neg (by simp), if_pos ⟨q, fun t ht => Classical.byContradiction fun hh => by have := b2.2 ⟨t, ht, hh⟩; cases this⟩]
  · rw [if_pos (by simp; omega)]
    simp only [Option.bind_some, if_true]
    rw [if_neg fun hh => q hh.1]
theorem g4o {h : Hall} (hv : V h) {c : Nat} (hc : c < h.Combs.length) : b5p h c [] = some 0 := by
  rw [c42 hv c [] (by simp), if_pos ⟨by omega, fun t ht => by cases ht⟩]
theorem c2j {h : Hall} (hv : V h) {α : Type} (f : List halls_bound → Option α) : ((b42 h).bind fun y => (b5h h y).bind f) = f (tab h.Combs.length fun c => bdT (T h) (own h c) (b2d h c)) := by
  have := j55 hv
  cases e : b42 h with
  | none => rw [e] at this; cases this
  | some y =>
    rw [e] at this
    simp only [Option.bind_some] at this ⊢
    rw [this]; rfl
theorem g1r {h : Hall} (hv : V h) {c : Nat} (hc : c < h.Combs.length) : b6y h c = some (tab (T h) (own h c).most, 0) := by
  unfold b6y
  rw [g4o hv hc]
  simp only [Option.bind_some]
  rw [if_neg (by simp), c2j hv, b1u hc]
  rfl
def c6b (h : Hall) (c : Nat) : Int := ((h.Combs[c]?).map (·.Limit)).getD 0
theorem d09 {h : Hall} {c : Nat} {x : Comb} (hx : h.Combs[c]? = some x) : c6b h c = x.Limit := by simp [c6b, hx]
section
variable {h : Hall} (hv : V h) {c : Nat} (hc : c < h.Combs.length) {r : Int} (hr : 0 ≤ r ∧ r ≤ 1000)
include hv hc
end
theorem j1b {h : Hall} {R : Nat → Nat → Int} {c t : Nat} : (bd h R c).most t = b4s 0 (fun s => (bd h R c).come s t - (b00 (R c) t - b00 (R c) s)) 0 (t + 1) := by rw [b8i]; rfl
end Go.Nw.HM
namespace Go.Nw.HM
section
variable {h : Hall} (hv : V h) {c : Nat} (hc : c < h.Combs.length)
include hv hc
end
end Go.Nw.HM
namespace Go.Nw.HM
def b5e (n : Nat) (p : Nat → Bool) : Option Nat := (List.range n).find? p
theorem d3u {n : Nat} {p : Nat → Bool} : b5e n p = none ↔ ∀ t, t < n → p t = false := by
  unfold b5e
  rw [List.find?_eq_none]
  constructor
  · intro h t ht; have := h t (List.mem_range.2 ht); simpa using this
  · intro h t ht; rw [h t (List.mem_range.1 ht)]; simp
theorem d3v {n : Nat} {p : Nat → Bool} {k : Nat} (hk : k < n) (hp : p k = true) (hb : ∀ j, j < k → p j = false) : b5e n p = some k := by
  unfold b5e
  rw [List.find?_range_eq_some]
  exact ⟨hp, List.mem_range.2 hk, fun j hj => by simp [hb j hj]⟩
def b5j (h : Hall) (R : Nat → Nat → Int) (c t : Nat) : Bool := decide (c6b h c < (bd h R c).most t)
def b4a (h : Hall) (R : Nat → Nat → Int) (n : Nat) : List (Int × Int) := (List.range n).filterMap fun c => (b5e (T h) (b5j h R c)).map fun (t : Nat) => ((c : Int), (t : Int))
theorem d1r {h : Hall} {R : Nat → Nat → Int} {n : Nat} : b4a h R (n + 1) = b4a h R n ++ match b5e (T h) (b5j h R n) with | some t => [((n : Int), (t : Int))] | none => [] := by
  unfold b4a
  rw [List.range_succ, List.filterMap_append]
  congr 1
  cases h' : b5e (T h) (b5j h R n) <;> simp [h']
theorem d1q {h : Hall} {R : Nat → Nat → Int} {n : Nat} : (b4a h R n).length ≤ n := by
  unfold b4a
  have := List.length_filterMap_le (fun c => (b5e (T h) (b5j h R c)).map fun (t : Nat) => ((c : Int), (t : Int))) (List.range n)
  simpa using this
theorem j52 {h : Hall} (hv : V h) (R : Nat → Nat → Int) : b7s h (tab h.Combs.length fun c => bdT (T h) (bd h R c) (R c)) = some (b4a h R h.Combs.length) := by
  have hn := hv.1.2.2.2.1
  have hT := b3k hv
  unfold b7s
  have := b3r (f := b81 h (tab h.Combs.length fun c => bdT (T h) (bd h R c) (R c))) h.Combs.length (fun s k => (s, k)) (b4a h R) (b4a h R h.Combs.length) (s0 := []) rfl (fun c hc => by
    obtain ⟨x, hx⟩ := b2q hc
    have hll := d1q (h := h) (R := R) (n := c)
    simp only [b81, b3a]
    rw [if_pos (by simpa using hc), b1u hc]
    simp only [Option.bind_some]
    have key := d6r (s := (bdT (T h) (bd h R c) (R c)).most) (f := fun z12 => b60 z12 h c) (p := fun m => c6b h c < m) (g := b9t (bdT (T h) (bd h R c) (R c)).most (fun z12 => b60 z12 h c)) rfl (by simp only [bdT, b3a, maxLen]; omega) (fun m _ => by
      simp only [b60, b2k hx, Option.bind_some]
      exact ⟨_, rfl, by rw [← d09 hx]; simp⟩)
    rcases key with ⟨k, m, hm, hp, hf, e⟩ | ⟨hf, e⟩
    · have hkt : k < T h := by have := b1v hm; simpa [bdT, b3a] using this
      have hat : ∀ j, j < T h → (bdT (T h) (bd h R c) (R c)).most[j]? = some ((bd h R c).most j) := fun j hj => c14 hj
      have hfst : b5e (T h) (b5j h R c) = some k := d3v hkt (by
        rw [hat k hkt] at hm; cases hm
        unfold b5j; simpa using hp) (fun j hj => by
        have := hf j _ hj (hat j (by omega))
        unfold b5j; simpa using this)
      rw [e]
      simp only [Option.bind_some]
      rw [if_pos (by simp), b5c (by simp only [List.length_cons, List.length_nil]; omega)]
      simp only [Option.bind_some, b7t, b2m hc (show h.Combs.length ≤ maxLen by simp only [maxLen]; omega)]
      rw [d1r, hfst]
    · have hfst : b5e (T h) (b5j h R c) = none := d3u.2 fun t ht => by
        have := hf ((bd h R c).most t) (List.mem_of_getElem? (show (bdT (T h) (bd h R c) (R c)).most[t]? = _ from c14 ht))
        unfold b5j; simpa using this
      rw [e]
      simp only [Option.bind_some]
      rw [if_neg (by simp)]
      simp only [b7t, b2m hc (show h.Combs.length ≤ maxLen by simp only [maxLen]; omega)]
      rw [d1r, hfst]
      simp) (by simp [b81, b3a])
  rw [this]; rfl
theorem g1t {h : Hall} (hv : V h) : b6o h = some (b4a h (b2d h) h.Combs.length, 0) := by
  unfold b6o
  rw [(b8c hv).1]
  simp only [Option.bind_some]
  rw [if_neg (by simp), c2j hv, j52 hv]
  rfl
theorem j6q {h : Hall} (h1 : 1 ≤ h.Until) (h2 : h.Until ≤ 100) (hl : h.Shifts.length ≤ maxLen) {c : Nat} (hc : c < h.Combs.length) : b9n h c = some (tab (T h) (b2d h c)) := by
  obtain ⟨x, hx⟩ := b2q hc
  have hT : T h ≤ 100 := by unfold T; omega
  have hTi : (T h : Int) = h.Until := by unfold T; omega
  unfold b9n
  rw [← hTi, b7y (by omega) (by omega)]
  simp only [Option.bind_some]
  have := b3r (f := c32 h c) (T h) (fun s k => (s, k)) (fill (T h) (b2d h c) 0) (tab (T h) (b2d h c)) (s0 := tab (T h) fun _ => 0) (by rw [← b9u, c0j]) (fun t ht => by
    simp only [c32]
    rw [← hTi, if_pos (by simpa using ht), b2k hx]
    simp only [Option.bind_some]
    rw [c0k ht]
    simp only [Option.bind_some]
    have ein := b3r (f := c31 h c t) h.Shifts.length (fun s k => (s, k)) (fun j => (fill (T h) (b2d h c) 0 t).set t ((h.Shifts.take j).foldl (b4n c t) (b5k h c))) (fill (T h) (b2d h c) 0 (t + 1))
      (s0 := (fill (T h) (b2d h c) 0 t).set ((t : Int)).toNat x.Rate) (by simp [b5k, hx]) (fun j hj => by
        obtain ⟨y, hy⟩ := b2q hj
        simp only [c31, b2k hy, Option.bind_some]
        rw [if_pos (by simpa using hj), List.take_add_one, hy]
        simp only [Option.toList_some, List.foldl_append, List.foldl_cons, List.foldl_nil]
        by_cases e : y.Comb = (c : Int) ∧ y.At ≤ (t : Int)
        · rw [if_pos (by simpa using e), show b4n c t _ y = y.Rate from if_pos e]
          rw [show get ((fill (T h) (b2d h c) 0 t).set t ((h.Shifts.take j).foldl (b4n c t) (b5k h c))) (t : Int) = some ((h.Shifts.take j).foldl (b4n c t) (b5k h c)) from by unfold fill; rw [b76, b1u ht, if_pos rfl]]
          simp only [Option.bind_some, c1y, b2m hj hl]
          rw [show ((t : Nat) : Int).toNat = t from by omega, List.set_set]
        · rw [if_neg (by simpa using e), show b4n c t _ y = _ from if_neg e]
          simp only [c1y, b2m hj hl]) (by
        simp only [c31]
        rw [if_neg (by simp), List.take_length, c0i (f := b2d h c) (v := h.Shifts.foldl (b4n c t) (b5k h c)) rfl])
    rw [ein]
    simp only [Option.bind_some, c64, b2m ht (show T h ≤ maxLen by simp only [maxLen]; omega)]) (by
    simp only [c32]
    rw [← hTi, if_neg (by simp), b8p (Nat.le_refl _)])
  rw [this]; rfl
theorem j6s {h : Hall} (hv : V h) {c : Nat} (hc : c < h.Combs.length) : b9n h c = some (tab (T h) (b2d h c)) := j6q hv.1.1 hv.1.2.1 (by have := hv.1.2.2.2.2.2; simp only [maxLen]; omega) hc
def shA (h : Hall) (f : Nat) : List Shift := h.Shifts.filter fun s => decide (s.At ≤ (f : Int))
section
variable {h : Hall} (hv : V h) {c : Nat} (hc : c < h.Combs.length) {f k : Nat} (hf : f < T h) (hk : 0 < k) (hfk : f + k ≤ T h)
end
end Go.Nw.HM
namespace Go.Nw.HM
section
variable {h : Hall} (hv : V h) {c : Nat} {f k : Nat}
include hv
end
section
variable {h : Hall} (hv : V h) {c : Nat} (hc : c < h.Combs.length) {f : Nat} (hf : f < T h)
include hv hc hf
end
end Go.Nw.HM
namespace Go.Nw.HM
def g6p (x : Train) (a : Int) (p : List Int) : Prop := (x.At.Low ≤ a ∧ a ≤ x.At.High) ∧ p.length = x.Crowds.length ∧ ∀ (k : Nat) y n, x.Crowds[k]? = some y → p[k]? = some n → y.People.Low ≤ n ∧ n ≤ y.People.High
def g6q (x : Comb) (w : List Int) : Prop := 1 ≤ w.length ∧ w.length ≤ 20 ∧ ∀ n ∈ w, x.Walk.Low ≤ n ∧ n ≤ x.Walk.High
structure Fit (h : Hall) (d : Day) : Prop where
  at_ : d.At.length = h.Trains.length
  people : d.People.length = h.Trains.length
  walks : d.Walks.length = h.Combs.length
  ride : ∀ (i : Nat) x a p, h.Trains[i]? = some x → d.At[i]? = some a → d.People[i]? = some p → g6p x a p
  walk : ∀ (u : Nat) x w, h.Combs[u]? = some x → d.Walks[u]? = some w → g6q x w
section
variable {d : Day} {i : Nat} {x : Train} {p : List Int} (hp : d.People[i]? = some p) (hl : p.length = x.Crowds.length) (hm : x.Crowds.length ≤ maxLen)
include hp hl hm
end
section
variable {h : Hall} (hv : V h) {d : Day} (hd : g1s d)
include hv hd
end
end Go.Nw.HM
namespace Go.Nw.HM
def dAt (d : Day) (i : Nat) : Int := (d.At[i]?).getD 0
def dPe (d : Day) (i k : Nat) : Int := (((d.People[i]?).getD [])[k]?).getD 0
def wlk (d : Day) (u t : Nat) : Nat := ((((d.Walks[u]?).getD [])[t % ((d.Walks[u]?).getD []).length]?).getD 0).toNat
def tr (h : Hall) (i : Nat) : Train := (h.Trains[i]?).getD default
def crC (h : Hall) (i k : Nat) : Int := (((tr h i).Crowds[k]?).map (·.Comb)).getD (-1)
def nxt (h : Hall) (u : Nat) : Int := ((h.Combs[u]?).map (·.Next)).getD (-1)
def c2g (h : Hall) (d : Day) (c i k : Nat) : Int := if crC h i k = (c : Int) then dPe d i k else 0
def b8h (h : Hall) (d : Day) (t c i : Nat) : Int := if dAt d i = (t : Int) then b00 (c2g h d c i) (tr h i).Crowds.length else 0
def arr (h : Hall) (d : Day) (t c : Nat) : Int := b00 (b8h h d t c) h.Trains.length
def psN (h : Hall) (n : Nat → Nat → Int) (t c : Nat) : Int := min (n t c) (b2d h c t)
def lfN (h : Hall) (n : Nat → Nat → Int) (t c : Nat) : Int := n t c - psN h n t c
def Wt (h : Hall) (d : Day) (p : Nat → Nat → Int) (s e u t : Nat) : Int := if nxt h u = (e : Int) ∧ t + wlk d u t = s then p t u else 0
def b9p (h : Hall) (d : Day) (n : Nat → Nat → Int) (t c : Nat) : Int := (arr h d t c + b00 (fun u => b00 (Wt h d (psN h n) t c u) t) h.Combs.length) + if 0 < t then lfN h n (t - 1) c else 0
def nL (h : Hall) (d : Day) : Nat → Nat → Nat → Int
  | 0 => fun _ _ => 0
  | k + 1 => fun t c => if t = k then b9p h d (nL h d k) k c else nL h d k t c
def nn (h : Hall) (d : Day) (t c : Nat) : Int := nL h d (t + 1) t c
abbrev ps (h : Hall) (d : Day) : Nat → Nat → Int := psN h (nn h d)
abbrev lf (h : Hall) (d : Day) : Nat → Nat → Int := lfN h (nn h d)
theorem j66 {h : Hall} {d : Day} {p q : Nat → Nat → Int} {t c : Nat} (hpq : ∀ t', t' < t → ∀ c, p t' c = q t' c) : b9p h d p t c = b9p h d q t c := by
  unfold b9p
  congr 1
  · congr 1
    refine d1m fun u _ => d1m fun t' ht' => ?_
    unfold Wt psN
    rw [hpq t' ht']
  · split
    · unfold lfN psN; rw [hpq (t - 1) (by omega)]
    · rfl
theorem j1i {h : Hall} {d : Day} {k t c : Nat} (ht : t < k) : nL h d k t c = nn h d t c := by
  induction k with
  | zero => omega
  | succ k ih =>
    by_cases e : t = k
    · subst e; rfl
    · show (if t = k then _ else nL h d k t c) = _
      rw [if_neg e]; exact ih (by omega)
theorem d8e {h : Hall} {d : Day} {t c : Nat} : nn h d t c = b9p h d (nn h d) t c := by
  show (if t = t then b9p h d (nL h d t) t c else _) = _
  rw [if_pos rfl]
  exact j66 fun t' ht' c => j1i ht'
section
variable {h : Hall} {d : Day}
variable (hv : V h) (hf : Fit h d)
include hv hf
theorem j6e {i k : Nat} (hi : i < h.Trains.length) (hk : k < (tr h i).Crowds.length) : 0 ≤ dPe d i k ∧ dPe d i k ≤ 1000 ∧ ∃ y, (tr h i).Crowds[k]? = some y ∧ y.People.Low ≤ dPe d i k ∧ dPe d i k ≤ y.People.High := by
  obtain ⟨x, hx⟩ := b2q hi
  obtain ⟨a, ha⟩ := b2q (show i < d.At.length by rw [hf.at_]; exact hi)
  obtain ⟨p, hp⟩ := b2q (show i < d.People.length by rw [hf.people]; exact hi)
  obtain ⟨_, g2, g3⟩ := hf.ride i x a p hx ha hp
  have et : tr h i = x := by unfold tr; rw [hx]; rfl
  rw [et] at hk ⊢
  obtain ⟨y, hy⟩ := b2q hk
  obtain ⟨n, hn⟩ := b2q (show k < p.length by omega)
  have := g3 k y n hy hn
  have hg := (hv.2.2.1 i x hx).2.2.2.2 k y hy
  unfold b4z at hg
  have e : dPe d i k = n := by unfold dPe; rw [hp]; simp [hn]
  rw [e]
  exact ⟨by omega, by omega, y, hy, by omega, by omega⟩
omit hf in
theorem g4y {i : Nat} (hi : i < h.Trains.length) : (tr h i).Crowds.length ≤ 4 := by
  obtain ⟨x, hx⟩ := b2q hi
  have : tr h i = x := by unfold tr; rw [hx]; rfl
  rw [this]; exact (hv.2.2.1 i x hx).2.2.2.1
theorem g15 {c i : Nat} (hi : i < h.Trains.length) {k : Nat} (hk : k ≤ (tr h i).Crowds.length) : 0 ≤ b00 (c2g h d c i) k ∧ b00 (c2g h d c i) k ≤ 4000 := by
  have := b9f (f := c2g h d c i) (B := 1000) (k := k) fun j hj => by
    have := j6e hv hf hi (show j < (tr h i).Crowds.length by omega)
    unfold c2g; split <;> omega
  have := g4y hv hi
  omega
theorem g14 {t c i : Nat} (hi : i < h.Trains.length) : 0 ≤ b8h h d t c i ∧ b8h h d t c i ≤ 4000 := by
  have := g15 hv hf (c := c) hi (Nat.le_refl _)
  unfold b8h; split <;> omega
theorem g16 {t c k : Nat} (hk : k ≤ h.Trains.length) : 0 ≤ b00 (b8h h d t c) k ∧ b00 (b8h h d t c) k ≤ 48000 := by
  have := b9f (f := b8h h d t c) (B := 4000) (k := k) fun i hi => g14 hv hf (by omega)
  have := hv.1.2.2.2.2.1
  omega
omit hf in
theorem g1y {n : Nat → Nat → Int} {s e u t : Nat} (hn : ∀ t c, t < s → 0 ≤ n t c) (ht : t < s) : 0 ≤ Wt h d (psN h n) s e u t ∧ Wt h d (psN h n) s e u t ≤ 1000 := by
  have h1 := hn t u ht
  have h2 := c65 hv (c := u) t
  unfold Wt; split
  · unfold psN; omega
  · omega
theorem j4p : ∀ (t : Nat), t < T h → ∀ c, 0 ≤ nn h d t c ∧ nn h d t c ≤ 1000000 * (t + 1) := by
  intro t
  induction t using Nat.strongRecOn with
  | _ t ih =>
    intro ht c
    have hT := b3k hv
    have hN := hv.1.2.2.2.1
    have h1 := g16 hv hf (t := t) (c := c) (Nat.le_refl _)
    have h2 : 0 ≤ b00 (fun u => b00 (Wt h d (psN h (nn h d)) t c u) t) h.Combs.length ∧ b00 (fun u => b00 (Wt h d (psN h (nn h d)) t c u) t) h.Combs.length ≤ 800000 := by
      have := b9f (f := fun u => b00 (Wt h d (psN h (nn h d)) t c u) t) (B := 100000) (k := h.Combs.length) fun u hu => by
        have := b9f (f := Wt h d (psN h (nn h d)) t c u) (B := 1000) (k := t) fun t' ht' => g1y hv (fun t c htt => by
          by_cases q : t < T h
          · exact (ih t (by omega) q c).1
          · omega) ht'
        omega
      omega
    rw [d8e]
    unfold b9p
    unfold arr
    split
    · have h3 := ih (t - 1) (by omega) (by omega) c
      have h4 := c65 hv (c := c) (t - 1)
      have e1 : lfN h (nn h d) (t - 1) c = nn h d (t - 1) c - min (nn h d (t - 1) c) (b2d h c (t - 1)) := rfl
      rw [e1]
      have : ((t - 1 : Nat) : Int) = (t : Int) - 1 := by omega
      rw [this] at h3
      omega
    · omega
theorem j6h {t : Nat} (ht : t < T h) (c : Nat) : 0 ≤ ps h d t c ∧ ps h d t c ≤ 1000 ∧ 0 ≤ lf h d t c ∧ lf h d t c ≤ 1000000 * (t + 1) := by
  have h1 := j4p hv hf t ht c
  have h2 := c65 hv (c := c) t
  have e1 : ps h d t c = min (nn h d t c) (b2d h c t) := rfl
  have e2 : lf h d t c = nn h d t c - ps h d t c := rfl
  omega
end
end Go.Nw.HM
namespace Go.Nw.HM
section
variable {h : Hall} {d : Day} (hv : V h) (hf : Fit h d)
include hv hf
end
end Go.Nw.HM
namespace Go.Nw.HM
def cm (h : Hall) (d : Day) (c t : Nat) : Int := arr h d t c + b00 (fun u => b00 (Wt h d (ps h d) t c u) t) h.Combs.length
def b28 (f : Nat → Int) (a b : Nat) : Int := b00 f b - b00 f a
theorem b9q {f : Nat → Int} {a b : Nat} : b28 f a (b + 1) = b28 f a b + f b := by unfold b28; rw [b46]; omega
theorem b6t {f : Nat → Int} {a : Nat} : b28 f a a = 0 := by unfold b28; omega
theorem j7m {f : Nat → Int} {a b c : Nat} : b28 f a c = b28 f a b + b28 f b c := by unfold b28; omega
theorem j7l {f g : Nat → Int} {a b : Nat} (hab : a ≤ b) (h : ∀ i, a ≤ i → i < b → f i ≤ g i) : b28 f a b ≤ b28 g a b := by
  induction b with
  | zero => have : a = 0 := by omega
            subst this; rw [b6t, b6t]; exact Int.le_refl _
  | succ b ih =>
    by_cases e : a = b + 1
    · subst e; rw [b6t, b6t]; exact Int.le_refl _
    · rw [b9q, b9q]
      have := ih (by omega) fun i h1 h2 => h i h1 (by omega)
      have := h b (by omega) (by omega)
      omega
section
variable {h : Hall} {d : Day} (hv : V h) (hf : Fit h d)
include hv hf
omit hv hf in
theorem d8d {t c : Nat} : nn h d t c = cm h d c t + if 0 < t then lf h d (t - 1) c else 0 := by rw [d8e]; rfl
theorem j6p (c : Nat) {s t : Nat} (hst : s ≤ t) : nn h d t c + b28 (fun x => ps h d x c) s t = (nn h d s c - cm h d c s) + b28 (cm h d c) s (t + 1) := by
  induction t with
  | zero => have : s = 0 := by omega
            subst this; rw [b6t, b9q, b6t]; omega
  | succ t ih =>
    by_cases e : s = t + 1
    · subst e; rw [b6t, b9q, b6t]; omega
    · have := ih (by omega)
      have h1 := d8d (h := h) (d := d) (t := t + 1) (c := c)
      rw [if_pos (by omega), Nat.add_sub_cancel] at h1
      have h2 : lf h d t c = nn h d t c - ps h d t c := rfl
      rw [b9q (b := t), b9q (b := t + 1)]
      omega
theorem j01 {t : Nat} (ht : t < T h) (c : Nat) : 0 ≤ nn h d t c - cm h d c t := by
  have h1 := d8d (h := h) (d := d) (t := t) (c := c)
  by_cases q : 0 < t
  · rw [if_pos q] at h1
    have := j6h hv hf (show t - 1 < T h by omega) c
    omega
  · rw [if_neg q] at h1; omega
theorem c6a (c : Nat) {s t : Nat} (hst : s ≤ t) (ht : t < T h) : b28 (cm h d c) s (t + 1) - b28 (b2d h c) s t ≤ nn h d t c := by
  have h1 := j6p hv hf c hst
  have h2 := j01 hv hf (show s < T h by omega) c
  have h3 : b28 (fun x => ps h d x c) s t ≤ b28 (b2d h c) s t := j7l hst fun i _ _ => by
    have : ps h d i c = min (nn h d i c) (b2d h c i) := rfl
    omega
  omega
structure Bnd (h : Hall) (d : Day) (c : Nat) : Prop where
  come : ∀ s t, s ≤ t → t < T h → b28 (cm h d c) s (t + 1) ≤ (own h c).come s t
  most : ∀ t, t < T h → nn h d t c ≤ (own h c).most t
  flow : ∀ t, t < T h → ps h d t c ≤ (own h c).flow t
end
end Go.Nw.HM
namespace Go.Nw.HM
end Go.Nw.HM
namespace Go.Nw.HM
theorem g1i {h : Hall} (hv : V h) {c : Nat} (hc : c < h.Combs.length) (f t : Int) :
    (b53 h c f t = some (0, 1)) ∨ ∃ a b : Nat, f = a ∧ t = b ∧ a < T h ∧ b < T h ∧ b53 h c f t = some (if a ≤ b then (own h c).come a b else 0, 0) := by
  have hTi := b4x hv
  unfold b53
  have e := c42 hv c [f, t] (by simp [maxLen])
  by_cases q : (0 ≤ f ∧ f < h.Until) ∧ (0 ≤ t ∧ t < h.Until)
  · right
    rw [if_pos ⟨by omega, fun x hx => by
      rcases List.mem_cons.1 hx with rfl | hx
      · exact q.1
      · rcases List.mem_singleton.1 hx with rfl; exact q.2⟩] at e
    obtain ⟨a, rfl⟩ : ∃ a : Nat, f = a := ⟨f.toNat, by omega⟩
    obtain ⟨b, rfl⟩ : ∃ b : Nat, t = b := ⟨t.toNat, by omega⟩
    refine ⟨a, b, rfl, rfl, by omega, by omega, ?_⟩
    rw [e]
    simp only [Option.bind_some]
    rw [if_neg (by simp), c2j hv, b1u hc]
    simp only [Option.bind_some, bdT]
    rw [b1u (show a < T h by omega)]
    simp only [Option.bind_some, b2x]
    rw [b1u (show b < T h by omega)]
    rfl
  · left
    rw [if_neg fun hh => q ⟨hh.2 f (by simp), hh.2 t (by simp)⟩] at e
    rw [e]
    simp only [Option.bind_some]
    rw [if_pos (by simp)]
end Go.Nw.HM
