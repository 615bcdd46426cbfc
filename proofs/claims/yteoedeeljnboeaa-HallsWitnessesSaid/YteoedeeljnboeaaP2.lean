/- Plain laws on the models. -/
import Derived.Test.YteoedeeljnboeaaP1
import Derived.Test.YteoedeeljnboeaaNwSearch
set_option linter.all false
set_option linter.unusedVariables false
set_option linter.unusedSimpArgs false
set_option linter.unusedSectionVars false
namespace Go.Nw.HM
structure Crowded (n : Nat) (lo : Int) (l : List Crowd) : Prop where
  each : ∀ (k : Nat) x, l[k]? = some x → 0 ≤ x.Comb ∧ x.Comb < n ∧ 0 ≤ x.People.Low ∧ x.People.Low ≤ x.People.High ∧ x.People.High ≤ 1000
structure Valid (h : Hall) : Prop where
  u1 : 1 ≤ h.Until
  u2 : h.Until ≤ 100
  c1 : 1 ≤ h.Combs.length
  c2 : h.Combs.length ≤ 8
  t2 : h.Trains.length ≤ 12
  s2 : h.Shifts.length ≤ 20
  comb : ∀ (k : Nat) x, h.Combs[k]? = some x → 0 ≤ x.Rate ∧ x.Rate ≤ 1000 ∧ 0 ≤ x.Limit ∧ x.Limit ≤ 100000 ∧ (x.Next = -1 ∨ (k < x.Next ∧ x.Next < h.Combs.length)) ∧ 1 ≤ x.Walk.Low ∧ x.Walk.Low ≤ x.Walk.High ∧ x.Walk.High ≤ 20
  train : ∀ (k : Nat) x, h.Trains[k]? = some x → 0 ≤ x.At.Low ∧ x.At.Low ≤ x.At.High ∧ x.At.High ≤ h.Until - 1 ∧ x.Crowds.length ≤ 4 ∧
    (∀ (j : Nat) y, x.Crowds[j]? = some y → 0 ≤ y.People.Low ∧ y.People.Low ≤ y.People.High ∧ y.People.High ≤ 1000 ∧ y.Comb < h.Combs.length ∧ (match j with | 0 => -1 < y.Comb | j + 1 => ∀ z, x.Crowds[j]? = some z → z.Comb < y.Comb))
  shift : ∀ (k : Nat) x, h.Shifts[k]? = some x → 0 ≤ x.At ∧ x.At < h.Until ∧ 0 ≤ x.Comb ∧ x.Comb < h.Combs.length ∧ 0 ≤ x.Rate ∧ x.Rate ≤ 1000 ∧ (∀ j y, k = j + 1 → h.Shifts[j]? = some y → y.At ≤ x.At)
def b4t (n : Nat) (k : Nat) (x : Comb) : Prop := 0 ≤ x.Rate ∧ x.Rate ≤ 1000 ∧ 0 ≤ x.Limit ∧ x.Limit ≤ 100000 ∧ (x.Next = -1 ∨ ((k : Int) < x.Next ∧ x.Next < n)) ∧ 1 ≤ x.Walk.Low ∧ x.Walk.Low ≤ x.Walk.High ∧ x.Walk.High ≤ 20
def b4k (n : Nat) (l : List Crowd) (j : Nat) (y : Crowd) : Prop := 0 ≤ y.People.Low ∧ y.People.Low ≤ y.People.High ∧ y.People.High ≤ 1000 ∧ y.Comb < n ∧ (match j with | 0 => -1 < y.Comb | j + 1 => ∀ z, l[j]? = some z → z.Comb < y.Comb)
def b97 (n : Nat) (u : Int) (x : Train) : Prop := 0 ≤ x.At.Low ∧ x.At.Low ≤ x.At.High ∧ x.At.High ≤ u - 1 ∧ x.Crowds.length ≤ 4 ∧ ∀ (j : Nat) y, x.Crowds[j]? = some y → b4k n x.Crowds j y
def b96 (n : Nat) (u : Int) (l : List Shift) (k : Nat) (x : Shift) : Prop := 0 ≤ x.At ∧ x.At < u ∧ 0 ≤ x.Comb ∧ x.Comb < n ∧ 0 ≤ x.Rate ∧ x.Rate ≤ 1000 ∧ (∀ j y, k = j + 1 → l[j]? = some y → y.At ≤ x.At)
theorem g1z {h : Hall} (hk : b5v h) : ∃ b, c3n h = some b := by
  unfold c3n
  split
  · exact ⟨_, rfl⟩
  · have hl : h.Trains.length ≤ maxLen := hk.2.1.1
    rcases d8f (f := c0x h) h.Trains (fun _ x => 10 < x.Crowds.length) (.inr true) (.inl ()) (fun k x hx hb => by
      simp only [c0x, b2f hx, Option.bind_some]
      rw [if_pos (by simpa using b17 hx), if_pos (by simp; omega)]) (fun k x hx hb => by
      simp only [c0x, b2f hx, Option.bind_some]
      rw [if_pos (by simpa using b17 hx), if_neg (by simp; omega), b2o (b17 hx) hl]) (by simp [c0x]) with ⟨_, h2⟩ | ⟨_, h2⟩
    · rw [h2]; exact ⟨_, rfl⟩
    · rw [h2]; exact ⟨_, rfl⟩
end Go.Nw.HM
namespace Go.Nw.HM
def b6s (h : Hall) : Prop := 1 ≤ h.Until ∧ h.Until ≤ 100 ∧ 1 ≤ h.Combs.length ∧ h.Combs.length ≤ 8 ∧ h.Trains.length ≤ 12 ∧ h.Shifts.length ≤ 20
def V (h : Hall) : Prop := b6s h ∧ (∀ (k : Nat) x, h.Combs[k]? = some x → b4t h.Combs.length k x) ∧ (∀ (k : Nat) x, h.Trains[k]? = some x → b97 h.Combs.length h.Until x) ∧ (∀ (k : Nat) x, h.Shifts[k]? = some x → b96 h.Combs.length h.Until h.Shifts k x)
def b5b (l : List Crowd) : Nat → Int
  | 0 => -1
  | j + 1 => ((l[j]?).map (·.Comb)).getD 0
theorem d11 {l : List Crowd} {k : Nat} {x : Crowd} (h : l[k]? = some x) : b5b l (k + 1) = x.Comb := by simp [b5b, h]
theorem c2v {n : Nat} {l : List Crowd} {k : Nat} {x : Crowd} (hx : l[k]? = some x) : b4k n l k x ↔ (0 ≤ x.People.Low ∧ x.People.Low ≤ x.People.High ∧ x.People.High ≤ 1000 ∧ x.Comb < n ∧ b5b l k < x.Comb) := by
  unfold b4k
  cases k with
  | zero => simp [b5b]
  | succ j =>
    obtain ⟨z, hz⟩ := b2e (show j < l.length by have := b17 hx; omega)
    simp [b5b, hz]
section
variable {h : Hall} (hk : b5v h) (hs : b6s h)
include hk hs
theorem d3y {t : Train} (ht : b8b t) : ((∀ k x, t.Crowds[k]? = some x → b4k h.Combs.length t.Crowds k x) ∧ b08 (b7z h t) (-1, 0) = some (.inl ())) ∨ ((∃ k x, t.Crowds[k]? = some x ∧ ¬ b4k h.Combs.length t.Crowds k x) ∧ b08 (b7z h t) (-1, 0) = some (.inr 60)) := by
  have hn := d2v (n := h.Combs.length) (by have := hs.2.2.2.1; simp only [maxLen]; omega)
  have hl : t.Crowds.length ≤ maxLen := ht.2.1
  have hpb : ∀ k, (∀ j y, j < k → t.Crowds[j]? = some y → ¬ ¬ b4k h.Combs.length t.Crowds j y) → k ≤ t.Crowds.length → -1 ≤ b5b t.Crowds k ∧ b5b t.Crowds k < 8 := fun k hg hkl => by
    have key : ∀ m, m ≤ k → -1 ≤ b5b t.Crowds m ∧ b5b t.Crowds m < 8 := by
      intro m
      induction m with
      | zero => intro _; simp [b5b]
      | succ m ih =>
        intro hm
        obtain ⟨y, hy⟩ := b2e (show m < t.Crowds.length by omega)
        have hgy := (c2v hy).1 (Classical.not_not.1 (hg m y (by omega) hy))
        have := ih (by omega)
        rw [d11 hy]
        have := hs.2.2.2.1
        omega
    exact key k (Nat.le_refl _)
  have := d1p (f := b7z h t) t.Crowds (fun s k => (s, k)) (b5b t.Crowds) (fun k x => ¬ b4k h.Combs.length t.Crowds k x) (.inr 60) (.inl ()) (fun k x hg hx hb => by
    obtain ⟨p1, p2⟩ := hpb k hg (by have := b17 hx; omega)
    simp only [b7z, b2f hx, Option.bind_some, hn, b78 (show -9223372036854775808 ≤ b5b t.Crowds k + 1 by omega) (by omega)]
    rw [if_pos (by simpa using b17 hx), if_pos]
    rw [c2v hx] at hb
    simp only [b2v, b4p, Bool.or_eq_true, Bool.not_eq_true', Bool.and_eq_false_iff, decide_eq_false_iff_not]
    omega) (fun k x hg hx hb => by
    obtain ⟨p1, p2⟩ := hpb k hg (by have := b17 hx; omega)
    simp only [b7z, b2f hx, Option.bind_some, hn, b78 (show -9223372036854775808 ≤ b5b t.Crowds k + 1 by omega) (by omega)]
    rw [if_pos (by simpa using b17 hx), if_neg, b2o (b17 hx) hl, d11 hx]
    have hb := (c2v hx).1 (Classical.not_not.1 hb)
    simp only [b2v, b4p, Bool.or_eq_true, Bool.not_eq_true', Bool.and_eq_false_iff, decide_eq_false_iff_not]
    omega) (by simp [b7z]) (s0 := -1) rfl
  simpa using this
theorem g5a {t : Train} (ht : b8b t) : ((∀ k x, t.Crowds[k]? = some x → b4k h.Combs.length t.Crowds k x) ∧ b08 (b6q h t) (-1, 0) = some (.inl ())) ∨ ((∃ k x, t.Crowds[k]? = some x ∧ ¬ b4k h.Combs.length t.Crowds k x) ∧ b08 (b6q h t) (-1, 0) = some (.inr false)) := by
  have hl : t.Crowds.length ≤ maxLen := ht.2.1
  have := d1p (f := b6q h t) t.Crowds (fun s k => (s, k)) (b5b t.Crowds) (fun k x => ¬ b4k h.Combs.length t.Crowds k x) (.inr false) (.inl ()) (fun k x hg hx hb => by
    simp only [b6q, b2f hx, Option.bind_some]
    rw [if_pos (by simpa using b17 hx), if_pos]
    rw [c2v hx] at hb
    simp only [b4u, Bool.or_eq_true, Bool.not_eq_true', Bool.and_eq_false_iff, decide_eq_false_iff_not, decide_eq_true_eq]
    omega) (fun k x hg hx hb => by
    simp only [b6q, b2f hx, Option.bind_some]
    rw [if_pos (by simpa using b17 hx), if_neg, b2o (b17 hx) hl, d11 hx]
    have hb := (c2v hx).1 (Classical.not_not.1 hb)
    simp only [b4u, Bool.or_eq_true, Bool.not_eq_true', Bool.and_eq_false_iff, decide_eq_false_iff_not, decide_eq_true_eq]
    omega) (by simp [b6q]) (s0 := -1) rfl
  simpa using this
theorem j0v {t : Train} (ht : b8b t) : ∃ b, b8y h t = some b ∧ (b = true ↔ b97 h.Combs.length h.Until t) := by
  have hu : wr (h.Until - 1) = h.Until - 1 := b78 (by have := hs.1; omega) (by have := hs.2.1; omega)
  unfold b8y
  rcases g5a hk hs ht with ⟨h1, h2⟩ | ⟨⟨k, x, hx, hb⟩, h2⟩
  · rw [h2]
    simp only [Option.bind_some, c0k, hu]
    refine ⟨_, rfl, ?_⟩
    simp only [b4u, Bool.and_eq_true, decide_eq_true_eq, b97]
    constructor
    · rintro ⟨⟨⟨a, b⟩, c⟩, d⟩; exact ⟨a, b, c, by omega, h1⟩
    · rintro ⟨a, b, c, d, _⟩; exact ⟨⟨⟨a, b⟩, c⟩, by omega⟩
  · rw [h2]
    refine ⟨false, rfl, by simp; exact fun hg => hb (hg.2.2.2.2 k x hx)⟩
end
end Go.Nw.HM
namespace Go.Nw.HM
theorem g8d {l : List Train} {f : Train → Option Bool} {p : Train → Prop} (hl : l.length ≤ maxLen) (hf : ∀ x ∈ l, ∃ b, f x = some b ∧ (b = true ↔ p x)) :
    ∃ b, c1y l f = some b ∧ (b = true ↔ ∃ x ∈ l, p x) := d0h rfl hl hf
theorem g8c {l : List Int} {f : Int → Option Bool} {p : Int → Prop} (hl : l.length ≤ maxLen) (hf : ∀ x ∈ l, ∃ b, f x = some b ∧ (b = true ↔ p x)) :
    ∃ b, c1z l f = some b ∧ (b = true ↔ ∃ x ∈ l, p x) := d0h rfl hl hf
theorem c7o {j n : Nat} (h : j + 1 < n) (hn : n ≤ maxLen) : wr (((j + 1 : Nat) : Int) - 1) = (j : Int) := by
  rw [b78 (by omega) (by simp only [maxLen] at hn; omega)]; omega
theorem d7x {h : Hall} {k : Nat} {x : Comb} (hx : h.Combs[k]? = some x) : ∃ b, b8x h k = some b ∧ (b = true ↔ b4t h.Combs.length k x) := by
  unfold b8x
  rw [b2f hx]
  refine ⟨_, rfl, ?_⟩
  simp only [b4l, b4u, b4t, Bool.and_eq_true, Bool.or_eq_true, decide_eq_true_eq]
  omega
theorem d9v {h : Hall} (hk : b5v h) : b6s h ∨ (¬ b6s h ∧ b46 h = some 60 ∧ b6c h = some 60) := by
  by_cases hs : b6s h
  · exact .inl hs
  · refine .inr ⟨hs, ?_, ?_⟩
    · unfold b46
      rw [if_pos]
      simp only [Bool.or_eq_true, decide_eq_true_eq]
      unfold b6s at hs; omega
    · unfold b6c
      rw [if_pos]
      simp only [b2v, Bool.or_eq_true, Bool.not_eq_true', Bool.and_eq_false_iff, decide_eq_false_iff_not, decide_eq_true_eq]
      unfold b6s at hs; omega
theorem g1x {h : Hall} (hk : b5v h) : (V h ∧ b46 h = some 0) ∨ (¬ V h ∧ b46 h = some 60) := by
  rcases d9v hk with hs | ⟨hs, h1, _⟩
  · have e1 : h.Combs.length ≤ maxLen := hk.1.1
    have e2 : h.Trains.length ≤ maxLen := hk.2.1.1
    have e3 : h.Shifts.length ≤ maxLen := hk.2.2.1.1
    unfold b46
    rw [if_neg (by simp only [Bool.or_eq_true, decide_eq_true_eq]; unfold b6s at hs; omega)]
    rcases c3u (f := b7k h) h.Combs (fun k x => ¬ b4t h.Combs.length k x) (.inr 60) (.inl ()) (fun k x _ hx hb => by
        obtain ⟨b, b1, b2⟩ := d7x hx
        have : b = false := d3e fun hh => hb (b2.1 hh)
        subst this
        simp [b7k, b1, b17 hx]) (fun k x _ hx hb => by
        obtain ⟨b, b1, b2⟩ := d7x hx
        have : b = true := b2.2 (Classical.not_not.1 hb)
        subst this
        simp [b7k, b1, b17 hx, b2o (b17 hx) e1]) (by simp [b7k]) with ⟨c1, c2⟩ | ⟨⟨k, x, hx, hb⟩, c2⟩
    · rw [c2]
      simp only [Option.bind_some, b98]
      obtain ⟨b, b1, b2⟩ := g8d (l := h.Trains) (f := fun z => b7i z h) (p := fun t => ¬ b97 h.Combs.length h.Until t) e2 fun t ht => by
        obtain ⟨b, b1, b2⟩ := j0v hk hs (hk.2.1.2 t ht)
        refine ⟨!b, by simp [b7i, b1], ?_⟩
        cases b <;> simp_all
      rw [b1]
      simp only [Option.bind_some]
      cases b with
      | true =>
        rw [if_pos rfl]
        obtain ⟨t, ht, hbad⟩ := b2.1 rfl
        obtain ⟨j, hj, rfl⟩ := List.getElem_of_mem ht
        exact .inr ⟨fun hv => hbad (hv.2.2.1 j _ (List.getElem?_eq_getElem hj)), rfl⟩
      | false =>
        rw [if_neg (by simp)]
        have ht : ∀ (k : Nat) x, h.Trains[k]? = some x → b97 h.Combs.length h.Until x := fun k x hx => Classical.byContradiction fun hn => by have := b2.2 ⟨x, List.mem_of_getElem? hx, hn⟩; cases this
        rcases c3u (f := b7j h) h.Shifts (fun k x => ¬ b96 h.Combs.length h.Until h.Shifts k x) (.inr 60) (.inl ()) (fun k x _ hx hb => by
            simp only [b7j, b2f hx, Option.bind_some]
            rw [if_pos (by simpa using b17 hx)]
            unfold b96 at hb
            by_cases q : x.At < 0 ∨ h.Until ≤ x.At
            · rw [if_pos (by simpa using q)]; simp
            · rw [if_neg (by simpa using q)]
              cases k with
              | zero =>
                simp only [Int.natCast_zero, Int.lt_irrefl, decide_false, Bool.false_eq_true, if_false, Option.bind_some, Bool.false_or]
                rw [if_pos]
                simp only [b4l, Bool.or_eq_true, Bool.not_eq_true', Bool.and_eq_false_iff, decide_eq_false_iff_not, decide_eq_true_eq]
                refine Classical.byContradiction fun hc => hb ⟨by omega, by omega, by omega, by omega, by omega, by omega, fun j y hj => by omega⟩
              | succ j =>
                obtain ⟨y, hy⟩ := b2e (show j < h.Shifts.length by have := b17 hx; omega)
                rw [if_pos (by simp <;> omega), c7o (b17 hx) e3, b2f hy]
                simp only [Option.bind_some]
                rw [if_pos]
                simp only [b4l, Bool.or_eq_true, Bool.not_eq_true', Bool.and_eq_false_iff, decide_eq_false_iff_not, decide_eq_true_eq]
                refine Classical.byContradiction fun hc => hb ⟨by omega, by omega, by omega, by omega, by omega, by omega, fun j' y' hj' hy' => by
                  obtain rfl : j' = j := by omega
                  rw [hy] at hy'; cases hy'; omega⟩) (fun k x _ hx hb => by
            have hb := Classical.not_not.1 hb
            obtain ⟨q1, q2, q3, q4, q5, q6, q7⟩ := hb
            simp only [b7j, b2f hx, Option.bind_some]
            rw [if_pos (by simpa using b17 hx), if_neg (by simp; omega)]
            cases k with
            | zero =>
              simp only [Int.natCast_zero, Int.lt_irrefl, decide_false, Bool.false_eq_true, if_false, Option.bind_some, Bool.false_or]
              rw [if_neg]
              · rfl
              · simp only [b4l, Bool.or_eq_true, Bool.not_eq_true', Bool.and_eq_false_iff, decide_eq_false_iff_not, decide_eq_true_eq]
                omega
            | succ j =>
              obtain ⟨y, hy⟩ := b2e (show j < h.Shifts.length by have := b17 hx; omega)
              have := q7 j y rfl hy
              rw [if_pos (by simp <;> omega), c7o (b17 hx) e3, b2f hy]
              simp only [Option.bind_some]
              rw [if_neg, b2o (b17 hx) e3]
              simp only [b4l, Bool.or_eq_true, Bool.not_eq_true', Bool.and_eq_false_iff, decide_eq_false_iff_not, decide_eq_true_eq]
              omega) (by simp [b7j]) with ⟨d1, d2⟩ | ⟨⟨k, x, hx, hb⟩, d2⟩
        · rw [d2]
          exact .inl ⟨⟨hs, fun k x hx => Classical.not_not.1 (c1 k x hx), ht, fun k x hx => Classical.not_not.1 (d1 k x hx)⟩, rfl⟩
        · rw [d2]
          exact .inr ⟨fun hv => hb (hv.2.2.2 k x hx), rfl⟩
    · rw [c2]
      exact .inr ⟨fun hv => hb (hv.2.1 k x hx), rfl⟩
  · exact .inr ⟨fun hv => hs hv.1, h1⟩
end Go.Nw.HM
namespace Go.Nw.HM
theorem g1y {h : Hall} (hk : b5v h) : (V h ∧ b6c h = some 0) ∨ (¬ V h ∧ b6c h = some 60) := by
  rcases d9v hk with hs | ⟨hs, _, h1⟩
  · have e1 : h.Combs.length ≤ maxLen := hk.1.1
    have e2 : h.Trains.length ≤ maxLen := hk.2.1.1
    have e3 : h.Shifts.length ≤ maxLen := hk.2.2.1.1
    have hu : wr (h.Until - 1) = h.Until - 1 := b78 (by have := hs.1; omega) (by have := hs.2.1; omega)
    have hn := d2v e1
    unfold b6c
    rw [if_neg (by simp only [b2v, Bool.or_eq_true, Bool.not_eq_true', Bool.and_eq_false_iff, decide_eq_false_iff_not, decide_eq_true_eq]; unfold b6s at hs; omega)]
    rcases c3u (f := c1j h) h.Combs (fun k x => ¬ b4t h.Combs.length k x) (.inr 60) (.inl ()) (fun k x _ hx hb => by
        simp only [c1j, b2f hx, Option.bind_some, hn, b2o (b17 hx) e1]
        rw [if_pos (by simpa using b17 hx), if_pos]
        simp only [b2v, b4p, Bool.or_eq_true, Bool.and_eq_true, Bool.not_eq_true', Bool.and_eq_false_iff, decide_eq_false_iff_not, decide_eq_true_eq]
        unfold b4t at hb; omega) (fun k x _ hx hb => by
        have hb := Classical.not_not.1 hb
        simp only [c1j, b2f hx, Option.bind_some, hn, b2o (b17 hx) e1]
        rw [if_pos (by simpa using b17 hx), if_neg]
        simp only [b2v, b4p, Bool.or_eq_true, Bool.and_eq_true, Bool.not_eq_true', Bool.and_eq_false_iff, decide_eq_false_iff_not, decide_eq_true_eq]
        unfold b4t at hb; omega) (by simp [c1j]) with ⟨c1, c2⟩ | ⟨⟨k, x, hx, hb⟩, c2⟩
    · rw [c2]
      simp only [Option.bind_some, c63]
      rcases c3u (f := c1k h) h.Trains (fun _ x => ¬ b97 h.Combs.length h.Until x) (.inr 60) (.inl ()) (fun k x _ hx hb => by
          simp only [c1k, b2f hx, Option.bind_some, hu]
          rw [if_pos (by simpa using b17 hx)]
          by_cases q : ¬ (0 ≤ x.At.Low ∧ x.At.Low ≤ x.At.High ∧ x.At.High ≤ h.Until - 1) ∨ 4 < x.Crowds.length
          · rw [if_pos]
            simp only [b4p, Bool.or_eq_true, Bool.not_eq_true', Bool.and_eq_false_iff, decide_eq_false_iff_not, decide_eq_true_eq]
            omega
          · rw [if_neg (by
              simp only [b4p, Bool.or_eq_true, Bool.not_eq_true', Bool.and_eq_false_iff, decide_eq_false_iff_not, decide_eq_true_eq]
              omega)]
            rcases d3y hk hs (hk.2.1.2 x (List.mem_of_getElem? hx)) with ⟨d1, d2⟩ | ⟨_, d2⟩
            · exact absurd ⟨by omega, by omega, by omega, by omega, d1⟩ hb
            · rw [d2]; rfl) (fun k x _ hx hb => by
          have hb := Classical.not_not.1 hb
          obtain ⟨q1, q2, q3, q4, q5⟩ := hb
          simp only [c1k, b2f hx, Option.bind_some, hu]
          rw [if_pos (by simpa using b17 hx), if_neg (by
              simp only [b4p, Bool.or_eq_true, Bool.not_eq_true', Bool.and_eq_false_iff, decide_eq_false_iff_not, decide_eq_true_eq]
              omega)]
          rcases d3y hk hs (hk.2.1.2 x (List.mem_of_getElem? hx)) with ⟨d1, d2⟩ | ⟨⟨j, y, hy, hb⟩, d2⟩
          · rw [d2]; simp only [Option.bind_some, c62, b2o (b17 hx) e2]
          · exact absurd (q5 j y hy) hb) (by simp [c1k]) with ⟨t1, t2⟩ | ⟨⟨k, x, hx, hb⟩, t2⟩
      · rw [t2]
        simp only [Option.bind_some, c64]
        rcases c3u (f := c1l h) h.Shifts (fun k x => ¬ b96 h.Combs.length h.Until h.Shifts k x) (.inr 60) (.inl ()) (fun k x _ hx hb => by
            simp only [c1l, b2f hx, Option.bind_some, hu, hn]
            rw [if_pos (by simpa using b17 hx)]
            unfold b96 at hb
            by_cases q : 0 ≤ x.At ∧ x.At < h.Until ∧ 0 ≤ x.Comb ∧ x.Comb < h.Combs.length ∧ 0 ≤ x.Rate ∧ x.Rate ≤ 1000
            · rw [if_neg (by
                simp only [b2v, Bool.or_eq_true, Bool.not_eq_true', Bool.and_eq_false_iff, decide_eq_false_iff_not, decide_eq_true_eq]
                omega)]
              cases k with
              | zero => exact absurd ⟨q.1, q.2.1, q.2.2.1, q.2.2.2.1, q.2.2.2.2.1, q.2.2.2.2.2, fun j y hj => by omega⟩ hb
              | succ j =>
                obtain ⟨y, hy⟩ := b2e (show j < h.Shifts.length by have := b17 hx; omega)
                rw [if_pos (by simp <;> omega), c7o (b17 hx) e3, b2f hy]
                simp only [Option.bind_some]
                rw [if_pos]
                simp only [decide_eq_true_eq]
                refine Classical.byContradiction fun hc => hb ⟨by omega, by omega, by omega, by omega, by omega, by omega, fun j' y' hj' hy' => by
                  obtain rfl : j' = j := by omega
                  rw [hy] at hy'; cases hy'; omega⟩
            · rw [if_pos (by
                simp only [b2v, Bool.or_eq_true, Bool.not_eq_true', Bool.and_eq_false_iff, decide_eq_false_iff_not, decide_eq_true_eq]
                omega)]
              simp) (fun k x _ hx hb => by
            have hb := Classical.not_not.1 hb
            obtain ⟨q1, q2, q3, q4, q5, q6, q7⟩ := hb
            simp only [c1l, b2f hx, Option.bind_some, hu, hn]
            rw [if_pos (by simpa using b17 hx), if_neg (by
                simp only [b2v, Bool.or_eq_true, Bool.not_eq_true', Bool.and_eq_false_iff, decide_eq_false_iff_not, decide_eq_true_eq]
                omega)]
            cases k with
            | zero => simp; rfl
            | succ j =>
              obtain ⟨y, hy⟩ := b2e (show j < h.Shifts.length by have := b17 hx; omega)
              have := q7 j y rfl hy
              rw [if_pos (by simp <;> omega), c7o (b17 hx) e3, b2f hy]
              simp only [Option.bind_some]
              rw [if_neg (by simp only [decide_eq_true_eq]; omega), b2o (b17 hx) e3]) (by simp [c1l]) with ⟨d1, d2⟩ | ⟨⟨k, x, hx, hb⟩, d2⟩
        · rw [d2]
          exact .inl ⟨⟨hs, fun k x hx => Classical.not_not.1 (c1 k x hx), fun k x hx => Classical.not_not.1 (t1 k x hx), fun k x hx => Classical.not_not.1 (d1 k x hx)⟩, rfl⟩
        · rw [d2]
          exact .inr ⟨fun hv => hb (hv.2.2.2 k x hx), rfl⟩
      · rw [t2]
        exact .inr ⟨fun hv => hb (hv.2.2.1 k x hx), rfl⟩
    · rw [c2]
      exact .inr ⟨fun hv => hb (hv.2.1 k x hx), rfl⟩
  · exact .inr ⟨fun hv => hs hv.1, h1⟩
theorem d2y {h : Hall} (hk : b5v h) : (V h ∧ b46 h = some 0 ∧ b6c h = some 0) ∨ (¬ V h ∧ b46 h = some 60 ∧ b6c h = some 60) := by
  rcases g1x hk with ⟨h1, h2⟩ | ⟨h1, h2⟩ <;> rcases g1y hk with ⟨h3, h4⟩ | ⟨h3, h4⟩
  · exact .inl ⟨h1, h2, h4⟩
  · exact absurd h1 h3
  · exact absurd h3 h1
  · exact .inr ⟨h1, h2, h4⟩
end Go.Nw.HM
namespace Go.Nw.HM
def T (h : Hall) : Nat := h.Until.toNat
def b5h (h : Hall) (c : Nat) : Int := ((h.Combs[c]?).map (·.Rate)).getD 0
def b4r (c : Nat) (t : Int) (a : Int) (s : Shift) : Int := if s.Comb = (c : Int) ∧ s.At ≤ t then s.Rate else a
def b1j (h : Hall) (c : Nat) (t : Nat) : Int := h.Shifts.foldl (b4r c t) (b5h h c)
theorem b5l {h : Hall} (hv : V h) : (T h : Int) = h.Until := by have := hv.1.1; unfold T; omega
theorem b3u {h : Hall} (hv : V h) : T h ≤ 100 := by have := hv.1.2.1; unfold T; omega
def c4i (c : Nat) (a : Int) (s : Shift) : Int := if s.Comb = (c : Int) then s.Rate else a
def G (h : Hall) (c k : Nat) : Int := (h.Shifts.take k).foldl (c4i c) (b5h h c)
theorem g14 {h : Hall} {c k : Nat} {x : Shift} (hx : h.Shifts[k]? = some x) : G h c (k + 1) = if x.Comb = (c : Int) then x.Rate else G h c k := by
  unfold G
  rw [List.take_add_one, hx]
  simp [List.foldl_append, c4i]
theorem j8i {h : Hall} (hv : V h) : ∀ (d j : Nat) (x y : Shift), h.Shifts[j]? = some x → h.Shifts[j + d]? = some y → x.At ≤ y.At := by
  intro d
  induction d with
  | zero => intro j x y hx hy; rw [Nat.add_zero, hx] at hy; cases hy; exact Int.le_refl _
  | succ d ih =>
    intro j x y hx hy
    obtain ⟨z, hz⟩ := b2e (show j + d < h.Shifts.length by have := b17 hy; omega)
    have h1 := ih j x z hx hz
    have h2 := (hv.2.2.2 _ y hy).2.2.2.2.2.2 (j + d) z (by omega) hz
    omega
def d23 (h : Hall) (t : Int) (k : Nat) : Prop := k ≤ h.Shifts.length ∧ (∀ j x, j < k → h.Shifts[j]? = some x → x.At ≤ t) ∧ ∀ x, h.Shifts[k]? = some x → t < x.At
theorem g13 {h : Hall} (hv : V h) {c k t : Nat} (hu : d23 h t k) : G h c k = b1j h c t := by
  unfold G b1j
  conv => rhs; rw [← List.take_append_drop k h.Shifts, List.foldl_append]
  have e1 : (h.Shifts.take k).foldl (c4i c) (b5h h c) = (h.Shifts.take k).foldl (b4r c t) (b5h h c) := by
    have : ∀ (l : List Shift), (∀ x ∈ l, x.At ≤ (t : Int)) → ∀ a, l.foldl (c4i c) a = l.foldl (b4r c t) a := by
      intro l
      induction l with
      | nil => intro _ a; rfl
      | cons s l ih =>
        intro hl a
        simp only [List.foldl_cons]
        rw [ih (fun x hx => hl x (List.mem_cons_of_mem _ hx))]
        congr 1
        simp [c4i, b4r, hl s List.mem_cons_self]
    refine this _ (fun x hx => ?_) _
    obtain ⟨j, hj, rfl⟩ := List.getElem_of_mem hx
    have hj' : j < k := by simp at hj; omega
    have hjl : j < h.Shifts.length := by simp at hj; omega
    refine hu.2.1 j _ hj' ?_
    rw [List.getElem_take, List.getElem?_eq_getElem hjl]
  rw [e1]
  have : ∀ (l : List Shift), (∀ x ∈ l, (t : Int) < x.At) → ∀ a, l.foldl (b4r c t) a = a := by
    intro l
    induction l with
    | nil => intro _ a; rfl
    | cons s l ih =>
      intro hl a
      have := hl s List.mem_cons_self
      simp only [List.foldl_cons]
      rw [show b4r c t a s = a from by unfold b4r; rw [if_neg (by omega)]]
      exact ih (fun x hx => hl x (List.mem_cons_of_mem _ hx)) a
  refine (this _ ?_ _).symm
  intro x hx
  obtain ⟨j, hj, rfl⟩ := List.getElem_of_mem hx
  have hjl : k + j < h.Shifts.length := by simp at hj; omega
  obtain ⟨z, hz⟩ := b2e (show k < h.Shifts.length by omega)
  have h1 := hu.2.2 z hz
  have h2 := j8i hv j k z _ hz (List.getElem?_eq_getElem hjl)
  rw [List.getElem_drop]
  omega
theorem g92 {h : Hall} (hv : V h) (c t : Nat) : ∀ (d k : Nat), h.Shifts.length - k = d → k ≤ h.Shifts.length → (∀ j x, j < k → h.Shifts[j]? = some x → x.At ≤ (t : Int)) →
    ∃ k', b08 (b7s h c t) (G h c k, (k : Int)) = some (G h c k', (k' : Int)) ∧ d23 h t k' := by
  have hl : h.Shifts.length ≤ maxLen := by have := hv.1.2.2.2.2.2; simp only [maxLen]; omega
  intro d
  induction d with
  | zero =>
    intro k hd hk hb
    have : k = h.Shifts.length := by omega
    subst this
    refine ⟨h.Shifts.length, b5g (by simp [b7s]), Nat.le_refl _, hb, fun x hx => ?_⟩
    have := b17 hx; omega
  | succ d ih =>
    intro k hd hk hb
    obtain ⟨x, hx⟩ := b2e (show k < h.Shifts.length by omega)
    by_cases hat : x.At ≤ (t : Int)
    · rw [b88 (s' := (G h c (k + 1), ((k + 1 : Nat) : Int))) (by
        simp only [b7s, b2f hx, Option.bind_some]
        rw [if_pos (by simpa using b17 hx)]
        simp only [Option.bind_some, hat, decide_true, if_true, b82, b2o (b17 hx) hl, g14 hx]
        by_cases e : x.Comb = (c : Int)
        · simp [e]
        · simp [e])]
      refine ih (k + 1) (by omega) (by omega) fun j y hj hy => ?_
      by_cases e : j = k
      · subst e; rw [hx] at hy; cases hy; exact hat
      · exact hb j y (by omega) hy
    · refine ⟨k, b5g (by
        simp only [b7s, b2f hx, Option.bind_some]
        rw [if_pos (by simpa using b17 hx)]
        simp [hat]), by omega, hb, fun y hy => ?_⟩
      rw [hx] at hy; cases hy; omega
theorem j7a {h : Hall} (hv : V h) {c : Nat} (hc : c < h.Combs.length) : b80 h c = some (tab (T h) (b1j h c)) := by
  obtain ⟨x, hx⟩ := b2e hc
  have hT := b3u hv
  unfold b80
  rw [← b5l hv, b62 (by omega) (by omega)]
  simp only [Option.bind_some, b2f hx]
  obtain ⟨b, h1, h2⟩ := d1o (f := b81 h c (tab (T h) fun _ => 0)) (T h) (fun (s : List Int × Int × Int) k => (s.1, s.2.1, s.2.2, k))
    (fun k s => ∃ m : Nat, s = (fill (T h) (b1j h c) 0 k, G h c m, (m : Int)) ∧ m ≤ h.Shifts.length ∧ ∀ j x, j < m → h.Shifts[j]? = some x → x.At < (k : Int)) (fun b => b = tab (T h) (b1j h c))
    (fun s k hk ⟨m, hs, hm, hm2⟩ => by
      subst hs
      obtain ⟨k', i1, i2⟩ := g92 hv c k (h.Shifts.length - m) m rfl hm fun j x hj hx => by have := hm2 j x hj hx; omega
      refine .inl ⟨(fill (T h) (b1j h c) 0 (k + 1), G h c k', (k' : Int)), ?_, k', rfl, i2.1, fun j x hj hx => by have := i2.2.1 j x hj hx; omega⟩
      simp only [b81, b4a]
      rw [if_pos (by simpa using hk), i1]
      simp only [Option.bind_some, c0p, b8r hk, c0o, b2o hk (by simp only [maxLen]; omega)]
      rw [show ((k : Nat) : Int).toNat = k from by omega, b7e (g13 hv i2)])
    (fun s ⟨m, hs, _⟩ => by
      subst hs
      exact ⟨fill (T h) (b1j h c) 0 (T h), by simp [b81, b4a], by rw [b7d (Nat.le_refl _)]⟩) (s := (tab (T h) (fun _ => 0), x.Rate, 0)) 0 (by omega) ⟨0, by
        rw [← b75, b8o (f := b1j h c)]
        simp [G, b5h, hx], by omega, fun j x hj => by omega⟩
  simp only at h1
  rw [show ((0 : Nat) : Int) = 0 from rfl] at h1
  rw [h1, h2]; rfl
theorem c36 {h : Hall} (hv : V h) {c : Nat} (t : Nat) : 0 ≤ b1j h c t ∧ b1j h c t ≤ 1000 := by
  unfold b1j
  have h0 : 0 ≤ b5h h c ∧ b5h h c ≤ 1000 := by
    unfold b5h
    cases hx : h.Combs[c]? with
    | none => simp
    | some x => have := hv.2.1 c x hx; simp [b4t] at this ⊢; omega
  have : ∀ (l : List Shift), (∀ x ∈ l, 0 ≤ x.Rate ∧ x.Rate ≤ 1000) → ∀ a, 0 ≤ a ∧ a ≤ 1000 → 0 ≤ l.foldl (b4r c t) a ∧ l.foldl (b4r c t) a ≤ 1000 := by
    intro l
    induction l with
    | nil => intro _ a ha; exact ha
    | cons s l ih =>
      intro hl a ha
      refine ih (fun x hx => hl x (List.mem_cons_of_mem _ hx)) _ ?_
      have := hl s List.mem_cons_self
      unfold b4r; split <;> omega
  refine this _ (fun x hx => ?_) _ h0
  obtain ⟨j, hj, rfl⟩ := List.getElem_of_mem hx
  have := hv.2.2.2 j _ (List.getElem?_eq_getElem hj)
  exact ⟨this.2.2.2.2.1, this.2.2.2.2.2.1⟩
theorem j52 {h : Hall} (hv : V h) : b5q h = some (tab h.Combs.length fun c => tab (T h) (b1j h c)) := by
  unfold b5q
  have hn := hv.1.2.2.2.1
  have := b3h (f := b8z h) h.Combs.length (fun s k => (s, k)) (fun k => tab k fun c => tab (T h) (b1j h c)) (tab h.Combs.length fun c => tab (T h) (b1j h c)) (s0 := []) rfl (fun k hk => by
    simp only [b8z]
    rw [if_pos (by simpa using hk), j7a hv hk]
    simp only [Option.bind_some]
    rw [b34 (by simp [b4a]; omega)]
    simp only [Option.bind_some, b2o hk (by simp only [maxLen]; omega), b6r]) (by simp [b8z])
  rw [this]; rfl
end Go.Nw.HM
namespace Go.Nw.HM
def b5m (c : Nat) (y : Crowd) : Int := if y.Comb = (c : Int) then y.People.High else 0
def b4f (c s t : Nat) (x : Train) : Int := if x.At.High < (s : Int) ∨ (t : Int) < x.At.Low then 0 else (x.Crowds.map (b5m c)).sum
def b4c (h : Hall) (c s t : Nat) : Int := (h.Trains.map (b4f c s t)).sum
theorem c47 {h : Hall} (hv : V h) {x : Train} (hx : x ∈ h.Trains) (c k : Nat) (hk : k ≤ x.Crowds.length) : 0 ≤ b3w x.Crowds (b5m c) k ∧ b3w x.Crowds (b5m c) k ≤ 4000 := by
  obtain ⟨j, hj, rfl⟩ := List.getElem_of_mem hx
  have hg := hv.2.2.1 j _ (List.getElem?_eq_getElem hj)
  have := d86 (l := h.Trains[j].Crowds) (g := b5m c) (B := 1000) (fun y hy => by
    obtain ⟨i, hi, rfl⟩ := List.getElem_of_mem hy
    have := hg.2.2.2.2 i _ (List.getElem?_eq_getElem hi)
    unfold b4k at this
    unfold b5m; split <;> omega) k hk
  have := hg.2.2.2.1
  omega
theorem j8u {h : Hall} (hv : V h) {x : Train} (hx : x ∈ h.Trains) (c s t : Nat) : 0 ≤ b4f c s t x ∧ b4f c s t x ≤ 4000 := by
  unfold b4f
  split
  · omega
  · rw [← c03]; exact c47 hv hx c _ (Nat.le_refl _)
theorem d2r {h : Hall} (hv : V h) (c s t k : Nat) (hk : k ≤ h.Trains.length) : 0 ≤ b3w h.Trains (b4f c s t) k ∧ b3w h.Trains (b4f c s t) k ≤ 48000 := by
  have := d86 (l := h.Trains) (g := b4f c s t) (B := 4000) (fun x hx => j8u hv hx c s t) k hk
  have := hv.1.2.2.2.2.1
  omega
theorem c8o {h : Hall} (hv : V h) (c s t : Nat) : 0 ≤ b4c h c s t ∧ b4c h c s t ≤ 48000 := by
  unfold b4c; rw [← c03]; exact d2r hv c s t _ (Nat.le_refl _)
theorem b1w {n : Int} (h1 : -1000000000000 ≤ n) (h2 : n ≤ 1000000000000) : wr n = n := b78 (by omega) (by omega)
theorem g26 {h : Hall} (hv : V h) (c s t : Nat) : b8u h c s t = some (b4c h c s t) := by
  have e2 : h.Trains.length ≤ maxLen := by have := hv.1.2.2.2.2.1; simp only [maxLen]; omega
  unfold b8u
  have := b3h (f := b8w h c s t) h.Trains.length (fun s k => (s, k)) (b3w h.Trains (b4f c s t)) (b4c h c s t) (s0 := 0) c3y.symm (fun k hk => by
    obtain ⟨x, hx⟩ := b2e hk
    have hm := List.mem_of_getElem? hx
    simp only [b8w, b2f hx, Option.bind_some]
    rw [if_pos (by simpa using hk), c04 hx]
    have hb := d2r hv c s t k (by omega)
    by_cases q : x.At.High < (s : Int) ∨ (t : Int) < x.At.Low
    · rw [if_pos (by simpa using q)]
      simp only [b7r, b2o hk e2]
      rw [show b4f c s t x = 0 from if_pos q, Int.add_zero]
    · rw [if_neg (by simpa using q)]
      have e3 : x.Crowds.length ≤ maxLen := by have := (hv.2.2.1 k x hx).2.2.2.1; simp only [maxLen]; omega
      have := b3h (f := b8v c x) x.Crowds.length (fun s k => (s, k)) (fun j => b3w h.Trains (b4f c s t) k + b3w x.Crowds (b5m c) j) (b3w h.Trains (b4f c s t) k + b4f c s t x) (s0 := b3w h.Trains (b4f c s t) k) (by simp [c3y]) (fun j hj => by
        obtain ⟨y, hy⟩ := b2e hj
        have hc1 := c47 hv hm c j (by omega)
        have hc2 := c47 hv hm c (j + 1) (by omega)
        simp only [b8v, b2f hy, Option.bind_some]
        rw [if_pos (by simpa using hj), c04 hy]
        rw [c04 hy] at hc2
        by_cases e : y.Comb = (c : Int)
        · rw [if_pos (by simpa using e)]
          rw [show b5m c y = y.People.High from if_pos e] at hc2 ⊢
          simp only [b7q, b2o hj e3]
          rw [b1w (by omega) (by omega), Int.add_assoc]
        · rw [if_neg (by simpa using e)]
          rw [show b5m c y = 0 from if_neg e]
          simp only [b7q, b2o hj e3, Int.add_zero]) (by
        simp only [b8v]
        rw [if_neg (by simp), c03, show b4f c s t x = (x.Crowds.map (b5m c)).sum from if_neg q])
      rw [this]
      simp only [Option.bind_some, b7r, b2o hk e2]) (by
    simp only [b8w]
    rw [if_neg (by simp), c03]; rfl)
  rw [this]; rfl
structure Bd where
  come : Nat → Nat → Int
  most : Nat → Int
  flow : Nat → Int
  deriving Inhabited
def b4b (b : Bd) (to k : Nat) : Int := if k < to then b.come (k + 1) to else 0
def way (b : Bd) (a to k : Nat) : Int := b00 b.flow k - b00 b.flow a + b.most k + b4b b to k
def b9f (b : Bd) (a to : Nat) : Int := b36 (min (b.come 0 to) (b00 b.flow (to + 1) - b00 b.flow a)) (way b a to) a (to + 1 - a)
def b6b (b : Bd) (from_ to_ : Int) : Int := if to_ < from_ ∨ to_ < 0 then 0 else b9f b (max from_ 0).toNat to_.toNat
def b2s (h : Hall) (c : Nat) (prev : Nat → Bd) (s t u : Nat) : Int := match h.Combs[u]? with
  | some x => if x.Next = (c : Int) then b6b (prev u) ((s : Int) - x.Walk.High) ((t : Int) - x.Walk.Low) else 0
  | none => 0
def b5z (h : Hall) (c : Nat) (prev : Nat → Bd) (s t : Nat) : Int := b4c h c s t + b00 (b2s h c prev s t) c
def c6l (come : Nat → Nat → Int) (R : Nat → Int) (t : Nat) : Int := b3q 0 (fun s => come s t - (b00 R t - b00 R s)) 0 (t + 1)
def c0z (h : Hall) (R : Nat → Nat → Int) (c : Nat) (prev : Nat → Bd) : Bd :=
  { come := b5z h c prev, most := c6l (b5z h c prev) (R c), flow := fun t => min (c6l (b5z h c prev) (R c) t) (R c t) }
def bdL (h : Hall) (R : Nat → Nat → Int) : Nat → Nat → Bd
  | 0 => fun _ => default
  | n + 1 => fun u => if u = n then c0z h R n (bdL h R n) else bdL h R n u
def bd (h : Hall) (R : Nat → Nat → Int) (c : Nat) : Bd := bdL h R (c + 1) c
theorem d3c {h : Hall} {R : Nat → Nat → Int} {n u : Nat} : bdL h R (n + 1) u = if u = n then c0z h R n (bdL h R n) else bdL h R n u := rfl
theorem g2j {h : Hall} {R : Nat → Nat → Int} {n u : Nat} (hu : u < n) : bdL h R n u = bd h R u := by
  induction n with
  | zero => omega
  | succ n ih =>
    by_cases e : u = n
    · subst e; rfl
    · rw [d3c, if_neg e]; exact ih (by omega)
theorem j85 {h : Hall} {c s t u : Nat} {p q : Nat → Bd} (hpq : p u = q u) : b2s h c p s t u = b2s h c q s t u := by
  unfold b2s; rw [hpq]
theorem g41 {h : Hall} {c : Nat} {p q : Nat → Bd} (hpq : ∀ u, u < c → p u = q u) : b5z h c p = b5z h c q := by
  funext s t
  unfold b5z
  rw [d1w fun u hu => j85 (hpq u hu)]
theorem b8f {h : Hall} {R : Nat → Nat → Int} {c : Nat} : bd h R c = c0z h R c (bd h R) := by
  have : bd h R c = c0z h R c (bdL h R c) := by show bdL h R (c + 1) c = _; rw [d3c, if_pos rfl]
  rw [this]
  unfold c0z
  rw [g41 fun u hu => g2j hu]
end Go.Nw.HM
namespace Go.Nw.HM
structure BdOk (b : Bd) (n : Nat) (B : Int) : Prop where
  come : ∀ s t, s ≤ t → t < n → 0 ≤ b.come s t ∧ b.come s t ≤ B
  most : ∀ t, t < n → 0 ≤ b.most t ∧ b.most t ≤ B
  flow : ∀ t, t < n → 0 ≤ b.flow t ∧ b.flow t ≤ 1000
def b25 (n : Nat) (b : Bd) (s : Nat) : List Int := tab n fun t => if s ≤ t then b.come s t else 0
def bdT (n : Nat) (b : Bd) (r : Nat → Int) : halls_bound := ⟨tab (n + 1) (b00 r), tab (n + 1) (b00 b.flow), tab n b.most, tab n (b25 n b)⟩
theorem b6u {n : Nat} {b : Bd} {s t : Nat} (ht : t < n) (hst : s ≤ t) : get (b25 n b s) (t : Int) = some (b.come s t) := by
  unfold b25; rw [b2a ht, if_pos hst]
section
variable {n : Nat} {b : Bd} {B : Int} (hb : BdOk b n B) (hB : B ≤ 1000000000) (hn : n ≤ 1000) {r : Nat → Int}
include hb hB hn
theorem c2r {a k : Nat} (hak : a ≤ k) (hk : k ≤ n) : 0 ≤ b00 b.flow k - b00 b.flow a ∧ b00 b.flow k - b00 b.flow a ≤ 1000000 := by
  have := b9d (f := b.flow) (B := 1000) hak fun i h1 h2 => hb.flow i (by omega)
  omega
theorem c8m {to k : Nat} (hk : k ≤ to) (hto : to < n) : 0 ≤ b4b b to k ∧ b4b b to k ≤ B := by
  have := hb.most k (by omega)
  unfold b4b; split
  · exact hb.come _ _ (by omega) hto
  · omega
theorem j89 {a to k : Nat} (hak : a ≤ k) (hk : k ≤ to) (hto : to < n) : 0 ≤ way b a to k ∧ way b a to k ≤ 3000000000 := by
  have h1 := c2r hb hB hn hak (show k ≤ n by omega)
  have h2 := hb.most k (by omega)
  have h3 := c8m hb hB hn hk hto
  unfold way; omega
theorem j6q {a to : Nat} (ha : a ≤ to) (hto : to < n) : 0 ≤ b9f b a to ∧ b9f b a to ≤ B := by
  have h1 := hb.come 0 to (by omega) hto
  have h2 := c2r hb hB hn (show a ≤ to + 1 by omega) (show to + 1 ≤ n by omega)
  unfold b9f
  refine ⟨c3s.2 ⟨by omega, fun i hi => (j89 hb hB hn (by omega) (show a + i ≤ to by omega) hto).1⟩, ?_⟩
  have := c6g (z := min (b.come 0 to) (b00 b.flow (to + 1) - b00 b.flow a)) (g := way b a to) (a := a) (n := to + 1 - a)
  omega
theorem d81 {f t : Int} (ht : t < n) : 0 ≤ b6b b f t ∧ b6b b f t ≤ max 0 B := by
  unfold b6b
  split
  · omega
  · have := j6q hb hB hn (a := (max f 0).toNat) (to := t.toNat) (by omega) (by omega)
    omega
theorem j6t {f t : Int} (hf : -1000 ≤ f) (ht : t < n) : b8c (bdT n b r) f t = some (b6b b f t) := by
  unfold b8c b6b
  by_cases q : t < f ∨ t < 0
  · rw [if_pos (by simpa using q), if_pos q]
  · rw [if_neg (by simpa using q), if_neg q]
    obtain ⟨to, hto⟩ : ∃ to : Nat, t = to := ⟨t.toNat, by omega⟩
    subst hto
    obtain ⟨a, ha⟩ : ∃ a : Nat, max f 0 = a := ⟨(max f 0).toNat, by omega⟩
    have hm : mx f 0 = (a : Int) := by rw [b7w]; exact ha
    have hat : a ≤ to := by omega
    have hton : to < n := by omega
    rw [hm, ha]
    have e0 : ((0 : Int)) = ((0 : Nat) : Int) := rfl
    simp only [bdT]
    rw [e0, b2a (show 0 < n by omega)]
    simp only [Option.bind_some]
    rw [b6u hton (by omega), show wr ((to : Int) + 1) = ((to + 1 : Nat) : Int) from by rw [b1w (by omega) (by omega)]; omega, b2a (show to + 1 < n + 1 by omega)]
    simp only [Option.bind_some]
    rw [b2a (show a < n + 1 by omega)]
    simp only [Option.bind_some]
    have hc := hb.come 0 to (by omega) hton
    have hfd := c2r hb hB hn (show a ≤ to + 1 by omega) (show to + 1 ≤ n by omega)
    rw [b1w (by omega) (by omega), c00]
    have := c3t (f := b8d ⟨tab (n + 1) (b00 r), tab (n + 1) (b00 b.flow), tab n b.most, tab n (b25 n b)⟩ f to) (to + 1) (fun s k => (s, k))
      (fun k => b36 (min (b.come 0 to) (b00 b.flow (to + 1) - b00 b.flow a)) (way b a to) a (k - a)) (b9f b a to) (s0 := min (b.come 0 to) (b00 b.flow (to + 1) - b00 b.flow a)) a (by rw [Nat.sub_self]; rfl) (by omega) (fun k hak hk => ?_) (by
        simp only [b8d]
        rw [if_neg (by simp; omega)]; rfl)
    · rw [this]
      simp [b9t]
    · have hst : b36 (min (b.come 0 to) (b00 b.flow (to + 1) - b00 b.flow a)) (way b a to) a (k + 1 - a) = min (b36 (min (b.come 0 to) (b00 b.flow (to + 1) - b00 b.flow a)) (way b a to) a (k - a)) (way b a to k) := by
        rw [show k + 1 - a = (k - a) + 1 by omega]
        show min _ (way b a to (a + (k - a))) = _
        rw [show a + (k - a) = k by omega]
      rw [hst]
      have hfk := c2r hb hB hn hak (show k ≤ n by omega)
      have hmk := hb.most k (by omega)
      have hbk := c8m hb hB hn (show k ≤ to by omega) hton
      have fin2 : ∀ L : Int, b69 ⟨tab (n + 1) (b00 r), tab (n + 1) (b00 b.flow), tab n b.most, tab n (b25 n b)⟩ f L k (b4b b to k) = some (.nx (min L (way b a to k), (k : Int) + 1)) := fun L => by
        unfold b69
        simp only [hm]
        rw [b2a (show k < n + 1 by omega)]
        simp only [Option.bind_some]
        rw [b2a (show a < n + 1 by omega)]
        simp only [Option.bind_some]
        rw [b2a (show k < n by omega)]
        simp only [Option.bind_some]
        rw [b1w (n := b00 b.flow k - b00 b.flow a) (by omega) (by omega), b1w (n := b00 b.flow k - b00 b.flow a + b.most k) (by omega) (by omega), b1w (n := b00 b.flow k - b00 b.flow a + b.most k + b4b b to k) (by omega) (by omega), b1w (n := (k : Int) + 1) (by omega) (by omega), c00]
        rfl
      simp only [b8d]
      rw [if_pos (by simp; omega)]
      by_cases e : k < to
      · rw [if_pos (by simpa using e), show wr ((k : Int) + 1) = ((k + 1 : Nat) : Int) from by rw [b1w (by omega) (by omega)]; omega, b2a (show k + 1 < n by omega)]
        simp only [Option.bind_some]
        rw [b6u hton (by omega)]
        simp only [Option.bind_some]
        rw [show b.come (k + 1) to = b4b b to k from by unfold b4b; rw [if_pos e]]
        exact fin2 _
      · rw [if_neg (by simpa using e)]
        have := fin2 (b36 (min (b.come 0 to) (b00 b.flow (to + 1) - b00 b.flow a)) (way b a to) a (k - a))
        rw [show b4b b to k = 0 from by unfold b4b; rw [if_neg e]] at this
        exact this
end
end Go.Nw.HM
namespace Go.Nw.HM
def Bn (c : Nat) : Int := 48000 * 2 ^ c
theorem c7p (c : Nat) : Bn (c + 1) = 2 * Bn c := by unfold Bn; rw [Int.pow_succ]; omega
theorem c4m (c : Nat) : 48000 ≤ Bn c := by
  induction c with
  | zero => simp [Bn]
  | succ c ih => rw [c7p]; omega
theorem d2w (c : Nat) : b00 Bn c = Bn c - 48000 := by
  induction c with
  | zero => simp [c01, Bn]
  | succ c ih => rw [b49, ih, c7p]; omega
theorem g1w {a b : Nat} (h : a ≤ b) : Bn a ≤ Bn b := by
  induction b with
  | zero => have : a = 0 := by omega
            subst this; exact Int.le_refl _
  | succ b ih =>
    by_cases e : a = b + 1
    · subst e; exact Int.le_refl _
    · have := ih (by omega); have := c4m b; rw [c7p]; omega
theorem b79 {c : Nat} (h : c ≤ 8) : Bn c ≤ 1000000000 := by
  have := g1w h
  have e : Bn 8 = 12288000 := by decide
  omega
theorem d1x {f g : Nat → Int} : ∀ {k : Nat}, (∀ i, i < k → f i ≤ g i) → b00 f k ≤ b00 g k
  | 0, _ => by simp [c01]
  | k + 1, h => by rw [b49, b49]; have := d1x (k := k) fun i hi => h i (by omega); have := h k (by omega); omega
theorem d1y {f : Nat → Int} : ∀ {k : Nat}, (∀ i, i < k → 0 ≤ f i) → 0 ≤ b00 f k
  | 0, _ => by simp [c01]
  | k + 1, h => by rw [b49]; have := d1y (k := k) fun i hi => h i (by omega); have := h k (by omega); omega
structure Rt (h : Hall) (R : Nat → Nat → Int) : Prop where
  r : ∀ c t, c < h.Combs.length → t < T h → 0 ≤ R c t ∧ R c t ≤ 1000
section
variable {h : Hall} (hv : V h) {R : Nat → Nat → Int} (hR : Rt h R)
include hv hR
theorem b8g : ∀ (c : Nat), c < h.Combs.length → BdOk (bd h R c) (T h) (Bn c) := by
  intro c
  induction c using Nat.strongRecOn with
  | _ c ih =>
    intro hc
    have hn := hv.1.2.2.2.1
    have hT := b3u hv
    have hw : ∀ s t u, s ≤ t → t < T h → u < c → 0 ≤ b2s h c (bd h R) s t u ∧ b2s h c (bd h R) s t u ≤ Bn u := fun s t u hst ht hu => by
      obtain ⟨x, hx⟩ := b2e (show u < h.Combs.length by omega)
      have hg := hv.2.1 u x hx
      unfold b4t at hg
      have hB := c4m u
      unfold b2s
      rw [hx]
      simp only
      split
      · have := d81 (ih u hu (by omega)) (b79 (by omega)) (show T h ≤ 1000 by omega) (f := (s : Int) - x.Walk.High) (t := (t : Int) - x.Walk.Low) (by omega)
        omega
      · omega
    have hcome : ∀ s t, s ≤ t → t < T h → 0 ≤ b5z h c (bd h R) s t ∧ b5z h c (bd h R) s t ≤ Bn c := fun s t hst ht => by
      unfold b5z
      have h1 := c8o hv c s t
      have h2 := d1y (f := b2s h c (bd h R) s t) (k := c) fun u hu => (hw s t u hst ht hu).1
      have h3 := d1x (f := b2s h c (bd h R) s t) (g := Bn) (k := c) fun u hu => (hw s t u hst ht hu).2
      rw [d2w] at h3
      omega
    have hmost : ∀ t, t < T h → 0 ≤ c6l (b5z h c (bd h R)) (R c) t ∧ c6l (b5z h c (bd h R)) (R c) t ≤ Bn c := fun t ht => by
      refine ⟨d1j, c3r.2 ⟨by have := c4m c; omega, fun i hi => ?_⟩⟩
      rw [Nat.zero_add]
      have h1 := hcome i t (by omega) ht
      have h2 := j49 (f := R c) (show i ≤ t by omega) fun j h1 h2 => (hR.r c j hc (by omega)).1
      omega
    rw [b8f]
    exact ⟨hcome, hmost, fun t ht => by
      have h1 := hmost t ht
      have h2 := hR.r c t hc ht
      simp only [c0z]; omega⟩
theorem c7m {c : Nat} (hc : c < h.Combs.length) {s t : Nat} (hst : s ≤ t) (ht : t < T h) (u : Nat) (hu : u ≤ c) : 0 ≤ b00 (b2s h c (bd h R) s t) u ∧ b00 (b2s h c (bd h R) s t) u ≤ 1000000000 := by
  have hn := hv.1.2.2.2.1
  have hT := b3u hv
  have hw : ∀ u, u < c → 0 ≤ b2s h c (bd h R) s t u ∧ b2s h c (bd h R) s t u ≤ Bn u := fun u hu => by
    obtain ⟨x, hx⟩ := b2e (show u < h.Combs.length by omega)
    have hg := hv.2.1 u x hx
    unfold b4t at hg
    have hB := c4m u
    unfold b2s
    rw [hx]
    simp only
    split
    · have := d81 (b8g hv hR u (by omega)) (b79 (by omega)) (show T h ≤ 1000 by omega) (f := (s : Int) - x.Walk.High) (t := (t : Int) - x.Walk.Low) (by omega)
      omega
    · omega
  have h2 := d1y (f := b2s h c (bd h R) s t) (k := u) fun i hi => (hw i (by omega)).1
  have h3 := d1x (f := b2s h c (bd h R) s t) (g := Bn) (k := u) fun i hi => (hw i (by omega)).2
  rw [d2w] at h3
  have := b79 (c := u) (by omega)
  omega
def b3s (b : Bd) (n s t : Nat) : List Int := tab n fun i => if s ≤ i ∧ i < t then b.come s i else 0
theorem j7x {c : Nat} (hc : c < h.Combs.length) {s : Nat} (hs : s < T h) :
    b08 (b7l h (tab c fun u => bdT (T h) (bd h R u) (R u)) c s) (tab (T h) (fun _ => 0), (s : Int)) = some (b25 (T h) (bd h R c) s) := by
  have hn := hv.1.2.2.2.1
  have hT := b3u hv
  have hTi := b5l hv
  have hb := b8g hv hR c hc
  refine c3t (f := b7l h (tab c fun u => bdT (T h) (bd h R u) (R u)) c s) (T h) (fun r k => (r, k)) (b3s (bd h R c) (T h) s) _ s (by
    unfold b3s
    exact b6f fun i hi => by rw [if_neg (by omega)]) (by omega) (fun t hst ht => ?_) (by
    simp only [b7l]
    rw [← hTi, if_neg (by simp)]
    simp only [b3s, b25, Option.some.injEq, Out.br.injEq]
    exact b6f fun i hi => by by_cases q : s ≤ i <;> simp [q, hi])
  simp only [b7l]
  rw [← hTi, if_pos (by simpa using ht), g26 hv]
  simp only [Option.bind_some]
  rw [show get (b3s (bd h R c) (T h) s t) (t : Int) = some 0 from by unfold b3s; rw [b2a ht, if_neg (by omega)]]
  simp only [Option.bind_some]
  rw [j8p (by omega) (by omega) (by omega)]
  simp only [Option.bind_some]
  have el : (h.Combs.take ((c : Int)).toNat).drop ((0 : Int)).toNat = h.Combs.take c := by simp
  rw [el]
  have hlen : (h.Combs.take c).length = c := by simp; omega
  have hat : ∀ u, u < c → (h.Combs.take c)[u]? = h.Combs[u]? := fun u hu => by rw [List.getElem?_take, if_pos hu]
  have := b3h (f := b8s (tab c fun u => bdT (T h) (bd h R u) (R u)) c s t (h.Combs.take c)) c (fun r k => (r, k))
    (fun u => (b3s (bd h R c) (T h) s t).set t (b4c h c s t + b00 (b2s h c (bd h R) s t) u)) (b3s (bd h R c) (T h) s (t + 1)) (s0 := (b3s (bd h R c) (T h) s t).set ((t : Int)).toNat (b4c h c s t)) (by simp [c01]) (fun u hu => by
      obtain ⟨x, hx⟩ := b2e (show u < h.Combs.length by omega)
      have hg := hv.2.1 u x hx
      unfold b4t at hg
      have hx' : (h.Combs.take c)[u]? = some x := by rw [hat u hu]; exact hx
      have hwb := c7m hv hR hc hst ht u (by omega)
      have hwb' := c7m hv hR hc hst ht (u + 1) (by omega)
      have hbb := c8o hv c s t
      simp only [b8s, hlen]
      rw [if_pos (by simpa using hu), b2f hx']
      simp only [Option.bind_some]
      rw [b49] at hwb' ⊢
      by_cases e : x.Next = (c : Int)
      · rw [if_pos (by simpa using e)]
        rw [show get ((b3s (bd h R c) (T h) s t).set t (b4c h c s t + b00 (b2s h c (bd h R) s t) u)) (t : Int) = some (b4c h c s t + b00 (b2s h c (bd h R) s t) u) from by unfold b3s; rw [b68, b2a ht, if_pos rfl]]
        simp only [Option.bind_some]
        rw [b2a hu]
        simp only [Option.bind_some]
        rw [b1w (n := (s : Int) - x.Walk.High) (by omega) (by omega), b1w (n := (t : Int) - x.Walk.Low) (by omega) (by omega),
          j6t (b8g hv hR u (by omega)) (b79 (by omega)) (by omega) (by omega) (by omega)]
        have ew : b2s h c (bd h R) s t u = b6b (bd h R u) ((s : Int) - x.Walk.High) ((t : Int) - x.Walk.Low) := by
          unfold b2s; rw [hx]; simp only; rw [if_pos e]
        rw [← ew]
        simp only [Option.bind_some, b7p]
        rw [b1w (n := b4c h c s t + b00 (b2s h c (bd h R) s t) u + b2s h c (bd h R) s t u) (by omega) (by omega), b1w (n := (u : Int) + 1) (by omega) (by omega)]
        simp [Int.add_assoc]
      · rw [if_neg (by simpa using e)]
        have ew : b2s h c (bd h R) s t u = 0 := by
          unfold b2s; rw [hx]; simp only; rw [if_neg e]
        rw [ew, Int.add_zero]
        simp only [b7p]
        rw [b1w (n := (u : Int) + 1) (by omega) (by omega)]) (by
      simp only [b8s, hlen]
      rw [if_neg (by simp)]
      simp only [Option.some.injEq, Out.br.injEq]
      unfold b3s
      rw [b68]
      refine b6f fun i hi => ?_
      by_cases e : i = t
      · subst e
        rw [if_pos rfl, if_pos (by omega)]
        rw [b8f]; rfl
      · rw [if_neg e]
        by_cases q : s ≤ i ∧ i < t
        · rw [if_pos q, if_pos (by omega)]
        · rw [if_neg q, if_neg (by omega)])
  rw [this]
  simp only [Option.bind_some, c0i]
  rw [b1w (n := (t : Int) + 1) (by omega) (by omega)]
end
end Go.Nw.HM
namespace Go.Nw.HM
section
variable {h : Hall} (hv : V h) {R : Nat → Nat → Int} (hR : Rt h R)
include hv hR
abbrev opT (h : Hall) (R : Nat → Nat → Int) : List (List Int) := tab h.Combs.length fun c => tab (T h) (R c)
omit hv in
theorem d2c {c : Nat} (hc : c < h.Combs.length) {k : Nat} (hk : k ≤ T h) : 0 ≤ b00 (R c) k ∧ b00 (R c) k ≤ 1000 * k :=
  b9c fun i hi => hR.r c i hc (by omega)
theorem g40 {c : Nat} (hc : c < h.Combs.length) :
    b08 (b7m h (opT h R) (tab c fun u => bdT (T h) (bd h R u) (R u)) c) ([0], [], 0) = some (tab (T h + 1) (b00 (R c)), tab (T h) (b25 (T h) (bd h R c))) := by
  have hT := b3u hv
  have hTi := b5l hv
  refine b3h (f := b7m h (opT h R) (tab c fun u => bdT (T h) (bd h R u) (R u)) c) (T h) (fun (p : List Int × List (List Int)) k => (p.1, p.2, k))
    (fun k => (tab (k + 1) (b00 (R c)), tab k (b25 (T h) (bd h R c)))) _ (s0 := ([0], [])) rfl (fun s hs => ?_) (by
    simp only [b7m]
    rw [← hTi, if_neg (by simp)])
  simp only [b7m]
  rw [← hTi, if_pos (by simpa using hs), b62 (by omega) (by omega)]
  simp only [Option.bind_some]
  rw [j7x hv hR hc hs]
  simp only [Option.bind_some, c0g]
  rw [b34 (by simp [b4a]; omega)]
  simp only [Option.bind_some]
  rw [b2a (show s < s + 1 by omega)]
  simp only [Option.bind_some]
  rw [b2a hc]
  simp only [Option.bind_some]
  rw [b2a hs]
  simp only [Option.bind_some]
  rw [b34 (by simp [b4a]; omega)]
  simp only [Option.bind_some, c0f]
  have h1 := d2c hR hc (show s ≤ T h by omega)
  have h2 := hR.r c s hc hs
  rw [b1w (n := b00 (R c) s + R c s) (by omega) (by omega), b1w (n := (s : Int) + 1) (by omega) (by omega), ← b49, ← b6r, ← b6r]
theorem j1r {c : Nat} (hc : c < h.Combs.length) {t : Nat} (ht : t < T h) :
    b08 (b7n (tab (T h + 1) (b00 (R c))) (tab (T h) (b25 (T h) (bd h R c))) t) (0, 0) = some ((bd h R c).most t) := by
  have hT := b3u hv
  have hb := b8g hv hR c hc
  have hn := hv.1.2.2.2.1
  have hB := b79 (c := c) (by omega)
  have e1 : wr ((t : Int) + 1) = ((t + 1 : Nat) : Int) := by rw [b1w (by omega) (by omega)]; omega
  have em : (bd h R c).most t = b3q 0 (fun s => (bd h R c).come s t - (b00 (R c) t - b00 (R c) s)) 0 (t + 1) := by rw [b8f]; rfl
  refine b3h (f := b7n (tab (T h + 1) (b00 (R c))) (tab (T h) (b25 (T h) (bd h R c))) t) (t + 1) (fun p k => (p, k))
    (b3q 0 (fun s => (bd h R c).come s t - (b00 (R c) t - b00 (R c) s)) 0) _ (s0 := 0) rfl (fun s hs => ?_) (by
    simp only [b7n, e1]
    rw [if_neg (by simp), em])
  simp only [b7n, e1]
  rw [if_pos (by simp; omega), b2a (show s < T h by omega)]
  simp only [Option.bind_some]
  rw [b6u ht (by omega)]
  simp only [Option.bind_some]
  rw [b2a (show t < T h + 1 by omega)]
  simp only [Option.bind_some]
  rw [b2a (show s < T h + 1 by omega)]
  simp only [Option.bind_some]
  have h1 := d2c hR hc (show s ≤ T h by omega)
  have h2 := d2c hR hc (show t ≤ T h by omega)
  have h3 := hb.come s t (by omega) ht
  rw [b1w (n := b00 (R c) t - b00 (R c) s) (by omega) (by omega), b1w (n := (bd h R c).come s t - (b00 (R c) t - b00 (R c) s)) (by omega) (by omega), b1w (n := (s : Int) + 1) (by omega) (by omega), b7w]
  simp only [b3q, Nat.zero_add]
theorem g55 {c : Nat} (hc : c < h.Combs.length) :
    b08 (b7o h (opT h R) c (tab (T h + 1) (b00 (R c))) (tab (T h) (b25 (T h) (bd h R c)))) ([0], [], 0) = some (tab (T h + 1) (b00 (bd h R c).flow), tab (T h) (bd h R c).most) := by
  have hT := b3u hv
  have hTi := b5l hv
  have hb := b8g hv hR c hc
  refine b3h (f := b7o h (opT h R) c (tab (T h + 1) (b00 (R c))) (tab (T h) (b25 (T h) (bd h R c)))) (T h) (fun (p : List Int × List Int) k => (p.1, p.2, k))
    (fun k => (tab (k + 1) (b00 (bd h R c).flow), tab k (bd h R c).most)) _ (s0 := ([0], [])) rfl (fun t ht => ?_) (by
    simp only [b7o]
    rw [← hTi, if_neg (by simp)])
  simp only [b7o]
  rw [← hTi, if_pos (by simpa using ht), j1r hv hR hc ht]
  simp only [Option.bind_some, c0e]
  rw [b34 (by simp [b4a]; omega)]
  simp only [Option.bind_some]
  rw [b2a (show t < t + 1 by omega)]
  simp only [Option.bind_some]
  rw [b2a hc]
  simp only [Option.bind_some]
  rw [b2a ht]
  simp only [Option.bind_some]
  rw [b34 (by simp [b4a]; omega)]
  simp only [Option.bind_some, c0d]
  have ef : min ((bd h R c).most t) (R c t) = (bd h R c).flow t := by rw [b8f]; rfl
  have h1 := b9c (f := (bd h R c).flow) (B := 1000) (k := t) fun i hi => hb.flow i (by omega)
  have h2 := hb.flow t ht
  rw [c00, ef, b1w (n := b00 (bd h R c).flow t + (bd h R c).flow t) (by omega) (by omega), b1w (n := (t : Int) + 1) (by omega) (by omega), ← b49, ← b6r, ← b6r]
theorem g2x : b55 h (opT h R) = some (tab h.Combs.length fun c => bdT (T h) (bd h R c) (R c)) := by
  have hn := hv.1.2.2.2.1
  unfold b55
  have := b3h (f := b8t h (opT h R)) h.Combs.length (fun s k => (s, k)) (fun k => tab k fun c => bdT (T h) (bd h R c) (R c)) (tab h.Combs.length fun c => bdT (T h) (bd h R c) (R c)) (s0 := []) rfl (fun c hc => by
    simp only [b8t]
    rw [if_pos (by simpa using hc), g40 hv hR hc]
    simp only [Option.bind_some, c0j]
    rw [g55 hv hR hc]
    simp only [Option.bind_some, c0c]
    rw [b34 (by simp [b4a]; omega)]
    simp only [Option.bind_some, c0h]
    rw [b1w (n := (c : Int) + 1) (by omega) (by omega), b6r (n := c)]
    rfl) (by simp [b8t])
  rw [this]; rfl
end
theorem c02 {h : Hall} (hv : V h) : Rt h (b1j h) := ⟨fun c t _ _ => c36 hv t⟩
theorem j6m {h : Hall} (hv : V h) : (b5q h).bind (b55 h) = some (tab h.Combs.length fun c => bdT (T h) (bd h (b1j h) c) (b1j h c)) := by
  rw [j52 hv]; exact g2x hv (c02 hv)
abbrev own (h : Hall) : Nat → Bd := bd h (b1j h)
end Go.Nw.HM
namespace Go.Nw.HM
theorem g15 {h : Hall} (hv : V h) : b5v h := by
  obtain ⟨⟨s1, s2, s3, s4, s5, s6⟩, hc, ht, hs⟩ := hv
  have at_ : ∀ {α : Type} {l : List α} {x : α}, x ∈ l → ∃ k : Nat, l[k]? = some x := fun {α l x} hx => by
    obtain ⟨j, hj, rfl⟩ := List.getElem_of_mem hx
    exact ⟨j, List.getElem?_eq_getElem hj⟩
  refine ⟨⟨by simp only [maxLen]; omega, fun x hx => ?_⟩, ⟨by simp only [maxLen]; omega, fun x hx => ?_⟩, ⟨by simp only [maxLen]; omega, fun x hx => ?_⟩, by unfold b3a; omega⟩
  · obtain ⟨k, hk⟩ := at_ hx
    have := hc k x hk
    unfold b4t at this
    simp only [c2a, b9r, b3a]; omega
  · obtain ⟨k, hk⟩ := at_ hx
    obtain ⟨q1, q2, q3, q4, q5⟩ := ht k x hk
    refine ⟨by simp only [b9r, b3a]; omega, by simp only [maxLen]; omega, fun y hy => ?_⟩
    obtain ⟨j, hj⟩ := at_ hy
    have h5 := q5 j y hj
    have : -1 < y.Comb := by
      have key : ∀ (j : Nat) (y : Crowd), x.Crowds[j]? = some y → -1 < y.Comb := by
        intro j
        induction j with
        | zero => intro y hy; exact (q5 0 y hy).2.2.2.2
        | succ j ih =>
          intro y hy
          obtain ⟨z, hz⟩ := b2e (show j < x.Crowds.length by have := b17 hy; omega)
          have := ih z hz
          have := (q5 (j + 1) y hy).2.2.2.2 z hz
          omega
      exact key j y hj
    unfold b4k at h5
    simp only [c2b, b9r, b3a]; omega
  · obtain ⟨k, hk⟩ := at_ hx
    have := hs k x hk
    unfold b96 at this
    simp only [c2c, b3a]; omega
theorem c4w {h : Hall} (hv : V h) : b46 h = some 0 ∧ b6c h = some 0 := by
  rcases d2y (g15 hv) with ⟨_, h1, h2⟩ | ⟨h1, _⟩
  · exact ⟨h1, h2⟩
  · exact absurd hv h1
theorem d3v {h : Hall} (hv : V h) (c : Int) (ts : List Int) (hl : ts.length ≤ maxLen) :
    b6w h c ts = some (if (0 ≤ c ∧ c < h.Combs.length) ∧ ∀ t ∈ ts, 0 ≤ t ∧ t < h.Until then 0 else 1) := by
  unfold b6w
  rw [(c4w hv).1]
  simp only [Option.bind_some]
  rw [if_neg (by simp)]
  by_cases q : 0 ≤ c ∧ c < h.Combs.length
  · rw [if_neg (by simp; omega)]
    obtain ⟨b, b1, b2⟩ := g8c (l := ts) (f := fun z => some (b6x z h)) (p := fun t => ¬ (0 ≤ t ∧ t < h.Until)) hl fun t ht => ⟨_, rfl, by
      simp only [b6x, Bool.or_eq_true, decide_eq_true_eq]; omega⟩
    rw [b1]
    simp only [Option.bind_some]
    cases b with
    | true =>
      obtain ⟨t, h1, h2⟩ := b2.1 rfl
      rw [if_pos rfl, if_neg fun hh => h2 (hh.2 t h1)]
    | false =>
      rw [if_neg (by simp), if_pos ⟨q, fun t ht => Classical.byContradiction fun hh => by have := b2.2 ⟨t, ht, hh⟩; cases this⟩]
  · rw [if_pos (by simp; omega)]
    simp only [Option.bind_some, if_true]
    rw [if_neg fun hh => q hh.1]
theorem g2w {h : Hall} (hv : V h) {α : Type} (f : List halls_bound → Option α) : ((b5q h).bind fun y => (b55 h y).bind f) = f (tab h.Combs.length fun c => bdT (T h) (own h c) (b1j h c)) := by
  have := j6m hv
  cases e : b5q h with
  | none => rw [e] at this; cases this
  | some y =>
    rw [e] at this
    simp only [Option.bind_some] at this ⊢
    rw [this]; rfl
section
variable {h : Hall} (hv : V h) {c : Nat} (hc : c < h.Combs.length) {r : Int} (hr : 0 ≤ r ∧ r ≤ 1000)
include hv hc
end
theorem d8k {h : Hall} {R : Nat → Nat → Int} {c t : Nat} : (bd h R c).most t = b3q 0 (fun s => (bd h R c).come s t - (b00 (R c) t - b00 (R c) s)) 0 (t + 1) := by rw [b8f]; rfl
end Go.Nw.HM
namespace Go.Nw.HM
section
variable {h : Hall} (hv : V h) {c : Nat} (hc : c < h.Combs.length)
include hv hc
theorem d1z : BdOk (own h c) (T h) 1000000000 := by
  have hn := hv.1.2.2.2.1
  have := b8g hv (c02 hv) c hc
  have hB := b79 (c := c) (by omega)
  exact ⟨fun s t hst ht => by have := this.come s t hst ht; unfold own; omega, fun t ht => by have := this.most t ht; unfold own; omega, this.flow⟩
end
end Go.Nw.HM
namespace Go.Nw.HM
def c5d (n : Nat) (p : Nat → Bool) : Option Nat := (List.range n).find? p
theorem g53 {n : Nat} {p : Nat → Bool} : c5d n p = none ↔ ∀ t, t < n → p t = false := by
  unfold c5d
  rw [List.find?_eq_none]
  constructor
  · intro h t ht; have := h t (List.mem_range.2 ht); simpa using this
  · intro h t ht; rw [h t (List.mem_range.1 ht)]; simp
theorem j69 {h : Hall} (h1 : 1 ≤ h.Until) (h2 : h.Until ≤ 100) (hl : h.Shifts.length ≤ maxLen) {c : Nat} (hc : c < h.Combs.length) : b71 h c = some (tab (T h) (b1j h c)) := by
  obtain ⟨x, hx⟩ := b2e hc
  have hT : T h ≤ 100 := by unfold T; omega
  have hTi : (T h : Int) = h.Until := by unfold T; omega
  unfold b71
  rw [← hTi, b62 (by omega) (by omega)]
  simp only [Option.bind_some]
  have := b3h (f := c35 h c) (T h) (fun s k => (s, k)) (fill (T h) (b1j h c) 0) (tab (T h) (b1j h c)) (s0 := tab (T h) fun _ => 0) (by rw [← b75, b8o]) (fun t ht => by
    simp only [c35]
    rw [← hTi, if_pos (by simpa using ht), b2f hx]
    simp only [Option.bind_some]
    rw [b8r ht]
    simp only [Option.bind_some]
    have ein := b3h (f := c34 h c t) h.Shifts.length (fun s k => (s, k)) (fun j => (fill (T h) (b1j h c) 0 t).set t ((h.Shifts.take j).foldl (b4r c t) (b5h h c))) (fill (T h) (b1j h c) 0 (t + 1))
      (s0 := (fill (T h) (b1j h c) 0 t).set ((t : Int)).toNat x.Rate) (by simp [b5h, hx]) (fun j hj => by
        obtain ⟨y, hy⟩ := b2e hj
        simp only [c34, b2f hy, Option.bind_some]
        rw [if_pos (by simpa using hj), List.take_add_one, hy]
        simp only [Option.toList_some, List.foldl_append, List.foldl_cons, List.foldl_nil]
        by_cases e : y.Comb = (c : Int) ∧ y.At ≤ (t : Int)
        · rw [if_pos (by simpa using e), show b4r c t _ y = y.Rate from if_pos e]
          rw [show get ((fill (T h) (b1j h c) 0 t).set t ((h.Shifts.take j).foldl (b4r c t) (b5h h c))) (t : Int) = some ((h.Shifts.take j).foldl (b4r c t) (b5h h c)) from by unfold fill; rw [b68, b2a ht, if_pos rfl]]
          simp only [Option.bind_some, c1v, b2o hj hl]
          rw [show ((t : Nat) : Int).toNat = t from by omega, List.set_set]
        · rw [if_neg (by simpa using e), show b4r c t _ y = _ from if_neg e]
          simp only [c1v, b2o hj hl]) (by
        simp only [c34]
        rw [if_neg (by simp), List.take_length, b7e (f := b1j h c) (v := h.Shifts.foldl (b4r c t) (b5h h c)) rfl])
    rw [ein]
    simp only [Option.bind_some, c68, b2o ht (show T h ≤ maxLen by simp only [maxLen]; omega)]) (by
    simp only [c35]
    rw [← hTi, if_neg (by simp), b7d (Nat.le_refl _)])
  rw [this]; rfl
theorem d9a {h : Hall} (hv : V h) {c : Nat} (hc : c < h.Combs.length) : b71 h c = some (tab (T h) (b1j h c)) := j69 hv.1.1 hv.1.2.1 (by have := hv.1.2.2.2.2.2; simp only [maxLen]; omega) hc
def shA (h : Hall) (f : Nat) : List Shift := h.Shifts.filter fun s => decide (s.At ≤ (f : Int))
section
variable {h : Hall} (hv : V h) {c : Nat} (hc : c < h.Combs.length) {f k : Nat} (hf : f < T h) (hk : 0 < k) (hfk : f + k ≤ T h)
end
end Go.Nw.HM
namespace Go.Nw.HM
section
variable {h : Hall} (hv : V h) {c : Nat} {f k : Nat}
include hv
end
section
variable {h : Hall} (hv : V h) {c : Nat} (hc : c < h.Combs.length) {f : Nat} (hf : f < T h)
include hv hc hf
end
end Go.Nw.HM
namespace Go.Nw.HM
def g63 (x : Train) (a : Int) (p : List Int) : Prop := (x.At.Low ≤ a ∧ a ≤ x.At.High) ∧ p.length = x.Crowds.length ∧ ∀ (k : Nat) y n, x.Crowds[k]? = some y → p[k]? = some n → y.People.Low ≤ n ∧ n ≤ y.People.High
def g64 (x : Comb) (w : List Int) : Prop := 1 ≤ w.length ∧ w.length ≤ 20 ∧ ∀ n ∈ w, x.Walk.Low ≤ n ∧ n ≤ x.Walk.High
structure Fit (h : Hall) (d : Day) : Prop where
  at_ : d.At.length = h.Trains.length
  people : d.People.length = h.Trains.length
  walks : d.Walks.length = h.Combs.length
  ride : ∀ (i : Nat) x a p, h.Trains[i]? = some x → d.At[i]? = some a → d.People[i]? = some p → g63 x a p
  walk : ∀ (u : Nat) x w, h.Combs[u]? = some x → d.Walks[u]? = some w → g64 x w
section
variable {d : Day} {i : Nat} {x : Train} {p : List Int} (hp : d.People[i]? = some p) (hl : p.length = x.Crowds.length) (hm : x.Crowds.length ≤ maxLen)
include hp hl hm
end
section
variable {h : Hall} (hv : V h) {d : Day} (hd : b9q d)
include hv hd
end
end Go.Nw.HM
namespace Go.Nw.HM
def dAt (d : Day) (i : Nat) : Int := (d.At[i]?).getD 0
def dPe (d : Day) (i k : Nat) : Int := (((d.People[i]?).getD [])[k]?).getD 0
def wlk (d : Day) (u t : Nat) : Nat := ((((d.Walks[u]?).getD [])[t % ((d.Walks[u]?).getD []).length]?).getD 0).toNat
def tr (h : Hall) (i : Nat) : Train := (h.Trains[i]?).getD default
def crC (h : Hall) (i k : Nat) : Int := (((tr h i).Crowds[k]?).map (·.Comb)).getD (-1)
def nxt (h : Hall) (u : Nat) : Int := ((h.Combs[u]?).map (·.Next)).getD (-1)
def c2e (h : Hall) (d : Day) (c i k : Nat) : Int := if crC h i k = (c : Int) then dPe d i k else 0
def b8e (h : Hall) (d : Day) (t c i : Nat) : Int := if dAt d i = (t : Int) then b00 (c2e h d c i) (tr h i).Crowds.length else 0
def arr (h : Hall) (d : Day) (t c : Nat) : Int := b00 (b8e h d t c) h.Trains.length
def psN (h : Hall) (n : Nat → Nat → Int) (t c : Nat) : Int := min (n t c) (b1j h c t)
def lfN (h : Hall) (n : Nat → Nat → Int) (t c : Nat) : Int := n t c - psN h n t c
def Wt (h : Hall) (d : Day) (p : Nat → Nat → Int) (s e u t : Nat) : Int := if nxt h u = (e : Int) ∧ t + wlk d u t = s then p t u else 0
def b9i (h : Hall) (d : Day) (n : Nat → Nat → Int) (t c : Nat) : Int := (arr h d t c + b00 (fun u => b00 (Wt h d (psN h n) t c u) t) h.Combs.length) + if 0 < t then lfN h n (t - 1) c else 0
def nL (h : Hall) (d : Day) : Nat → Nat → Nat → Int
  | 0 => fun _ _ => 0
  | k + 1 => fun t c => if t = k then b9i h d (nL h d k) k c else nL h d k t c
def nn (h : Hall) (d : Day) (t c : Nat) : Int := nL h d (t + 1) t c
abbrev ps (h : Hall) (d : Day) : Nat → Nat → Int := psN h (nn h d)
abbrev lf (h : Hall) (d : Day) : Nat → Nat → Int := lfN h (nn h d)
theorem j7n {h : Hall} {d : Day} {p q : Nat → Nat → Int} {t c : Nat} (hpq : ∀ t', t' < t → ∀ c, p t' c = q t' c) : b9i h d p t c = b9i h d q t c := by
  unfold b9i
  congr 1
  · congr 1
    refine d1w fun u _ => d1w fun t' ht' => ?_
    unfold Wt psN
    rw [hpq t' ht']
  · split
    · unfold lfN psN; rw [hpq (t - 1) (by omega)]
    · rfl
theorem j1z {h : Hall} {d : Day} {k t c : Nat} (ht : t < k) : nL h d k t c = nn h d t c := by
  induction k with
  | zero => omega
  | succ k ih =>
    by_cases e : t = k
    · subst e; rfl
    · show (if t = k then _ else nL h d k t c) = _
      rw [if_neg e]; exact ih (by omega)
theorem d8n {h : Hall} {d : Day} {t c : Nat} : nn h d t c = b9i h d (nn h d) t c := by
  show (if t = t then b9i h d (nL h d t) t c else _) = _
  rw [if_pos rfl]
  exact j7n fun t' ht' c => j1z ht'
section
variable {h : Hall} {d : Day}
variable (hv : V h) (hf : Fit h d)
include hv hf
theorem j6v {i k : Nat} (hi : i < h.Trains.length) (hk : k < (tr h i).Crowds.length) : 0 ≤ dPe d i k ∧ dPe d i k ≤ 1000 ∧ ∃ y, (tr h i).Crowds[k]? = some y ∧ y.People.Low ≤ dPe d i k ∧ dPe d i k ≤ y.People.High := by
  obtain ⟨x, hx⟩ := b2e hi
  obtain ⟨a, ha⟩ := b2e (show i < d.At.length by rw [hf.at_]; exact hi)
  obtain ⟨p, hp⟩ := b2e (show i < d.People.length by rw [hf.people]; exact hi)
  obtain ⟨_, g2, g3⟩ := hf.ride i x a p hx ha hp
  have et : tr h i = x := by unfold tr; rw [hx]; rfl
  rw [et] at hk ⊢
  obtain ⟨y, hy⟩ := b2e hk
  obtain ⟨n, hn⟩ := b2e (show k < p.length by omega)
  have := g3 k y n hy hn
  have hg := (hv.2.2.1 i x hx).2.2.2.2 k y hy
  unfold b4k at hg
  have e : dPe d i k = n := by unfold dPe; rw [hp]; simp [hn]
  rw [e]
  exact ⟨by omega, by omega, y, hy, by omega, by omega⟩
omit hf in
theorem g49 {i : Nat} (hi : i < h.Trains.length) : (tr h i).Crowds.length ≤ 4 := by
  obtain ⟨x, hx⟩ := b2e hi
  have : tr h i = x := by unfold tr; rw [hx]; rfl
  rw [this]; exact (hv.2.2.1 i x hx).2.2.2.1
theorem g2g {c i : Nat} (hi : i < h.Trains.length) {k : Nat} (hk : k ≤ (tr h i).Crowds.length) : 0 ≤ b00 (c2e h d c i) k ∧ b00 (c2e h d c i) k ≤ 4000 := by
  have := b9c (f := c2e h d c i) (B := 1000) (k := k) fun j hj => by
    have := j6v hv hf hi (show j < (tr h i).Crowds.length by omega)
    unfold c2e; split <;> omega
  have := g49 hv hi
  omega
theorem g2f {t c i : Nat} (hi : i < h.Trains.length) : 0 ≤ b8e h d t c i ∧ b8e h d t c i ≤ 4000 := by
  have := g2g hv hf (c := c) hi (Nat.le_refl _)
  unfold b8e; split <;> omega
theorem g2h {t c k : Nat} (hk : k ≤ h.Trains.length) : 0 ≤ b00 (b8e h d t c) k ∧ b00 (b8e h d t c) k ≤ 48000 := by
  have := b9c (f := b8e h d t c) (B := 4000) (k := k) fun i hi => g2f hv hf (by omega)
  have := hv.1.2.2.2.2.1
  omega
omit hf in
theorem g19 {n : Nat → Nat → Int} {s e u t : Nat} (hn : ∀ t c, t < s → 0 ≤ n t c) (ht : t < s) : 0 ≤ Wt h d (psN h n) s e u t ∧ Wt h d (psN h n) s e u t ≤ 1000 := by
  have h1 := hn t u ht
  have h2 := c36 hv (c := u) t
  unfold Wt; split
  · unfold psN; omega
  · omega
theorem j48 : ∀ (t : Nat), t < T h → ∀ c, 0 ≤ nn h d t c ∧ nn h d t c ≤ 1000000 * (t + 1) := by
  intro t
  induction t using Nat.strongRecOn with
  | _ t ih =>
    intro ht c
    have hT := b3u hv
    have hN := hv.1.2.2.2.1
    have h1 := g2h hv hf (t := t) (c := c) (Nat.le_refl _)
    have h2 : 0 ≤ b00 (fun u => b00 (Wt h d (psN h (nn h d)) t c u) t) h.Combs.length ∧ b00 (fun u => b00 (Wt h d (psN h (nn h d)) t c u) t) h.Combs.length ≤ 800000 := by
      have := b9c (f := fun u => b00 (Wt h d (psN h (nn h d)) t c u) t) (B := 100000) (k := h.Combs.length) fun u hu => by
        have := b9c (f := Wt h d (psN h (nn h d)) t c u) (B := 1000) (k := t) fun t' ht' => g19 hv (fun t c htt => by
          by_cases q : t < T h
          · exact (ih t (by omega) q c).1
          · omega) ht'
        omega
      omega
    rw [d8n]
    unfold b9i
    unfold arr
    split
    · have h3 := ih (t - 1) (by omega) (by omega) c
      have h4 := c36 hv (c := c) (t - 1)
      have e1 : lfN h (nn h d) (t - 1) c = nn h d (t - 1) c - min (nn h d (t - 1) c) (b1j h c (t - 1)) := rfl
      rw [e1]
      have : ((t - 1 : Nat) : Int) = (t : Int) - 1 := by omega
      rw [this] at h3
      omega
    · omega
theorem j6z {t : Nat} (ht : t < T h) (c : Nat) : 0 ≤ ps h d t c ∧ ps h d t c ≤ 1000 ∧ 0 ≤ lf h d t c ∧ lf h d t c ≤ 1000000 * (t + 1) := by
  have h1 := j48 hv hf t ht c
  have h2 := c36 hv (c := c) t
  have e1 : ps h d t c = min (nn h d t c) (b1j h c t) := rfl
  have e2 : lf h d t c = nn h d t c - ps h d t c := rfl
  omega
end
end Go.Nw.HM
namespace Go.Nw.HM
section
variable {h : Hall} {d : Day} (hv : V h) (hf : Fit h d)
include hv hf
end
end Go.Nw.HM
namespace Go.Nw.HM
def cm (h : Hall) (d : Day) (c t : Nat) : Int := arr h d t c + b00 (fun u => b00 (Wt h d (ps h d) t c u) t) h.Combs.length
def b2g (f : Nat → Int) (a b : Nat) : Int := b00 f b - b00 f a
theorem b73 {f : Nat → Int} {a b : Nat} : b2g f a (b + 1) = b2g f a b + f b := by unfold b2g; rw [b49]; omega
theorem b5j {f : Nat → Int} {a : Nat} : b2g f a a = 0 := by unfold b2g; omega
theorem d9k {f : Nat → Int} {a b c : Nat} : b2g f a c = b2g f a b + b2g f b c := by unfold b2g; omega
theorem j71 {f g : Nat → Int} {a b : Nat} (hab : a ≤ b) (h : ∀ i, a ≤ i → i < b → f i ≤ g i) : b2g f a b ≤ b2g g a b := by
  induction b with
  | zero => have : a = 0 := by omega
            subst this; rw [b5j, b5j]; exact Int.le_refl _
  | succ b ih =>
    by_cases e : a = b + 1
    · subst e; rw [b5j, b5j]; exact Int.le_refl _
    · rw [b73, b73]
      have := ih (by omega) fun i h1 h2 => h i h1 (by omega)
      have := h b (by omega) (by omega)
      omega
section
variable {h : Hall} {d : Day} (hv : V h) (hf : Fit h d)
include hv hf
omit hv hf in
theorem d8m {t c : Nat} : nn h d t c = cm h d c t + if 0 < t then lf h d (t - 1) c else 0 := by rw [d8n]; rfl
theorem j68 (c : Nat) {s t : Nat} (hst : s ≤ t) : nn h d t c + b2g (fun x => ps h d x c) s t = (nn h d s c - cm h d c s) + b2g (cm h d c) s (t + 1) := by
  induction t with
  | zero => have : s = 0 := by omega
            subst this; rw [b5j, b73, b5j]; omega
  | succ t ih =>
    by_cases e : s = t + 1
    · subst e; rw [b5j, b73, b5j]; omega
    · have := ih (by omega)
      have h1 := d8m (h := h) (d := d) (t := t + 1) (c := c)
      rw [if_pos (by omega), Nat.add_sub_cancel] at h1
      have h2 : lf h d t c = nn h d t c - ps h d t c := rfl
      rw [b73 (b := t), b73 (b := t + 1)]
      omega
theorem j1g {t : Nat} (ht : t < T h) (c : Nat) : 0 ≤ nn h d t c - cm h d c t := by
  have h1 := d8m (h := h) (d := d) (t := t) (c := c)
  by_cases q : 0 < t
  · rw [if_pos q] at h1
    have := j6z hv hf (show t - 1 < T h by omega) c
    omega
  · rw [if_neg q] at h1; omega
theorem c6e (c : Nat) {s t : Nat} (hst : s ≤ t) (ht : t < T h) : b2g (cm h d c) s (t + 1) - b2g (b1j h c) s t ≤ nn h d t c := by
  have h1 := j68 hv hf c hst
  have h2 := j1g hv hf (show s < T h by omega) c
  have h3 : b2g (fun x => ps h d x c) s t ≤ b2g (b1j h c) s t := j71 hst fun i _ _ => by
    have : ps h d i c = min (nn h d i c) (b1j h c i) := rfl
    omega
  omega
structure Bnd (h : Hall) (d : Day) (c : Nat) : Prop where
  come : ∀ s t, s ≤ t → t < T h → b2g (cm h d c) s (t + 1) ≤ (own h c).come s t
  most : ∀ t, t < T h → nn h d t c ≤ (own h c).most t
  flow : ∀ t, t < T h → ps h d t c ≤ (own h c).flow t
end
end Go.Nw.HM
namespace Go.Nw.HM
end Go.Nw.HM
namespace Go.Nw.HM
end Go.Nw.HM
