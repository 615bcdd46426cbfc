/- Plain laws on the models. -/
import Derived.Test.YteoedeeljnboeaaP1
import Derived.Test.YteoedeeljnboeaaNwSearch
set_option linter.all false
set_option linter.unusedVariables false
set_option linter.unusedSimpArgs false
set_option linter.unusedSectionVars false
namespace Go.Nw.HM
structure Crowded (n : Nat) (lo : Int) (l : List Crowd) : Prop where
  each : ∀ (k : Nat) x, l[k]? = some x → 0 ≤ x.Comb ∧ x.Comb < n ∧ 0 ≤ x.People.Low ∧ x.People.Low ≤ x.People.High ∧ x.People.High ≤ 1000
structure Valid (h : Hall) : Prop where
  u1 : 1 ≤ h.Until
  u2 : h.Until ≤ 100
  c1 : 1 ≤ h.Combs.length
  c2 : h.Combs.length ≤ 8
  t2 : h.Trains.length ≤ 12
  s2 : h.Shifts.length ≤ 20
  comb : ∀ (k : Nat) x, h.Combs[k]? = some x → 0 ≤ x.Rate ∧ x.Rate ≤ 1000 ∧ 0 ≤ x.Limit ∧ x.Limit ≤ 100000 ∧ (x.Next = -1 ∨ (k < x.Next ∧ x.Next < h.Combs.length)) ∧ 1 ≤ x.Walk.Low ∧ x.Walk.Low ≤ x.Walk.High ∧ x.Walk.High ≤ 20
  train : ∀ (k : Nat) x, h.Trains[k]? = some x → 0 ≤ x.At.Low ∧ x.At.Low ≤ x.At.High ∧ x.At.High ≤ h.Until - 1 ∧ x.Crowds.length ≤ 4 ∧
    (∀ (j : Nat) y, x.Crowds[j]? = some y → 0 ≤ y.People.Low ∧ y.People.Low ≤ y.People.High ∧ y.People.High ≤ 1000 ∧ y.Comb < h.Combs.length ∧ (match j with | 0 => -1 < y.Comb | j + 1 => ∀ z, x.Crowds[j]? = some z → z.Comb < y.Comb))
  shift : ∀ (k : Nat) x, h.Shifts[k]? = some x → 0 ≤ x.At ∧ x.At < h.Until ∧ 0 ≤ x.Comb ∧ x.Comb < h.Combs.length ∧ 0 ≤ x.Rate ∧ x.Rate ≤ 1000 ∧ (∀ j y, k = j + 1 → h.Shifts[j]? = some y → y.At ≤ x.At)
def b5y (n : Nat) (k : Nat) (x : Comb) : Prop := 0 ≤ x.Rate ∧ x.Rate ≤ 1000 ∧ 0 ≤ x.Limit ∧ x.Limit ≤ 100000 ∧ (x.Next = -1 ∨ ((k : Int) < x.Next ∧ x.Next < n)) ∧ 1 ≤ x.Walk.Low ∧ x.Walk.Low ≤ x.Walk.High ∧ x.Walk.High ≤ 20
def b4i (n : Nat) (l : List Crowd) (j : Nat) (y : Crowd) : Prop := 0 ≤ y.People.Low ∧ y.People.Low ≤ y.People.High ∧ y.People.High ≤ 1000 ∧ y.Comb < n ∧ (match j with | 0 => -1 < y.Comb | j + 1 => ∀ z, l[j]? = some z → z.Comb < y.Comb)
def b9b (n : Nat) (u : Int) (x : Train) : Prop := 0 ≤ x.At.Low ∧ x.At.Low ≤ x.At.High ∧ x.At.High ≤ u - 1 ∧ x.Crowds.length ≤ 4 ∧ ∀ (j : Nat) y, x.Crowds[j]? = some y → b4i n x.Crowds j y
def b9a (n : Nat) (u : Int) (l : List Shift) (k : Nat) (x : Shift) : Prop := 0 ≤ x.At ∧ x.At < u ∧ 0 ≤ x.Comb ∧ x.Comb < n ∧ 0 ≤ x.Rate ∧ x.Rate ≤ 1000 ∧ (∀ j y, k = j + 1 → l[j]? = some y → y.At ≤ x.At)
theorem g04 {h : Hall} (hk : b5c h) : ∃ b, b8d h = some b := by
  unfold b8d
  split
  · exact ⟨_, rfl⟩
  · have hl : h.Trains.length ≤ maxLen := hk.2.1.1
    rcases b53 (f := b9x h) h.Trains (fun _ x => 10 < x.Crowds.length) (.inr true) (.inl ()) (fun k x hx hb => by
      simp only [b9x, b1e hx, Option.bind_some]
      rw [if_pos (by simpa using b1f hx), if_pos (by simp; omega)]) (fun k x hx hb => by
      simp only [b9x, b1e hx, Option.bind_some]
      rw [if_pos (by simpa using b1f hx), if_neg (by simp; omega), b2n (b1f hx) hl]) (by simp [b9x]) with ⟨_, h2⟩ | ⟨_, h2⟩
    · rw [h2]; exact ⟨_, rfl⟩
    · rw [h2]; exact ⟨_, rfl⟩
end Go.Nw.HM
namespace Go.Nw.HM
def b55 (h : Hall) : Prop := 1 ≤ h.Until ∧ h.Until ≤ 100 ∧ 1 ≤ h.Combs.length ∧ h.Combs.length ≤ 8 ∧ h.Trains.length ≤ 12 ∧ h.Shifts.length ≤ 20
def V (h : Hall) : Prop := b55 h ∧ (∀ (k : Nat) x, h.Combs[k]? = some x → b5y h.Combs.length k x) ∧ (∀ (k : Nat) x, h.Trains[k]? = some x → b9b h.Combs.length h.Until x) ∧ (∀ (k : Nat) x, h.Shifts[k]? = some x → b9a h.Combs.length h.Until h.Shifts k x)
def b4l (l : List Crowd) : Nat → Int
  | 0 => -1
  | j + 1 => ((l[j]?).map (·.Comb)).getD 0
theorem d1c {l : List Crowd} {k : Nat} {x : Crowd} (h : l[k]? = some x) : b4l l (k + 1) = x.Comb := by simp [b4l, h]
theorem c1c {n : Nat} {l : List Crowd} {k : Nat} {x : Crowd} (hx : l[k]? = some x) : b4i n l k x ↔ (0 ≤ x.People.Low ∧ x.People.Low ≤ x.People.High ∧ x.People.High ≤ 1000 ∧ x.Comb < n ∧ b4l l k < x.Comb) := by
  unfold b4i
  cases k with
  | zero => simp [b4l]
  | succ j =>
    obtain ⟨z, hz⟩ := b2a (show j < l.length by have := b1f hx; omega)
    simp [b4l, hz]
section
variable {h : Hall} (hk : b5c h) (hs : b55 h)
include hk hs
theorem d3h {t : Train} (ht : b7j t) : ((∀ k x, t.Crowds[k]? = some x → b4i h.Combs.length t.Crowds k x) ∧ b07 (b69 h t) (-1, 0) = some (.inl ())) ∨ ((∃ k x, t.Crowds[k]? = some x ∧ ¬ b4i h.Combs.length t.Crowds k x) ∧ b07 (b69 h t) (-1, 0) = some (.inr 60)) := by
  have hn := c6q (n := h.Combs.length) (by have := hs.2.2.2.1; simp only [maxLen]; omega)
  have hl : t.Crowds.length ≤ maxLen := ht.2.1
  have hpb : ∀ k, (∀ j y, j < k → t.Crowds[j]? = some y → ¬ ¬ b4i h.Combs.length t.Crowds j y) → k ≤ t.Crowds.length → -1 ≤ b4l t.Crowds k ∧ b4l t.Crowds k < 8 := fun k hg hkl => by
    have key : ∀ m, m ≤ k → -1 ≤ b4l t.Crowds m ∧ b4l t.Crowds m < 8 := by
      intro m
      induction m with
      | zero => intro _; simp [b4l]
      | succ m ih =>
        intro hm
        obtain ⟨y, hy⟩ := b2a (show m < t.Crowds.length by omega)
        have hgy := (c1c hy).1 (Classical.not_not.1 (hg m y (by omega) hy))
        have := ih (by omega)
        rw [d1c hy]
        have := hs.2.2.2.1
        omega
    exact key k (Nat.le_refl _)
  have := d0y (f := b69 h t) t.Crowds (fun s k => (s, k)) (b4l t.Crowds) (fun k x => ¬ b4i h.Combs.length t.Crowds k x) (.inr 60) (.inl ()) (fun k x hg hx hb => by
    obtain ⟨p1, p2⟩ := hpb k hg (by have := b1f hx; omega)
    simp only [b69, b1e hx, Option.bind_some, hn, b7g (show -9223372036854775808 ≤ b4l t.Crowds k + 1 by omega) (by omega)]
    rw [if_pos (by simpa using b1f hx), if_pos]
    rw [c1c hx] at hb
    simp only [b2g, b4a, Bool.or_eq_true, Bool.not_eq_true', Bool.and_eq_false_iff, decide_eq_false_iff_not]
    omega) (fun k x hg hx hb => by
    obtain ⟨p1, p2⟩ := hpb k hg (by have := b1f hx; omega)
    simp only [b69, b1e hx, Option.bind_some, hn, b7g (show -9223372036854775808 ≤ b4l t.Crowds k + 1 by omega) (by omega)]
    rw [if_pos (by simpa using b1f hx), if_neg, b2n (b1f hx) hl, d1c hx]
    have hb := (c1c hx).1 (Classical.not_not.1 hb)
    simp only [b2g, b4a, Bool.or_eq_true, Bool.not_eq_true', Bool.and_eq_false_iff, decide_eq_false_iff_not]
    omega) (by simp [b69]) (s0 := -1) rfl
  simpa using this
theorem g38 {t : Train} (ht : b7j t) : ((∀ k x, t.Crowds[k]? = some x → b4i h.Combs.length t.Crowds k x) ∧ b07 (b50 h t) (-1, 0) = some (.inl ())) ∨ ((∃ k x, t.Crowds[k]? = some x ∧ ¬ b4i h.Combs.length t.Crowds k x) ∧ b07 (b50 h t) (-1, 0) = some (.inr false)) := by
  have hl : t.Crowds.length ≤ maxLen := ht.2.1
  have := d0y (f := b50 h t) t.Crowds (fun s k => (s, k)) (b4l t.Crowds) (fun k x => ¬ b4i h.Combs.length t.Crowds k x) (.inr false) (.inl ()) (fun k x hg hx hb => by
    simp only [b50, b1e hx, Option.bind_some]
    rw [if_pos (by simpa using b1f hx), if_pos]
    rw [c1c hx] at hb
    simp only [b4d, Bool.or_eq_true, Bool.not_eq_true', Bool.and_eq_false_iff, decide_eq_false_iff_not, decide_eq_true_eq]
    omega) (fun k x hg hx hb => by
    simp only [b50, b1e hx, Option.bind_some]
    rw [if_pos (by simpa using b1f hx), if_neg, b2n (b1f hx) hl, d1c hx]
    have hb := (c1c hx).1 (Classical.not_not.1 hb)
    simp only [b4d, Bool.or_eq_true, Bool.not_eq_true', Bool.and_eq_false_iff, decide_eq_false_iff_not, decide_eq_true_eq]
    omega) (by simp [b50]) (s0 := -1) rfl
  simpa using this
theorem g9n {t : Train} (ht : b7j t) : ∃ b, b75 h t = some b ∧ (b = true ↔ b9b h.Combs.length h.Until t) := by
  have hu : wr (h.Until - 1) = h.Until - 1 := b7g (by have := hs.1; omega) (by have := hs.2.1; omega)
  unfold b75
  rcases g38 hk hs ht with ⟨h1, h2⟩ | ⟨⟨k, x, hx, hb⟩, h2⟩
  · rw [h2]
    simp only [Option.bind_some, b9l, hu]
    refine ⟨_, rfl, ?_⟩
    simp only [b4d, Bool.and_eq_true, decide_eq_true_eq, b9b]
    constructor
    · rintro ⟨⟨⟨a, b⟩, c⟩, d⟩; exact ⟨a, b, c, by omega, h1⟩
    · rintro ⟨a, b, c, d, _⟩; exact ⟨⟨⟨a, b⟩, c⟩, by omega⟩
  · rw [h2]
    refine ⟨false, rfl, by simp; exact fun hg => hb (hg.2.2.2.2 k x hx)⟩
end
end Go.Nw.HM
namespace Go.Nw.HM
theorem g66 {l : List Train} {f : Train → Option Bool} {p : Train → Prop} (hl : l.length ≤ maxLen) (hf : ∀ x ∈ l, ∃ b, f x = some b ∧ (b = true ↔ p x)) :
    ∃ b, c0j l f = some b ∧ (b = true ↔ ∃ x ∈ l, p x) := d5b rfl hl hf
theorem c9s {l : List Int} {f : Int → Option Bool} {p : Int → Prop} (hl : l.length ≤ maxLen) (hf : ∀ x ∈ l, ∃ b, f x = some b ∧ (b = true ↔ p x)) :
    ∃ b, b8n l f = some b ∧ (b = true ↔ ∃ x ∈ l, p x) := d5b rfl hl hf
theorem c6r {j n : Nat} (h : j + 1 < n) (hn : n ≤ maxLen) : wr (((j + 1 : Nat) : Int) - 1) = (j : Int) := by
  rw [b7g (by omega) (by simp only [maxLen] at hn; omega)]; omega
theorem d7f {h : Hall} {k : Nat} {x : Comb} (hx : h.Combs[k]? = some x) : ∃ b, b73 h k = some b ∧ (b = true ↔ b5y h.Combs.length k x) := by
  unfold b73
  rw [b1e hx]
  refine ⟨_, rfl, ?_⟩
  simp only [b28, b4d, b5y, Bool.and_eq_true, Bool.or_eq_true, decide_eq_true_eq]
  omega
theorem d9a {h : Hall} (hk : b5c h) : b55 h ∨ (¬ b55 h ∧ b3z h = some 60 ∧ b4m h = some 60) := by
  by_cases hs : b55 h
  · exact .inl hs
  · refine .inr ⟨hs, ?_, ?_⟩
    · unfold b3z
      rw [if_pos]
      simp only [Bool.or_eq_true, decide_eq_true_eq]
      unfold b55 at hs; omega
    · unfold b4m
      rw [if_pos]
      simp only [b2g, Bool.or_eq_true, Bool.not_eq_true', Bool.and_eq_false_iff, decide_eq_false_iff_not, decide_eq_true_eq]
      unfold b55 at hs; omega
theorem g01 {h : Hall} (hk : b5c h) : (V h ∧ b3z h = some 0) ∨ (¬ V h ∧ b3z h = some 60) := by
  rcases d9a hk with hs | ⟨hs, h1, _⟩
  · have e1 : h.Combs.length ≤ maxLen := hk.1.1
    have e2 : h.Trains.length ≤ maxLen := hk.2.1.1
    have e3 : h.Shifts.length ≤ maxLen := hk.2.2.1.1
    unfold b3z
    rw [if_neg (by simp only [Bool.or_eq_true, decide_eq_true_eq]; unfold b55 at hs; omega)]
    rcases c2g (f := b6t h) h.Combs (fun k x => ¬ b5y h.Combs.length k x) (.inr 60) (.inl ()) (fun k x _ hx hb => by
        obtain ⟨b, b1, b2⟩ := d7f hx
        have : b = false := d2t fun hh => hb (b2.1 hh)
        subst this
        simp [b6t, b1, b1f hx]) (fun k x _ hx hb => by
        obtain ⟨b, b1, b2⟩ := d7f hx
        have : b = true := b2.2 (Classical.not_not.1 hb)
        subst this
        simp [b6t, b1, b1f hx, b2n (b1f hx) e1]) (by simp [b6t]) with ⟨c1, c2⟩ | ⟨⟨k, x, hx, hb⟩, c2⟩
    · rw [c2]
      simp only [Option.bind_some, b9c]
      obtain ⟨b, b1, b2⟩ := g66 (l := h.Trains) (f := fun z => b6r z h) (p := fun t => ¬ b9b h.Combs.length h.Until t) e2 fun t ht => by
        obtain ⟨b, b1, b2⟩ := g9n hk hs (hk.2.1.2 t ht)
        refine ⟨!b, by simp [b6r, b1], ?_⟩
        cases b <;> simp_all
      rw [b1]
      simp only [Option.bind_some]
      cases b with
      | true =>
        rw [if_pos rfl]
        obtain ⟨t, ht, hbad⟩ := b2.1 rfl
        obtain ⟨j, hj, rfl⟩ := List.getElem_of_mem ht
        exact .inr ⟨fun hv => hbad (hv.2.2.1 j _ (List.getElem?_eq_getElem hj)), rfl⟩
      | false =>
        rw [if_neg (by simp)]
        have ht : ∀ (k : Nat) x, h.Trains[k]? = some x → b9b h.Combs.length h.Until x := fun k x hx => Classical.byContradiction fun hn => by have := b2.2 ⟨x, List.mem_of_getElem? hx, hn⟩; cases this
        rcases c2g (f := b6s h) h.Shifts (fun k x => ¬ b9a h.Combs.length h.Until h.Shifts k x) (.inr 60) (.inl ()) (fun k x _ hx hb => by
            simp only [b6s, b1e hx, Option.bind_some]
            rw [if_pos (by simpa using b1f hx)]
            unfold b9a at hb
            by_cases q : x.At < 0 ∨ h.Until ≤ x.At
            · rw [if_pos (by simpa using q)]; simp
            · rw [if_neg (by simpa using q)]
              cases k with
              | zero =>
                simp only [Int.natCast_zero, Int.lt_irrefl, decide_false, Bool.false_eq_true, if_false, Option.bind_some, Bool.false_or]
                rw [if_pos]
                simp only [b28, Bool.or_eq_true, Bool.not_eq_true', Bool.and_eq_false_iff, decide_eq_false_iff_not, decide_eq_true_eq]
                refine Classical.byContradiction fun hc => hb ⟨by omega, by omega, by omega, by omega, by omega, by omega, fun j y hj => by omega⟩
              | succ j =>
                obtain ⟨y, hy⟩ := b2a (show j < h.Shifts.length by have := b1f hx; omega)
                rw [if_pos (by simp <;> omega), c6r (b1f hx) e3, b1e hy]
                simp only [Option.bind_some]
                rw [if_pos]
                simp only [b28, Bool.or_eq_true, Bool.not_eq_true', Bool.and_eq_false_iff, decide_eq_false_iff_not, decide_eq_true_eq]
                refine Classical.byContradiction fun hc => hb ⟨by omega, by omega, by omega, by omega, by omega, by omega, fun j' y' hj' hy' => by
                  obtain rfl : j' = j := by omega
                  rw [hy] at hy'; cases hy'; omega⟩) (fun k x _ hx hb => by
            have hb := Classical.not_not.1 hb
            obtain ⟨q1, q2, q3, q4, q5, q6, q7⟩ := hb
            simp only [b6s, b1e hx, Option.bind_some]
            rw [if_pos (by simpa using b1f hx), if_neg (by simp; omega)]
            cases k with
            | zero =>
              simp only [Int.natCast_zero, Int.lt_irrefl, decide_false, Bool.false_eq_true, if_false, Option.bind_some, Bool.false_or]
              rw [if_neg]
              · rfl
              · simp only [b28, Bool.or_eq_true, Bool.not_eq_true', Bool.and_eq_false_iff, decide_eq_false_iff_not, decide_eq_true_eq]
                omega
            | succ j =>
              obtain ⟨y, hy⟩ := b2a (show j < h.Shifts.length by have := b1f hx; omega)
              have := q7 j y rfl hy
              rw [if_pos (by simp <;> omega), c6r (b1f hx) e3, b1e hy]
              simp only [Option.bind_some]
              rw [if_neg, b2n (b1f hx) e3]
              simp only [b28, Bool.or_eq_true, Bool.not_eq_true', Bool.and_eq_false_iff, decide_eq_false_iff_not, decide_eq_true_eq]
              omega) (by simp [b6s]) with ⟨d1, d2⟩ | ⟨⟨k, x, hx, hb⟩, d2⟩
        · rw [d2]
          exact .inl ⟨⟨hs, fun k x hx => Classical.not_not.1 (c1 k x hx), ht, fun k x hx => Classical.not_not.1 (d1 k x hx)⟩, rfl⟩
        · rw [d2]
          exact .inr ⟨fun hv => hb (hv.2.2.2 k x hx), rfl⟩
    · rw [c2]
      exact .inr ⟨fun hv => hb (hv.2.1 k x hx), rfl⟩
  · exact .inr ⟨fun hv => hs hv.1, h1⟩
end Go.Nw.HM
namespace Go.Nw.HM
theorem g02 {h : Hall} (hk : b5c h) : (V h ∧ b4m h = some 0) ∨ (¬ V h ∧ b4m h = some 60) := by
  rcases d9a hk with hs | ⟨hs, _, h1⟩
  · have e1 : h.Combs.length ≤ maxLen := hk.1.1
    have e2 : h.Trains.length ≤ maxLen := hk.2.1.1
    have e3 : h.Shifts.length ≤ maxLen := hk.2.2.1.1
    have hu : wr (h.Until - 1) = h.Until - 1 := b7g (by have := hs.1; omega) (by have := hs.2.1; omega)
    have hn := c6q e1
    unfold b4m
    rw [if_neg (by simp only [b2g, Bool.or_eq_true, Bool.not_eq_true', Bool.and_eq_false_iff, decide_eq_false_iff_not, decide_eq_true_eq]; unfold b55 at hs; omega)]
    rcases c2g (f := b92 h) h.Combs (fun k x => ¬ b5y h.Combs.length k x) (.inr 60) (.inl ()) (fun k x _ hx hb => by
        simp only [b92, b1e hx, Option.bind_some, hn, b2n (b1f hx) e1]
        rw [if_pos (by simpa using b1f hx), if_pos]
        simp only [b2g, b4a, Bool.or_eq_true, Bool.and_eq_true, Bool.not_eq_true', Bool.and_eq_false_iff, decide_eq_false_iff_not, decide_eq_true_eq]
        unfold b5y at hb; omega) (fun k x _ hx hb => by
        have hb := Classical.not_not.1 hb
        simp only [b92, b1e hx, Option.bind_some, hn, b2n (b1f hx) e1]
        rw [if_pos (by simpa using b1f hx), if_neg]
        simp only [b2g, b4a, Bool.or_eq_true, Bool.and_eq_true, Bool.not_eq_true', Bool.and_eq_false_iff, decide_eq_false_iff_not, decide_eq_true_eq]
        unfold b5y at hb; omega) (by simp [b92]) with ⟨c1, c2⟩ | ⟨⟨k, x, hx, hb⟩, c2⟩
    · rw [c2]
      simp only [Option.bind_some, c50]
      rcases c2g (f := b93 h) h.Trains (fun _ x => ¬ b9b h.Combs.length h.Until x) (.inr 60) (.inl ()) (fun k x _ hx hb => by
          simp only [b93, b1e hx, Option.bind_some, hu]
          rw [if_pos (by simpa using b1f hx)]
          by_cases q : ¬ (0 ≤ x.At.Low ∧ x.At.Low ≤ x.At.High ∧ x.At.High ≤ h.Until - 1) ∨ 4 < x.Crowds.length
          · rw [if_pos]
            simp only [b4a, Bool.or_eq_true, Bool.not_eq_true', Bool.and_eq_false_iff, decide_eq_false_iff_not, decide_eq_true_eq]
            omega
          · rw [if_neg (by
              simp only [b4a, Bool.or_eq_true, Bool.not_eq_true', Bool.and_eq_false_iff, decide_eq_false_iff_not, decide_eq_true_eq]
              omega)]
            rcases d3h hk hs (hk.2.1.2 x (List.mem_of_getElem? hx)) with ⟨d1, d2⟩ | ⟨_, d2⟩
            · exact absurd ⟨by omega, by omega, by omega, by omega, d1⟩ hb
            · rw [d2]; rfl) (fun k x _ hx hb => by
          have hb := Classical.not_not.1 hb
          obtain ⟨q1, q2, q3, q4, q5⟩ := hb
          simp only [b93, b1e hx, Option.bind_some, hu]
          rw [if_pos (by simpa using b1f hx), if_neg (by
              simp only [b4a, Bool.or_eq_true, Bool.not_eq_true', Bool.and_eq_false_iff, decide_eq_false_iff_not, decide_eq_true_eq]
              omega)]
          rcases d3h hk hs (hk.2.1.2 x (List.mem_of_getElem? hx)) with ⟨d1, d2⟩ | ⟨⟨j, y, hy, hb⟩, d2⟩
          · rw [d2]; simp only [Option.bind_some, c5z, b2n (b1f hx) e2]
          · exact absurd (q5 j y hy) hb) (by simp [b93]) with ⟨t1, t2⟩ | ⟨⟨k, x, hx, hb⟩, t2⟩
      · rw [t2]
        simp only [Option.bind_some, c51]
        rcases c2g (f := b94 h) h.Shifts (fun k x => ¬ b9a h.Combs.length h.Until h.Shifts k x) (.inr 60) (.inl ()) (fun k x _ hx hb => by
            simp only [b94, b1e hx, Option.bind_some, hu, hn]
            rw [if_pos (by simpa using b1f hx)]
            unfold b9a at hb
            by_cases q : 0 ≤ x.At ∧ x.At < h.Until ∧ 0 ≤ x.Comb ∧ x.Comb < h.Combs.length ∧ 0 ≤ x.Rate ∧ x.Rate ≤ 1000
            · rw [if_neg (by
                simp only [b2g, Bool.or_eq_true, Bool.not_eq_true', Bool.and_eq_false_iff, decide_eq_false_iff_not, decide_eq_true_eq]
                omega)]
              cases k with
              | zero => exact absurd ⟨q.1, q.2.1, q.2.2.1, q.2.2.2.1, q.2.2.2.2.1, q.2.2.2.2.2, fun j y hj => by omega⟩ hb
              | succ j =>
                obtain ⟨y, hy⟩ := b2a (show j < h.Shifts.length by have := b1f hx; omega)
                rw [if_pos (by simp <;> omega), c6r (b1f hx) e3, b1e hy]
                simp only [Option.bind_some]
                rw [if_pos]
                simp only [decide_eq_true_eq]
                refine Classical.byContradiction fun hc => hb ⟨by omega, by omega, by omega, by omega, by omega, by omega, fun j' y' hj' hy' => by
                  obtain rfl : j' = j := by omega
                  rw [hy] at hy'; cases hy'; omega⟩
            · rw [if_pos (by
                simp only [b2g, Bool.or_eq_true, Bool.not_eq_true', Bool.and_eq_false_iff, decide_eq_false_iff_not, decide_eq_true_eq]
                omega)]
              simp) (fun k x _ hx hb => by
            have hb := Classical.not_not.1 hb
            obtain ⟨q1, q2, q3, q4, q5, q6, q7⟩ := hb
            simp only [b94, b1e hx, Option.bind_some, hu, hn]
            rw [if_pos (by simpa using b1f hx), if_neg (by
                simp only [b2g, Bool.or_eq_true, Bool.not_eq_true', Bool.and_eq_false_iff, decide_eq_false_iff_not, decide_eq_true_eq]
                omega)]
            cases k with
            | zero => simp; rfl
            | succ j =>
              obtain ⟨y, hy⟩ := b2a (show j < h.Shifts.length by have := b1f hx; omega)
              have := q7 j y rfl hy
              rw [if_pos (by simp <;> omega), c6r (b1f hx) e3, b1e hy]
              simp only [Option.bind_some]
              rw [if_neg (by simp only [decide_eq_true_eq]; omega), b2n (b1f hx) e3]) (by simp [b94]) with ⟨d1, d2⟩ | ⟨⟨k, x, hx, hb⟩, d2⟩
        · rw [d2]
          exact .inl ⟨⟨hs, fun k x hx => Classical.not_not.1 (c1 k x hx), fun k x hx => Classical.not_not.1 (t1 k x hx), fun k x hx => Classical.not_not.1 (d1 k x hx)⟩, rfl⟩
        · rw [d2]
          exact .inr ⟨fun hv => hb (hv.2.2.2 k x hx), rfl⟩
      · rw [t2]
        exact .inr ⟨fun hv => hb (hv.2.2.1 k x hx), rfl⟩
    · rw [c2]
      exact .inr ⟨fun hv => hb (hv.2.1 k x hx), rfl⟩
  · exact .inr ⟨fun hv => hs hv.1, h1⟩
theorem d2a {h : Hall} (hk : b5c h) : (V h ∧ b3z h = some 0 ∧ b4m h = some 0) ∨ (¬ V h ∧ b3z h = some 60 ∧ b4m h = some 60) := by
  rcases g01 hk with ⟨h1, h2⟩ | ⟨h1, h2⟩ <;> rcases g02 hk with ⟨h3, h4⟩ | ⟨h3, h4⟩
  · exact .inl ⟨h1, h2, h4⟩
  · exact absurd h1 h3
  · exact absurd h3 h1
  · exact .inr ⟨h1, h2, h4⟩
end Go.Nw.HM
namespace Go.Nw.HM
def T (h : Hall) : Nat := h.Until.toNat
def b4u (h : Hall) (c : Nat) : Int := ((h.Combs[c]?).map (·.Rate)).getD 0
def b4b (c : Nat) (t : Int) (a : Int) (s : Shift) : Int := if s.Comb = (c : Int) ∧ s.At ≤ t then s.Rate else a
def b2p (h : Hall) (c : Nat) (t : Nat) : Int := h.Shifts.foldl (b4b c t) (b4u h c)
theorem b7k {h : Hall} (hv : V h) : (T h : Int) = h.Until := by have := hv.1.1; unfold T; omega
theorem b4w {h : Hall} (hv : V h) : T h ≤ 100 := by have := hv.1.2.1; unfold T; omega
def c3c (c : Nat) (a : Int) (s : Shift) : Int := if s.Comb = (c : Int) then s.Rate else a
def G (h : Hall) (c k : Nat) : Int := (h.Shifts.take k).foldl (c3c c) (b4u h c)
theorem g08 {h : Hall} {c k : Nat} {x : Shift} (hx : h.Shifts[k]? = some x) : G h c (k + 1) = if x.Comb = (c : Int) then x.Rate else G h c k := by
  unfold G
  rw [List.take_add_one, hx]
  simp [List.foldl_append, c3c]
theorem j6p {h : Hall} (hv : V h) : ∀ (d j : Nat) (x y : Shift), h.Shifts[j]? = some x → h.Shifts[j + d]? = some y → x.At ≤ y.At := by
  intro d
  induction d with
  | zero => intro j x y hx hy; rw [Nat.add_zero, hx] at hy; cases hy; exact Int.le_refl _
  | succ d ih =>
    intro j x y hx hy
    obtain ⟨z, hz⟩ := b2a (show j + d < h.Shifts.length by have := b1f hy; omega)
    have h1 := ih j x z hx hz
    have h2 := (hv.2.2.2 _ y hy).2.2.2.2.2.2 (j + d) z (by omega) hz
    omega
def d2h (h : Hall) (t : Int) (k : Nat) : Prop := k ≤ h.Shifts.length ∧ (∀ j x, j < k → h.Shifts[j]? = some x → x.At ≤ t) ∧ ∀ x, h.Shifts[k]? = some x → t < x.At
theorem g07 {h : Hall} (hv : V h) {c k t : Nat} (hu : d2h h t k) : G h c k = b2p h c t := by
  unfold G b2p
  conv => rhs; rw [← List.take_append_drop k h.Shifts, List.foldl_append]
  have e1 : (h.Shifts.take k).foldl (c3c c) (b4u h c) = (h.Shifts.take k).foldl (b4b c t) (b4u h c) := by
    have : ∀ (l : List Shift), (∀ x ∈ l, x.At ≤ (t : Int)) → ∀ a, l.foldl (c3c c) a = l.foldl (b4b c t) a := by
      intro l
      induction l with
      | nil => intro _ a; rfl
      | cons s l ih =>
        intro hl a
        simp only [List.foldl_cons]
        rw [ih (fun x hx => hl x (List.mem_cons_of_mem _ hx))]
        congr 1
        simp [c3c, b4b, hl s List.mem_cons_self]
    refine this _ (fun x hx => ?_) _
    obtain ⟨j, hj, rfl⟩ := List.getElem_of_mem hx
    have hj' : j < k := by simp at hj; omega
    have hjl : j < h.Shifts.length := by simp at hj; omega
    refine hu.2.1 j _ hj' ?_
    rw [List.getElem_take, List.getElem?_eq_getElem hjl]
  rw [e1]
  have : ∀ (l : List Shift), (∀ x ∈ l, (t : Int) < x.At) → ∀ a, l.foldl (b4b c t) a = a := by
    intro l
    induction l with
    | nil => intro _ a; rfl
    | cons s l ih =>
      intro hl a
      have := hl s List.mem_cons_self
      simp only [List.foldl_cons]
      rw [show b4b c t a s = a from by unfold b4b; rw [if_neg (by omega)]]
      exact ih (fun x hx => hl x (List.mem_cons_of_mem _ hx)) a
  refine (this _ ?_ _).symm
  intro x hx
  obtain ⟨j, hj, rfl⟩ := List.getElem_of_mem hx
  have hjl : k + j < h.Shifts.length := by simp at hj; omega
  obtain ⟨z, hz⟩ := b2a (show k < h.Shifts.length by omega)
  have h1 := hu.2.2 z hz
  have h2 := j6p hv j k z _ hz (List.getElem?_eq_getElem hjl)
  rw [List.getElem_drop]
  omega
theorem c5h {h : Hall} (hv : V h) (c t : Nat) : ∀ (d k : Nat), h.Shifts.length - k = d → k ≤ h.Shifts.length → (∀ j x, j < k → h.Shifts[j]? = some x → x.At ≤ (t : Int)) →
    ∃ k', b07 (b6z h c t) (G h c k, (k : Int)) = some (G h c k', (k' : Int)) ∧ d2h h t k' := by
  have hl : h.Shifts.length ≤ maxLen := by have := hv.1.2.2.2.2.2; simp only [maxLen]; omega
  intro d
  induction d with
  | zero =>
    intro k hd hk hb
    have : k = h.Shifts.length := by omega
    subst this
    refine ⟨h.Shifts.length, b52 (by simp [b6z]), Nat.le_refl _, hb, fun x hx => ?_⟩
    have := b1f hx; omega
  | succ d ih =>
    intro k hd hk hb
    obtain ⟨x, hx⟩ := b2a (show k < h.Shifts.length by omega)
    by_cases hat : x.At ≤ (t : Int)
    · rw [c2f (s' := (G h c (k + 1), ((k + 1 : Nat) : Int))) (by
        simp only [b6z, b1e hx, Option.bind_some]
        rw [if_pos (by simpa using b1f hx)]
        simp only [Option.bind_some, hat, decide_true, if_true, b8a, b2n (b1f hx) hl, g08 hx]
        by_cases e : x.Comb = (c : Int)
        · simp [e]
        · simp [e])]
      refine ih (k + 1) (by omega) (by omega) fun j y hj hy => ?_
      by_cases e : j = k
      · subst e; rw [hx] at hy; cases hy; exact hat
      · exact hb j y (by omega) hy
    · refine ⟨k, b52 (by
        simp only [b6z, b1e hx, Option.bind_some]
        rw [if_pos (by simpa using b1f hx)]
        simp [hat]), by omega, hb, fun y hy => ?_⟩
      rw [hx] at hy; cases hy; omega
theorem d8u {h : Hall} (hv : V h) {c : Nat} (hc : c < h.Combs.length) : b6c h c = some (tab (T h) (b2p h c)) := by
  obtain ⟨x, hx⟩ := b2a hc
  have hT := b4w hv
  unfold b6c
  rw [← b7k hv, c2h (by omega) (by omega)]
  simp only [Option.bind_some, b1e hx]
  obtain ⟨b, h1, h2⟩ := d71 (f := b79 h c (tab (T h) fun _ => 0)) (T h) (fun (s : List Int × Int × Int) k => (s.1, s.2.1, s.2.2, k))
    (fun k s => ∃ m : Nat, s = (fill (T h) (b2p h c) 0 k, G h c m, (m : Int)) ∧ m ≤ h.Shifts.length ∧ ∀ j x, j < m → h.Shifts[j]? = some x → x.At < (k : Int)) (fun b => b = tab (T h) (b2p h c))
    (fun s k hk ⟨m, hs, hm, hm2⟩ => by
      subst hs
      obtain ⟨k', i1, i2⟩ := c5h hv c k (h.Shifts.length - m) m rfl hm fun j x hj hx => by have := hm2 j x hj hx; omega
      refine .inl ⟨(fill (T h) (b2p h c) 0 (k + 1), G h c k', (k' : Int)), ?_, k', rfl, i2.1, fun j x hj hx => by have := i2.2.1 j x hj hx; omega⟩
      simp only [b79, b5o]
      rw [if_pos (by simpa using hk), i1]
      simp only [Option.bind_some, b9q, c8g hk, b9p, b2n hk (by simp only [maxLen]; omega)]
      rw [show ((k : Nat) : Int).toNat = k from by omega, c77 (g07 hv i2)])
    (fun s ⟨m, hs, _⟩ => by
      subst hs
      exact ⟨fill (T h) (b2p h c) 0 (T h), by simp [b79, b5o], by rw [c76 (Nat.le_refl _)]⟩) (s := (tab (T h) (fun _ => 0), x.Rate, 0)) 0 (by omega) ⟨0, by
        rw [← c3e, c79 (f := b2p h c)]
        simp [G, b4u, hx], by omega, fun j x hj => by omega⟩
  simp only at h1
  rw [show ((0 : Nat) : Int) = 0 from rfl] at h1
  rw [h1, h2]; rfl
theorem c6a {h : Hall} (hv : V h) {c : Nat} (t : Nat) : 0 ≤ b2p h c t ∧ b2p h c t ≤ 1000 := by
  unfold b2p
  have h0 : 0 ≤ b4u h c ∧ b4u h c ≤ 1000 := by
    unfold b4u
    cases hx : h.Combs[c]? with
    | none => simp
    | some x => have := hv.2.1 c x hx; simp [b5y] at this ⊢; omega
  have : ∀ (l : List Shift), (∀ x ∈ l, 0 ≤ x.Rate ∧ x.Rate ≤ 1000) → ∀ a, 0 ≤ a ∧ a ≤ 1000 → 0 ≤ l.foldl (b4b c t) a ∧ l.foldl (b4b c t) a ≤ 1000 := by
    intro l
    induction l with
    | nil => intro _ a ha; exact ha
    | cons s l ih =>
      intro hl a ha
      refine ih (fun x hx => hl x (List.mem_cons_of_mem _ hx)) _ ?_
      have := hl s List.mem_cons_self
      unfold b4b; split <;> omega
  refine this _ (fun x hx => ?_) _ h0
  obtain ⟨j, hj, rfl⟩ := List.getElem_of_mem hx
  have := hv.2.2.2 j _ (List.getElem?_eq_getElem hj)
  exact ⟨this.2.2.2.2.1, this.2.2.2.2.2.1⟩
end Go.Nw.HM
namespace Go.Nw.HM
def g37 (c : Nat) (y : Crowd) : Int := if y.Comb = (c : Int) then y.People.High else 0
def j62 (c s t : Nat) (x : Train) : Int := if x.At.High < (s : Int) ∨ (t : Int) < x.At.Low then 0 else (x.Crowds.map (g37 c)).sum
def g16 (h : Hall) (c s t : Nat) : Int := (h.Trains.map (j62 c s t)).sum
theorem b5p {n : Int} (h1 : -1000000000000 ≤ n) (h2 : n ≤ 1000000000000) : wr n = n := b7g (by omega) (by omega)
structure Bd where
  come : Nat → Nat → Int
  most : Nat → Int
  flow : Nat → Int
  deriving Inhabited
def c3z (b : Bd) (to k : Nat) : Int := if k < to then b.come (k + 1) to else 0
def way (b : Bd) (a to k : Nat) : Int := b1r b.flow k - b1r b.flow a + b.most k + c3z b to k
def j46 (b : Bd) (a to : Nat) : Int := d7w (min (b.come 0 to) (b1r b.flow (to + 1) - b1r b.flow a)) (way b a to) a (to + 1 - a)
def j45 (b : Bd) (from_ to_ : Int) : Int := if to_ < from_ ∨ to_ < 0 then 0 else j46 b (max from_ 0).toNat to_.toNat
def j7e (h : Hall) (c : Nat) (prev : Nat → Bd) (s t u : Nat) : Int := match h.Combs[u]? with
  | some x => if x.Next = (c : Int) then j45 (prev u) ((s : Int) - x.Walk.High) ((t : Int) - x.Walk.Low) else 0
  | none => 0
def c7z (h : Hall) (c : Nat) (prev : Nat → Bd) (s t : Nat) : Int := g16 h c s t + b1r (j7e h c prev s t) c
def d75 (come : Nat → Nat → Int) (R : Nat → Int) (t : Nat) : Int := d7v 0 (fun s => come s t - (b1r R t - b1r R s)) 0 (t + 1)
def j0d (h : Hall) (R : Nat → Nat → Int) (c : Nat) (prev : Nat → Bd) : Bd :=
  { come := c7z h c prev, most := d75 (c7z h c prev) (R c), flow := fun t => min (d75 (c7z h c prev) (R c) t) (R c t) }
def bdL (h : Hall) (R : Nat → Nat → Int) : Nat → Nat → Bd
  | 0 => fun _ => default
  | n + 1 => fun u => if u = n then j0d h R n (bdL h R n) else bdL h R n u
def bd (h : Hall) (R : Nat → Nat → Int) (c : Nat) : Bd := bdL h R (c + 1) c
end Go.Nw.HM
namespace Go.Nw.HM
structure BdOk (b : Bd) (n : Nat) (B : Int) : Prop where
  come : ∀ s t, s ≤ t → t < n → 0 ≤ b.come s t ∧ b.come s t ≤ B
  most : ∀ t, t < n → 0 ≤ b.most t ∧ b.most t ≤ B
  flow : ∀ t, t < n → 0 ≤ b.flow t ∧ b.flow t ≤ 1000
section
variable {n : Nat} {b : Bd} {B : Int} (hb : BdOk b n B) (hB : B ≤ 1000000000) (hn : n ≤ 1000) {r : Nat → Int}
include hb hB hn
end
end Go.Nw.HM
namespace Go.Nw.HM
structure Rt (h : Hall) (R : Nat → Nat → Int) : Prop where
  r : ∀ c t, c < h.Combs.length → t < T h → 0 ≤ R c t ∧ R c t ≤ 1000
section
variable {h : Hall} (hv : V h) {R : Nat → Nat → Int} (hR : Rt h R)
include hv hR
end
end Go.Nw.HM
namespace Go.Nw.HM
section
variable {h : Hall} (hv : V h) {R : Nat → Nat → Int} (hR : Rt h R)
include hv hR
end
abbrev own (h : Hall) : Nat → Bd := bd h (b2p h)
end Go.Nw.HM
namespace Go.Nw.HM
theorem d2i {h : Hall} (hv : V h) : b5c h := by
  obtain ⟨⟨s1, s2, s3, s4, s5, s6⟩, hc, ht, hs⟩ := hv
  have at_ : ∀ {α : Type} {l : List α} {x : α}, x ∈ l → ∃ k : Nat, l[k]? = some x := fun {α l x} hx => by
    obtain ⟨j, hj, rfl⟩ := List.getElem_of_mem hx
    exact ⟨j, List.getElem?_eq_getElem hj⟩
  refine ⟨⟨by simp only [maxLen]; omega, fun x hx => ?_⟩, ⟨by simp only [maxLen]; omega, fun x hx => ?_⟩, ⟨by simp only [maxLen]; omega, fun x hx => ?_⟩, by unfold b2x; omega⟩
  · obtain ⟨k, hk⟩ := at_ hx
    have := hc k x hk
    unfold b5y at this
    simp only [c0r, b8x, b2x]; omega
  · obtain ⟨k, hk⟩ := at_ hx
    obtain ⟨q1, q2, q3, q4, q5⟩ := ht k x hk
    refine ⟨by simp only [b8x, b2x]; omega, by simp only [maxLen]; omega, fun y hy => ?_⟩
    obtain ⟨j, hj⟩ := at_ hy
    have h5 := q5 j y hj
    have : -1 < y.Comb := by
      have key : ∀ (j : Nat) (y : Crowd), x.Crowds[j]? = some y → -1 < y.Comb := by
        intro j
        induction j with
        | zero => intro y hy; exact (q5 0 y hy).2.2.2.2
        | succ j ih =>
          intro y hy
          obtain ⟨z, hz⟩ := b2a (show j < x.Crowds.length by have := b1f hy; omega)
          have := ih z hz
          have := (q5 (j + 1) y hy).2.2.2.2 z hz
          omega
      exact key j y hj
    unfold b4i at h5
    simp only [c0s, b8x, b2x]; omega
  · obtain ⟨k, hk⟩ := at_ hx
    have := hs k x hk
    unfold b9a at this
    simp only [c0t, b2x]; omega
theorem d2b {h : Hall} (hv : V h) : b3z h = some 0 ∧ b4m h = some 0 := by
  rcases d2a (d2i hv) with ⟨_, h1, h2⟩ | ⟨h1, _⟩
  · exact ⟨h1, h2⟩
  · exact absurd hv h1
theorem d3c {h : Hall} (hv : V h) (c : Int) (ts : List Int) (hl : ts.length ≤ maxLen) :
    b5z h c ts = some (if (0 ≤ c ∧ c < h.Combs.length) ∧ ∀ t ∈ ts, 0 ≤ t ∧ t < h.Until then 0 else 1) := by
  unfold b5z
  rw [(d2b hv).1]
  simp only [Option.bind_some]
  rw [if_neg (by simp)]
  by_cases q : 0 ≤ c ∧ c < h.Combs.length
  · rw [if_neg (by simp; omega)]
    obtain ⟨b, b1, b2⟩ := c9s (l := ts) (f := fun z => some (b6a z h)) (p := fun t => ¬ (0 ≤ t ∧ t < h.Until)) hl fun t ht => ⟨_, rfl, by
      simp only [b6a, Bool.or_eq_true, decide_eq_true_eq]; omega⟩
    rw [b1]
    simp only [Option.bind_some]
    cases b with
    | true =>
      obtain ⟨t, h1, h2⟩ := b2.1 rfl
      rw [if_pos rfl, if_neg fun hh => h2 (hh.2 t h1)]
    | false =>
      rw [if_neg (by simp), if_pos ⟨q, fun t ht => Classical.byContradiction fun hh => by have := b2.2 ⟨t, ht, hh⟩; cases this⟩]
  · rw [if_pos (by simp; omega)]
    simp only [Option.bind_some, if_true]
    rw [if_neg fun hh => q hh.1]
theorem g3z {h : Hall} (hv : V h) {c : Nat} (hc : c < h.Combs.length) : b5z h c [] = some 0 := by
  rw [d3c hv c [] (by simp), if_pos ⟨by omega, fun t ht => by cases ht⟩]
section
variable {h : Hall} (hv : V h) {c : Nat} (hc : c < h.Combs.length) {r : Int} (hr : 0 ≤ r ∧ r ≤ 1000)
include hv hc
end
end Go.Nw.HM
namespace Go.Nw.HM
section
variable {h : Hall} (hv : V h) {c : Nat} (hc : c < h.Combs.length)
include hv hc
end
end Go.Nw.HM
namespace Go.Nw.HM
theorem d8v {h : Hall} (hv : V h) {c : Nat} (hc : c < h.Combs.length) : c0e h c = some (tab (T h) (b2p h c)) := by
  obtain ⟨x, hx⟩ := b2a hc
  have hT := b4w hv
  have hTi := b7k hv
  have hl : h.Shifts.length ≤ maxLen := by have := hv.1.2.2.2.2.2; simp only [maxLen]; omega
  unfold c0e
  rw [← hTi, c2h (by omega) (by omega)]
  simp only [Option.bind_some]
  have := b4t (f := c2t h c) (T h) (fun s k => (s, k)) (fill (T h) (b2p h c) 0) (tab (T h) (b2p h c)) (s0 := tab (T h) fun _ => 0) (by rw [← c3e, c79]) (fun t ht => by
    simp only [c2t]
    rw [← hTi, if_pos (by simpa using ht), b1e hx]
    simp only [Option.bind_some]
    rw [c8g ht]
    simp only [Option.bind_some]
    have ein := b4t (f := c2s h c t) h.Shifts.length (fun s k => (s, k)) (fun j => (fill (T h) (b2p h c) 0 t).set t ((h.Shifts.take j).foldl (b4b c t) (b4u h c))) (fill (T h) (b2p h c) 0 (t + 1))
      (s0 := (fill (T h) (b2p h c) 0 t).set ((t : Int)).toNat x.Rate) (by simp [b4u, hx]) (fun j hj => by
        obtain ⟨y, hy⟩ := b2a hj
        simp only [c2s, b1e hy, Option.bind_some]
        rw [if_pos (by simpa using hj), List.take_add_one, hy]
        simp only [Option.toList_some, List.foldl_append, List.foldl_cons, List.foldl_nil]
        by_cases e : y.Comb = (c : Int) ∧ y.At ≤ (t : Int)
        · rw [if_pos (by simpa using e), show b4b c t _ y = y.Rate from if_pos e]
          rw [show get ((fill (T h) (b2p h c) 0 t).set t ((h.Shifts.take j).foldl (b4b c t) (b4u h c))) (t : Int) = some ((h.Shifts.take j).foldl (b4b c t) (b4u h c)) from by unfold fill; rw [c6o, b3y ht, if_pos rfl]]
          simp only [Option.bind_some, c0f, b2n hj hl]
          rw [show ((t : Nat) : Int).toNat = t from by omega, List.set_set]
        · rw [if_neg (by simpa using e), show b4b c t _ y = _ from if_neg e]
          simp only [c0f, b2n hj hl]) (by
        simp only [c2s]
        rw [if_neg (by simp), List.take_length, c77 (f := b2p h c) (v := h.Shifts.foldl (b4b c t) (b4u h c)) rfl])
    rw [ein]
    simp only [Option.bind_some, c59, b2n ht (show T h ≤ maxLen by simp only [maxLen]; omega)]) (by
    simp only [c2t]
    rw [← hTi, if_neg (by simp), c76 (Nat.le_refl _)])
  rw [this]; rfl
def shA (h : Hall) (f : Nat) : List Shift := h.Shifts.filter fun s => decide (s.At ≤ (f : Int))
section
variable {h : Hall} (hv : V h) {c : Nat} (hc : c < h.Combs.length) {f k : Nat} (hf : f < T h) (hk : 0 < k) (hfk : f + k ≤ T h)
end
end Go.Nw.HM
namespace Go.Nw.HM
section
variable {h : Hall} (hv : V h) {c : Nat} {f k : Nat}
include hv
end
section
variable {h : Hall} (hv : V h) {c : Nat} (hc : c < h.Combs.length) {f : Nat} (hf : f < T h)
include hv hc hf
end
end Go.Nw.HM
namespace Go.Nw.HM
def c1d (x : Train) (a : Int) (p : List Int) : Prop := (x.At.Low ≤ a ∧ a ≤ x.At.High) ∧ p.length = x.Crowds.length ∧ ∀ (k : Nat) y n, x.Crowds[k]? = some y → p[k]? = some n → y.People.Low ≤ n ∧ n ≤ y.People.High
def c1e (x : Comb) (w : List Int) : Prop := 1 ≤ w.length ∧ w.length ≤ 20 ∧ ∀ n ∈ w, x.Walk.Low ≤ n ∧ n ≤ x.Walk.High
structure Fit (h : Hall) (d : Day) : Prop where
  at_ : d.At.length = h.Trains.length
  people : d.People.length = h.Trains.length
  walks : d.Walks.length = h.Combs.length
  ride : ∀ (i : Nat) x a p, h.Trains[i]? = some x → d.At[i]? = some a → d.People[i]? = some p → c1d x a p
  walk : ∀ (u : Nat) x w, h.Combs[u]? = some x → d.Walks[u]? = some w → c1e x w
section
variable {d : Day} {i : Nat} {x : Train} {p : List Int} (hp : d.People[i]? = some p) (hl : p.length = x.Crowds.length) (hm : x.Crowds.length ≤ maxLen)
include hp hl hm
theorem d3f : ((∀ (k : Nat) y n, x.Crowds[k]? = some y → p[k]? = some n → y.People.Low ≤ n ∧ n ≤ y.People.High) ∧ b07 (b6x d i x) 0 = some (.inl ())) ∨
    ((∃ (k : Nat) (y : Crowd) (n : Int), x.Crowds[k]? = some y ∧ p[k]? = some n ∧ ¬ (y.People.Low ≤ n ∧ n ≤ y.People.High)) ∧ b07 (b6x d i x) 0 = some (.inr false)) := by
  rcases b53 (f := b6x d i x) x.Crowds (fun k y => ∃ n, p[k]? = some n ∧ ¬ (y.People.Low ≤ n ∧ n ≤ y.People.High)) (.inr false) (.inl ()) (fun k y hy hb => by
      obtain ⟨n, hn, hb⟩ := hb
      simp only [b6x, b1e hy, b1e hp, b1e hn, Option.bind_some]
      rw [if_pos (by simpa using b1f hy), if_pos]
      simp only [b28, Bool.not_eq_true', Bool.and_eq_false_iff, decide_eq_false_iff_not]; omega) (fun k y hy hb => by
      obtain ⟨n, hn⟩ := b2a (show k < p.length by rw [hl]; exact b1f hy)
      simp only [b6x, b1e hy, b1e hp, b1e hn, Option.bind_some]
      rw [if_pos (by simpa using b1f hy), if_neg, b2n (b1f hy) hm]
      have hb : y.People.Low ≤ n ∧ n ≤ y.People.High := Classical.not_not.1 fun hh => hb ⟨n, hn, hh⟩
      simp only [b28, Bool.not_eq_true', Bool.and_eq_false_iff, decide_eq_false_iff_not]; omega) (by simp [b6x]) with ⟨h1, h2⟩ | ⟨⟨k, y, hy, n, hn, hb⟩, h2⟩
  · exact .inl ⟨fun k y n hy hn => Classical.not_not.1 fun hh => h1 k y hy ⟨n, hn, hh⟩, h2⟩
  · exact .inr ⟨⟨k, y, n, hy, hn, hb⟩, h2⟩
theorem d3g : ((∀ (k : Nat) y n, x.Crowds[k]? = some y → p[k]? = some n → y.People.Low ≤ n ∧ n ≤ y.People.High) ∧ b07 (b7a d i x) 0 = some (.inl ())) ∨
    ((∃ (k : Nat) (y : Crowd) (n : Int), x.Crowds[k]? = some y ∧ p[k]? = some n ∧ ¬ (y.People.Low ≤ n ∧ n ≤ y.People.High)) ∧ b07 (b7a d i x) 0 = some (.inr false)) := by
  rcases b53 (f := b7a d i x) x.Crowds (fun k y => ∃ n, p[k]? = some n ∧ ¬ (y.People.Low ≤ n ∧ n ≤ y.People.High)) (.inr false) (.inl ()) (fun k y hy hb => by
      obtain ⟨n, hn, hb⟩ := hb
      simp only [b7a, b1e hy, b1e hp, b1e hn, Option.bind_some]
      rw [if_pos (by simpa using b1f hy), if_pos]
      simp only [b2g, Bool.not_eq_true', Bool.and_eq_false_iff, decide_eq_false_iff_not]; omega) (fun k y hy hb => by
      obtain ⟨n, hn⟩ := b2a (show k < p.length by rw [hl]; exact b1f hy)
      simp only [b7a, b1e hy, b1e hp, b1e hn, Option.bind_some]
      rw [if_pos (by simpa using b1f hy), if_neg, b2n (b1f hy) hm]
      have hb : y.People.Low ≤ n ∧ n ≤ y.People.High := Classical.not_not.1 fun hh => hb ⟨n, hn, hh⟩
      simp only [b2g, Bool.not_eq_true', Bool.and_eq_false_iff, decide_eq_false_iff_not]; omega) (by simp [b7a]) with ⟨h1, h2⟩ | ⟨⟨k, y, hy, n, hn, hb⟩, h2⟩
  · exact .inl ⟨fun k y n hy hn => Classical.not_not.1 fun hh => h1 k y hy ⟨n, hn, hh⟩, h2⟩
  · exact .inr ⟨⟨k, y, n, hy, hn, hb⟩, h2⟩
end
section
variable {h : Hall} (hv : V h) {d : Day} (hd : b7i d)
include hv hd
theorem d7g : (Fit h d ∧ b74 h d = some true) ∨ (¬ Fit h d ∧ b74 h d = some false) := by
  have hn := hv.1.2.2.2.1
  have ht := hv.1.2.2.2.2.1
  unfold b74
  by_cases q : d.At.length = h.Trains.length ∧ d.People.length = h.Trains.length ∧ d.Walks.length = h.Combs.length
  · obtain ⟨q1, q2, q3⟩ := q
    rw [if_neg (by simp; omega)]
    rcases b53 (f := b9j h d) h.Trains (fun i x => ∃ a p, d.At[i]? = some a ∧ d.People[i]? = some p ∧ ¬ c1d x a p) (.inr false) (.inl ()) (fun i x hx hb => by
        obtain ⟨a, p, ha, hp, hb⟩ := hb
        simp only [b9j, b1e hx, b1e ha, b1e hp, Option.bind_some]
        rw [if_pos (by simpa using b1f hx)]
        by_cases r1 : x.At.Low ≤ a ∧ a ≤ x.At.High
        · rw [if_neg (by simp only [b28, Bool.not_eq_true', Bool.and_eq_false_iff, decide_eq_false_iff_not]; omega)]
          simp only [Option.bind_some]
          by_cases r2 : p.length = x.Crowds.length
          · rw [if_neg (by simp; omega)]
            rcases d3f hp r2 (by have := (hv.2.2.1 i x hx).2.2.2.1; simp only [maxLen]; omega) with ⟨c1, _⟩ | ⟨_, c2⟩
            · exact absurd ⟨r1, r2, c1⟩ hb
            · rw [c2]; rfl
          · rw [if_pos (by simp; omega)]
        · rw [if_pos (by simp only [b28, Bool.not_eq_true', Bool.and_eq_false_iff, decide_eq_false_iff_not]; omega)]
          simp only [Option.bind_some, if_true]) (fun i x hx hb => by
        obtain ⟨a, ha⟩ := b2a (show i < d.At.length by rw [q1]; exact b1f hx)
        obtain ⟨p, hp⟩ := b2a (show i < d.People.length by rw [q2]; exact b1f hx)
        obtain ⟨r1, r2, r3⟩ : c1d x a p := Classical.not_not.1 fun hh => hb ⟨a, p, ha, hp, hh⟩
        simp only [b9j, b1e hx, b1e ha, b1e hp, Option.bind_some]
        rw [if_pos (by simpa using b1f hx), if_neg (by simp only [b28, Bool.not_eq_true', Bool.and_eq_false_iff, decide_eq_false_iff_not]; omega)]
        simp only [Option.bind_some]
        rw [if_neg (by simp; omega)]
        rcases d3f hp r2 (by have := (hv.2.2.1 i x hx).2.2.2.1; simp only [maxLen]; omega) with ⟨_, c2⟩ | ⟨⟨k, y, n, hy, hn', hb⟩, _⟩
        · rw [c2]; simp only [Option.bind_some, c40, b2n (b1f hx) (show h.Trains.length ≤ maxLen by simp only [maxLen]; omega)]
        · exact absurd (r3 k y n hy hn') hb) (by simp [b9j]) with ⟨t1, t2⟩ | ⟨⟨i, x, hx, a, p, ha, hp, hb⟩, t2⟩
    · rw [t2]
      simp only [Option.bind_some, c41]
      rcases b53 (f := b9k h d) h.Combs (fun u x => ∃ w, d.Walks[u]? = some w ∧ ¬ c1e x w) (.inr false) (.inl ()) (fun u x hx hb => by
          obtain ⟨w, hw, hb⟩ := hb
          have hwl : w.length ≤ maxLen := (hd.2.2.2 w (List.mem_of_getElem? hw)).1
          simp only [b9k, b1e hx, b1e hw, Option.bind_some]
          rw [if_pos (by simpa using b1f hx)]
          by_cases r1 : 1 ≤ w.length ∧ w.length ≤ 20
          · rw [if_neg (by simp; omega)]
            obtain ⟨b, b1, b2⟩ := c9s (l := w) (f := fun z20 => some (b6b z20 x)) (p := fun n => ¬ (x.Walk.Low ≤ n ∧ n ≤ x.Walk.High)) hwl (fun n _ => ⟨_, rfl, by
              simp only [b6b, b28, Bool.not_eq_true', Bool.and_eq_false_iff, decide_eq_false_iff_not]; omega⟩)
            rw [b1]
            simp only [Option.bind_some]
            have : b = true := b2.2 (Classical.byContradiction fun hh => hb ⟨r1.1, r1.2, fun n hn => Classical.not_not.1 fun hh2 => hh ⟨n, hn, hh2⟩⟩)
            rw [this, if_pos rfl]
          · rw [if_pos (by simp; omega)]
            simp only [Option.bind_some, if_true]) (fun u x hx hb => by
          obtain ⟨w, hw⟩ := b2a (show u < d.Walks.length by rw [q3]; exact b1f hx)
          obtain ⟨r1, r2, r3⟩ : c1e x w := Classical.not_not.1 fun hh => hb ⟨w, hw, hh⟩
          simp only [b9k, b1e hx, b1e hw, Option.bind_some]
          rw [if_pos (by simpa using b1f hx), if_neg (by simp; omega)]
          obtain ⟨b, b1, b2⟩ := c9s (l := w) (f := fun z20 => some (b6b z20 x)) (p := fun n => ¬ (x.Walk.Low ≤ n ∧ n ≤ x.Walk.High)) (by simp only [maxLen]; omega) (fun n _ => ⟨_, rfl, by
            simp only [b6b, b28, Bool.not_eq_true', Bool.and_eq_false_iff, decide_eq_false_iff_not]; omega⟩)
          rw [b1]
          simp only [Option.bind_some]
          have : b = false := d2t fun hh => by
            obtain ⟨n, hn, hbad⟩ := b2.1 hh
            exact hbad (r3 n hn)
          rw [this, if_neg (by simp), b2n (b1f hx) (show h.Combs.length ≤ maxLen by simp only [maxLen]; omega)]) (by simp [b9k]) with ⟨w1, w2⟩ | ⟨⟨u, x, hx, w, hw, hb⟩, w2⟩
      · rw [w2]
        exact .inl ⟨⟨q1, q2, q3, fun i x a p hx ha hp => Classical.not_not.1 fun hh => t1 i x hx ⟨a, p, ha, hp, hh⟩, fun u x w hx hw => Classical.not_not.1 fun hh => w1 u x hx ⟨w, hw, hh⟩⟩, rfl⟩
      · rw [w2]
        exact .inr ⟨fun hf => hb (hf.walk u x w hx hw), rfl⟩
    · rw [t2]
      exact .inr ⟨fun hf => hb (hf.ride i x a p hx ha hp), rfl⟩
  · rw [if_pos (by simp; omega)]
    exact .inr ⟨fun hf => q ⟨hf.at_, hf.people, hf.walks⟩, rfl⟩
theorem g42 : (Fit h d ∧ b95 h d = some true) ∨ (¬ Fit h d ∧ b95 h d = some false) := by
  have hn := hv.1.2.2.2.1
  have ht := hv.1.2.2.2.2.1
  unfold b95
  by_cases q : d.At.length = h.Trains.length ∧ d.People.length = h.Trains.length ∧ d.Walks.length = h.Combs.length
  · obtain ⟨q1, q2, q3⟩ := q
    rw [if_neg (by simp; omega)]
    rcases b53 (f := b97 h d) h.Trains (fun i x => ∃ a p, d.At[i]? = some a ∧ d.People[i]? = some p ∧ ¬ c1d x a p) (.inr false) (.inl ()) (fun i x hx hb => by
        obtain ⟨a, p, ha, hp, hb⟩ := hb
        simp only [b97, b1e hx, b1e ha, b1e hp, Option.bind_some]
        rw [if_pos (by simpa using b1f hx)]
        by_cases r1 : x.At.Low ≤ a ∧ a ≤ x.At.High
        · rw [if_neg (by simp only [b2g, Bool.not_eq_true', Bool.and_eq_false_iff, decide_eq_false_iff_not]; omega)]
          simp only [Option.bind_some]
          by_cases r2 : p.length = x.Crowds.length
          · rw [if_neg (by simp; omega)]
            rcases d3g hp r2 (by have := (hv.2.2.1 i x hx).2.2.2.1; simp only [maxLen]; omega) with ⟨c1, _⟩ | ⟨_, c2⟩
            · exact absurd ⟨r1, r2, c1⟩ hb
            · rw [c2]; rfl
          · rw [if_pos (by simp; omega)]
        · rw [if_pos (by simp only [b2g, Bool.not_eq_true', Bool.and_eq_false_iff, decide_eq_false_iff_not]; omega)]
          simp only [Option.bind_some, if_true]) (fun i x hx hb => by
        obtain ⟨a, ha⟩ := b2a (show i < d.At.length by rw [q1]; exact b1f hx)
        obtain ⟨p, hp⟩ := b2a (show i < d.People.length by rw [q2]; exact b1f hx)
        obtain ⟨r1, r2, r3⟩ : c1d x a p := Classical.not_not.1 fun hh => hb ⟨a, p, ha, hp, hh⟩
        simp only [b97, b1e hx, b1e ha, b1e hp, Option.bind_some]
        rw [if_pos (by simpa using b1f hx), if_neg (by simp only [b2g, Bool.not_eq_true', Bool.and_eq_false_iff, decide_eq_false_iff_not]; omega)]
        simp only [Option.bind_some]
        rw [if_neg (by simp; omega)]
        rcases d3g hp r2 (by have := (hv.2.2.1 i x hx).2.2.2.1; simp only [maxLen]; omega) with ⟨_, c2⟩ | ⟨⟨k, y, n, hy, hn', hb⟩, _⟩
        · rw [c2]; simp only [Option.bind_some, c53, b2n (b1f hx) (show h.Trains.length ≤ maxLen by simp only [maxLen]; omega)]
        · exact absurd (r3 k y n hy hn') hb) (by simp [b97]) with ⟨t1, t2⟩ | ⟨⟨i, x, hx, a, p, ha, hp, hb⟩, t2⟩
    · rw [t2]
      simp only [Option.bind_some, c54]
      have c5h : ∀ (u : Nat) x w, h.Combs[u]? = some x → d.Walks[u]? = some w → ((∀ n ∈ w, x.Walk.Low ≤ n ∧ n ≤ x.Walk.High) ∧ b07 (b7b h d u) 0 = some (.inl ())) ∨ ((∃ n ∈ w, ¬ (x.Walk.Low ≤ n ∧ n ≤ x.Walk.High)) ∧ b07 (b7b h d u) 0 = some (.inr false)) := fun u x w hx hw => by
        have hwl : w.length ≤ maxLen := (hd.2.2.2 w (List.mem_of_getElem? hw)).1
        rcases b53 (f := b7b h d u) w (fun _ n => ¬ (x.Walk.Low ≤ n ∧ n ≤ x.Walk.High)) (.inr false) (.inl ()) (fun k n hn hb => by
            simp only [b7b, b1e hw, b1e hn, b1e hx, Option.bind_some]
            rw [if_pos (by simpa using b1f hn), if_pos]
            simp only [b2g, Bool.not_eq_true', Bool.and_eq_false_iff, decide_eq_false_iff_not]; omega) (fun k n hn hb => by
            simp only [b7b, b1e hw, b1e hn, b1e hx, Option.bind_some]
            rw [if_pos (by simpa using b1f hn), if_neg, b2n (b1f hn) hwl]
            simp only [b2g, Bool.not_eq_true', Bool.and_eq_false_iff, decide_eq_false_iff_not]; omega) (by simp [b7b, b1e hw]) with ⟨h1, h2⟩ | ⟨⟨k, n, hn, hb⟩, h2⟩
        · refine .inl ⟨fun n hn => ?_, h2⟩
          obtain ⟨j, hj, rfl⟩ := List.getElem_of_mem hn
          exact Classical.not_not.1 (h1 j _ (List.getElem?_eq_getElem hj))
        · exact .inr ⟨⟨n, List.mem_of_getElem? hn, hb⟩, h2⟩
      rcases b53 (f := b98 h d) h.Combs (fun u x => ∃ w, d.Walks[u]? = some w ∧ ¬ c1e x w) (.inr false) (.inl ()) (fun u x hx hb => by
          obtain ⟨w, hw, hb⟩ := hb
          simp only [b98, b1e hw, Option.bind_some]
          rw [if_pos (by simpa using b1f hx)]
          by_cases r1 : 1 ≤ w.length ∧ w.length ≤ 20
          · rw [if_neg (by simp only [b2g, Bool.not_eq_true', Bool.and_eq_false_iff, decide_eq_false_iff_not]; omega)]
            rcases c5h u x w hx hw with ⟨i1, _⟩ | ⟨_, i2⟩
            · exact absurd ⟨r1.1, r1.2, i1⟩ hb
            · rw [i2]; rfl
          · rw [if_pos (by simp only [b2g, Bool.not_eq_true', Bool.and_eq_false_iff, decide_eq_false_iff_not]; omega)]) (fun u x hx hb => by
          obtain ⟨w, hw⟩ := b2a (show u < d.Walks.length by rw [q3]; exact b1f hx)
          obtain ⟨r1, r2, r3⟩ : c1e x w := Classical.not_not.1 fun hh => hb ⟨w, hw, hh⟩
          simp only [b98, b1e hw, Option.bind_some]
          rw [if_pos (by simpa using b1f hx), if_neg (by simp only [b2g, Bool.not_eq_true', Bool.and_eq_false_iff, decide_eq_false_iff_not]; omega)]
          rcases c5h u x w hx hw with ⟨_, i2⟩ | ⟨⟨n, hn, hb⟩, _⟩
          · rw [i2]; simp only [Option.bind_some, c52, b2n (b1f hx) (show h.Combs.length ≤ maxLen by simp only [maxLen]; omega)]
          · exact absurd (r3 n hn) hb) (by simp [b98]) with ⟨w1, w2⟩ | ⟨⟨u, x, hx, w, hw, hb⟩, w2⟩
      · rw [w2]
        exact .inl ⟨⟨q1, q2, q3, fun i x a p hx ha hp => Classical.not_not.1 fun hh => t1 i x hx ⟨a, p, ha, hp, hh⟩, fun u x w hx hw => Classical.not_not.1 fun hh => w1 u x hx ⟨w, hw, hh⟩⟩, rfl⟩
      · rw [w2]
        exact .inr ⟨fun hf => hb (hf.walk u x w hx hw), rfl⟩
    · rw [t2]
      exact .inr ⟨fun hf => hb (hf.ride i x a p hx ha hp), rfl⟩
  · rw [if_pos (by simp; omega)]
    exact .inr ⟨fun hf => q ⟨hf.at_, hf.people, hf.walks⟩, rfl⟩
end
end Go.Nw.HM
namespace Go.Nw.HM
theorem d8f {f g : Nat → Int} {c : Nat} (h : ∀ u, u ≠ c → f u = g u) : ∀ {n : Nat}, c < n → b1r f n = b1r g n + (f c - g c)
  | 0, hc => by omega
  | n + 1, hc => by
    rw [b49, b49]
    by_cases e : c = n
    · subst e
      rw [c2i fun i hi => h i (by omega)]; omega
    · rw [d8f h (by omega), h n (by omega)]; omega
theorem c5u {f : Nat → Int} {n : Nat} (h : ∀ i, i < n → f i = 0) : b1r f n = 0 := by
  have := b64 (f := f) (B := 0) (k := n) fun i hi => by have := h i hi; omega
  omega
theorem d8e {f : Nat → Int} {s : Nat} (h : ∀ i, s ≤ i → f i = 0) : ∀ {m : Nat}, s ≤ m → b1r f m = b1r f s
  | 0, hm => by rw [show s = 0 by omega]
  | m + 1, hm => by
    by_cases e : s = m + 1
    · rw [e]
    · rw [b49, d8e h (by omega), h m (by omega)]; omega
def dAt (d : Day) (i : Nat) : Int := (d.At[i]?).getD 0
def dPe (d : Day) (i k : Nat) : Int := (((d.People[i]?).getD [])[k]?).getD 0
def wlk (d : Day) (u t : Nat) : Nat := ((((d.Walks[u]?).getD [])[t % ((d.Walks[u]?).getD []).length]?).getD 0).toNat
def tr (h : Hall) (i : Nat) : Train := (h.Trains[i]?).getD default
def crC (h : Hall) (i k : Nat) : Int := (((tr h i).Crowds[k]?).map (·.Comb)).getD (-1)
def nxt (h : Hall) (u : Nat) : Int := ((h.Combs[u]?).map (·.Next)).getD (-1)
def b4q (h : Hall) (d : Day) (c i k : Nat) : Int := if crC h i k = (c : Int) then dPe d i k else 0
def b3r (h : Hall) (d : Day) (t c i : Nat) : Int := if dAt d i = (t : Int) then b1r (b4q h d c i) (tr h i).Crowds.length else 0
def arr (h : Hall) (d : Day) (t c : Nat) : Int := b1r (b3r h d t c) h.Trains.length
def psN (h : Hall) (n : Nat → Nat → Int) (t c : Nat) : Int := min (n t c) (b2p h c t)
def lfN (h : Hall) (n : Nat → Nat → Int) (t c : Nat) : Int := n t c - psN h n t c
def Wt (h : Hall) (d : Day) (p : Nat → Nat → Int) (s e u t : Nat) : Int := if nxt h u = (e : Int) ∧ t + wlk d u t = s then p t u else 0
def b8k (h : Hall) (d : Day) (n : Nat → Nat → Int) (t c : Nat) : Int := (arr h d t c + b1r (fun u => b1r (Wt h d (psN h n) t c u) t) h.Combs.length) + if 0 < t then lfN h n (t - 1) c else 0
def nL (h : Hall) (d : Day) : Nat → Nat → Nat → Int
  | 0 => fun _ _ => 0
  | k + 1 => fun t c => if t = k then b8k h d (nL h d k) k c else nL h d k t c
def nn (h : Hall) (d : Day) (t c : Nat) : Int := nL h d (t + 1) t c
abbrev ps (h : Hall) (d : Day) : Nat → Nat → Int := psN h (nn h d)
abbrev lf (h : Hall) (d : Day) : Nat → Nat → Int := lfN h (nn h d)
theorem j5v {h : Hall} {d : Day} {p q : Nat → Nat → Int} {t c : Nat} (hpq : ∀ t', t' < t → ∀ c, p t' c = q t' c) : b8k h d p t c = b8k h d q t c := by
  unfold b8k
  congr 1
  · congr 1
    refine c2i fun u _ => c2i fun t' ht' => ?_
    unfold Wt psN
    rw [hpq t' ht']
  · split
    · unfold lfN psN; rw [hpq (t - 1) (by omega)]
    · rfl
theorem j0l {h : Hall} {d : Day} {k t c : Nat} (ht : t < k) : nL h d k t c = nn h d t c := by
  induction k with
  | zero => omega
  | succ k ih =>
    by_cases e : t = k
    · subst e; rfl
    · show (if t = k then _ else nL h d k t c) = _
      rw [if_neg e]; exact ih (by omega)
theorem d07 {h : Hall} {d : Day} {t c : Nat} : nn h d t c = b8k h d (nn h d) t c := by
  show (if t = t then b8k h d (nL h d t) t c else _) = _
  rw [if_pos rfl]
  exact j5v fun t' ht' c => j0l ht'
section
variable {h : Hall} {d : Day}
def Cm (h : Hall) (d : Day) (m : Nat → Nat) (s e : Nat) : Int := arr h d s e + b1r (fun u => b1r (Wt h d (ps h d) s e u) (m u)) h.Combs.length
def Pm (h : Hall) (d : Day) (m : Nat → Nat) (s e : Nat) : Int := Cm h d m s e + if 0 < s ∧ s ≤ m e then lf h d (s - 1) e else 0
theorem c7l {m m' : Nat → Nat} {c : Nat} (hc : c < h.Combs.length) (h1 : ∀ u, u ≠ c → m' u = m u) (h2 : m' c = m c + 1) (s e : Nat) : Cm h d m' s e = Cm h d m s e + Wt h d (ps h d) s e c (m c) := by
  unfold Cm
  rw [d8f (f := fun u => b1r (Wt h d (ps h d) s e u) (m' u)) (g := fun u => b1r (Wt h d (ps h d) s e u) (m u)) (c := c) (fun u hu => by simp only [h1 u hu]) hc]
  simp only [h2, b49]
  omega
theorem d2e {m m' : Nat → Nat} {c : Nat} (hc : c < h.Combs.length) (h1 : ∀ u, u ≠ c → m' u = m u) (h2 : m' c = m c + 1) (s e : Nat) :
    Pm h d m' s e = (Pm h d m s e + if s = m c + 1 ∧ e = c then lf h d (m c) c else 0) + Wt h d (ps h d) s e c (m c) := by
  unfold Pm
  rw [c7l hc h1 h2]
  by_cases e1 : e = c
  · subst e1
    rw [h2]
    by_cases q : s = m e + 1
    · subst q
      rw [if_pos (by omega), if_neg (by omega), if_pos (by omega), Nat.add_sub_cancel]; omega
    · rw [if_neg (c := s = m e + 1 ∧ e = e) (by omega)]
      by_cases q2 : 0 < s ∧ s ≤ m e
      · rw [if_pos (by omega), if_pos q2]; omega
      · rw [if_neg (by omega), if_neg q2]; omega
  · rw [h1 e e1, if_neg (c := s = m c + 1 ∧ e = c) (by omega)]; omega
variable (hv : V h) (hf : Fit h d)
include hv hf
theorem d1z {u : Nat} (hu : u < h.Combs.length) (t : Nat) : ∃ x w, h.Combs[u]? = some x ∧ d.Walks[u]? = some w ∧ 1 ≤ w.length ∧ w.length ≤ 20 ∧ w[t % w.length]? = some (wlk d u t : Int) ∧ x.Walk.Low ≤ wlk d u t ∧ wlk d u t ≤ x.Walk.High ∧ 1 ≤ wlk d u t ∧ wlk d u t ≤ 20 := by
  obtain ⟨x, hx⟩ := b2a hu
  obtain ⟨w, hw⟩ := b2a (show u < d.Walks.length by rw [hf.walks]; exact hu)
  obtain ⟨g1, g2, g3⟩ := hf.walk u x w hx hw
  have hg := hv.2.1 u x hx
  unfold b5y at hg
  obtain ⟨n, hn⟩ := b2a (show t % w.length < w.length from Nat.mod_lt _ (by omega))
  have := g3 n (List.mem_of_getElem? hn)
  have e : wlk d u t = n.toNat := by unfold wlk; rw [hw]; simp [hn]
  rw [e]
  refine ⟨x, w, hx, hw, g1, g2, ?_, by omega, by omega, by omega, by omega⟩
  rw [hn]; congr 1; omega
theorem g1e {s e u t : Nat} (hu : u < h.Combs.length) (ht : s ≤ t) (p : Nat → Nat → Int) : Wt h d p s e u t = 0 := by
  obtain ⟨x, w, _, _, _, _, _, _, _, h1, _⟩ := d1z hv hf hu t
  unfold Wt; rw [if_neg (by omega)]
theorem g03 {m : Nat → Nat} {s e : Nat} (hm : ∀ u, u < h.Combs.length → nxt h u = (e : Int) → s ≤ m u) : Cm h d m s e = arr h d s e + b1r (fun u => b1r (Wt h d (ps h d) s e u) s) h.Combs.length := by
  unfold Cm
  congr 1
  refine c2i fun u hu => ?_
  by_cases q : nxt h u = (e : Int)
  · exact d8e (fun i hi => g1e hv hf hu hi _) (hm u hu q)
  · rw [c5u fun i _ => by unfold Wt; rw [if_neg fun hh => q hh.1], c5u fun i _ => by unfold Wt; rw [if_neg fun hh => q hh.1]]
theorem d8a {m : Nat → Nat} {s e : Nat} (hm : ∀ u, u < h.Combs.length → nxt h u = (e : Int) → s ≤ m u) : nn h d s e = Cm h d m s e + if 0 < s then lf h d (s - 1) e else 0 := by
  rw [d07, g03 hv hf hm]; rfl
theorem d8b {m : Nat → Nat} {s e : Nat} (hm : ∀ u, u < h.Combs.length → nxt h u = (e : Int) → s ≤ m u) (he : s ≤ m e) : nn h d s e = Pm h d m s e := by
  rw [d8a hv hf hm]
  unfold Pm
  by_cases q : 0 < s
  · rw [if_pos q, if_pos ⟨q, he⟩]
  · rw [if_neg q, if_neg (by omega)]
theorem d1a {i k : Nat} (hi : i < h.Trains.length) (hk : k < (tr h i).Crowds.length) : 0 ≤ dPe d i k ∧ dPe d i k ≤ 1000 ∧ ∃ y, (tr h i).Crowds[k]? = some y ∧ y.People.Low ≤ dPe d i k ∧ dPe d i k ≤ y.People.High := by
  obtain ⟨x, hx⟩ := b2a hi
  obtain ⟨a, ha⟩ := b2a (show i < d.At.length by rw [hf.at_]; exact hi)
  obtain ⟨p, hp⟩ := b2a (show i < d.People.length by rw [hf.people]; exact hi)
  obtain ⟨_, g2, g3⟩ := hf.ride i x a p hx ha hp
  have et : tr h i = x := by unfold tr; rw [hx]; rfl
  rw [et] at hk ⊢
  obtain ⟨y, hy⟩ := b2a hk
  obtain ⟨n, hn⟩ := b2a (show k < p.length by omega)
  have := g3 k y n hy hn
  have hg := (hv.2.2.1 i x hx).2.2.2.2 k y hy
  unfold b4i at hg
  have e : dPe d i k = n := by unfold dPe; rw [hp]; simp [hn]
  rw [e]
  exact ⟨by omega, by omega, y, hy, by omega, by omega⟩
theorem d2p {i : Nat} (hi : i < h.Trains.length) : ∃ x a, h.Trains[i]? = some x ∧ d.At[i]? = some (a : Nat) ∧ dAt d i = (a : Nat) ∧ a < T h ∧ x.At.Low ≤ (a : Nat) ∧ (a : Int) ≤ x.At.High ∧ tr h i = x := by
  obtain ⟨x, hx⟩ := b2a hi
  obtain ⟨a, ha⟩ := b2a (show i < d.At.length by rw [hf.at_]; exact hi)
  obtain ⟨p, hp⟩ := b2a (show i < d.People.length by rw [hf.people]; exact hi)
  obtain ⟨g1, _, _⟩ := hf.ride i x a p hx ha hp
  have hg := hv.2.2.1 i x hx
  have := b7k hv
  obtain ⟨q1, q2, q3, _⟩ := hg
  refine ⟨x, a.toNat, hx, ?_, ?_, by omega, by omega, by omega, by unfold tr; rw [hx]; rfl⟩
  · rw [ha]; congr 1; omega
  · unfold dAt; rw [ha]; simp; omega
omit hf in
theorem c71 {i : Nat} (hi : i < h.Trains.length) : (tr h i).Crowds.length ≤ 4 := by
  obtain ⟨x, hx⟩ := b2a hi
  have : tr h i = x := by unfold tr; rw [hx]; rfl
  rw [this]; exact (hv.2.2.1 i x hx).2.2.2.1
theorem c7r {c i : Nat} (hi : i < h.Trains.length) {k : Nat} (hk : k ≤ (tr h i).Crowds.length) : 0 ≤ b1r (b4q h d c i) k ∧ b1r (b4q h d c i) k ≤ 4000 := by
  have := b64 (f := b4q h d c i) (B := 1000) (k := k) fun j hj => by
    have := d1a hv hf hi (show j < (tr h i).Crowds.length by omega)
    unfold b4q; split <;> omega
  have := c71 hv hi
  omega
theorem g1k {t c i : Nat} (hi : i < h.Trains.length) : 0 ≤ b3r h d t c i ∧ b3r h d t c i ≤ 4000 := by
  have := c7r hv hf (c := c) hi (Nat.le_refl _)
  unfold b3r; split <;> omega
theorem c3x {t c k : Nat} (hk : k ≤ h.Trains.length) : 0 ≤ b1r (b3r h d t c) k ∧ b1r (b3r h d t c) k ≤ 48000 := by
  have := b64 (f := b3r h d t c) (B := 4000) (k := k) fun i hi => g1k hv hf (by omega)
  have := hv.1.2.2.2.2.1
  omega
omit hf in
theorem g1d {n : Nat → Nat → Int} {s e u t : Nat} (hn : ∀ t c, t < s → 0 ≤ n t c) (ht : t < s) : 0 ≤ Wt h d (psN h n) s e u t ∧ Wt h d (psN h n) s e u t ≤ 1000 := by
  have h1 := hn t u ht
  have h2 := c6a hv (c := u) t
  unfold Wt; split
  · unfold psN; omega
  · omega
theorem d06 : ∀ (t : Nat), t < T h → ∀ c, 0 ≤ nn h d t c ∧ nn h d t c ≤ 1000000 * (t + 1) := by
  intro t
  induction t using Nat.strongRecOn with
  | _ t ih =>
    intro ht c
    have hT := b4w hv
    have hN := hv.1.2.2.2.1
    have h1 := c3x hv hf (t := t) (c := c) (Nat.le_refl _)
    have h2 : 0 ≤ b1r (fun u => b1r (Wt h d (psN h (nn h d)) t c u) t) h.Combs.length ∧ b1r (fun u => b1r (Wt h d (psN h (nn h d)) t c u) t) h.Combs.length ≤ 800000 := by
      have := b64 (f := fun u => b1r (Wt h d (psN h (nn h d)) t c u) t) (B := 100000) (k := h.Combs.length) fun u hu => by
        have := b64 (f := Wt h d (psN h (nn h d)) t c u) (B := 1000) (k := t) fun t' ht' => g1d hv (fun t c htt => by
          by_cases q : t < T h
          · exact (ih t (by omega) q c).1
          · omega) ht'
        omega
      omega
    rw [d07]
    unfold b8k
    unfold arr
    split
    · have h3 := ih (t - 1) (by omega) (by omega) c
      have h4 := c6a hv (c := c) (t - 1)
      have e1 : lfN h (nn h d) (t - 1) c = nn h d (t - 1) c - min (nn h d (t - 1) c) (b2p h c (t - 1)) := rfl
      rw [e1]
      have : ((t - 1 : Nat) : Int) = (t : Int) - 1 := by omega
      rw [this] at h3
      omega
    · omega
theorem c2m {t : Nat} (ht : t < T h) (c : Nat) : 0 ≤ ps h d t c ∧ ps h d t c ≤ 1000 ∧ 0 ≤ lf h d t c ∧ lf h d t c ≤ 1000000 * (t + 1) := by
  have h1 := d06 hv hf t ht c
  have h2 := c6a hv (c := c) t
  have e1 : ps h d t c = min (nn h d t c) (b2p h c t) := rfl
  have e2 : lf h d t c = nn h d t c - ps h d t c := rfl
  omega
theorem c7k {m : Nat → Nat} (hm : ∀ u, u < h.Combs.length → m u ≤ T h) (s e : Nat) : 0 ≤ Cm h d m s e ∧ Cm h d m s e ≤ 1000000 := by
  have hT := b4w hv
  have hN := hv.1.2.2.2.1
  have h1 := c3x hv hf (t := s) (c := e) (Nat.le_refl _)
  have := b64 (f := fun u => b1r (Wt h d (ps h d) s e u) (m u)) (B := 100000) (k := h.Combs.length) fun u hu => by
    have hmu := hm u hu
    have := b64 (f := Wt h d (ps h d) s e u) (B := 1000) (k := m u) fun t' ht' => by
      have := c2m hv hf (show t' < T h by omega) u
      unfold Wt; split <;> omega
    omega
  unfold Cm arr
  omega
theorem c7m {m : Nat → Nat} (hm : ∀ u, u < h.Combs.length → m u ≤ T h) {s : Nat} (hs : s < T h) (e : Nat) : 0 ≤ Pm h d m s e ∧ Pm h d m s e ≤ 1000000000 := by
  have h1 := c7k hv hf hm s e
  have hT := b4w hv
  unfold Pm
  split
  · have := c2m hv hf (show s - 1 < T h by omega) e
    omega
  · omega
end
def b1m (m n : Nat) (g : Nat → Nat → Int) : List (List Int) := tab m fun t => tab n (g t)
theorem b45 {m n t : Nat} {g : Nat → Nat → Int} (ht : t < m) : get (b1m m n g) (t : Int) = some (tab n (g t)) := b3y ht
theorem c0h {m n a b : Nat} {g : Nat → Nat → Int} {v : Int} : (b1m m n g).set a ((tab n (g a)).set b v) = b1m m n fun t c => if t = a ∧ c = b then v else g t c := by
  unfold b1m
  rw [c6o]
  refine b8o fun t _ => ?_
  by_cases e : t = a
  · subst e
    rw [if_pos rfl, c6o]
    exact b8o fun c _ => by
      by_cases e2 : c = b
      · rw [if_pos e2]; show v = if t = t ∧ c = b then v else g t c; rw [if_pos ⟨rfl, e2⟩]
      · rw [if_neg e2]; show g t c = if t = t ∧ c = b then v else g t c; rw [if_neg fun hh => e2 hh.2]
  · rw [if_neg e]
    exact b8o fun c _ => by show g t c = if t = a ∧ c = b then v else g t c; rw [if_neg fun hh => e hh.1]
theorem b3n {m n : Nat} {g k : Nat → Nat → Int} (h : ∀ t, t < m → ∀ c, c < n → g t c = k t c) : b1m m n g = b1m m n k := b8o fun t ht => b8o fun c hc => h t ht c hc
theorem c3d {m n : Nat} {g : Nat → Nat → Int} : (b1m m n g).length = m := b5o
end Go.Nw.HM
namespace Go.Nw.HM
theorem d9l {m n : Nat} {g : Nat → Nat → Int} : b1m (m + 1) n g = b1m m n g ++ [tab n (g m)] := j6x
theorem d8y {t n : Nat} (hn : 1 ≤ n) : rem (t : Int) (n : Int) = some ((t % n : Nat) : Int) := by
  unfold rem
  rw [if_neg (by omega)]
  rfl
section
variable {h : Hall} {d : Day} (hv : V h) (hf : Fit h d)
include hv hf
theorem j63 : b07 (b9d h d) (b1m (T h) h.Combs.length fun _ _ => 0, 0) = some (b1m (T h) h.Combs.length (arr h d)) := by
  have hT := b4w hv
  have hN := hv.1.2.2.2.1
  have hTr := hv.1.2.2.2.2.1
  refine b4t (f := b9d h d) h.Trains.length (fun s k => (s, k)) (fun i => b1m (T h) h.Combs.length fun t c => b1r (b3r h d t c) i) _ (s0 := b1m (T h) h.Combs.length fun _ _ => 0) rfl (fun i hi => ?_) (by
    simp only [b9d]
    rw [if_neg (by simp)]; rfl)
  obtain ⟨x, a, hx, ha, hda, haT, _, _, htr⟩ := d2p hv hf hi
  simp only [b9d, b1e hx, Option.bind_some]
  rw [if_pos (by simpa using hi)]
  have hcl := c71 hv hi
  rw [htr] at hcl
  have := b4t (f := c1j d i x) x.Crowds.length (fun s k => (s, k)) (fun k => b1m (T h) h.Combs.length fun t c => b1r (b3r h d t c) i + if dAt d i = (t : Int) then b1r (b4q h d c i) k else 0) (b1m (T h) h.Combs.length fun t c => b1r (b3r h d t c) (i + 1))
    (s0 := b1m (T h) h.Combs.length fun t c => b1r (b3r h d t c) i) (b3n fun t _ c _ => by simp [c2j]) (fun k hk => by
      obtain ⟨y, hy⟩ := b2a hk
      obtain ⟨p, hp⟩ := b2a (show i < d.People.length by rw [hf.people]; exact hi)
      obtain ⟨_, g2, _⟩ := hf.ride i x a p hx ha hp
      obtain ⟨n, hn⟩ := b2a (show k < p.length by omega)
      have hpe : dPe d i k = n := by unfold dPe; rw [hp]; simp [hn]
      have hb := d1a hv hf hi (k := k) (by rw [htr]; exact hk)
      have hgc := (hv.2.2.1 i x hx).2.2.2.2 k y hy
      have hyc : 0 ≤ y.Comb := by
        have := (d2i hv).2.1.2 x (List.mem_of_getElem? hx)
        have key : ∀ (j : Nat) (z : Crowd), x.Crowds[j]? = some z → -1 < z.Comb := by
          intro j
          induction j with
          | zero => intro z hz; exact ((hv.2.2.1 i x hx).2.2.2.2 0 z hz).2.2.2.2
          | succ j ih =>
            intro z hz
            obtain ⟨z', hz'⟩ := b2a (show j < x.Crowds.length by have := b1f hz; omega)
            have := ih z' hz'
            have := ((hv.2.2.1 i x hx).2.2.2.2 (j + 1) z hz).2.2.2.2 z' hz'
            omega
        have := key k y hy; omega
      obtain ⟨b, hb'⟩ : ∃ b : Nat, y.Comb = b := ⟨y.Comb.toNat, by omega⟩
      have hbN : b < h.Combs.length := by unfold b4i at hgc; omega
      have hcr : crC h i k = b := by unfold crC; rw [htr, hy, ← hb']; rfl
      have hs := c3x hv hf (t := a) (c := b) (k := i) (by omega)
      have hs2 := c7r hv hf (c := b) hi (k := k) (by rw [htr]; omega)
      simp only [c1j, b1e hy, b1e ha, b1e hp, b1e hn, Option.bind_some]
      rw [if_pos (by simpa using hk), b45 haT]
      simp only [Option.bind_some, hb']
      rw [b3y hbN]
      simp only [Option.bind_some]
      rw [show ((a : Nat) : Int).toNat = a from by omega, show ((b : Nat) : Int).toNat = b from by omega, b2n hk (show x.Crowds.length ≤ maxLen by simp only [maxLen]; omega), hda, if_pos rfl, b5p (by omega) (by omega),
        c0h (g := fun t c => b1r (b3r h d t c) i + if ((a : Nat) : Int) = (t : Int) then b1r (b4q h d c i) k else 0)]
      congr 3
      refine b3n fun t ht c hc => ?_
      by_cases e : t = a
      · subst e
        rw [if_pos rfl]
        by_cases e2 : c = b
        · subst e2
          rw [if_pos ⟨rfl, rfl⟩, b49]
          simp only [b4q, hcr, if_true, hpe]
          omega
        · rw [if_neg (by omega), if_pos rfl, b49]
          simp only [b4q, hcr]
          rw [if_neg (c := (b : Int) = c) (by omega)]; omega
      · rw [if_neg (by omega), if_neg (by omega), if_neg (by omega)]) (by
    simp only [c1j]
    rw [if_neg (by simp)]
    congr 2
    refine b3n fun t _ c _ => ?_
    rw [b49]
    unfold b3r
    rw [htr])
  rw [this]
  simp only [Option.bind_some, c4r, b2n hi (show h.Trains.length ≤ maxLen by simp only [maxLen]; omega)]
def mAt (t c : Nat) : Nat → Nat := fun u => if u < c then t + 1 else t
omit hf in
theorem d08 {c : Nat} (hc : c < h.Combs.length) : ∃ x, h.Combs[c]? = some x ∧ nxt h c = x.Next ∧ (x.Next = -1 ∨ ((c : Int) < x.Next ∧ x.Next < h.Combs.length)) := by
  obtain ⟨x, hx⟩ := b2a hc
  exact ⟨x, hx, by unfold nxt; rw [hx]; rfl, (hv.2.1 c x hx).2.2.2.2.1⟩
theorem j5b {t : Nat} (ht : t < T h) :
    b07 (b9e h d (tab h.Combs.length fun c => tab (T h) (b2p h c)) t (tab h.Combs.length (Pm h d (fun _ => t) t))) (b1m (T h) h.Combs.length (Pm h d fun _ => t), 0) = some (b1m (T h) h.Combs.length (Pm h d fun _ => t + 1)) := by
  have hT := b4w hv
  have hTi := b7k hv
  have hN := hv.1.2.2.2.1
  refine b4t (f := b9e h d (tab h.Combs.length fun c => tab (T h) (b2p h c)) t (tab h.Combs.length (Pm h d (fun _ => t) t))) h.Combs.length (fun s k => (s, k)) (fun c => b1m (T h) h.Combs.length (Pm h d (mAt t c))) _ (s0 := b1m (T h) h.Combs.length (Pm h d fun _ => t)) rfl (fun c hc => ?_) (by
    simp only [b9e, b5o]
    rw [if_neg (by simp)]
    congr 2
    refine b3n fun s _ e he => ?_
    unfold Pm Cm
    congr 1
    · congr 1
      refine c2i fun u hu => ?_
      unfold mAt; rw [if_pos hu]
    · unfold mAt; rw [if_pos he])
  obtain ⟨x, hx, hnx, hnb⟩ := d08 hv hc
  obtain ⟨x', w, hx', hw, hw1, hw2, hwv, _, _, hk1, hk2⟩ := d1z hv hf hc t
  have hmle : ∀ u, u < h.Combs.length → mAt t c u ≤ T h := fun u _ => by unfold mAt; split <;> omega
  have hmle' : ∀ u, u < h.Combs.length → mAt t (c + 1) u ≤ T h := fun u _ => by unfold mAt; split <;> omega
  have hmc : mAt t c c = t := by unfold mAt; rw [if_neg (by omega)]
  have hmc' : mAt t (c + 1) c = mAt t c c + 1 := by rw [hmc]; unfold mAt; rw [if_pos (by omega)]
  have hmu : ∀ u, u ≠ c → mAt t (c + 1) u = mAt t c u := fun u hu => by
    unfold mAt
    by_cases q : u < c
    · rw [if_pos q, if_pos (by omega)]
    · rw [if_neg q, if_neg (by omega)]
  have hval : Pm h d (mAt t c) t c = nn h d t c := (d8b hv hf (fun u _ _ => by unfold mAt; split <;> omega) (by rw [hmc]; omega)).symm
  have hnb2 := d06 hv hf t ht c
  have hps := c2m hv hf ht c
  have eps : min (nn h d t c) (b2p h c t) = ps h d t c := rfl
  have elf : nn h d t c - ps h d t c = lf h d t c := rfl
  simp only [b9e, b5o]
  rw [if_pos (by simpa using hc), b45 ht]
  simp only [Option.bind_some]
  rw [b3y hc]
  simp only [Option.bind_some, hval]
  rw [b3y hc]
  simp only [Option.bind_some]
  rw [b3y ht]
  simp only [Option.bind_some, d01, eps]
  rw [show wr ((t : Int) + 1) = ((t + 1 : Nat) : Int) from by rw [b5p (by omega) (by omega)]; omega]
  have wl : ∀ g : Nat → Nat → Int, (∀ s, s < T h → ∀ e, -1000000000 ≤ g s e ∧ g s e ≤ 2000000000) → (∀ s, s < T h → ∀ e, e < h.Combs.length → g s e + Wt h d (ps h d) s e c t = Pm h d (mAt t (c + 1)) s e) →
      b9g h d t c (nn h d t c) (b2p h c t) (b1m (T h) h.Combs.length g) = some (.nx (b1m (T h) h.Combs.length (Pm h d (mAt t (c + 1))), (c : Int) + 1)) := fun g hgb hg => by
    unfold b9g
    rw [b1e hw]
    simp only [Option.bind_some]
    rw [d8y hw1]
    simp only [Option.bind_some]
    rw [b1e hwv]
    simp only [Option.bind_some]
    rw [b1e hx]
    simp only [Option.bind_some, d01, eps]
    rw [show wr ((t : Int) + (wlk d c t : Int)) = ((t + wlk d c t : Nat) : Int) from by rw [b5p (by omega) (by omega)]; omega]
    by_cases q : 0 ≤ x.Next ∧ t + wlk d c t < T h
    · obtain ⟨e', he'⟩ : ∃ e' : Nat, x.Next = e' := ⟨x.Next.toNat, by omega⟩
      rw [if_pos (by rw [← hTi]; simp; omega), b45 q.2]
      simp only [Option.bind_some, he']
      rw [b3y (show e' < h.Combs.length by omega)]
      simp only [Option.bind_some, b9f]
      have := hgb _ q.2 e'
      rw [show ((t + wlk d c t : Nat) : Int).toNat = t + wlk d c t from by omega, show ((e' : Nat) : Int).toNat = e' from by omega, c0h, b2n hc (show h.Combs.length ≤ maxLen by simp only [maxLen]; omega), b5p (by omega) (by omega)]
      congr 3
      refine b3n fun s hs e he => ?_
      rw [← hg s hs e he]
      unfold Wt
      by_cases q2 : s = t + wlk d c t ∧ e = e'
      · obtain ⟨rfl, rfl⟩ := q2
        rw [if_pos ⟨rfl, rfl⟩, if_pos ⟨by omega, rfl⟩]
      · rw [if_neg q2, if_neg (by omega)]; omega
    · rw [if_neg (by rw [← hTi]; simp; omega)]
      simp only [b9f]
      rw [b2n hc (show h.Combs.length ≤ maxLen by simp only [maxLen]; omega)]
      congr 3
      refine b3n fun s hs e he => ?_
      rw [← hg s hs e he]
      unfold Wt
      rw [if_neg (by omega)]; omega
  by_cases q : t + 1 < T h
  · rw [if_pos (by rw [← hTi]; simp; omega), b45 q]
    simp only [Option.bind_some]
    rw [b3y hc]
    simp only [Option.bind_some]
    have hb1 := c7m hv hf hmle q c
    rw [show ((t + 1 : Nat) : Int).toNat = t + 1 from by omega, show ((c : Nat) : Int).toNat = c from by omega, c0h, b5p (n := nn h d t c - ps h d t c) (by omega) (by omega), elf, b5p (by omega) (by omega)]
    refine wl _ (fun s hs e => ?_) (fun s hs e he => ?_)
    · have hb2 := c7m hv hf hmle hs e
      by_cases q2 : s = t + 1 ∧ e = c
      · rw [if_pos q2]; omega
      · rw [if_neg q2]; omega
    · rw [d2e hc hmu hmc', hmc]
      by_cases q2 : s = t + 1 ∧ e = c
      · obtain ⟨rfl, rfl⟩ := q2
        rw [if_pos ⟨rfl, rfl⟩, if_pos ⟨rfl, rfl⟩]
      · rw [if_neg q2, if_neg q2]; omega
  · rw [if_neg (by rw [← hTi]; simp; omega)]
    refine wl _ (fun s hs e => ?_) (fun s hs e he => ?_)
    · have hb2 := c7m hv hf hmle hs e; omega
    · rw [d2e hc hmu hmc', hmc, if_neg (by omega)]; omega
theorem g09 (hd : b7i d) : b6u h d = some (b1m (T h) h.Combs.length (nn h d), 0) := by
  have hT := b4w hv
  have hTi := b7k hv
  have hN := hv.1.2.2.2.1
  have hday : b74 h d = some true := by
    rcases d7g hv hd with ⟨_, h1⟩ | ⟨h1, _⟩
    · exact h1
    · exact absurd hf h1
  unfold b6u
  rw [(d2b hv).1]
  simp only [Option.bind_some]
  rw [if_neg (by simp), hday]
  simp only [Option.bind_some]
  rw [if_neg (by simp)]
  have l1 := b4t (f := c1i h) (T h) (fun s k => (s, k)) (fun k => b1m k h.Combs.length fun _ _ => 0) (b1m (T h) h.Combs.length fun _ _ => 0) (s0 := []) rfl (fun t ht => by
    simp only [c1i]
    rw [← hTi, if_pos (by simpa using ht), c2h (by omega) (by omega)]
    simp only [Option.bind_some]
    rw [c7q (by simp only [c3d, List.length_cons, List.length_nil]; omega)]
    simp only [Option.bind_some, b2n ht (show T h ≤ maxLen by simp only [maxLen]; omega)]
    rw [d9l]) (by
    simp only [c1i]
    rw [← hTi, if_neg (by simp)])
  rw [l1]
  simp only [Option.bind_some, c4n]
  rw [j63 hv hf]
  simp only [Option.bind_some, c4o]
  rw [c2h (by omega) (by omega)]
  simp only [Option.bind_some]
  have l2 := b4t (f := c1k h) h.Combs.length (fun s k => (s, k)) (fill h.Combs.length (fun c => tab (T h) (b2p h c)) []) (tab h.Combs.length fun c => tab (T h) (b2p h c)) (s0 := tab h.Combs.length fun _ => []) (by rw [← c3e, c79]) (fun c hc => by
    simp only [c1k]
    rw [if_pos (by simpa using hc), d8u hv hc]
    simp only [Option.bind_some]
    rw [c8g hc]
    simp only [Option.bind_some]
    rw [show ((c : Nat) : Int).toNat = c from by omega, c77 rfl, b2n hc (show h.Combs.length ≤ maxLen by simp only [maxLen]; omega)]) (by
    simp only [c1k]
    rw [if_neg (by simp), c76 (Nat.le_refl _)])
  rw [l2]
  simp only [Option.bind_some, c4p]
  have l3 := b4t (f := c1l h d (b1m (T h) h.Combs.length (arr h d)) (tab h.Combs.length fun c => tab (T h) (b2p h c))) (T h) (fun s k => (s, k)) (fun t => b1m (T h) h.Combs.length (Pm h d fun _ => t)) (b1m (T h) h.Combs.length (nn h d)) (s0 := b1m (T h) h.Combs.length (arr h d)) (b3n fun s _ e _ => by
    unfold Pm Cm
    rw [c5u fun u _ => c2j, if_neg fun hh => by have h2 : s ≤ 0 := hh.2; omega]; omega) (fun t ht => by
    simp only [c1l, c3d]
    rw [if_pos (by simpa using ht), b45 ht]
    simp only [Option.bind_some]
    rw [j5b hv hf ht]
    simp only [Option.bind_some, c4q, b2n ht (show T h ≤ maxLen by simp only [maxLen]; omega)]) (by
    simp only [c1l, c3d]
    rw [if_neg (by simp)]
    congr 2
    exact b3n fun s hs e he => (d8b hv hf (fun u _ _ => by omega) (by omega)).symm)
  rw [l3]; rfl
end
end Go.Nw.HM
namespace Go.Nw.HM
def cm (h : Hall) (d : Day) (c t : Nat) : Int := arr h d t c + b1r (fun u => b1r (Wt h d (ps h d) t c u) t) h.Combs.length
def b4o (f : Nat → Int) (a b : Nat) : Int := b1r f b - b1r f a
theorem c0g {f : Nat → Int} {a b : Nat} : b4o f a (b + 1) = b4o f a b + f b := by unfold b4o; rw [b49]; omega
theorem b7f {f : Nat → Int} {a : Nat} : b4o f a a = 0 := by unfold b4o; omega
theorem j59 {f g : Nat → Int} {a b : Nat} (hab : a ≤ b) (h : ∀ i, a ≤ i → i < b → f i ≤ g i) : b4o f a b ≤ b4o g a b := by
  induction b with
  | zero => have : a = 0 := by omega
            subst this; rw [b7f, b7f]; exact Int.le_refl _
  | succ b ih =>
    by_cases e : a = b + 1
    · subst e; rw [b7f, b7f]; exact Int.le_refl _
    · rw [c0g, c0g]
      have := ih (by omega) fun i h1 h2 => h i h1 (by omega)
      have := h b (by omega) (by omega)
      omega
section
variable {h : Hall} {d : Day} (hv : V h) (hf : Fit h d)
include hv hf
omit hv hf in
theorem d8c {t c : Nat} : nn h d t c = cm h d c t + if 0 < t then lf h d (t - 1) c else 0 := by rw [d07]; rfl
theorem j5i (c : Nat) {s t : Nat} (hst : s ≤ t) : nn h d t c + b4o (fun x => ps h d x c) s t = (nn h d s c - cm h d c s) + b4o (cm h d c) s (t + 1) := by
  induction t with
  | zero => have : s = 0 := by omega
            subst this; rw [b7f, c0g, b7f]; omega
  | succ t ih =>
    by_cases e : s = t + 1
    · subst e; rw [b7f, c0g, b7f]; omega
    · have := ih (by omega)
      have h1 := d8c (h := h) (d := d) (t := t + 1) (c := c)
      rw [if_pos (by omega), Nat.add_sub_cancel] at h1
      have h2 : lf h d t c = nn h d t c - ps h d t c := rfl
      rw [c0g (b := t), c0g (b := t + 1)]
      omega
theorem g96 {t : Nat} (ht : t < T h) (c : Nat) : 0 ≤ nn h d t c - cm h d c t := by
  have h1 := d8c (h := h) (d := d) (t := t) (c := c)
  by_cases q : 0 < t
  · rw [if_pos q] at h1
    have := c2m hv hf (show t - 1 < T h by omega) c
    omega
  · rw [if_neg q] at h1; omega
theorem c5o (c : Nat) {s t : Nat} (hst : s ≤ t) (ht : t < T h) : b4o (cm h d c) s (t + 1) - b4o (b2p h c) s t ≤ nn h d t c := by
  have h1 := j5i hv hf c hst
  have h2 := g96 hv hf (show s < T h by omega) c
  have h3 : b4o (fun x => ps h d x c) s t ≤ b4o (b2p h c) s t := j59 hst fun i _ _ => by
    have : ps h d i c = min (nn h d i c) (b2p h c i) := rfl
    omega
  omega
structure Bnd (h : Hall) (d : Day) (c : Nat) : Prop where
  come : ∀ s t, s ≤ t → t < T h → b4o (cm h d c) s (t + 1) ≤ (own h c).come s t
  most : ∀ t, t < T h → nn h d t c ≤ (own h c).most t
  flow : ∀ t, t < T h → ps h d t c ≤ (own h c).flow t
end
end Go.Nw.HM
namespace Go.Nw.HM
end Go.Nw.HM
namespace Go.Nw.HM
theorem g1a {h : Hall} (hv : V h) {c : Nat} (hc : c < h.Combs.length) : b59 h c = some (tab (T h) (b2p h c), 0) := by
  unfold b59
  rw [g3z hv hc]
  simp only [Option.bind_some]
  rw [if_neg (by simp), d8u hv hc]; rfl
end Go.Nw.HM
