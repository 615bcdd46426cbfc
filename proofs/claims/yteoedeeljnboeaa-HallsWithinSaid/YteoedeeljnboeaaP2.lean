/- Plain laws on the models. -/
import Derived.Test.YteoedeeljnboeaaP1
import Derived.Test.YteoedeeljnboeaaNwSearch
set_option linter.all false
set_option linter.unusedVariables false
set_option linter.unusedSimpArgs false
set_option linter.unusedSectionVars false
namespace Go.Nw.HM

/-- What the numbers of a hall are. -/
structure Crowded (n : Nat) (lo : Int) (l : List Crowd) : Prop where
  each : ∀ (k : Nat) x, l[k]? = some x → 0 ≤ x.Comb ∧ x.Comb < n ∧ 0 ≤ x.People.Low ∧ x.People.Low ≤ x.People.High ∧ x.People.High ≤ 1000
structure Valid (h : Hall) : Prop where
  u1 : 1 ≤ h.Until
  u2 : h.Until ≤ 100
  c1 : 1 ≤ h.Combs.length
  c2 : h.Combs.length ≤ 8
  t2 : h.Trains.length ≤ 12
  s2 : h.Shifts.length ≤ 20
  comb : ∀ (k : Nat) x, h.Combs[k]? = some x → 0 ≤ x.Rate ∧ x.Rate ≤ 1000 ∧ 0 ≤ x.Limit ∧ x.Limit ≤ 100000 ∧ (x.Next = -1 ∨ (k < x.Next ∧ x.Next < h.Combs.length)) ∧ 1 ≤ x.Walk.Low ∧ x.Walk.Low ≤ x.Walk.High ∧ x.Walk.High ≤ 20
  train : ∀ (k : Nat) x, h.Trains[k]? = some x → 0 ≤ x.At.Low ∧ x.At.Low ≤ x.At.High ∧ x.At.High ≤ h.Until - 1 ∧ x.Crowds.length ≤ 4 ∧
    (∀ (j : Nat) y, x.Crowds[j]? = some y → 0 ≤ y.People.Low ∧ y.People.Low ≤ y.People.High ∧ y.People.High ≤ 1000 ∧ y.Comb < h.Combs.length ∧ (match j with | 0 => -1 < y.Comb | j + 1 => ∀ z, x.Crowds[j]? = some z → z.Comb < y.Comb))
  shift : ∀ (k : Nat) x, h.Shifts[k]? = some x → 0 ≤ x.At ∧ x.At < h.Until ∧ 0 ≤ x.Comb ∧ x.Comb < h.Combs.length ∧ 0 ≤ x.Rate ∧ x.Rate ≤ 1000 ∧ (∀ j y, k = j + 1 → h.Shifts[j]? = some y → y.At ≤ x.At)

def goodComb (n : Nat) (k : Nat) (x : Comb) : Prop := 0 ≤ x.Rate ∧ x.Rate ≤ 1000 ∧ 0 ≤ x.Limit ∧ x.Limit ≤ 100000 ∧ (x.Next = -1 ∨ ((k : Int) < x.Next ∧ x.Next < n)) ∧ 1 ≤ x.Walk.Low ∧ x.Walk.Low ≤ x.Walk.High ∧ x.Walk.High ≤ 20
def goodCrowd (n : Nat) (l : List Crowd) (j : Nat) (y : Crowd) : Prop := 0 ≤ y.People.Low ∧ y.People.Low ≤ y.People.High ∧ y.People.High ≤ 1000 ∧ y.Comb < n ∧ (match j with | 0 => -1 < y.Comb | j + 1 => ∀ z, l[j]? = some z → z.Comb < y.Comb)
def goodTrain (n : Nat) (u : Int) (x : Train) : Prop := 0 ≤ x.At.Low ∧ x.At.Low ≤ x.At.High ∧ x.At.High ≤ u - 1 ∧ x.Crowds.length ≤ 4 ∧ ∀ (j : Nat) y, x.Crowds[j]? = some y → goodCrowd n x.Crowds j y
def goodShift (n : Nat) (u : Int) (l : List Shift) (k : Nat) (x : Shift) : Prop := 0 ≤ x.At ∧ x.At < u ∧ 0 ≤ x.Comb ∧ x.Comb < n ∧ 0 ≤ x.Rate ∧ x.Rate ≤ 1000 ∧ (∀ j y, k = j + 1 → l[j]? = some y → y.At ≤ x.At)

/- Whether the lists are not too long for the law. -/
theorem Far_ok {h : Hall} (hk : OkHall h) : ∃ b, l06_Far h = some b := by
  unfold l06_Far
  split
  · exact ⟨_, rfl⟩
  · have hl : h.Trains.length ≤ maxLen := hk.2.1.1
    rcases loop_scan (f := l06_Far_L8 h) h.Trains (fun _ x => 10 < x.Crowds.length) (.inr true) (.inl ()) (fun k x hx hb => by
      simp only [l06_Far_L8, get_k hx, Option.bind_some]
      rw [if_pos (by simpa using lt_k hx), if_pos (by simp; omega)]) (fun k x hx hb => by
      simp only [l06_Far_L8, get_k hx, Option.bind_some]
      rw [if_pos (by simpa using lt_k hx), if_neg (by simp; omega), wr_k (lt_k hx) hl]) (by simp [l06_Far_L8]) with ⟨_, h2⟩ | ⟨_, h2⟩
    · rw [h2]; exact ⟨_, rfl⟩
    · rw [h2]; exact ⟨_, rfl⟩
end Go.Nw.HM

namespace Go.Nw.HM

def Sizes (h : Hall) : Prop := 1 ≤ h.Until ∧ h.Until ≤ 100 ∧ 1 ≤ h.Combs.length ∧ h.Combs.length ≤ 8 ∧ h.Trains.length ≤ 12 ∧ h.Shifts.length ≤ 20
def V (h : Hall) : Prop := Sizes h ∧ (∀ (k : Nat) x, h.Combs[k]? = some x → goodComb h.Combs.length k x) ∧ (∀ (k : Nat) x, h.Trains[k]? = some x → goodTrain h.Combs.length h.Until x) ∧ (∀ (k : Nat) x, h.Shifts[k]? = some x → goodShift h.Combs.length h.Until h.Shifts k x)
def prevC (l : List Crowd) : Nat → Int
  | 0 => -1
  | j + 1 => ((l[j]?).map (·.Comb)).getD 0
theorem prevC_s {l : List Crowd} {k : Nat} {x : Crowd} (h : l[k]? = some x) : prevC l (k + 1) = x.Comb := by simp [prevC, h]

theorem goodCrowd_prev {n : Nat} {l : List Crowd} {k : Nat} {x : Crowd} (hx : l[k]? = some x) : goodCrowd n l k x ↔ (0 ≤ x.People.Low ∧ x.People.Low ≤ x.People.High ∧ x.People.High ≤ 1000 ∧ x.Comb < n ∧ prevC l k < x.Comb) := by
  unfold goodCrowd
  cases k with
  | zero => simp [prevC]
  | succ j =>
    obtain ⟨z, hz⟩ := ex_k (show j < l.length by have := lt_k hx; omega)
    simp [prevC, hz]

section
variable {h : Hall} (hk : OkHall h) (hs : Sizes h)
include hk hs
theorem crowd_ref {t : Train} (ht : OkTrain t) : ((∀ k x, t.Crowds[k]? = some x → goodCrowd h.Combs.length t.Crowds k x) ∧ loopM (r06_Check_L23 h t) (-1, 0) = some (.inl ())) ∨ ((∃ k x, t.Crowds[k]? = some x ∧ ¬ goodCrowd h.Combs.length t.Crowds k x) ∧ loopM (r06_Check_L23 h t) (-1, 0) = some (.inr 60)) := by
  have hn := wr_len1 (n := h.Combs.length) (by have := hs.2.2.2.1; simp only [maxLen]; omega)
  have hl : t.Crowds.length ≤ maxLen := ht.2.1
  have hpb : ∀ k, (∀ j y, j < k → t.Crowds[j]? = some y → ¬ ¬ goodCrowd h.Combs.length t.Crowds j y) → k ≤ t.Crowds.length → -1 ≤ prevC t.Crowds k ∧ prevC t.Crowds k < 8 := fun k hg hkl => by
    have key : ∀ m, m ≤ k → -1 ≤ prevC t.Crowds m ∧ prevC t.Crowds m < 8 := by
      intro m
      induction m with
      | zero => intro _; simp [prevC]
      | succ m ih =>
        intro hm
        obtain ⟨y, hy⟩ := ex_k (show m < t.Crowds.length by omega)
        have hgy := (goodCrowd_prev hy).1 (Classical.not_not.1 (hg m y (by omega) hy))
        have := ih (by omega)
        rw [prevC_s hy]
        have := hs.2.2.2.1
        omega
    exact key k (Nat.le_refl _)
  have := loop_scanS (f := r06_Check_L23 h t) t.Crowds (fun s k => (s, k)) (prevC t.Crowds) (fun k x => ¬ goodCrowd h.Combs.length t.Crowds k x) (.inr 60) (.inl ()) (fun k x hg hx hb => by
    obtain ⟨p1, p2⟩ := hpb k hg (by have := lt_k hx; omega)
    simp only [r06_Check_L23, get_k hx, Option.bind_some, hn, wr_id (show -9223372036854775808 ≤ prevC t.Crowds k + 1 by omega) (by omega)]
    rw [if_pos (by simpa using lt_k hx), if_pos]
    rw [goodCrowd_prev hx] at hb
    simp only [r06_within, r06_spanned, Bool.or_eq_true, Bool.not_eq_true', Bool.and_eq_false_iff, decide_eq_false_iff_not]
    omega) (fun k x hg hx hb => by
    obtain ⟨p1, p2⟩ := hpb k hg (by have := lt_k hx; omega)
    simp only [r06_Check_L23, get_k hx, Option.bind_some, hn, wr_id (show -9223372036854775808 ≤ prevC t.Crowds k + 1 by omega) (by omega)]
    rw [if_pos (by simpa using lt_k hx), if_neg, wr_k (lt_k hx) hl, prevC_s hx]
    have hb := (goodCrowd_prev hx).1 (Classical.not_not.1 hb)
    simp only [r06_within, r06_spanned, Bool.or_eq_true, Bool.not_eq_true', Bool.and_eq_false_iff, decide_eq_false_iff_not]
    omega) (by simp [r06_Check_L23]) (s0 := -1) rfl
  simpa using this
theorem crowd_prog {t : Train} (ht : OkTrain t) : ((∀ k x, t.Crowds[k]? = some x → goodCrowd h.Combs.length t.Crowds k x) ∧ loopM (halls_isTrain_L9 h t) (-1, 0) = some (.inl ())) ∨ ((∃ k x, t.Crowds[k]? = some x ∧ ¬ goodCrowd h.Combs.length t.Crowds k x) ∧ loopM (halls_isTrain_L9 h t) (-1, 0) = some (.inr false)) := by
  have hl : t.Crowds.length ≤ maxLen := ht.2.1
  have := loop_scanS (f := halls_isTrain_L9 h t) t.Crowds (fun s k => (s, k)) (prevC t.Crowds) (fun k x => ¬ goodCrowd h.Combs.length t.Crowds k x) (.inr false) (.inl ()) (fun k x hg hx hb => by
    simp only [halls_isTrain_L9, get_k hx, Option.bind_some]
    rw [if_pos (by simpa using lt_k hx), if_pos]
    rw [goodCrowd_prev hx] at hb
    simp only [halls_span, Bool.or_eq_true, Bool.not_eq_true', Bool.and_eq_false_iff, decide_eq_false_iff_not, decide_eq_true_eq]
    omega) (fun k x hg hx hb => by
    simp only [halls_isTrain_L9, get_k hx, Option.bind_some]
    rw [if_pos (by simpa using lt_k hx), if_neg, wr_k (lt_k hx) hl, prevC_s hx]
    have hb := (goodCrowd_prev hx).1 (Classical.not_not.1 hb)
    simp only [halls_span, Bool.or_eq_true, Bool.not_eq_true', Bool.and_eq_false_iff, decide_eq_false_iff_not, decide_eq_true_eq]
    omega) (by simp [halls_isTrain_L9]) (s0 := -1) rfl
  simpa using this
theorem isTrain_eq {t : Train} (ht : OkTrain t) : ∃ b, halls_isTrain h t = some b ∧ (b = true ↔ goodTrain h.Combs.length h.Until t) := by
  have hu : wr (h.Until - 1) = h.Until - 1 := wr_id (by have := hs.1; omega) (by have := hs.2.1; omega)
  unfold halls_isTrain
  rcases crowd_prog hk hs ht with ⟨h1, h2⟩ | ⟨⟨k, x, hx, hb⟩, h2⟩
  · rw [h2]
    simp only [Option.bind_some, halls_isTrain_j2, hu]
    refine ⟨_, rfl, ?_⟩
    simp only [halls_span, Bool.and_eq_true, decide_eq_true_eq, goodTrain]
    constructor
    · rintro ⟨⟨⟨a, b⟩, c⟩, d⟩; exact ⟨a, b, c, by omega, h1⟩
    · rintro ⟨a, b, c, d, _⟩; exact ⟨⟨⟨a, b⟩, c⟩, by omega⟩
  · rw [h2]
    refine ⟨false, rfl, by simp; exact fun hg => hb (hg.2.2.2.2 k x hx)⟩
end
end Go.Nw.HM

namespace Go.Nw.HM


theorem hasT {l : List Train} {f : Train → Option Bool} {p : Train → Prop} (hl : l.length ≤ maxLen) (hf : ∀ x ∈ l, ∃ b, f x = some b ∧ (b = true ↔ p x)) :
    ∃ b, slices_ContainsFunc___api_Train_api_Train_ l f = some b ∧ (b = true ↔ ∃ x ∈ l, p x) := has_spec rfl hl hf
theorem hasI {l : List Int} {f : Int → Option Bool} {p : Int → Prop} (hl : l.length ≤ maxLen) (hf : ∀ x ∈ l, ∃ b, f x = some b ∧ (b = true ↔ p x)) :
    ∃ b, slices_ContainsFunc___int_int_ l f = some b ∧ (b = true ↔ ∃ x ∈ l, p x) := has_spec rfl hl hf
theorem wr_pred {j n : Nat} (h : j + 1 < n) (hn : n ≤ maxLen) : wr (((j + 1 : Nat) : Int) - 1) = (j : Int) := by
  rw [wr_id (by omega) (by simp only [maxLen] at hn; omega)]; omega
theorem isComb_eq {h : Hall} {k : Nat} {x : Comb} (hx : h.Combs[k]? = some x) : ∃ b, halls_isComb h k = some b ∧ (b = true ↔ goodComb h.Combs.length k x) := by
  unfold halls_isComb
  rw [get_k hx]
  refine ⟨_, rfl, ?_⟩
  simp only [halls_in, halls_span, goodComb, Bool.and_eq_true, Bool.or_eq_true, decide_eq_true_eq]
  omega
theorem sizes_of {h : Hall} (hk : OkHall h) : Sizes h ∨ (¬ Sizes h ∧ halls_Check h = some 60 ∧ r06_Check h = some 60) := by
  by_cases hs : Sizes h
  · exact .inl hs
  · refine .inr ⟨hs, ?_, ?_⟩
    · unfold halls_Check
      rw [if_pos]
      simp only [Bool.or_eq_true, decide_eq_true_eq]
      unfold Sizes at hs; omega
    · unfold r06_Check
      rw [if_pos]
      simp only [r06_within, Bool.or_eq_true, Bool.not_eq_true', Bool.and_eq_false_iff, decide_eq_false_iff_not, decide_eq_true_eq]
      unfold Sizes at hs; omega
/-- The program's check. -/
theorem Check_prog {h : Hall} (hk : OkHall h) : (V h ∧ halls_Check h = some 0) ∨ (¬ V h ∧ halls_Check h = some 60) := by
  rcases sizes_of hk with hs | ⟨hs, h1, _⟩
  · have e1 : h.Combs.length ≤ maxLen := hk.1.1
    have e2 : h.Trains.length ≤ maxLen := hk.2.1.1
    have e3 : h.Shifts.length ≤ maxLen := hk.2.2.1.1
    unfold halls_Check
    rw [if_neg (by simp only [Bool.or_eq_true, decide_eq_true_eq]; unfold Sizes at hs; omega)]
    rcases loop_scan' (f := halls_Check_L9 h) h.Combs (fun k x => ¬ goodComb h.Combs.length k x) (.inr 60) (.inl ()) (fun k x _ hx hb => by
        obtain ⟨b, b1, b2⟩ := isComb_eq hx
        have : b = false := bool_ne fun hh => hb (b2.1 hh)
        subst this
        simp [halls_Check_L9, b1, lt_k hx]) (fun k x _ hx hb => by
        obtain ⟨b, b1, b2⟩ := isComb_eq hx
        have : b = true := b2.2 (Classical.not_not.1 hb)
        subst this
        simp [halls_Check_L9, b1, lt_k hx, wr_k (lt_k hx) e1]) (by simp [halls_Check_L9]) with ⟨c1, c2⟩ | ⟨⟨k, x, hx, hb⟩, c2⟩
    · rw [c2]
      simp only [Option.bind_some, halls_Check_j9]
      obtain ⟨b, b1, b2⟩ := hasT (l := h.Trains) (f := fun z => halls_CheckD1 z h) (p := fun t => ¬ goodTrain h.Combs.length h.Until t) e2 fun t ht => by
        obtain ⟨b, b1, b2⟩ := isTrain_eq hk hs (hk.2.1.2 t ht)
        refine ⟨!b, by simp [halls_CheckD1, b1], ?_⟩
        cases b <;> simp_all
      rw [b1]
      simp only [Option.bind_some]
      cases b with
      | true =>
        rw [if_pos rfl]
        obtain ⟨t, ht, hbad⟩ := b2.1 rfl
        obtain ⟨j, hj, rfl⟩ := List.getElem_of_mem ht
        exact .inr ⟨fun hv => hbad (hv.2.2.1 j _ (List.getElem?_eq_getElem hj)), rfl⟩
      | false =>
        rw [if_neg (by simp)]
        have ht : ∀ (k : Nat) x, h.Trains[k]? = some x → goodTrain h.Combs.length h.Until x := fun k x hx => Classical.byContradiction fun hn => by have := b2.2 ⟨x, List.mem_of_getElem? hx, hn⟩; cases this
        rcases loop_scan' (f := halls_Check_L18 h) h.Shifts (fun k x => ¬ goodShift h.Combs.length h.Until h.Shifts k x) (.inr 60) (.inl ()) (fun k x _ hx hb => by
            simp only [halls_Check_L18, get_k hx, Option.bind_some]
            rw [if_pos (by simpa using lt_k hx)]
            unfold goodShift at hb
            by_cases q : x.At < 0 ∨ h.Until ≤ x.At
            · rw [if_pos (by simpa using q)]; simp
            · rw [if_neg (by simpa using q)]
              cases k with
              | zero =>
                simp only [Int.natCast_zero, Int.lt_irrefl, decide_false, Bool.false_eq_true, if_false, Option.bind_some, Bool.false_or]
                rw [if_pos]
                simp only [halls_in, Bool.or_eq_true, Bool.not_eq_true', Bool.and_eq_false_iff, decide_eq_false_iff_not, decide_eq_true_eq]
                refine Classical.byContradiction fun hc => hb ⟨by omega, by omega, by omega, by omega, by omega, by omega, fun j y hj => by omega⟩
              | succ j =>
                obtain ⟨y, hy⟩ := ex_k (show j < h.Shifts.length by have := lt_k hx; omega)
                rw [if_pos (by simp <;> omega), wr_pred (lt_k hx) e3, get_k hy]
                simp only [Option.bind_some]
                rw [if_pos]
                simp only [halls_in, Bool.or_eq_true, Bool.not_eq_true', Bool.and_eq_false_iff, decide_eq_false_iff_not, decide_eq_true_eq]
                refine Classical.byContradiction fun hc => hb ⟨by omega, by omega, by omega, by omega, by omega, by omega, fun j' y' hj' hy' => by
                  obtain rfl : j' = j := by omega
                  rw [hy] at hy'; cases hy'; omega⟩) (fun k x _ hx hb => by
            have hb := Classical.not_not.1 hb
            obtain ⟨q1, q2, q3, q4, q5, q6, q7⟩ := hb
            simp only [halls_Check_L18, get_k hx, Option.bind_some]
            rw [if_pos (by simpa using lt_k hx), if_neg (by simp; omega)]
            cases k with
            | zero =>
              simp only [Int.natCast_zero, Int.lt_irrefl, decide_false, Bool.false_eq_true, if_false, Option.bind_some, Bool.false_or]
              rw [if_neg]
              · rfl
              · simp only [halls_in, Bool.or_eq_true, Bool.not_eq_true', Bool.and_eq_false_iff, decide_eq_false_iff_not, decide_eq_true_eq]
                omega
            | succ j =>
              obtain ⟨y, hy⟩ := ex_k (show j < h.Shifts.length by have := lt_k hx; omega)
              have := q7 j y rfl hy
              rw [if_pos (by simp <;> omega), wr_pred (lt_k hx) e3, get_k hy]
              simp only [Option.bind_some]
              rw [if_neg, wr_k (lt_k hx) e3]
              simp only [halls_in, Bool.or_eq_true, Bool.not_eq_true', Bool.and_eq_false_iff, decide_eq_false_iff_not, decide_eq_true_eq]
              omega) (by simp [halls_Check_L18]) with ⟨d1, d2⟩ | ⟨⟨k, x, hx, hb⟩, d2⟩
        · rw [d2]
          exact .inl ⟨⟨hs, fun k x hx => Classical.not_not.1 (c1 k x hx), ht, fun k x hx => Classical.not_not.1 (d1 k x hx)⟩, rfl⟩
        · rw [d2]
          exact .inr ⟨fun hv => hb (hv.2.2.2 k x hx), rfl⟩
    · rw [c2]
      exact .inr ⟨fun hv => hb (hv.2.1 k x hx), rfl⟩
  · exact .inr ⟨fun hv => hs hv.1, h1⟩
end Go.Nw.HM

namespace Go.Nw.HM
theorem Check_ref {h : Hall} (hk : OkHall h) : (V h ∧ r06_Check h = some 0) ∨ (¬ V h ∧ r06_Check h = some 60) := by
  rcases sizes_of hk with hs | ⟨hs, _, h1⟩
  · have e1 : h.Combs.length ≤ maxLen := hk.1.1
    have e2 : h.Trains.length ≤ maxLen := hk.2.1.1
    have e3 : h.Shifts.length ≤ maxLen := hk.2.2.1.1
    have hu : wr (h.Until - 1) = h.Until - 1 := wr_id (by have := hs.1; omega) (by have := hs.2.1; omega)
    have hn := wr_len1 e1
    unfold r06_Check
    rw [if_neg (by simp only [r06_within, Bool.or_eq_true, Bool.not_eq_true', Bool.and_eq_false_iff, decide_eq_false_iff_not, decide_eq_true_eq]; unfold Sizes at hs; omega)]
    rcases loop_scan' (f := r06_Check_L10 h) h.Combs (fun k x => ¬ goodComb h.Combs.length k x) (.inr 60) (.inl ()) (fun k x _ hx hb => by
        simp only [r06_Check_L10, get_k hx, Option.bind_some, hn, wr_k (lt_k hx) e1]
        rw [if_pos (by simpa using lt_k hx), if_pos]
        simp only [r06_within, r06_spanned, Bool.or_eq_true, Bool.and_eq_true, Bool.not_eq_true', Bool.and_eq_false_iff, decide_eq_false_iff_not, decide_eq_true_eq]
        unfold goodComb at hb; omega) (fun k x _ hx hb => by
        have hb := Classical.not_not.1 hb
        simp only [r06_Check_L10, get_k hx, Option.bind_some, hn, wr_k (lt_k hx) e1]
        rw [if_pos (by simpa using lt_k hx), if_neg]
        simp only [r06_within, r06_spanned, Bool.or_eq_true, Bool.and_eq_true, Bool.not_eq_true', Bool.and_eq_false_iff, decide_eq_false_iff_not, decide_eq_true_eq]
        unfold goodComb at hb; omega) (by simp [r06_Check_L10]) with ⟨c1, c2⟩ | ⟨⟨k, x, hx, hb⟩, c2⟩
    · rw [c2]
      simp only [Option.bind_some, r06_Check_j7]
      rcases loop_scan' (f := r06_Check_L25 h) h.Trains (fun _ x => ¬ goodTrain h.Combs.length h.Until x) (.inr 60) (.inl ()) (fun k x _ hx hb => by
          simp only [r06_Check_L25, get_k hx, Option.bind_some, hu]
          rw [if_pos (by simpa using lt_k hx)]
          by_cases q : ¬ (0 ≤ x.At.Low ∧ x.At.Low ≤ x.At.High ∧ x.At.High ≤ h.Until - 1) ∨ 4 < x.Crowds.length
          · rw [if_pos]
            simp only [r06_spanned, Bool.or_eq_true, Bool.not_eq_true', Bool.and_eq_false_iff, decide_eq_false_iff_not, decide_eq_true_eq]
            omega
          · rw [if_neg (by
              simp only [r06_spanned, Bool.or_eq_true, Bool.not_eq_true', Bool.and_eq_false_iff, decide_eq_false_iff_not, decide_eq_true_eq]
              omega)]
            rcases crowd_ref hk hs (hk.2.1.2 x (List.mem_of_getElem? hx)) with ⟨d1, d2⟩ | ⟨_, d2⟩
            · exact absurd ⟨by omega, by omega, by omega, by omega, d1⟩ hb
            · rw [d2]; rfl) (fun k x _ hx hb => by
          have hb := Classical.not_not.1 hb
          obtain ⟨q1, q2, q3, q4, q5⟩ := hb
          simp only [r06_Check_L25, get_k hx, Option.bind_some, hu]
          rw [if_pos (by simpa using lt_k hx), if_neg (by
              simp only [r06_spanned, Bool.or_eq_true, Bool.not_eq_true', Bool.and_eq_false_iff, decide_eq_false_iff_not, decide_eq_true_eq]
              omega)]
          rcases crowd_ref hk hs (hk.2.1.2 x (List.mem_of_getElem? hx)) with ⟨d1, d2⟩ | ⟨⟨j, y, hy, hb⟩, d2⟩
          · rw [d2]; simp only [Option.bind_some, r06_Check_j34, wr_k (lt_k hx) e2]
          · exact absurd (q5 j y hy) hb) (by simp [r06_Check_L25]) with ⟨t1, t2⟩ | ⟨⟨k, x, hx, hb⟩, t2⟩
      · rw [t2]
        simp only [Option.bind_some, r06_Check_j9]
        rcases loop_scan' (f := r06_Check_L32 h) h.Shifts (fun k x => ¬ goodShift h.Combs.length h.Until h.Shifts k x) (.inr 60) (.inl ()) (fun k x _ hx hb => by
            simp only [r06_Check_L32, get_k hx, Option.bind_some, hu, hn]
            rw [if_pos (by simpa using lt_k hx)]
            unfold goodShift at hb
            by_cases q : 0 ≤ x.At ∧ x.At < h.Until ∧ 0 ≤ x.Comb ∧ x.Comb < h.Combs.length ∧ 0 ≤ x.Rate ∧ x.Rate ≤ 1000
            · rw [if_neg (by
                simp only [r06_within, Bool.or_eq_true, Bool.not_eq_true', Bool.and_eq_false_iff, decide_eq_false_iff_not, decide_eq_true_eq]
                omega)]
              cases k with
              | zero => exact absurd ⟨q.1, q.2.1, q.2.2.1, q.2.2.2.1, q.2.2.2.2.1, q.2.2.2.2.2, fun j y hj => by omega⟩ hb
              | succ j =>
                obtain ⟨y, hy⟩ := ex_k (show j < h.Shifts.length by have := lt_k hx; omega)
                rw [if_pos (by simp <;> omega), wr_pred (lt_k hx) e3, get_k hy]
                simp only [Option.bind_some]
                rw [if_pos]
                simp only [decide_eq_true_eq]
                refine Classical.byContradiction fun hc => hb ⟨by omega, by omega, by omega, by omega, by omega, by omega, fun j' y' hj' hy' => by
                  obtain rfl : j' = j := by omega
                  rw [hy] at hy'; cases hy'; omega⟩
            · rw [if_pos (by
                simp only [r06_within, Bool.or_eq_true, Bool.not_eq_true', Bool.and_eq_false_iff, decide_eq_false_iff_not, decide_eq_true_eq]
                omega)]
              simp) (fun k x _ hx hb => by
            have hb := Classical.not_not.1 hb
            obtain ⟨q1, q2, q3, q4, q5, q6, q7⟩ := hb
            simp only [r06_Check_L32, get_k hx, Option.bind_some, hu, hn]
            rw [if_pos (by simpa using lt_k hx), if_neg (by
                simp only [r06_within, Bool.or_eq_true, Bool.not_eq_true', Bool.and_eq_false_iff, decide_eq_false_iff_not, decide_eq_true_eq]
                omega)]
            cases k with
            | zero => simp; rfl
            | succ j =>
              obtain ⟨y, hy⟩ := ex_k (show j < h.Shifts.length by have := lt_k hx; omega)
              have := q7 j y rfl hy
              rw [if_pos (by simp <;> omega), wr_pred (lt_k hx) e3, get_k hy]
              simp only [Option.bind_some]
              rw [if_neg (by simp only [decide_eq_true_eq]; omega), wr_k (lt_k hx) e3]) (by simp [r06_Check_L32]) with ⟨d1, d2⟩ | ⟨⟨k, x, hx, hb⟩, d2⟩
        · rw [d2]
          exact .inl ⟨⟨hs, fun k x hx => Classical.not_not.1 (c1 k x hx), fun k x hx => Classical.not_not.1 (t1 k x hx), fun k x hx => Classical.not_not.1 (d1 k x hx)⟩, rfl⟩
        · rw [d2]
          exact .inr ⟨fun hv => hb (hv.2.2.2 k x hx), rfl⟩
      · rw [t2]
        exact .inr ⟨fun hv => hb (hv.2.2.1 k x hx), rfl⟩
    · rw [c2]
      exact .inr ⟨fun hv => hb (hv.2.1 k x hx), rfl⟩
  · exact .inr ⟨fun hv => hs hv.1, h1⟩
theorem Check_both {h : Hall} (hk : OkHall h) : (V h ∧ halls_Check h = some 0 ∧ r06_Check h = some 0) ∨ (¬ V h ∧ halls_Check h = some 60 ∧ r06_Check h = some 60) := by
  rcases Check_prog hk with ⟨h1, h2⟩ | ⟨h1, h2⟩ <;> rcases Check_ref hk with ⟨h3, h4⟩ | ⟨h3, h4⟩
  · exact .inl ⟨h1, h2, h4⟩
  · exact absurd h1 h3
  · exact absurd h3 h1
  · exact .inr ⟨h1, h2, h4⟩
end Go.Nw.HM

namespace Go.Nw.HM
/-- How many ticks. -/
def T (h : Hall) : Nat := h.Until.toNat
def rate0 (h : Hall) (c : Nat) : Int := ((h.Combs[c]?).map (·.Rate)).getD 0
def rstep (c : Nat) (t : Int) (a : Int) (s : Shift) : Int := if s.Comb = (c : Int) ∧ s.At ≤ t then s.Rate else a
/-- The rate of a comb in a tick. -/
def rateAt (h : Hall) (c : Nat) (t : Nat) : Int := h.Shifts.foldl (rstep c t) (rate0 h c)
theorem T_int {h : Hall} (hv : V h) : (T h : Int) = h.Until := by have := hv.1.1; unfold T; omega
theorem T_le {h : Hall} (hv : V h) : T h ≤ 100 := by have := hv.1.2.1; unfold T; omega
def sub0 (c : Nat) (a : Int) (s : Shift) : Int := if s.Comb = (c : Int) then s.Rate else a
/-- The rate behind so many shifts. -/
def G (h : Hall) (c k : Nat) : Int := (h.Shifts.take k).foldl (sub0 c) (rate0 h c)
theorem G_succ {h : Hall} {c k : Nat} {x : Shift} (hx : h.Shifts[k]? = some x) : G h c (k + 1) = if x.Comb = (c : Int) then x.Rate else G h c k := by
  unfold G
  rw [List.take_add_one, hx]
  simp [List.foldl_append, sub0]
theorem sorted {h : Hall} (hv : V h) : ∀ (d j : Nat) (x y : Shift), h.Shifts[j]? = some x → h.Shifts[j + d]? = some y → x.At ≤ y.At := by
  intro d
  induction d with
  | zero => intro j x y hx hy; rw [Nat.add_zero, hx] at hy; cases hy; exact Int.le_refl _
  | succ d ih =>
    intro j x y hx hy
    obtain ⟨z, hz⟩ := ex_k (show j + d < h.Shifts.length by have := lt_k hy; omega)
    have h1 := ih j x z hx hz
    have h2 := (hv.2.2.2 _ y hy).2.2.2.2.2.2 (j + d) z (by omega) hz
    omega
/-- The first shifts, all those up to a tick. -/
def Upto (h : Hall) (t : Int) (k : Nat) : Prop := k ≤ h.Shifts.length ∧ (∀ j x, j < k → h.Shifts[j]? = some x → x.At ≤ t) ∧ ∀ x, h.Shifts[k]? = some x → t < x.At
theorem G_rate {h : Hall} (hv : V h) {c k t : Nat} (hu : Upto h t k) : G h c k = rateAt h c t := by
  unfold G rateAt
  conv => rhs; rw [← List.take_append_drop k h.Shifts, List.foldl_append]
  have e1 : (h.Shifts.take k).foldl (sub0 c) (rate0 h c) = (h.Shifts.take k).foldl (rstep c t) (rate0 h c) := by
    have : ∀ (l : List Shift), (∀ x ∈ l, x.At ≤ (t : Int)) → ∀ a, l.foldl (sub0 c) a = l.foldl (rstep c t) a := by
      intro l
      induction l with
      | nil => intro _ a; rfl
      | cons s l ih =>
        intro hl a
        simp only [List.foldl_cons]
        rw [ih (fun x hx => hl x (List.mem_cons_of_mem _ hx))]
        congr 1
        simp [sub0, rstep, hl s List.mem_cons_self]
    refine this _ (fun x hx => ?_) _
    obtain ⟨j, hj, rfl⟩ := List.getElem_of_mem hx
    have hj' : j < k := by simp at hj; omega
    have hjl : j < h.Shifts.length := by simp at hj; omega
    refine hu.2.1 j _ hj' ?_
    rw [List.getElem_take, List.getElem?_eq_getElem hjl]
  rw [e1]
  have : ∀ (l : List Shift), (∀ x ∈ l, (t : Int) < x.At) → ∀ a, l.foldl (rstep c t) a = a := by
    intro l
    induction l with
    | nil => intro _ a; rfl
    | cons s l ih =>
      intro hl a
      have := hl s List.mem_cons_self
      simp only [List.foldl_cons]
      rw [show rstep c t a s = a from by unfold rstep; rw [if_neg (by omega)]]
      exact ih (fun x hx => hl x (List.mem_cons_of_mem _ hx)) a
  refine (this _ ?_ _).symm
  intro x hx
  obtain ⟨j, hj, rfl⟩ := List.getElem_of_mem hx
  have hjl : k + j < h.Shifts.length := by simp at hj; omega
  obtain ⟨z, hz⟩ := ex_k (show k < h.Shifts.length by omega)
  have h1 := hu.2.2 z hz
  have h2 := sorted hv j k z _ hz (List.getElem?_eq_getElem hjl)
  rw [List.getElem_drop]
  omega
theorem inner {h : Hall} (hv : V h) (c t : Nat) : ∀ (d k : Nat), h.Shifts.length - k = d → k ≤ h.Shifts.length → (∀ j x, j < k → h.Shifts[j]? = some x → x.At ≤ (t : Int)) →
    ∃ k', loopM (halls_rates_L10 h c t) (G h c k, (k : Int)) = some (G h c k', (k' : Int)) ∧ Upto h t k' := by
  have hl : h.Shifts.length ≤ maxLen := by have := hv.1.2.2.2.2.2; simp only [maxLen]; omega
  intro d
  induction d with
  | zero =>
    intro k hd hk hb
    have : k = h.Shifts.length := by omega
    subst this
    refine ⟨h.Shifts.length, loopM_br (by simp [halls_rates_L10]), Nat.le_refl _, hb, fun x hx => ?_⟩
    have := lt_k hx; omega
  | succ d ih =>
    intro k hd hk hb
    obtain ⟨x, hx⟩ := ex_k (show k < h.Shifts.length by omega)
    by_cases hat : x.At ≤ (t : Int)
    · rw [loopM_nx (s' := (G h c (k + 1), ((k + 1 : Nat) : Int))) (by
        simp only [halls_rates_L10, get_k hx, Option.bind_some]
        rw [if_pos (by simpa using lt_k hx)]
        simp only [Option.bind_some, hat, decide_true, if_true, halls_rates_j25, wr_k (lt_k hx) hl, G_succ hx]
        by_cases e : x.Comb = (c : Int)
        · simp [e]
        · simp [e])]
      refine ih (k + 1) (by omega) (by omega) fun j y hj hy => ?_
      by_cases e : j = k
      · subst e; rw [hx] at hy; cases hy; exact hat
      · exact hb j y (by omega) hy
    · refine ⟨k, loopM_br (by
        simp only [halls_rates_L10, get_k hx, Option.bind_some]
        rw [if_pos (by simpa using lt_k hx)]
        simp [hat]), by omega, hb, fun y hy => ?_⟩
      rw [hx] at hy; cases hy; omega
theorem rates_prog {h : Hall} (hv : V h) {c : Nat} (hc : c < h.Combs.length) : halls_rates h c = some (tab (T h) (rateAt h c)) := by
  obtain ⟨x, hx⟩ := ex_k hc
  have hT := T_le hv
  unfold halls_rates
  rw [← T_int hv, mks_nat (by omega) (by omega)]
  simp only [Option.bind_some, get_k hx]
  obtain ⟨b, h1, h2⟩ := loop_inv (f := halls_rates_L13 h c (tab (T h) fun _ => 0)) (T h) (fun (s : List Int × Int × Int) k => (s.1, s.2.1, s.2.2, k))
    (fun k s => ∃ m : Nat, s = (fill (T h) (rateAt h c) 0 k, G h c m, (m : Int)) ∧ m ≤ h.Shifts.length ∧ ∀ j x, j < m → h.Shifts[j]? = some x → x.At < (k : Int)) (fun b => b = tab (T h) (rateAt h c))
    (fun s k hk ⟨m, hs, hm, hm2⟩ => by
      subst hs
      obtain ⟨k', i1, i2⟩ := inner hv c k (h.Shifts.length - m) m rfl hm fun j x hj hx => by have := hm2 j x hj hx; omega
      refine .inl ⟨(fill (T h) (rateAt h c) 0 (k + 1), G h c k', (k' : Int)), ?_, k', rfl, i2.1, fun j x hj hx => by have := i2.2.1 j x hj hx; omega⟩
      simp only [halls_rates_L13, tab_len]
      rw [if_pos (by simpa using hk), i1]
      simp only [Option.bind_some, halls_rates_j13, get_fill hk, halls_rates_j11, wr_k hk (by simp only [maxLen]; omega)]
      rw [show ((k : Nat) : Int).toNat = k from by omega, fill_set (G_rate hv i2)])
    (fun s ⟨m, hs, _⟩ => by
      subst hs
      exact ⟨fill (T h) (rateAt h c) 0 (T h), by simp [halls_rates_L13, tab_len], by rw [fill_all (Nat.le_refl _)]⟩) (s := (tab (T h) (fun _ => 0), x.Rate, 0)) 0 (by omega) ⟨0, by
        rw [← tab_rep, fill_zero (f := rateAt h c)]
        simp [G, rate0, hx], by omega, fun j x hj => by omega⟩
  simp only at h1
  rw [show ((0 : Nat) : Int) = 0 from rfl] at h1
  rw [h1, h2]; rfl
theorem rate_bounds {h : Hall} (hv : V h) {c : Nat} (t : Nat) : 0 ≤ rateAt h c t ∧ rateAt h c t ≤ 1000 := by
  unfold rateAt
  have h0 : 0 ≤ rate0 h c ∧ rate0 h c ≤ 1000 := by
    unfold rate0
    cases hx : h.Combs[c]? with
    | none => simp
    | some x => have := hv.2.1 c x hx; simp [goodComb] at this ⊢; omega
  have : ∀ (l : List Shift), (∀ x ∈ l, 0 ≤ x.Rate ∧ x.Rate ≤ 1000) → ∀ a, 0 ≤ a ∧ a ≤ 1000 → 0 ≤ l.foldl (rstep c t) a ∧ l.foldl (rstep c t) a ≤ 1000 := by
    intro l
    induction l with
    | nil => intro _ a ha; exact ha
    | cons s l ih =>
      intro hl a ha
      refine ih (fun x hx => hl x (List.mem_cons_of_mem _ hx)) _ ?_
      have := hl s List.mem_cons_self
      unfold rstep; split <;> omega
  refine this _ (fun x hx => ?_) _ h0
  obtain ⟨j, hj, rfl⟩ := List.getElem_of_mem hx
  have := hv.2.2.2 j _ (List.getElem?_eq_getElem hj)
  exact ⟨this.2.2.2.2.1, this.2.2.2.2.2.1⟩
theorem open_prog {h : Hall} (hv : V h) : halls_open h = some (tab h.Combs.length fun c => tab (T h) (rateAt h c)) := by
  unfold halls_open
  have hn := hv.1.2.2.2.1
  have := loop_stepsX (f := halls_open_L6 h) h.Combs.length (fun s k => (s, k)) (fun k => tab k fun c => tab (T h) (rateAt h c)) (tab h.Combs.length fun c => tab (T h) (rateAt h c)) (s0 := []) rfl (fun k hk => by
    simp only [halls_open_L6]
    rw [if_pos (by simpa using hk), rates_prog hv hk]
    simp only [Option.bind_some]
    rw [ap_ok (by simp [tab_len]; omega)]
    simp only [Option.bind_some, wr_k hk (by simp only [maxLen]; omega), tab_succ]) (by simp [halls_open_L6])
  rw [this]; rfl
end Go.Nw.HM

namespace Go.Nw.HM
def crowdOf (c : Nat) (y : Crowd) : Int := if y.Comb = (c : Int) then y.People.High else 0
def trainOf (c s t : Nat) (x : Train) : Int := if x.At.High < (s : Int) ∨ (t : Int) < x.At.Low then 0 else (x.Crowds.map (crowdOf c)).sum
/-- How many people trains may bring to a comb from a tick to another one. -/
def brought (h : Hall) (c s t : Nat) : Int := (h.Trains.map (trainOf c s t)).sum
theorem crowd_bound {h : Hall} (hv : V h) {x : Train} (hx : x ∈ h.Trains) (c k : Nat) (hk : k ≤ x.Crowds.length) : 0 ≤ psum x.Crowds (crowdOf c) k ∧ psum x.Crowds (crowdOf c) k ≤ 4000 := by
  obtain ⟨j, hj, rfl⟩ := List.getElem_of_mem hx
  have hg := hv.2.2.1 j _ (List.getElem?_eq_getElem hj)
  have := psum_bound (l := h.Trains[j].Crowds) (g := crowdOf c) (B := 1000) (fun y hy => by
    obtain ⟨i, hi, rfl⟩ := List.getElem_of_mem hy
    have := hg.2.2.2.2 i _ (List.getElem?_eq_getElem hi)
    unfold goodCrowd at this
    unfold crowdOf; split <;> omega) k hk
  have := hg.2.2.2.1
  omega
theorem train_bound {h : Hall} (hv : V h) {x : Train} (hx : x ∈ h.Trains) (c s t : Nat) : 0 ≤ trainOf c s t x ∧ trainOf c s t x ≤ 4000 := by
  unfold trainOf
  split
  · omega
  · rw [← psum_all]; exact crowd_bound hv hx c _ (Nat.le_refl _)
theorem trains_bound {h : Hall} (hv : V h) (c s t k : Nat) (hk : k ≤ h.Trains.length) : 0 ≤ psum h.Trains (trainOf c s t) k ∧ psum h.Trains (trainOf c s t) k ≤ 48000 := by
  have := psum_bound (l := h.Trains) (g := trainOf c s t) (B := 4000) (fun x hx => train_bound hv hx c s t) k hk
  have := hv.1.2.2.2.2.1
  omega
theorem brought_bound {h : Hall} (hv : V h) (c s t : Nat) : 0 ≤ brought h c s t ∧ brought h c s t ≤ 48000 := by
  unfold brought; rw [← psum_all]; exact trains_bound hv c s t _ (Nat.le_refl _)
theorem wr_small {n : Int} (h1 : -1000000000000 ≤ n) (h2 : n ≤ 1000000000000) : wr n = n := wr_id (by omega) (by omega)
theorem brought_prog {h : Hall} (hv : V h) (c s t : Nat) : halls_brought h c s t = some (brought h c s t) := by
  have e2 : h.Trains.length ≤ maxLen := by have := hv.1.2.2.2.2.1; simp only [maxLen]; omega
  unfold halls_brought
  have := loop_stepsX (f := halls_brought_L13 h c s t) h.Trains.length (fun s k => (s, k)) (psum h.Trains (trainOf c s t)) (brought h c s t) (s0 := 0) psum_zero.symm (fun k hk => by
    obtain ⟨x, hx⟩ := ex_k hk
    have hm := List.mem_of_getElem? hx
    simp only [halls_brought_L13, get_k hx, Option.bind_some]
    rw [if_pos (by simpa using hk), psum_succ hx]
    have hb := trains_bound hv c s t k (by omega)
    by_cases q : x.At.High < (s : Int) ∨ (t : Int) < x.At.Low
    · rw [if_pos (by simpa using q)]
      simp only [halls_brought_j7, wr_k hk e2]
      rw [show trainOf c s t x = 0 from if_pos q, Int.add_zero]
    · rw [if_neg (by simpa using q)]
      have e3 : x.Crowds.length ≤ maxLen := by have := (hv.2.2.1 k x hx).2.2.2.1; simp only [maxLen]; omega
      have := loop_stepsX (f := halls_brought_L11 c x) x.Crowds.length (fun s k => (s, k)) (fun j => psum h.Trains (trainOf c s t) k + psum x.Crowds (crowdOf c) j) (psum h.Trains (trainOf c s t) k + trainOf c s t x) (s0 := psum h.Trains (trainOf c s t) k) (by simp [psum_zero]) (fun j hj => by
        obtain ⟨y, hy⟩ := ex_k hj
        have hc1 := crowd_bound hv hm c j (by omega)
        have hc2 := crowd_bound hv hm c (j + 1) (by omega)
        simp only [halls_brought_L11, get_k hy, Option.bind_some]
        rw [if_pos (by simpa using hj), psum_succ hy]
        rw [psum_succ hy] at hc2
        by_cases e : y.Comb = (c : Int)
        · rw [if_pos (by simpa using e)]
          rw [show crowdOf c y = y.People.High from if_pos e] at hc2 ⊢
          simp only [halls_brought_j17, wr_k hj e3]
          rw [wr_small (by omega) (by omega), Int.add_assoc]
        · rw [if_neg (by simpa using e)]
          rw [show crowdOf c y = 0 from if_neg e]
          simp only [halls_brought_j17, wr_k hj e3, Int.add_zero]) (by
        simp only [halls_brought_L11]
        rw [if_neg (by simp), psum_all, show trainOf c s t x = (x.Crowds.map (crowdOf c)).sum from if_neg q])
      rw [this]
      simp only [Option.bind_some, halls_brought_j7, wr_k hk e2]) (by
    simp only [halls_brought_L13]
    rw [if_neg (by simp), psum_all]; rfl)
  rw [this]; rfl

/-- The bounds of a comb. -/
structure Bd where
  come : Nat → Nat → Int
  most : Nat → Int
  flow : Nat → Int
  deriving Inhabited
def behind (b : Bd) (to k : Nat) : Int := if k < to then b.come (k + 1) to else 0
def way (b : Bd) (a to k : Nat) : Int := nsum b.flow k - nsum b.flow a + b.most k + behind b to k
def passN (b : Bd) (a to : Nat) : Int := lmin (min (b.come 0 to) (nsum b.flow (to + 1) - nsum b.flow a)) (way b a to) a (to + 1 - a)
def passF (b : Bd) (from_ to_ : Int) : Int := if to_ < from_ ∨ to_ < 0 then 0 else passN b (max from_ 0).toNat to_.toNat
def walkIn (h : Hall) (c : Nat) (prev : Nat → Bd) (s t u : Nat) : Int := match h.Combs[u]? with
  | some x => if x.Next = (c : Int) then passF (prev u) ((s : Int) - x.Walk.High) ((t : Int) - x.Walk.Low) else 0
  | none => 0
def comeOf (h : Hall) (c : Nat) (prev : Nat → Bd) (s t : Nat) : Int := brought h c s t + nsum (walkIn h c prev s t) c
def mostOf (come : Nat → Nat → Int) (R : Nat → Int) (t : Nat) : Int := lmax 0 (fun s => come s t - (nsum R t - nsum R s)) 0 (t + 1)
def mkBd (h : Hall) (R : Nat → Nat → Int) (c : Nat) (prev : Nat → Bd) : Bd :=
  { come := comeOf h c prev, most := mostOf (comeOf h c prev) (R c), flow := fun t => min (mostOf (comeOf h c prev) (R c) t) (R c t) }
def bdL (h : Hall) (R : Nat → Nat → Int) : Nat → Nat → Bd
  | 0 => fun _ => default
  | n + 1 => fun u => if u = n then mkBd h R n (bdL h R n) else bdL h R n u
/-- The bounds of a comb, with the rates `R`. -/
def bd (h : Hall) (R : Nat → Nat → Int) (c : Nat) : Bd := bdL h R (c + 1) c
theorem bdL_s {h : Hall} {R : Nat → Nat → Int} {n u : Nat} : bdL h R (n + 1) u = if u = n then mkBd h R n (bdL h R n) else bdL h R n u := rfl
theorem bdL_lt {h : Hall} {R : Nat → Nat → Int} {n u : Nat} (hu : u < n) : bdL h R n u = bd h R u := by
  induction n with
  | zero => omega
  | succ n ih =>
    by_cases e : u = n
    · subst e; rfl
    · rw [bdL_s, if_neg e]; exact ih (by omega)
theorem walkIn_congr {h : Hall} {c s t u : Nat} {p q : Nat → Bd} (hpq : p u = q u) : walkIn h c p s t u = walkIn h c q s t u := by
  unfold walkIn; rw [hpq]
theorem comeOf_congr {h : Hall} {c : Nat} {p q : Nat → Bd} (hpq : ∀ u, u < c → p u = q u) : comeOf h c p = comeOf h c q := by
  funext s t
  unfold comeOf
  rw [nsum_congr fun u hu => walkIn_congr (hpq u hu)]
theorem bd_eq {h : Hall} {R : Nat → Nat → Int} {c : Nat} : bd h R c = mkBd h R c (bd h R) := by
  have : bd h R c = mkBd h R c (bdL h R c) := by show bdL h R (c + 1) c = _; rw [bdL_s, if_pos rfl]
  rw [this]
  unfold mkBd
  rw [comeOf_congr fun u hu => bdL_lt hu]
end Go.Nw.HM

namespace Go.Nw.HM
/-- The numbers of a bound are not too great. -/
structure BdOk (b : Bd) (n : Nat) (B : Int) : Prop where
  come : ∀ s t, s ≤ t → t < n → 0 ≤ b.come s t ∧ b.come s t ≤ B
  most : ∀ t, t < n → 0 ≤ b.most t ∧ b.most t ≤ B
  flow : ∀ t, t < n → 0 ≤ b.flow t ∧ b.flow t ≤ 1000
def comeT (n : Nat) (b : Bd) (s : Nat) : List Int := tab n fun t => if s ≤ t then b.come s t else 0
def bdT (n : Nat) (b : Bd) (r : Nat → Int) : halls_bound := ⟨tab (n + 1) (nsum r), tab (n + 1) (nsum b.flow), tab n b.most, tab n (comeT n b)⟩
theorem come_row {n : Nat} {b : Bd} {s t : Nat} (ht : t < n) (hst : s ≤ t) : get (comeT n b s) (t : Int) = some (b.come s t) := by
  unfold comeT; rw [get_tab ht, if_pos hst]
section
variable {n : Nat} {b : Bd} {B : Int} (hb : BdOk b n B) (hB : B ≤ 1000000000) (hn : n ≤ 1000) {r : Nat → Int}
include hb hB hn
theorem flow_diff {a k : Nat} (hak : a ≤ k) (hk : k ≤ n) : 0 ≤ nsum b.flow k - nsum b.flow a ∧ nsum b.flow k - nsum b.flow a ≤ 1000000 := by
  have := nsum_diff (f := b.flow) (B := 1000) hak fun i h1 h2 => hb.flow i (by omega)
  omega
theorem behind_bound {to k : Nat} (hk : k ≤ to) (hto : to < n) : 0 ≤ behind b to k ∧ behind b to k ≤ B := by
  have := hb.most k (by omega)
  unfold behind; split
  · exact hb.come _ _ (by omega) hto
  · omega
theorem way_bound {a to k : Nat} (hak : a ≤ k) (hk : k ≤ to) (hto : to < n) : 0 ≤ way b a to k ∧ way b a to k ≤ 3000000000 := by
  have h1 := flow_diff hb hB hn hak (show k ≤ n by omega)
  have h2 := hb.most k (by omega)
  have h3 := behind_bound hb hB hn hk hto
  unfold way; omega
theorem pass_bound {a to : Nat} (ha : a ≤ to) (hto : to < n) : 0 ≤ passN b a to ∧ passN b a to ≤ B := by
  have h1 := hb.come 0 to (by omega) hto
  have h2 := flow_diff hb hB hn (show a ≤ to + 1 by omega) (show to + 1 ≤ n by omega)
  unfold passN
  refine ⟨lmin_le.2 ⟨by omega, fun i hi => (way_bound hb hB hn (by omega) (show a + i ≤ to by omega) hto).1⟩, ?_⟩
  have := lmin_z (z := min (b.come 0 to) (nsum b.flow (to + 1) - nsum b.flow a)) (g := way b a to) (a := a) (n := to + 1 - a)
  omega
theorem passF_bound {f t : Int} (ht : t < n) : 0 ≤ passF b f t ∧ passF b f t ≤ max 0 B := by
  unfold passF
  split
  · omega
  · have := pass_bound hb hB hn (a := (max f 0).toNat) (to := t.toNat) (by omega) (by omega)
    omega
theorem passes_prog {f t : Int} (hf : -1000 ≤ f) (ht : t < n) : __halls_bound__passes (bdT n b r) f t = some (passF b f t) := by
  unfold __halls_bound__passes passF
  by_cases q : t < f ∨ t < 0
  · rw [if_pos (by simpa using q), if_pos q]
  · rw [if_neg (by simpa using q), if_neg q]
    obtain ⟨to, hto⟩ : ∃ to : Nat, t = to := ⟨t.toNat, by omega⟩
    subst hto
    obtain ⟨a, ha⟩ : ∃ a : Nat, max f 0 = a := ⟨(max f 0).toNat, by omega⟩
    have hm : mx f 0 = (a : Int) := by rw [mx_eq]; exact ha
    have hat : a ≤ to := by omega
    have hton : to < n := by omega
    rw [hm, ha]
    have e0 : ((0 : Int)) = ((0 : Nat) : Int) := rfl
    simp only [bdT]
    rw [e0, get_tab (show 0 < n by omega)]
    simp only [Option.bind_some]
    rw [come_row hton (by omega), show wr ((to : Int) + 1) = ((to + 1 : Nat) : Int) from by rw [wr_small (by omega) (by omega)]; omega, get_tab (show to + 1 < n + 1 by omega)]
    simp only [Option.bind_some]
    rw [get_tab (show a < n + 1 by omega)]
    simp only [Option.bind_some]
    have hc := hb.come 0 to (by omega) hton
    have hfd := flow_diff hb hB hn (show a ≤ to + 1 by omega) (show to + 1 ≤ n by omega)
    rw [wr_small (by omega) (by omega), mn_eq]
    have := loop_from (f := __halls_bound__passes_L12 ⟨tab (n + 1) (nsum r), tab (n + 1) (nsum b.flow), tab n b.most, tab n (comeT n b)⟩ f to) (to + 1) (fun s k => (s, k))
      (fun k => lmin (min (b.come 0 to) (nsum b.flow (to + 1) - nsum b.flow a)) (way b a to) a (k - a)) (passN b a to) (s0 := min (b.come 0 to) (nsum b.flow (to + 1) - nsum b.flow a)) a (by rw [Nat.sub_self]; rfl) (by omega) (fun k hak hk => ?_) (by
        simp only [__halls_bound__passes_L12]
        rw [if_neg (by simp; omega)]; rfl)
    · rw [this]
      simp [__halls_bound__passes_j13]
    · have hst : lmin (min (b.come 0 to) (nsum b.flow (to + 1) - nsum b.flow a)) (way b a to) a (k + 1 - a) = min (lmin (min (b.come 0 to) (nsum b.flow (to + 1) - nsum b.flow a)) (way b a to) a (k - a)) (way b a to k) := by
        rw [show k + 1 - a = (k - a) + 1 by omega]
        show min _ (way b a to (a + (k - a))) = _
        rw [show a + (k - a) = k by omega]
      rw [hst]
      have hfk := flow_diff hb hB hn hak (show k ≤ n by omega)
      have hmk := hb.most k (by omega)
      have hbk := behind_bound hb hB hn (show k ≤ to by omega) hton
      have fin2 : ∀ L : Int, __halls_bound__passes_j19 ⟨tab (n + 1) (nsum r), tab (n + 1) (nsum b.flow), tab n b.most, tab n (comeT n b)⟩ f L k (behind b to k) = some (.nx (min L (way b a to k), (k : Int) + 1)) := fun L => by
        unfold __halls_bound__passes_j19
        simp only [hm]
        rw [get_tab (show k < n + 1 by omega)]
        simp only [Option.bind_some]
        rw [get_tab (show a < n + 1 by omega)]
        simp only [Option.bind_some]
        rw [get_tab (show k < n by omega)]
        simp only [Option.bind_some]
        rw [wr_small (n := nsum b.flow k - nsum b.flow a) (by omega) (by omega), wr_small (n := nsum b.flow k - nsum b.flow a + b.most k) (by omega) (by omega), wr_small (n := nsum b.flow k - nsum b.flow a + b.most k + behind b to k) (by omega) (by omega), wr_small (n := (k : Int) + 1) (by omega) (by omega), mn_eq]
        rfl
      simp only [__halls_bound__passes_L12]
      rw [if_pos (by simp; omega)]
      by_cases e : k < to
      · rw [if_pos (by simpa using e), show wr ((k : Int) + 1) = ((k + 1 : Nat) : Int) from by rw [wr_small (by omega) (by omega)]; omega, get_tab (show k + 1 < n by omega)]
        simp only [Option.bind_some]
        rw [come_row hton (by omega)]
        simp only [Option.bind_some]
        rw [show b.come (k + 1) to = behind b to k from by unfold behind; rw [if_pos e]]
        exact fin2 _
      · rw [if_neg (by simpa using e)]
        have := fin2 (lmin (min (b.come 0 to) (nsum b.flow (to + 1) - nsum b.flow a)) (way b a to) a (k - a))
        rw [show behind b to k = 0 from by unfold behind; rw [if_neg e]] at this
        exact this
end
end Go.Nw.HM

namespace Go.Nw.HM
def Bn (c : Nat) : Int := 48000 * 2 ^ c
theorem Bn_succ (c : Nat) : Bn (c + 1) = 2 * Bn c := by unfold Bn; rw [Int.pow_succ]; omega
theorem Bn_pos (c : Nat) : 48000 ≤ Bn c := by
  induction c with
  | zero => simp [Bn]
  | succ c ih => rw [Bn_succ]; omega
theorem Bn_sum (c : Nat) : nsum Bn c = Bn c - 48000 := by
  induction c with
  | zero => simp [nsum_zero, Bn]
  | succ c ih => rw [nsum_succ, ih, Bn_succ]; omega
theorem Bn_mono {a b : Nat} (h : a ≤ b) : Bn a ≤ Bn b := by
  induction b with
  | zero => have : a = 0 := by omega
            subst this; exact Int.le_refl _
  | succ b ih =>
    by_cases e : a = b + 1
    · subst e; exact Int.le_refl _
    · have := ih (by omega); have := Bn_pos b; rw [Bn_succ]; omega
theorem Bn_small {c : Nat} (h : c ≤ 8) : Bn c ≤ 1000000000 := by
  have := Bn_mono h
  have e : Bn 8 = 12288000 := by decide
  omega
theorem nsum_le {f g : Nat → Int} : ∀ {k : Nat}, (∀ i, i < k → f i ≤ g i) → nsum f k ≤ nsum g k
  | 0, _ => by simp [nsum_zero]
  | k + 1, h => by rw [nsum_succ, nsum_succ]; have := nsum_le (k := k) fun i hi => h i (by omega); have := h k (by omega); omega
theorem nsum_nn {f : Nat → Int} : ∀ {k : Nat}, (∀ i, i < k → 0 ≤ f i) → 0 ≤ nsum f k
  | 0, _ => by simp [nsum_zero]
  | k + 1, h => by rw [nsum_succ]; have := nsum_nn (k := k) fun i hi => h i (by omega); have := h k (by omega); omega

/-- Rates. -/
structure Rt (h : Hall) (R : Nat → Nat → Int) : Prop where
  r : ∀ c t, c < h.Combs.length → t < T h → 0 ≤ R c t ∧ R c t ≤ 1000
section
variable {h : Hall} (hv : V h) {R : Nat → Nat → Int} (hR : Rt h R)
include hv hR
theorem bd_ok : ∀ (c : Nat), c < h.Combs.length → BdOk (bd h R c) (T h) (Bn c) := by
  intro c
  induction c using Nat.strongRecOn with
  | _ c ih =>
    intro hc
    have hn := hv.1.2.2.2.1
    have hT := T_le hv
    have hw : ∀ s t u, s ≤ t → t < T h → u < c → 0 ≤ walkIn h c (bd h R) s t u ∧ walkIn h c (bd h R) s t u ≤ Bn u := fun s t u hst ht hu => by
      obtain ⟨x, hx⟩ := ex_k (show u < h.Combs.length by omega)
      have hg := hv.2.1 u x hx
      unfold goodComb at hg
      have hB := Bn_pos u
      unfold walkIn
      rw [hx]
      simp only
      split
      · have := passF_bound (ih u hu (by omega)) (Bn_small (by omega)) (show T h ≤ 1000 by omega) (f := (s : Int) - x.Walk.High) (t := (t : Int) - x.Walk.Low) (by omega)
        omega
      · omega
    have hcome : ∀ s t, s ≤ t → t < T h → 0 ≤ comeOf h c (bd h R) s t ∧ comeOf h c (bd h R) s t ≤ Bn c := fun s t hst ht => by
      unfold comeOf
      have h1 := brought_bound hv c s t
      have h2 := nsum_nn (f := walkIn h c (bd h R) s t) (k := c) fun u hu => (hw s t u hst ht hu).1
      have h3 := nsum_le (f := walkIn h c (bd h R) s t) (g := Bn) (k := c) fun u hu => (hw s t u hst ht hu).2
      rw [Bn_sum] at h3
      omega
    have hmost : ∀ t, t < T h → 0 ≤ mostOf (comeOf h c (bd h R)) (R c) t ∧ mostOf (comeOf h c (bd h R)) (R c) t ≤ Bn c := fun t ht => by
      refine ⟨lmax_z, lmax_le.2 ⟨by have := Bn_pos c; omega, fun i hi => ?_⟩⟩
      rw [Nat.zero_add]
      have h1 := hcome i t (by omega) ht
      have h2 := nsum_mono (f := R c) (show i ≤ t by omega) fun j h1 h2 => (hR.r c j hc (by omega)).1
      omega
    rw [bd_eq]
    exact ⟨hcome, hmost, fun t ht => by
      have h1 := hmost t ht
      have h2 := hR.r c t hc ht
      simp only [mkBd]; omega⟩
theorem walk_bound {c : Nat} (hc : c < h.Combs.length) {s t : Nat} (hst : s ≤ t) (ht : t < T h) (u : Nat) (hu : u ≤ c) : 0 ≤ nsum (walkIn h c (bd h R) s t) u ∧ nsum (walkIn h c (bd h R) s t) u ≤ 1000000000 := by
  have hn := hv.1.2.2.2.1
  have hT := T_le hv
  have hw : ∀ u, u < c → 0 ≤ walkIn h c (bd h R) s t u ∧ walkIn h c (bd h R) s t u ≤ Bn u := fun u hu => by
    obtain ⟨x, hx⟩ := ex_k (show u < h.Combs.length by omega)
    have hg := hv.2.1 u x hx
    unfold goodComb at hg
    have hB := Bn_pos u
    unfold walkIn
    rw [hx]
    simp only
    split
    · have := passF_bound (bd_ok hv hR u (by omega)) (Bn_small (by omega)) (show T h ≤ 1000 by omega) (f := (s : Int) - x.Walk.High) (t := (t : Int) - x.Walk.Low) (by omega)
      omega
    · omega
  have h2 := nsum_nn (f := walkIn h c (bd h R) s t) (k := u) fun i hi => (hw i (by omega)).1
  have h3 := nsum_le (f := walkIn h c (bd h R) s t) (g := Bn) (k := u) fun i hi => (hw i (by omega)).2
  rw [Bn_sum] at h3
  have := Bn_small (c := u) (by omega)
  omega
def rowAt (b : Bd) (n s t : Nat) : List Int := tab n fun i => if s ≤ i ∧ i < t then b.come s i else 0
/-- A row of Come. -/
theorem row_prog {c : Nat} (hc : c < h.Combs.length) {s : Nat} (hs : s < T h) :
    loopM (halls_bounds_L21 h (tab c fun u => bdT (T h) (bd h R u) (R u)) c s) (tab (T h) (fun _ => 0), (s : Int)) = some (comeT (T h) (bd h R c) s) := by
  have hn := hv.1.2.2.2.1
  have hT := T_le hv
  have hTi := T_int hv
  have hb := bd_ok hv hR c hc
  refine loop_from (f := halls_bounds_L21 h (tab c fun u => bdT (T h) (bd h R u) (R u)) c s) (T h) (fun r k => (r, k)) (rowAt (bd h R c) (T h) s) _ s (by
    unfold rowAt
    exact tab_congr fun i hi => by rw [if_neg (by omega)]) (by omega) (fun t hst ht => ?_) (by
    simp only [halls_bounds_L21]
    rw [← hTi, if_neg (by simp)]
    simp only [rowAt, comeT, Option.some.injEq, Out.br.injEq]
    exact tab_congr fun i hi => by by_cases q : s ≤ i <;> simp [q, hi])
  simp only [halls_bounds_L21]
  rw [← hTi, if_pos (by simpa using ht), brought_prog hv]
  simp only [Option.bind_some]
  rw [show get (rowAt (bd h R c) (T h) s t) (t : Int) = some 0 from by unfold rowAt; rw [get_tab ht, if_neg (by omega)]]
  simp only [Option.bind_some]
  rw [sub_ok (by omega) (by omega) (by omega)]
  simp only [Option.bind_some]
  have el : (h.Combs.take ((c : Int)).toNat).drop ((0 : Int)).toNat = h.Combs.take c := by simp
  rw [el]
  have hlen : (h.Combs.take c).length = c := by simp; omega
  have hat : ∀ u, u < c → (h.Combs.take c)[u]? = h.Combs[u]? := fun u hu => by rw [List.getElem?_take, if_pos hu]
  have := loop_stepsX (f := halls_bounds_L19 (tab c fun u => bdT (T h) (bd h R u) (R u)) c s t (h.Combs.take c)) c (fun r k => (r, k))
    (fun u => (rowAt (bd h R c) (T h) s t).set t (brought h c s t + nsum (walkIn h c (bd h R) s t) u)) (rowAt (bd h R c) (T h) s (t + 1)) (s0 := (rowAt (bd h R c) (T h) s t).set ((t : Int)).toNat (brought h c s t)) (by simp [nsum_zero]) (fun u hu => by
      obtain ⟨x, hx⟩ := ex_k (show u < h.Combs.length by omega)
      have hg := hv.2.1 u x hx
      unfold goodComb at hg
      have hx' : (h.Combs.take c)[u]? = some x := by rw [hat u hu]; exact hx
      have hwb := walk_bound hv hR hc hst ht u (by omega)
      have hwb' := walk_bound hv hR hc hst ht (u + 1) (by omega)
      have hbb := brought_bound hv c s t
      simp only [halls_bounds_L19, hlen]
      rw [if_pos (by simpa using hu), get_k hx']
      simp only [Option.bind_some]
      rw [nsum_succ] at hwb' ⊢
      by_cases e : x.Next = (c : Int)
      · rw [if_pos (by simpa using e)]
        rw [show get ((rowAt (bd h R c) (T h) s t).set t (brought h c s t + nsum (walkIn h c (bd h R) s t) u)) (t : Int) = some (brought h c s t + nsum (walkIn h c (bd h R) s t) u) from by unfold rowAt; rw [tab_set, get_tab ht, if_pos rfl]]
        simp only [Option.bind_some]
        rw [get_tab hu]
        simp only [Option.bind_some]
        rw [wr_small (n := (s : Int) - x.Walk.High) (by omega) (by omega), wr_small (n := (t : Int) - x.Walk.Low) (by omega) (by omega),
          passes_prog (bd_ok hv hR u (by omega)) (Bn_small (by omega)) (by omega) (by omega) (by omega)]
        have ew : walkIn h c (bd h R) s t u = passF (bd h R u) ((s : Int) - x.Walk.High) ((t : Int) - x.Walk.Low) := by
          unfold walkIn; rw [hx]; simp only; rw [if_pos e]
        rw [← ew]
        simp only [Option.bind_some, halls_bounds_j81]
        rw [wr_small (n := brought h c s t + nsum (walkIn h c (bd h R) s t) u + walkIn h c (bd h R) s t u) (by omega) (by omega), wr_small (n := (u : Int) + 1) (by omega) (by omega)]
        simp [Int.add_assoc]
      · rw [if_neg (by simpa using e)]
        have ew : walkIn h c (bd h R) s t u = 0 := by
          unfold walkIn; rw [hx]; simp only; rw [if_neg e]
        rw [ew, Int.add_zero]
        simp only [halls_bounds_j81]
        rw [wr_small (n := (u : Int) + 1) (by omega) (by omega)]) (by
      simp only [halls_bounds_L19, hlen]
      rw [if_neg (by simp)]
      simp only [Option.some.injEq, Out.br.injEq]
      unfold rowAt
      rw [tab_set]
      refine tab_congr fun i hi => ?_
      by_cases e : i = t
      · subst e
        rw [if_pos rfl, if_pos (by omega)]
        rw [bd_eq]; rfl
      · rw [if_neg e]
        by_cases q : s ≤ i ∧ i < t
        · rw [if_pos q, if_pos (by omega)]
        · rw [if_neg q, if_neg (by omega)])
  rw [this]
  simp only [Option.bind_some, halls_bounds_j70]
  rw [wr_small (n := (t : Int) + 1) (by omega) (by omega)]
end
end Go.Nw.HM

namespace Go.Nw.HM
section
variable {h : Hall} (hv : V h) {R : Nat → Nat → Int} (hR : Rt h R)
include hv hR
abbrev opT (h : Hall) (R : Nat → Nat → Int) : List (List Int) := tab h.Combs.length fun c => tab (T h) (R c)
omit hv in
theorem rsum_bound {c : Nat} (hc : c < h.Combs.length) {k : Nat} (hk : k ≤ T h) : 0 ≤ nsum (R c) k ∧ nsum (R c) k ≤ 1000 * k :=
  nsum_bound fun i hi => hR.r c i hc (by omega)
theorem cols_prog {c : Nat} (hc : c < h.Combs.length) :
    loopM (halls_bounds_L25 h (opT h R) (tab c fun u => bdT (T h) (bd h R u) (R u)) c) ([0], [], 0) = some (tab (T h + 1) (nsum (R c)), tab (T h) (comeT (T h) (bd h R c))) := by
  have hT := T_le hv
  have hTi := T_int hv
  refine loop_stepsX (f := halls_bounds_L25 h (opT h R) (tab c fun u => bdT (T h) (bd h R u) (R u)) c) (T h) (fun (p : List Int × List (List Int)) k => (p.1, p.2, k))
    (fun k => (tab (k + 1) (nsum (R c)), tab k (comeT (T h) (bd h R c)))) _ (s0 := ([0], [])) rfl (fun s hs => ?_) (by
    simp only [halls_bounds_L25]
    rw [← hTi, if_neg (by simp)])
  simp only [halls_bounds_L25]
  rw [← hTi, if_pos (by simpa using hs), mks_nat (by omega) (by omega)]
  simp only [Option.bind_some]
  rw [row_prog hv hR hc hs]
  simp only [Option.bind_some, halls_bounds_j55]
  rw [ap_ok (by simp [tab_len]; omega)]
  simp only [Option.bind_some]
  rw [get_tab (show s < s + 1 by omega)]
  simp only [Option.bind_some]
  rw [get_tab hc]
  simp only [Option.bind_some]
  rw [get_tab hs]
  simp only [Option.bind_some]
  rw [ap_ok (by simp [tab_len]; omega)]
  simp only [Option.bind_some, halls_bounds_j51]
  have h1 := rsum_bound hR hc (show s ≤ T h by omega)
  have h2 := hR.r c s hc hs
  rw [wr_small (n := nsum (R c) s + R c s) (by omega) (by omega), wr_small (n := (s : Int) + 1) (by omega) (by omega), ← nsum_succ, ← tab_succ, ← tab_succ]
theorem most_prog {c : Nat} (hc : c < h.Combs.length) {t : Nat} (ht : t < T h) :
    loopM (halls_bounds_L35 (tab (T h + 1) (nsum (R c))) (tab (T h) (comeT (T h) (bd h R c))) t) (0, 0) = some ((bd h R c).most t) := by
  have hT := T_le hv
  have hb := bd_ok hv hR c hc
  have hn := hv.1.2.2.2.1
  have hB := Bn_small (c := c) (by omega)
  have e1 : wr ((t : Int) + 1) = ((t + 1 : Nat) : Int) := by rw [wr_small (by omega) (by omega)]; omega
  have em : (bd h R c).most t = lmax 0 (fun s => (bd h R c).come s t - (nsum (R c) t - nsum (R c) s)) 0 (t + 1) := by rw [bd_eq]; rfl
  refine loop_stepsX (f := halls_bounds_L35 (tab (T h + 1) (nsum (R c))) (tab (T h) (comeT (T h) (bd h R c))) t) (t + 1) (fun p k => (p, k))
    (lmax 0 (fun s => (bd h R c).come s t - (nsum (R c) t - nsum (R c) s)) 0) _ (s0 := 0) rfl (fun s hs => ?_) (by
    simp only [halls_bounds_L35, e1]
    rw [if_neg (by simp), em])
  simp only [halls_bounds_L35, e1]
  rw [if_pos (by simp; omega), get_tab (show s < T h by omega)]
  simp only [Option.bind_some]
  rw [come_row ht (by omega)]
  simp only [Option.bind_some]
  rw [get_tab (show t < T h + 1 by omega)]
  simp only [Option.bind_some]
  rw [get_tab (show s < T h + 1 by omega)]
  simp only [Option.bind_some]
  have h1 := rsum_bound hR hc (show s ≤ T h by omega)
  have h2 := rsum_bound hR hc (show t ≤ T h by omega)
  have h3 := hb.come s t (by omega) ht
  rw [wr_small (n := nsum (R c) t - nsum (R c) s) (by omega) (by omega), wr_small (n := (bd h R c).come s t - (nsum (R c) t - nsum (R c) s)) (by omega) (by omega), wr_small (n := (s : Int) + 1) (by omega) (by omega), mx_eq]
  simp only [lmax, Nat.zero_add]
theorem flow_prog {c : Nat} (hc : c < h.Combs.length) :
    loopM (halls_bounds_L39 h (opT h R) c (tab (T h + 1) (nsum (R c))) (tab (T h) (comeT (T h) (bd h R c)))) ([0], [], 0) = some (tab (T h + 1) (nsum (bd h R c).flow), tab (T h) (bd h R c).most) := by
  have hT := T_le hv
  have hTi := T_int hv
  have hb := bd_ok hv hR c hc
  refine loop_stepsX (f := halls_bounds_L39 h (opT h R) c (tab (T h + 1) (nsum (R c))) (tab (T h) (comeT (T h) (bd h R c)))) (T h) (fun (p : List Int × List Int) k => (p.1, p.2, k))
    (fun k => (tab (k + 1) (nsum (bd h R c).flow), tab k (bd h R c).most)) _ (s0 := ([0], [])) rfl (fun t ht => ?_) (by
    simp only [halls_bounds_L39]
    rw [← hTi, if_neg (by simp)])
  simp only [halls_bounds_L39]
  rw [← hTi, if_pos (by simpa using ht), most_prog hv hR hc ht]
  simp only [Option.bind_some, halls_bounds_j20]
  rw [ap_ok (by simp [tab_len]; omega)]
  simp only [Option.bind_some]
  rw [get_tab (show t < t + 1 by omega)]
  simp only [Option.bind_some]
  rw [get_tab hc]
  simp only [Option.bind_some]
  rw [get_tab ht]
  simp only [Option.bind_some]
  rw [ap_ok (by simp [tab_len]; omega)]
  simp only [Option.bind_some, halls_bounds_j18]
  have ef : min ((bd h R c).most t) (R c t) = (bd h R c).flow t := by rw [bd_eq]; rfl
  have h1 := nsum_bound (f := (bd h R c).flow) (B := 1000) (k := t) fun i hi => hb.flow i (by omega)
  have h2 := hb.flow t ht
  rw [mn_eq, ef, wr_small (n := nsum (bd h R c).flow t + (bd h R c).flow t) (by omega) (by omega), wr_small (n := (t : Int) + 1) (by omega) (by omega), ← nsum_succ, ← tab_succ, ← tab_succ]
/-- The program's bounds. -/
theorem bounds_prog : halls_bounds h (opT h R) = some (tab h.Combs.length fun c => bdT (T h) (bd h R c) (R c)) := by
  have hn := hv.1.2.2.2.1
  unfold halls_bounds
  have := loop_stepsX (f := halls_bounds_L42 h (opT h R)) h.Combs.length (fun s k => (s, k)) (fun k => tab k fun c => bdT (T h) (bd h R c) (R c)) (tab h.Combs.length fun c => bdT (T h) (bd h R c) (R c)) (s0 := []) rfl (fun c hc => by
    simp only [halls_bounds_L42]
    rw [if_pos (by simpa using hc), cols_prog hv hR hc]
    simp only [Option.bind_some, halls_bounds_j9]
    rw [flow_prog hv hR hc]
    simp only [Option.bind_some, halls_bounds_j11]
    rw [ap_ok (by simp [tab_len]; omega)]
    simp only [Option.bind_some, halls_bounds_j7]
    rw [wr_small (n := (c : Int) + 1) (by omega) (by omega), tab_succ (n := c)]
    rfl) (by simp [halls_bounds_L42])
  rw [this]; rfl
end
/-- With the hall's own rates. -/
theorem own_rates {h : Hall} (hv : V h) : Rt h (rateAt h) := ⟨fun c t _ _ => rate_bounds hv t⟩
theorem own_prog {h : Hall} (hv : V h) : (halls_open h).bind (halls_bounds h) = some (tab h.Combs.length fun c => bdT (T h) (bd h (rateAt h) c) (rateAt h c)) := by
  rw [open_prog hv]; exact bounds_prog hv (own_rates hv)
abbrev own (h : Hall) : Nat → Bd := bd h (rateAt h)
end Go.Nw.HM

namespace Go.Nw.HM
theorem V_ok {h : Hall} (hv : V h) : OkHall h := by
  obtain ⟨⟨s1, s2, s3, s4, s5, s6⟩, hc, ht, hs⟩ := hv
  have at_ : ∀ {α : Type} {l : List α} {x : α}, x ∈ l → ∃ k : Nat, l[k]? = some x := fun {α l x} hx => by
    obtain ⟨j, hj, rfl⟩ := List.getElem_of_mem hx
    exact ⟨j, List.getElem?_eq_getElem hj⟩
  refine ⟨⟨by simp only [maxLen]; omega, fun x hx => ?_⟩, ⟨by simp only [maxLen]; omega, fun x hx => ?_⟩, ⟨by simp only [maxLen]; omega, fun x hx => ?_⟩, by unfold In64; omega⟩
  · obtain ⟨k, hk⟩ := at_ hx
    have := hc k x hk
    unfold goodComb at this
    simp only [OkComb, OkSpan, In64]; omega
  · obtain ⟨k, hk⟩ := at_ hx
    obtain ⟨q1, q2, q3, q4, q5⟩ := ht k x hk
    refine ⟨by simp only [OkSpan, In64]; omega, by simp only [maxLen]; omega, fun y hy => ?_⟩
    obtain ⟨j, hj⟩ := at_ hy
    have h5 := q5 j y hj
    have : -1 < y.Comb := by
      have key : ∀ (j : Nat) (y : Crowd), x.Crowds[j]? = some y → -1 < y.Comb := by
        intro j
        induction j with
        | zero => intro y hy; exact (q5 0 y hy).2.2.2.2
        | succ j ih =>
          intro y hy
          obtain ⟨z, hz⟩ := ex_k (show j < x.Crowds.length by have := lt_k hy; omega)
          have := ih z hz
          have := (q5 (j + 1) y hy).2.2.2.2 z hz
          omega
      exact key j y hj
    unfold goodCrowd at h5
    simp only [OkCrowd, OkSpan, In64]; omega
  · obtain ⟨k, hk⟩ := at_ hx
    have := hs k x hk
    unfold goodShift at this
    simp only [OkShift, In64]; omega
theorem Check_v {h : Hall} (hv : V h) : halls_Check h = some 0 ∧ r06_Check h = some 0 := by
  rcases Check_both (V_ok hv) with ⟨_, h1, h2⟩ | ⟨h1, _⟩
  · exact ⟨h1, h2⟩
  · exact absurd hv h1
/-- The program's check of a comb and of ticks. -/
theorem check_prog {h : Hall} (hv : V h) (c : Int) (ts : List Int) (hl : ts.length ≤ maxLen) :
    halls_check h c ts = some (if (0 ≤ c ∧ c < h.Combs.length) ∧ ∀ t ∈ ts, 0 ≤ t ∧ t < h.Until then 0 else 1) := by
  unfold halls_check
  rw [(Check_v hv).1]
  simp only [Option.bind_some]
  rw [if_neg (by simp)]
  by_cases q : 0 ≤ c ∧ c < h.Combs.length
  · rw [if_neg (by simp; omega)]
    obtain ⟨b, b1, b2⟩ := hasI (l := ts) (f := fun z => some (halls_checkD1 z h)) (p := fun t => ¬ (0 ≤ t ∧ t < h.Until)) hl fun t ht => ⟨_, rfl, by
      simp only [halls_checkD1, Bool.or_eq_true, decide_eq_true_eq]; omega⟩
    rw [b1]
    simp only [Option.bind_some]
    cases b with
    | true =>
      obtain ⟨t, h1, h2⟩ := b2.1 rfl
      rw [if_pos rfl, if_neg fun hh => h2 (hh.2 t h1)]
    | false =>
      rw [if_neg (by simp), if_pos ⟨q, fun t ht => Classical.byContradiction fun hh => by have := b2.2 ⟨t, ht, hh⟩; cases this⟩]
  · rw [if_pos (by simp; omega)]
    simp only [Option.bind_some, if_true]
    rw [if_neg fun hh => q hh.1]
theorem check_in {h : Hall} (hv : V h) {c : Nat} (hc : c < h.Combs.length) : halls_check h c [] = some 0 := by
  rw [check_prog hv c [] (by simp), if_pos ⟨by omega, fun t ht => by cases ht⟩]
theorem bounds_in {h : Hall} (hv : V h) {α : Type} (f : List halls_bound → Option α) : ((halls_open h).bind fun y => (halls_bounds h y).bind f) = f (tab h.Combs.length fun c => bdT (T h) (own h c) (rateAt h c)) := by
  have := own_prog hv
  cases e : halls_open h with
  | none => rw [e] at this; cases this
  | some y =>
    rw [e] at this
    simp only [Option.bind_some] at this ⊢
    rw [this]; rfl
theorem Most_prog {h : Hall} (hv : V h) {c : Nat} (hc : c < h.Combs.length) : halls_Most h c = some (tab (T h) (own h c).most, 0) := by
  unfold halls_Most
  rw [check_in hv hc]
  simp only [Option.bind_some]
  rw [if_neg (by simp), bounds_in hv, get_tab hc]
  rfl
/- A hall with a fixed rate of a comb. -/
section
variable {h : Hall} (hv : V h) {c : Nat} (hc : c < h.Combs.length) {r : Int} (hr : 0 ≤ r ∧ r ≤ 1000)
include hv hc
end
theorem most_eq {h : Hall} {R : Nat → Nat → Int} {c t : Nat} : (bd h R c).most t = lmax 0 (fun s => (bd h R c).come s t - (nsum (R c) t - nsum (R c) s)) 0 (t + 1) := by rw [bd_eq]; rfl
end Go.Nw.HM

namespace Go.Nw.HM
section
variable {h : Hall} (hv : V h) {c : Nat} (hc : c < h.Combs.length)
include hv hc
theorem own_ok : BdOk (own h c) (T h) 1000000000 := by
  have hn := hv.1.2.2.2.1
  have := bd_ok hv (own_rates hv) c hc
  have hB := Bn_small (c := c) (by omega)
  exact ⟨fun s t hst ht => by have := this.come s t hst ht; unfold own; omega, fun t ht => by have := this.most t ht; unfold own; omega, this.flow⟩
end
/-- What comes first in each law about a valid hall. -/
theorem guard_ok {h : Hall} (hk : OkHall h) : ((l06_Far h).bind fun y4 => (if y4 then some true else (r06_Check h).bind fun y5 => some (decide (¬y5 = 0)))) = some true ∨ (V h ∧ ((l06_Far h).bind fun y4 => (if y4 then some true else (r06_Check h).bind fun y5 => some (decide (¬y5 = 0)))) = some false) := by
  obtain ⟨b, hb1⟩ := Far_ok hk
  rw [hb1]
  simp only [Option.bind_some]
  cases b with
  | true => exact .inl rfl
  | false =>
    rw [if_neg (by simp)]
    rcases Check_ref hk with ⟨h1, h2⟩ | ⟨h1, h2⟩
    · rw [h2]; exact .inr ⟨h1, rfl⟩
    · rw [h2]; exact .inl rfl
end Go.Nw.HM

namespace Go.Nw.HM
/- A hall with a comb that is shut. -/
def shA (h : Hall) (f : Nat) : List Shift := h.Shifts.filter fun s => decide (s.At ≤ (f : Int))
section
variable {h : Hall} (hv : V h) {c : Nat} (hc : c < h.Combs.length) {f k : Nat} (hf : f < T h) (hk : 0 < k) (hfk : f + k ≤ T h)
end
end Go.Nw.HM

namespace Go.Nw.HM
section
variable {h : Hall} (hv : V h) {c : Nat} {f k : Nat}
include hv
end
section
variable {h : Hall} (hv : V h) {c : Nat} (hc : c < h.Combs.length) {f : Nat} (hf : f < T h)
include hv hc hf
end
end Go.Nw.HM

namespace Go.Nw.HM
def goodRide (x : Train) (a : Int) (p : List Int) : Prop := (x.At.Low ≤ a ∧ a ≤ x.At.High) ∧ p.length = x.Crowds.length ∧ ∀ (k : Nat) y n, x.Crowds[k]? = some y → p[k]? = some n → y.People.Low ≤ n ∧ n ≤ y.People.High
def goodWalk (x : Comb) (w : List Int) : Prop := 1 ≤ w.length ∧ w.length ≤ 20 ∧ ∀ n ∈ w, x.Walk.Low ≤ n ∧ n ≤ x.Walk.High
structure Fit (h : Hall) (d : Day) : Prop where
  at_ : d.At.length = h.Trains.length
  people : d.People.length = h.Trains.length
  walks : d.Walks.length = h.Combs.length
  ride : ∀ (i : Nat) x a p, h.Trains[i]? = some x → d.At[i]? = some a → d.People[i]? = some p → goodRide x a p
  walk : ∀ (u : Nat) x w, h.Combs[u]? = some x → d.Walks[u]? = some w → goodWalk x w
section
variable {d : Day} {i : Nat} {x : Train} {p : List Int} (hp : d.People[i]? = some p) (hl : p.length = x.Crowds.length) (hm : x.Crowds.length ≤ maxLen)
include hp hl hm
theorem crowd_day : ((∀ (k : Nat) y n, x.Crowds[k]? = some y → p[k]? = some n → y.People.Low ≤ n ∧ n ≤ y.People.High) ∧ loopM (halls_isDay_L14 d i x) 0 = some (.inl ())) ∨
    ((∃ (k : Nat) (y : Crowd) (n : Int), x.Crowds[k]? = some y ∧ p[k]? = some n ∧ ¬ (y.People.Low ≤ n ∧ n ≤ y.People.High)) ∧ loopM (halls_isDay_L14 d i x) 0 = some (.inr false)) := by
  rcases loop_scan (f := halls_isDay_L14 d i x) x.Crowds (fun k y => ∃ n, p[k]? = some n ∧ ¬ (y.People.Low ≤ n ∧ n ≤ y.People.High)) (.inr false) (.inl ()) (fun k y hy hb => by
      obtain ⟨n, hn, hb⟩ := hb
      simp only [halls_isDay_L14, get_k hy, get_k hp, get_k hn, Option.bind_some]
      rw [if_pos (by simpa using lt_k hy), if_pos]
      simp only [halls_in, Bool.not_eq_true', Bool.and_eq_false_iff, decide_eq_false_iff_not]; omega) (fun k y hy hb => by
      obtain ⟨n, hn⟩ := ex_k (show k < p.length by rw [hl]; exact lt_k hy)
      simp only [halls_isDay_L14, get_k hy, get_k hp, get_k hn, Option.bind_some]
      rw [if_pos (by simpa using lt_k hy), if_neg, wr_k (lt_k hy) hm]
      have hb : y.People.Low ≤ n ∧ n ≤ y.People.High := Classical.not_not.1 fun hh => hb ⟨n, hn, hh⟩
      simp only [halls_in, Bool.not_eq_true', Bool.and_eq_false_iff, decide_eq_false_iff_not]; omega) (by simp [halls_isDay_L14]) with ⟨h1, h2⟩ | ⟨⟨k, y, hy, n, hn, hb⟩, h2⟩
  · exact .inl ⟨fun k y n hy hn => Classical.not_not.1 fun hh => h1 k y hy ⟨n, hn, hh⟩, h2⟩
  · exact .inr ⟨⟨k, y, n, hy, hn, hb⟩, h2⟩
theorem crowd_fit : ((∀ (k : Nat) y n, x.Crowds[k]? = some y → p[k]? = some n → y.People.Low ≤ n ∧ n ≤ y.People.High) ∧ loopM (r06_Fits_L13 d i x) 0 = some (.inl ())) ∨
    ((∃ (k : Nat) (y : Crowd) (n : Int), x.Crowds[k]? = some y ∧ p[k]? = some n ∧ ¬ (y.People.Low ≤ n ∧ n ≤ y.People.High)) ∧ loopM (r06_Fits_L13 d i x) 0 = some (.inr false)) := by
  rcases loop_scan (f := r06_Fits_L13 d i x) x.Crowds (fun k y => ∃ n, p[k]? = some n ∧ ¬ (y.People.Low ≤ n ∧ n ≤ y.People.High)) (.inr false) (.inl ()) (fun k y hy hb => by
      obtain ⟨n, hn, hb⟩ := hb
      simp only [r06_Fits_L13, get_k hy, get_k hp, get_k hn, Option.bind_some]
      rw [if_pos (by simpa using lt_k hy), if_pos]
      simp only [r06_within, Bool.not_eq_true', Bool.and_eq_false_iff, decide_eq_false_iff_not]; omega) (fun k y hy hb => by
      obtain ⟨n, hn⟩ := ex_k (show k < p.length by rw [hl]; exact lt_k hy)
      simp only [r06_Fits_L13, get_k hy, get_k hp, get_k hn, Option.bind_some]
      rw [if_pos (by simpa using lt_k hy), if_neg, wr_k (lt_k hy) hm]
      have hb : y.People.Low ≤ n ∧ n ≤ y.People.High := Classical.not_not.1 fun hh => hb ⟨n, hn, hh⟩
      simp only [r06_within, Bool.not_eq_true', Bool.and_eq_false_iff, decide_eq_false_iff_not]; omega) (by simp [r06_Fits_L13]) with ⟨h1, h2⟩ | ⟨⟨k, y, hy, n, hn, hb⟩, h2⟩
  · exact .inl ⟨fun k y n hy hn => Classical.not_not.1 fun hh => h1 k y hy ⟨n, hn, hh⟩, h2⟩
  · exact .inr ⟨⟨k, y, n, hy, hn, hb⟩, h2⟩
end
section
variable {h : Hall} (hv : V h) {d : Day} (hd : OkDay d)
include hv hd
theorem isDay_prog : (Fit h d ∧ halls_isDay h d = some true) ∨ (¬ Fit h d ∧ halls_isDay h d = some false) := by
  have hn := hv.1.2.2.2.1
  have ht := hv.1.2.2.2.2.1
  unfold halls_isDay
  by_cases q : d.At.length = h.Trains.length ∧ d.People.length = h.Trains.length ∧ d.Walks.length = h.Combs.length
  · obtain ⟨q1, q2, q3⟩ := q
    rw [if_neg (by simp; omega)]
    rcases loop_scan (f := halls_isDay_L16 h d) h.Trains (fun i x => ∃ a p, d.At[i]? = some a ∧ d.People[i]? = some p ∧ ¬ goodRide x a p) (.inr false) (.inl ()) (fun i x hx hb => by
        obtain ⟨a, p, ha, hp, hb⟩ := hb
        simp only [halls_isDay_L16, get_k hx, get_k ha, get_k hp, Option.bind_some]
        rw [if_pos (by simpa using lt_k hx)]
        by_cases r1 : x.At.Low ≤ a ∧ a ≤ x.At.High
        · rw [if_neg (by simp only [halls_in, Bool.not_eq_true', Bool.and_eq_false_iff, decide_eq_false_iff_not]; omega)]
          simp only [Option.bind_some]
          by_cases r2 : p.length = x.Crowds.length
          · rw [if_neg (by simp; omega)]
            rcases crowd_day hp r2 (by have := (hv.2.2.1 i x hx).2.2.2.1; simp only [maxLen]; omega) with ⟨c1, _⟩ | ⟨_, c2⟩
            · exact absurd ⟨r1, r2, c1⟩ hb
            · rw [c2]; rfl
          · rw [if_pos (by simp; omega)]
        · rw [if_pos (by simp only [halls_in, Bool.not_eq_true', Bool.and_eq_false_iff, decide_eq_false_iff_not]; omega)]
          simp only [Option.bind_some, if_true]) (fun i x hx hb => by
        obtain ⟨a, ha⟩ := ex_k (show i < d.At.length by rw [q1]; exact lt_k hx)
        obtain ⟨p, hp⟩ := ex_k (show i < d.People.length by rw [q2]; exact lt_k hx)
        obtain ⟨r1, r2, r3⟩ : goodRide x a p := Classical.not_not.1 fun hh => hb ⟨a, p, ha, hp, hh⟩
        simp only [halls_isDay_L16, get_k hx, get_k ha, get_k hp, Option.bind_some]
        rw [if_pos (by simpa using lt_k hx), if_neg (by simp only [halls_in, Bool.not_eq_true', Bool.and_eq_false_iff, decide_eq_false_iff_not]; omega)]
        simp only [Option.bind_some]
        rw [if_neg (by simp; omega)]
        rcases crowd_day hp r2 (by have := (hv.2.2.1 i x hx).2.2.2.1; simp only [maxLen]; omega) with ⟨_, c2⟩ | ⟨⟨k, y, n, hy, hn', hb⟩, _⟩
        · rw [c2]; simp only [Option.bind_some, halls_isDay_j31, wr_k (lt_k hx) (show h.Trains.length ≤ maxLen by simp only [maxLen]; omega)]
        · exact absurd (r3 k y n hy hn') hb) (by simp [halls_isDay_L16]) with ⟨t1, t2⟩ | ⟨⟨i, x, hx, a, p, ha, hp, hb⟩, t2⟩
    · rw [t2]
      simp only [Option.bind_some, halls_isDay_j6]
      rcases loop_scan (f := halls_isDay_L24 h d) h.Combs (fun u x => ∃ w, d.Walks[u]? = some w ∧ ¬ goodWalk x w) (.inr false) (.inl ()) (fun u x hx hb => by
          obtain ⟨w, hw, hb⟩ := hb
          have hwl : w.length ≤ maxLen := (hd.2.2.2 w (List.mem_of_getElem? hw)).1
          simp only [halls_isDay_L24, get_k hx, get_k hw, Option.bind_some]
          rw [if_pos (by simpa using lt_k hx)]
          by_cases r1 : 1 ≤ w.length ∧ w.length ≤ 20
          · rw [if_neg (by simp; omega)]
            obtain ⟨b, b1, b2⟩ := hasI (l := w) (f := fun z20 => some (halls_isDayD1 z20 x)) (p := fun n => ¬ (x.Walk.Low ≤ n ∧ n ≤ x.Walk.High)) hwl (fun n _ => ⟨_, rfl, by
              simp only [halls_isDayD1, halls_in, Bool.not_eq_true', Bool.and_eq_false_iff, decide_eq_false_iff_not]; omega⟩)
            rw [b1]
            simp only [Option.bind_some]
            have : b = true := b2.2 (Classical.byContradiction fun hh => hb ⟨r1.1, r1.2, fun n hn => Classical.not_not.1 fun hh2 => hh ⟨n, hn, hh2⟩⟩)
            rw [this, if_pos rfl]
          · rw [if_pos (by simp; omega)]
            simp only [Option.bind_some, if_true]) (fun u x hx hb => by
          obtain ⟨w, hw⟩ := ex_k (show u < d.Walks.length by rw [q3]; exact lt_k hx)
          obtain ⟨r1, r2, r3⟩ : goodWalk x w := Classical.not_not.1 fun hh => hb ⟨w, hw, hh⟩
          simp only [halls_isDay_L24, get_k hx, get_k hw, Option.bind_some]
          rw [if_pos (by simpa using lt_k hx), if_neg (by simp; omega)]
          obtain ⟨b, b1, b2⟩ := hasI (l := w) (f := fun z20 => some (halls_isDayD1 z20 x)) (p := fun n => ¬ (x.Walk.Low ≤ n ∧ n ≤ x.Walk.High)) (by simp only [maxLen]; omega) (fun n _ => ⟨_, rfl, by
            simp only [halls_isDayD1, halls_in, Bool.not_eq_true', Bool.and_eq_false_iff, decide_eq_false_iff_not]; omega⟩)
          rw [b1]
          simp only [Option.bind_some]
          have : b = false := bool_ne fun hh => by
            obtain ⟨n, hn, hbad⟩ := b2.1 hh
            exact hbad (r3 n hn)
          rw [this, if_neg (by simp), wr_k (lt_k hx) (show h.Combs.length ≤ maxLen by simp only [maxLen]; omega)]) (by simp [halls_isDay_L24]) with ⟨w1, w2⟩ | ⟨⟨u, x, hx, w, hw, hb⟩, w2⟩
      · rw [w2]
        exact .inl ⟨⟨q1, q2, q3, fun i x a p hx ha hp => Classical.not_not.1 fun hh => t1 i x hx ⟨a, p, ha, hp, hh⟩, fun u x w hx hw => Classical.not_not.1 fun hh => w1 u x hx ⟨w, hw, hh⟩⟩, rfl⟩
      · rw [w2]
        exact .inr ⟨fun hf => hb (hf.walk u x w hx hw), rfl⟩
    · rw [t2]
      exact .inr ⟨fun hf => hb (hf.ride i x a p hx ha hp), rfl⟩
  · rw [if_pos (by simp; omega)]
    exact .inr ⟨fun hf => q ⟨hf.at_, hf.people, hf.walks⟩, rfl⟩
theorem fits_ref : (Fit h d ∧ r06_Fits h d = some true) ∨ (¬ Fit h d ∧ r06_Fits h d = some false) := by
  have hn := hv.1.2.2.2.1
  have ht := hv.1.2.2.2.2.1
  unfold r06_Fits
  by_cases q : d.At.length = h.Trains.length ∧ d.People.length = h.Trains.length ∧ d.Walks.length = h.Combs.length
  · obtain ⟨q1, q2, q3⟩ := q
    rw [if_neg (by simp; omega)]
    rcases loop_scan (f := r06_Fits_L15 h d) h.Trains (fun i x => ∃ a p, d.At[i]? = some a ∧ d.People[i]? = some p ∧ ¬ goodRide x a p) (.inr false) (.inl ()) (fun i x hx hb => by
        obtain ⟨a, p, ha, hp, hb⟩ := hb
        simp only [r06_Fits_L15, get_k hx, get_k ha, get_k hp, Option.bind_some]
        rw [if_pos (by simpa using lt_k hx)]
        by_cases r1 : x.At.Low ≤ a ∧ a ≤ x.At.High
        · rw [if_neg (by simp only [r06_within, Bool.not_eq_true', Bool.and_eq_false_iff, decide_eq_false_iff_not]; omega)]
          simp only [Option.bind_some]
          by_cases r2 : p.length = x.Crowds.length
          · rw [if_neg (by simp; omega)]
            rcases crowd_fit hp r2 (by have := (hv.2.2.1 i x hx).2.2.2.1; simp only [maxLen]; omega) with ⟨c1, _⟩ | ⟨_, c2⟩
            · exact absurd ⟨r1, r2, c1⟩ hb
            · rw [c2]; rfl
          · rw [if_pos (by simp; omega)]
        · rw [if_pos (by simp only [r06_within, Bool.not_eq_true', Bool.and_eq_false_iff, decide_eq_false_iff_not]; omega)]
          simp only [Option.bind_some, if_true]) (fun i x hx hb => by
        obtain ⟨a, ha⟩ := ex_k (show i < d.At.length by rw [q1]; exact lt_k hx)
        obtain ⟨p, hp⟩ := ex_k (show i < d.People.length by rw [q2]; exact lt_k hx)
        obtain ⟨r1, r2, r3⟩ : goodRide x a p := Classical.not_not.1 fun hh => hb ⟨a, p, ha, hp, hh⟩
        simp only [r06_Fits_L15, get_k hx, get_k ha, get_k hp, Option.bind_some]
        rw [if_pos (by simpa using lt_k hx), if_neg (by simp only [r06_within, Bool.not_eq_true', Bool.and_eq_false_iff, decide_eq_false_iff_not]; omega)]
        simp only [Option.bind_some]
        rw [if_neg (by simp; omega)]
        rcases crowd_fit hp r2 (by have := (hv.2.2.1 i x hx).2.2.2.1; simp only [maxLen]; omega) with ⟨_, c2⟩ | ⟨⟨k, y, n, hy, hn', hb⟩, _⟩
        · rw [c2]; simp only [Option.bind_some, r06_Fits_j35, wr_k (lt_k hx) (show h.Trains.length ≤ maxLen by simp only [maxLen]; omega)]
        · exact absurd (r3 k y n hy hn') hb) (by simp [r06_Fits_L15]) with ⟨t1, t2⟩ | ⟨⟨i, x, hx, a, p, ha, hp, hb⟩, t2⟩
    · rw [t2]
      simp only [Option.bind_some, r06_Fits_j6]
      have inner : ∀ (u : Nat) x w, h.Combs[u]? = some x → d.Walks[u]? = some w → ((∀ n ∈ w, x.Walk.Low ≤ n ∧ n ≤ x.Walk.High) ∧ loopM (r06_Fits_L25 h d u) 0 = some (.inl ())) ∨ ((∃ n ∈ w, ¬ (x.Walk.Low ≤ n ∧ n ≤ x.Walk.High)) ∧ loopM (r06_Fits_L25 h d u) 0 = some (.inr false)) := fun u x w hx hw => by
        have hwl : w.length ≤ maxLen := (hd.2.2.2 w (List.mem_of_getElem? hw)).1
        rcases loop_scan (f := r06_Fits_L25 h d u) w (fun _ n => ¬ (x.Walk.Low ≤ n ∧ n ≤ x.Walk.High)) (.inr false) (.inl ()) (fun k n hn hb => by
            simp only [r06_Fits_L25, get_k hw, get_k hn, get_k hx, Option.bind_some]
            rw [if_pos (by simpa using lt_k hn), if_pos]
            simp only [r06_within, Bool.not_eq_true', Bool.and_eq_false_iff, decide_eq_false_iff_not]; omega) (fun k n hn hb => by
            simp only [r06_Fits_L25, get_k hw, get_k hn, get_k hx, Option.bind_some]
            rw [if_pos (by simpa using lt_k hn), if_neg, wr_k (lt_k hn) hwl]
            simp only [r06_within, Bool.not_eq_true', Bool.and_eq_false_iff, decide_eq_false_iff_not]; omega) (by simp [r06_Fits_L25, get_k hw]) with ⟨h1, h2⟩ | ⟨⟨k, n, hn, hb⟩, h2⟩
        · refine .inl ⟨fun n hn => ?_, h2⟩
          obtain ⟨j, hj, rfl⟩ := List.getElem_of_mem hn
          exact Classical.not_not.1 (h1 j _ (List.getElem?_eq_getElem hj))
        · exact .inr ⟨⟨n, List.mem_of_getElem? hn, hb⟩, h2⟩
      rcases loop_scan (f := r06_Fits_L27 h d) h.Combs (fun u x => ∃ w, d.Walks[u]? = some w ∧ ¬ goodWalk x w) (.inr false) (.inl ()) (fun u x hx hb => by
          obtain ⟨w, hw, hb⟩ := hb
          simp only [r06_Fits_L27, get_k hw, Option.bind_some]
          rw [if_pos (by simpa using lt_k hx)]
          by_cases r1 : 1 ≤ w.length ∧ w.length ≤ 20
          · rw [if_neg (by simp only [r06_within, Bool.not_eq_true', Bool.and_eq_false_iff, decide_eq_false_iff_not]; omega)]
            rcases inner u x w hx hw with ⟨i1, _⟩ | ⟨_, i2⟩
            · exact absurd ⟨r1.1, r1.2, i1⟩ hb
            · rw [i2]; rfl
          · rw [if_pos (by simp only [r06_within, Bool.not_eq_true', Bool.and_eq_false_iff, decide_eq_false_iff_not]; omega)]) (fun u x hx hb => by
          obtain ⟨w, hw⟩ := ex_k (show u < d.Walks.length by rw [q3]; exact lt_k hx)
          obtain ⟨r1, r2, r3⟩ : goodWalk x w := Classical.not_not.1 fun hh => hb ⟨w, hw, hh⟩
          simp only [r06_Fits_L27, get_k hw, Option.bind_some]
          rw [if_pos (by simpa using lt_k hx), if_neg (by simp only [r06_within, Bool.not_eq_true', Bool.and_eq_false_iff, decide_eq_false_iff_not]; omega)]
          rcases inner u x w hx hw with ⟨_, i2⟩ | ⟨⟨n, hn, hb⟩, _⟩
          · rw [i2]; simp only [Option.bind_some, r06_Fits_j13, wr_k (lt_k hx) (show h.Combs.length ≤ maxLen by simp only [maxLen]; omega)]
          · exact absurd (r3 n hn) hb) (by simp [r06_Fits_L27]) with ⟨w1, w2⟩ | ⟨⟨u, x, hx, w, hw, hb⟩, w2⟩
      · rw [w2]
        exact .inl ⟨⟨q1, q2, q3, fun i x a p hx ha hp => Classical.not_not.1 fun hh => t1 i x hx ⟨a, p, ha, hp, hh⟩, fun u x w hx hw => Classical.not_not.1 fun hh => w1 u x hx ⟨w, hw, hh⟩⟩, rfl⟩
      · rw [w2]
        exact .inr ⟨fun hf => hb (hf.walk u x w hx hw), rfl⟩
    · rw [t2]
      exact .inr ⟨fun hf => hb (hf.ride i x a p hx ha hp), rfl⟩
  · rw [if_pos (by simp; omega)]
    exact .inr ⟨fun hf => q ⟨hf.at_, hf.people, hf.walks⟩, rfl⟩
end
end Go.Nw.HM

namespace Go.Nw.HM
theorem nsum_upd {f g : Nat → Int} {c : Nat} (h : ∀ u, u ≠ c → f u = g u) : ∀ {n : Nat}, c < n → nsum f n = nsum g n + (f c - g c)
  | 0, hc => by omega
  | n + 1, hc => by
    rw [nsum_succ, nsum_succ]
    by_cases e : c = n
    · subst e
      rw [nsum_congr fun i hi => h i (by omega)]; omega
    · rw [nsum_upd h (by omega), h n (by omega)]; omega
theorem nsum_null {f : Nat → Int} {n : Nat} (h : ∀ i, i < n → f i = 0) : nsum f n = 0 := by
  have := nsum_bound (f := f) (B := 0) (k := n) fun i hi => by have := h i hi; omega
  omega
theorem nsum_tail {f : Nat → Int} {s : Nat} (h : ∀ i, s ≤ i → f i = 0) : ∀ {m : Nat}, s ≤ m → nsum f m = nsum f s
  | 0, hm => by rw [show s = 0 by omega]
  | m + 1, hm => by
    by_cases e : s = m + 1
    · rw [e]
    · rw [nsum_succ, nsum_tail h (by omega), h m (by omega)]; omega
theorem nsum_add {f g : Nat → Int} {n : Nat} : nsum (fun i => f i + g i) n = nsum f n + nsum g n := by
  induction n with
  | zero => simp [nsum_zero]
  | succ n ih => rw [nsum_succ, nsum_succ, nsum_succ, ih]; omega
def dAt (d : Day) (i : Nat) : Int := (d.At[i]?).getD 0
def dPe (d : Day) (i k : Nat) : Int := (((d.People[i]?).getD [])[k]?).getD 0
def wlk (d : Day) (u t : Nat) : Nat := ((((d.Walks[u]?).getD [])[t % ((d.Walks[u]?).getD []).length]?).getD 0).toNat
def tr (h : Hall) (i : Nat) : Train := (h.Trains[i]?).getD default
def crC (h : Hall) (i k : Nat) : Int := (((tr h i).Crowds[k]?).map (·.Comb)).getD (-1)
def nxt (h : Hall) (u : Nat) : Int := ((h.Combs[u]?).map (·.Next)).getD (-1)
def arrK (h : Hall) (d : Day) (c i k : Nat) : Int := if crC h i k = (c : Int) then dPe d i k else 0
def arrI (h : Hall) (d : Day) (t c i : Nat) : Int := if dAt d i = (t : Int) then nsum (arrK h d c i) (tr h i).Crowds.length else 0
/-- Who comes by train. -/
def arr (h : Hall) (d : Day) (t c : Nat) : Int := nsum (arrI h d t c) h.Trains.length
def psN (h : Hall) (n : Nat → Nat → Int) (t c : Nat) : Int := min (n t c) (rateAt h c t)
def lfN (h : Hall) (n : Nat → Nat → Int) (t c : Nat) : Int := n t c - psN h n t c
def Wt (h : Hall) (d : Day) (p : Nat → Nat → Int) (s e u t : Nat) : Int := if nxt h u = (e : Int) ∧ t + wlk d u t = s then p t u else 0
def rowN (h : Hall) (d : Day) (n : Nat → Nat → Int) (t c : Nat) : Int := (arr h d t c + nsum (fun u => nsum (Wt h d (psN h n) t c u) t) h.Combs.length) + if 0 < t then lfN h n (t - 1) c else 0
def nL (h : Hall) (d : Day) : Nat → Nat → Nat → Int
  | 0 => fun _ _ => 0
  | k + 1 => fun t c => if t = k then rowN h d (nL h d k) k c else nL h d k t c
/-- How many are before a comb in a tick. -/
def nn (h : Hall) (d : Day) (t c : Nat) : Int := nL h d (t + 1) t c
abbrev ps (h : Hall) (d : Day) : Nat → Nat → Int := psN h (nn h d)
abbrev lf (h : Hall) (d : Day) : Nat → Nat → Int := lfN h (nn h d)
theorem rowN_congr {h : Hall} {d : Day} {p q : Nat → Nat → Int} {t c : Nat} (hpq : ∀ t', t' < t → ∀ c, p t' c = q t' c) : rowN h d p t c = rowN h d q t c := by
  unfold rowN
  congr 1
  · congr 1
    refine nsum_congr fun u _ => nsum_congr fun t' ht' => ?_
    unfold Wt psN
    rw [hpq t' ht']
  · split
    · unfold lfN psN; rw [hpq (t - 1) (by omega)]
    · rfl
theorem nL_lt {h : Hall} {d : Day} {k t c : Nat} (ht : t < k) : nL h d k t c = nn h d t c := by
  induction k with
  | zero => omega
  | succ k ih =>
    by_cases e : t = k
    · subst e; rfl
    · show (if t = k then _ else nL h d k t c) = _
      rw [if_neg e]; exact ih (by omega)
theorem nn_eq {h : Hall} {d : Day} {t c : Nat} : nn h d t c = rowN h d (nn h d) t c := by
  show (if t = t then rowN h d (nL h d t) t c else _) = _
  rw [if_pos rfl]
  exact rowN_congr fun t' ht' c => nL_lt ht'
section
variable {h : Hall} {d : Day}
/-- Who has come, if of each comb the first so many ticks are over. -/
def Cm (h : Hall) (d : Day) (m : Nat → Nat) (s e : Nat) : Int := arr h d s e + nsum (fun u => nsum (Wt h d (ps h d) s e u) (m u)) h.Combs.length
def Pm (h : Hall) (d : Day) (m : Nat → Nat) (s e : Nat) : Int := Cm h d m s e + if 0 < s ∧ s ≤ m e then lf h d (s - 1) e else 0
theorem Cm_step {m m' : Nat → Nat} {c : Nat} (hc : c < h.Combs.length) (h1 : ∀ u, u ≠ c → m' u = m u) (h2 : m' c = m c + 1) (s e : Nat) : Cm h d m' s e = Cm h d m s e + Wt h d (ps h d) s e c (m c) := by
  unfold Cm
  rw [nsum_upd (f := fun u => nsum (Wt h d (ps h d) s e u) (m' u)) (g := fun u => nsum (Wt h d (ps h d) s e u) (m u)) (c := c) (fun u hu => by simp only [h1 u hu]) hc]
  simp only [h2, nsum_succ]
  omega
theorem Pm_step {m m' : Nat → Nat} {c : Nat} (hc : c < h.Combs.length) (h1 : ∀ u, u ≠ c → m' u = m u) (h2 : m' c = m c + 1) (s e : Nat) :
    Pm h d m' s e = (Pm h d m s e + if s = m c + 1 ∧ e = c then lf h d (m c) c else 0) + Wt h d (ps h d) s e c (m c) := by
  unfold Pm
  rw [Cm_step hc h1 h2]
  by_cases e1 : e = c
  · subst e1
    rw [h2]
    by_cases q : s = m e + 1
    · subst q
      rw [if_pos (by omega), if_neg (by omega), if_pos (by omega), Nat.add_sub_cancel]; omega
    · rw [if_neg (c := s = m e + 1 ∧ e = e) (by omega)]
      by_cases q2 : 0 < s ∧ s ≤ m e
      · rw [if_pos (by omega), if_pos q2]; omega
      · rw [if_neg (by omega), if_neg q2]; omega
  · rw [h1 e e1, if_neg (c := s = m c + 1 ∧ e = c) (by omega)]; omega
variable (hv : V h) (hf : Fit h d)
include hv hf
theorem wlk_pos {u : Nat} (hu : u < h.Combs.length) (t : Nat) : ∃ x w, h.Combs[u]? = some x ∧ d.Walks[u]? = some w ∧ 1 ≤ w.length ∧ w.length ≤ 20 ∧ w[t % w.length]? = some (wlk d u t : Int) ∧ x.Walk.Low ≤ wlk d u t ∧ wlk d u t ≤ x.Walk.High ∧ 1 ≤ wlk d u t ∧ wlk d u t ≤ 20 := by
  obtain ⟨x, hx⟩ := ex_k hu
  obtain ⟨w, hw⟩ := ex_k (show u < d.Walks.length by rw [hf.walks]; exact hu)
  obtain ⟨g1, g2, g3⟩ := hf.walk u x w hx hw
  have hg := hv.2.1 u x hx
  unfold goodComb at hg
  obtain ⟨n, hn⟩ := ex_k (show t % w.length < w.length from Nat.mod_lt _ (by omega))
  have := g3 n (List.mem_of_getElem? hn)
  have e : wlk d u t = n.toNat := by unfold wlk; rw [hw]; simp [hn]
  rw [e]
  refine ⟨x, w, hx, hw, g1, g2, ?_, by omega, by omega, by omega, by omega⟩
  rw [hn]; congr 1; omega
theorem Wt_late {s e u t : Nat} (hu : u < h.Combs.length) (ht : s ≤ t) (p : Nat → Nat → Int) : Wt h d p s e u t = 0 := by
  obtain ⟨x, w, _, _, _, _, _, _, _, h1, _⟩ := wlk_pos hv hf hu t
  unfold Wt; rw [if_neg (by omega)]
theorem Cm_full {m : Nat → Nat} {s e : Nat} (hm : ∀ u, u < h.Combs.length → nxt h u = (e : Int) → s ≤ m u) : Cm h d m s e = arr h d s e + nsum (fun u => nsum (Wt h d (ps h d) s e u) s) h.Combs.length := by
  unfold Cm
  congr 1
  refine nsum_congr fun u hu => ?_
  by_cases q : nxt h u = (e : Int)
  · exact nsum_tail (fun i hi => Wt_late hv hf hu hi _) (hm u hu q)
  · rw [nsum_null fun i _ => by unfold Wt; rw [if_neg fun hh => q hh.1], nsum_null fun i _ => by unfold Wt; rw [if_neg fun hh => q hh.1]]
theorem nn_Cm {m : Nat → Nat} {s e : Nat} (hm : ∀ u, u < h.Combs.length → nxt h u = (e : Int) → s ≤ m u) : nn h d s e = Cm h d m s e + if 0 < s then lf h d (s - 1) e else 0 := by
  rw [nn_eq, Cm_full hv hf hm]; rfl
theorem nn_Pm {m : Nat → Nat} {s e : Nat} (hm : ∀ u, u < h.Combs.length → nxt h u = (e : Int) → s ≤ m u) (he : s ≤ m e) : nn h d s e = Pm h d m s e := by
  rw [nn_Cm hv hf hm]
  unfold Pm
  by_cases q : 0 < s
  · rw [if_pos q, if_pos ⟨q, he⟩]
  · rw [if_neg q, if_neg (by omega)]
/- Bounds. -/
theorem pe_bound {i k : Nat} (hi : i < h.Trains.length) (hk : k < (tr h i).Crowds.length) : 0 ≤ dPe d i k ∧ dPe d i k ≤ 1000 ∧ ∃ y, (tr h i).Crowds[k]? = some y ∧ y.People.Low ≤ dPe d i k ∧ dPe d i k ≤ y.People.High := by
  obtain ⟨x, hx⟩ := ex_k hi
  obtain ⟨a, ha⟩ := ex_k (show i < d.At.length by rw [hf.at_]; exact hi)
  obtain ⟨p, hp⟩ := ex_k (show i < d.People.length by rw [hf.people]; exact hi)
  obtain ⟨_, g2, g3⟩ := hf.ride i x a p hx ha hp
  have et : tr h i = x := by unfold tr; rw [hx]; rfl
  rw [et] at hk ⊢
  obtain ⟨y, hy⟩ := ex_k hk
  obtain ⟨n, hn⟩ := ex_k (show k < p.length by omega)
  have := g3 k y n hy hn
  have hg := (hv.2.2.1 i x hx).2.2.2.2 k y hy
  unfold goodCrowd at hg
  have e : dPe d i k = n := by unfold dPe; rw [hp]; simp [hn]
  rw [e]
  exact ⟨by omega, by omega, y, hy, by omega, by omega⟩
theorem at_bound {i : Nat} (hi : i < h.Trains.length) : ∃ x a, h.Trains[i]? = some x ∧ d.At[i]? = some (a : Nat) ∧ dAt d i = (a : Nat) ∧ a < T h ∧ x.At.Low ≤ (a : Nat) ∧ (a : Int) ≤ x.At.High ∧ tr h i = x := by
  obtain ⟨x, hx⟩ := ex_k hi
  obtain ⟨a, ha⟩ := ex_k (show i < d.At.length by rw [hf.at_]; exact hi)
  obtain ⟨p, hp⟩ := ex_k (show i < d.People.length by rw [hf.people]; exact hi)
  obtain ⟨g1, _, _⟩ := hf.ride i x a p hx ha hp
  have hg := hv.2.2.1 i x hx
  have := T_int hv
  obtain ⟨q1, q2, q3, _⟩ := hg
  refine ⟨x, a.toNat, hx, ?_, ?_, by omega, by omega, by omega, by unfold tr; rw [hx]; rfl⟩
  · rw [ha]; congr 1; omega
  · unfold dAt; rw [ha]; simp; omega
omit hf in
theorem cr_len {i : Nat} (hi : i < h.Trains.length) : (tr h i).Crowds.length ≤ 4 := by
  obtain ⟨x, hx⟩ := ex_k hi
  have : tr h i = x := by unfold tr; rw [hx]; rfl
  rw [this]; exact (hv.2.2.1 i x hx).2.2.2.1
theorem arrK_bound {c i : Nat} (hi : i < h.Trains.length) {k : Nat} (hk : k ≤ (tr h i).Crowds.length) : 0 ≤ nsum (arrK h d c i) k ∧ nsum (arrK h d c i) k ≤ 4000 := by
  have := nsum_bound (f := arrK h d c i) (B := 1000) (k := k) fun j hj => by
    have := pe_bound hv hf hi (show j < (tr h i).Crowds.length by omega)
    unfold arrK; split <;> omega
  have := cr_len hv hi
  omega
theorem arrI_bound {t c i : Nat} (hi : i < h.Trains.length) : 0 ≤ arrI h d t c i ∧ arrI h d t c i ≤ 4000 := by
  have := arrK_bound hv hf (c := c) hi (Nat.le_refl _)
  unfold arrI; split <;> omega
theorem arr_bound {t c k : Nat} (hk : k ≤ h.Trains.length) : 0 ≤ nsum (arrI h d t c) k ∧ nsum (arrI h d t c) k ≤ 48000 := by
  have := nsum_bound (f := arrI h d t c) (B := 4000) (k := k) fun i hi => arrI_bound hv hf (by omega)
  have := hv.1.2.2.2.2.1
  omega
omit hf in
theorem Wt_bound {n : Nat → Nat → Int} {s e u t : Nat} (hn : ∀ t c, t < s → 0 ≤ n t c) (ht : t < s) : 0 ≤ Wt h d (psN h n) s e u t ∧ Wt h d (psN h n) s e u t ≤ 1000 := by
  have h1 := hn t u ht
  have h2 := rate_bounds hv (c := u) t
  unfold Wt; split
  · unfold psN; omega
  · omega
theorem nn_bound : ∀ (t : Nat), t < T h → ∀ c, 0 ≤ nn h d t c ∧ nn h d t c ≤ 1000000 * (t + 1) := by
  intro t
  induction t using Nat.strongRecOn with
  | _ t ih =>
    intro ht c
    have hT := T_le hv
    have hN := hv.1.2.2.2.1
    have h1 := arr_bound hv hf (t := t) (c := c) (Nat.le_refl _)
    have h2 : 0 ≤ nsum (fun u => nsum (Wt h d (psN h (nn h d)) t c u) t) h.Combs.length ∧ nsum (fun u => nsum (Wt h d (psN h (nn h d)) t c u) t) h.Combs.length ≤ 800000 := by
      have := nsum_bound (f := fun u => nsum (Wt h d (psN h (nn h d)) t c u) t) (B := 100000) (k := h.Combs.length) fun u hu => by
        have := nsum_bound (f := Wt h d (psN h (nn h d)) t c u) (B := 1000) (k := t) fun t' ht' => Wt_bound hv (fun t c htt => by
          by_cases q : t < T h
          · exact (ih t (by omega) q c).1
          · omega) ht'
        omega
      omega
    rw [nn_eq]
    unfold rowN
    unfold arr
    split
    · have h3 := ih (t - 1) (by omega) (by omega) c
      have h4 := rate_bounds hv (c := c) (t - 1)
      have e1 : lfN h (nn h d) (t - 1) c = nn h d (t - 1) c - min (nn h d (t - 1) c) (rateAt h c (t - 1)) := rfl
      rw [e1]
      have : ((t - 1 : Nat) : Int) = (t : Int) - 1 := by omega
      rw [this] at h3
      omega
    · omega
theorem ps_bound {t : Nat} (ht : t < T h) (c : Nat) : 0 ≤ ps h d t c ∧ ps h d t c ≤ 1000 ∧ 0 ≤ lf h d t c ∧ lf h d t c ≤ 1000000 * (t + 1) := by
  have h1 := nn_bound hv hf t ht c
  have h2 := rate_bounds hv (c := c) t
  have e1 : ps h d t c = min (nn h d t c) (rateAt h c t) := rfl
  have e2 : lf h d t c = nn h d t c - ps h d t c := rfl
  omega
theorem Cm_bound {m : Nat → Nat} (hm : ∀ u, u < h.Combs.length → m u ≤ T h) (s e : Nat) : 0 ≤ Cm h d m s e ∧ Cm h d m s e ≤ 1000000 := by
  have hT := T_le hv
  have hN := hv.1.2.2.2.1
  have h1 := arr_bound hv hf (t := s) (c := e) (Nat.le_refl _)
  have := nsum_bound (f := fun u => nsum (Wt h d (ps h d) s e u) (m u)) (B := 100000) (k := h.Combs.length) fun u hu => by
    have hmu := hm u hu
    have := nsum_bound (f := Wt h d (ps h d) s e u) (B := 1000) (k := m u) fun t' ht' => by
      have := ps_bound hv hf (show t' < T h by omega) u
      unfold Wt; split <;> omega
    omega
  unfold Cm arr
  omega
theorem Pm_bound {m : Nat → Nat} (hm : ∀ u, u < h.Combs.length → m u ≤ T h) {s : Nat} (hs : s < T h) (e : Nat) : 0 ≤ Pm h d m s e ∧ Pm h d m s e ≤ 1000000000 := by
  have h1 := Cm_bound hv hf hm s e
  have hT := T_le hv
  unfold Pm
  split
  · have := ps_bound hv hf (show s - 1 < T h by omega) e
    omega
  · omega
end
/- Tables of rows. -/
def tab2 (m n : Nat) (g : Nat → Nat → Int) : List (List Int) := tab m fun t => tab n (g t)
theorem get2 {m n t : Nat} {g : Nat → Nat → Int} (ht : t < m) : get (tab2 m n g) (t : Int) = some (tab n (g t)) := get_tab ht
theorem set2 {m n a b : Nat} {g : Nat → Nat → Int} {v : Int} : (tab2 m n g).set a ((tab n (g a)).set b v) = tab2 m n fun t c => if t = a ∧ c = b then v else g t c := by
  unfold tab2
  rw [tab_set]
  refine tab_congr fun t _ => ?_
  by_cases e : t = a
  · subst e
    rw [if_pos rfl, tab_set]
    exact tab_congr fun c _ => by
      by_cases e2 : c = b
      · rw [if_pos e2]; show v = if t = t ∧ c = b then v else g t c; rw [if_pos ⟨rfl, e2⟩]
      · rw [if_neg e2]; show g t c = if t = t ∧ c = b then v else g t c; rw [if_neg fun hh => e2 hh.2]
  · rw [if_neg e]
    exact tab_congr fun c _ => by show g t c = if t = a ∧ c = b then v else g t c; rw [if_neg fun hh => e hh.1]
theorem tab2_congr {m n : Nat} {g k : Nat → Nat → Int} (h : ∀ t, t < m → ∀ c, c < n → g t c = k t c) : tab2 m n g = tab2 m n k := tab_congr fun t ht => tab_congr fun c hc => h t ht c hc
theorem tab2_len {m n : Nat} {g : Nat → Nat → Int} : (tab2 m n g).length = m := tab_len
end Go.Nw.HM

namespace Go.Nw.HM
theorem tab2_succ {m n : Nat} {g : Nat → Nat → Int} : tab2 (m + 1) n g = tab2 m n g ++ [tab n (g m)] := tab_succ
theorem rem_nat {t n : Nat} (hn : 1 ≤ n) : rem (t : Int) (n : Int) = some ((t % n : Nat) : Int) := by
  unfold rem
  rw [if_neg (by omega)]
  rfl
section
variable {h : Hall} {d : Day} (hv : V h) (hf : Fit h d)
include hv hf
/-- The trains of a day. -/
theorem trains_prog : loopM (halls_Play_L22 h d) (tab2 (T h) h.Combs.length fun _ _ => 0, 0) = some (tab2 (T h) h.Combs.length (arr h d)) := by
  have hT := T_le hv
  have hN := hv.1.2.2.2.1
  have hTr := hv.1.2.2.2.2.1
  refine loop_stepsX (f := halls_Play_L22 h d) h.Trains.length (fun s k => (s, k)) (fun i => tab2 (T h) h.Combs.length fun t c => nsum (arrI h d t c) i) _ (s0 := tab2 (T h) h.Combs.length fun _ _ => 0) rfl (fun i hi => ?_) (by
    simp only [halls_Play_L22]
    rw [if_neg (by simp)]; rfl)
  obtain ⟨x, a, hx, ha, hda, haT, _, _, htr⟩ := at_bound hv hf hi
  simp only [halls_Play_L22, get_k hx, Option.bind_some]
  rw [if_pos (by simpa using hi)]
  have hcl := cr_len hv hi
  rw [htr] at hcl
  have := loop_stepsX (f := halls_Play_L20 d i x) x.Crowds.length (fun s k => (s, k)) (fun k => tab2 (T h) h.Combs.length fun t c => nsum (arrI h d t c) i + if dAt d i = (t : Int) then nsum (arrK h d c i) k else 0) (tab2 (T h) h.Combs.length fun t c => nsum (arrI h d t c) (i + 1))
    (s0 := tab2 (T h) h.Combs.length fun t c => nsum (arrI h d t c) i) (tab2_congr fun t _ c _ => by simp [nsum_zero]) (fun k hk => by
      obtain ⟨y, hy⟩ := ex_k hk
      obtain ⟨p, hp⟩ := ex_k (show i < d.People.length by rw [hf.people]; exact hi)
      obtain ⟨_, g2, _⟩ := hf.ride i x a p hx ha hp
      obtain ⟨n, hn⟩ := ex_k (show k < p.length by omega)
      have hpe : dPe d i k = n := by unfold dPe; rw [hp]; simp [hn]
      have hb := pe_bound hv hf hi (k := k) (by rw [htr]; exact hk)
      have hgc := (hv.2.2.1 i x hx).2.2.2.2 k y hy
      have hyc : 0 ≤ y.Comb := by
        have := (V_ok hv).2.1.2 x (List.mem_of_getElem? hx)
        have key : ∀ (j : Nat) (z : Crowd), x.Crowds[j]? = some z → -1 < z.Comb := by
          intro j
          induction j with
          | zero => intro z hz; exact ((hv.2.2.1 i x hx).2.2.2.2 0 z hz).2.2.2.2
          | succ j ih =>
            intro z hz
            obtain ⟨z', hz'⟩ := ex_k (show j < x.Crowds.length by have := lt_k hz; omega)
            have := ih z' hz'
            have := ((hv.2.2.1 i x hx).2.2.2.2 (j + 1) z hz).2.2.2.2 z' hz'
            omega
        have := key k y hy; omega
      obtain ⟨b, hb'⟩ : ∃ b : Nat, y.Comb = b := ⟨y.Comb.toNat, by omega⟩
      have hbN : b < h.Combs.length := by unfold goodCrowd at hgc; omega
      have hcr : crC h i k = b := by unfold crC; rw [htr, hy, ← hb']; rfl
      have hs := arr_bound hv hf (t := a) (c := b) (k := i) (by omega)
      have hs2 := arrK_bound hv hf (c := b) hi (k := k) (by rw [htr]; omega)
      simp only [halls_Play_L20, get_k hy, get_k ha, get_k hp, get_k hn, Option.bind_some]
      rw [if_pos (by simpa using hk), get2 haT]
      simp only [Option.bind_some, hb']
      rw [get_tab hbN]
      simp only [Option.bind_some]
      rw [show ((a : Nat) : Int).toNat = a from by omega, show ((b : Nat) : Int).toNat = b from by omega, wr_k hk (show x.Crowds.length ≤ maxLen by simp only [maxLen]; omega), hda, if_pos rfl, wr_small (by omega) (by omega),
        set2 (g := fun t c => nsum (arrI h d t c) i + if ((a : Nat) : Int) = (t : Int) then nsum (arrK h d c i) k else 0)]
      congr 3
      refine tab2_congr fun t ht c hc => ?_
      by_cases e : t = a
      · subst e
        rw [if_pos rfl]
        by_cases e2 : c = b
        · subst e2
          rw [if_pos ⟨rfl, rfl⟩, nsum_succ]
          simp only [arrK, hcr, if_true, hpe]
          omega
        · rw [if_neg (by omega), if_pos rfl, nsum_succ]
          simp only [arrK, hcr]
          rw [if_neg (c := (b : Int) = c) (by omega)]; omega
      · rw [if_neg (by omega), if_neg (by omega), if_neg (by omega)]) (by
    simp only [halls_Play_L20]
    rw [if_neg (by simp)]
    congr 2
    refine tab2_congr fun t _ c _ => ?_
    rw [nsum_succ]
    unfold arrI
    rw [htr])
  rw [this]
  simp only [Option.bind_some, halls_Play_j75, wr_k hi (show h.Trains.length ≤ maxLen by simp only [maxLen]; omega)]
def mAt (t c : Nat) : Nat → Nat := fun u => if u < c then t + 1 else t
omit hf in
theorem nxt_at {c : Nat} (hc : c < h.Combs.length) : ∃ x, h.Combs[c]? = some x ∧ nxt h c = x.Next ∧ (x.Next = -1 ∨ ((c : Int) < x.Next ∧ x.Next < h.Combs.length)) := by
  obtain ⟨x, hx⟩ := ex_k hc
  exact ⟨x, hx, by unfold nxt; rw [hx]; rfl, (hv.2.1 c x hx).2.2.2.2.1⟩
theorem push_prog {t : Nat} (ht : t < T h) :
    loopM (halls_Play_L44 h d (tab h.Combs.length fun c => tab (T h) (rateAt h c)) t (tab h.Combs.length (Pm h d (fun _ => t) t))) (tab2 (T h) h.Combs.length (Pm h d fun _ => t), 0) = some (tab2 (T h) h.Combs.length (Pm h d fun _ => t + 1)) := by
  have hT := T_le hv
  have hTi := T_int hv
  have hN := hv.1.2.2.2.1
  refine loop_stepsX (f := halls_Play_L44 h d (tab h.Combs.length fun c => tab (T h) (rateAt h c)) t (tab h.Combs.length (Pm h d (fun _ => t) t))) h.Combs.length (fun s k => (s, k)) (fun c => tab2 (T h) h.Combs.length (Pm h d (mAt t c))) _ (s0 := tab2 (T h) h.Combs.length (Pm h d fun _ => t)) rfl (fun c hc => ?_) (by
    simp only [halls_Play_L44, tab_len]
    rw [if_neg (by simp)]
    congr 2
    refine tab2_congr fun s _ e he => ?_
    unfold Pm Cm
    congr 1
    · congr 1
      refine nsum_congr fun u hu => ?_
      unfold mAt; rw [if_pos hu]
    · unfold mAt; rw [if_pos he])
  obtain ⟨x, hx, hnx, hnb⟩ := nxt_at hv hc
  obtain ⟨x', w, hx', hw, hw1, hw2, hwv, _, _, hk1, hk2⟩ := wlk_pos hv hf hc t
  have hmle : ∀ u, u < h.Combs.length → mAt t c u ≤ T h := fun u _ => by unfold mAt; split <;> omega
  have hmle' : ∀ u, u < h.Combs.length → mAt t (c + 1) u ≤ T h := fun u _ => by unfold mAt; split <;> omega
  have hmc : mAt t c c = t := by unfold mAt; rw [if_neg (by omega)]
  have hmc' : mAt t (c + 1) c = mAt t c c + 1 := by rw [hmc]; unfold mAt; rw [if_pos (by omega)]
  have hmu : ∀ u, u ≠ c → mAt t (c + 1) u = mAt t c u := fun u hu => by
    unfold mAt
    by_cases q : u < c
    · rw [if_pos q, if_pos (by omega)]
    · rw [if_neg q, if_neg (by omega)]
  have hval : Pm h d (mAt t c) t c = nn h d t c := (nn_Pm hv hf (fun u _ _ => by unfold mAt; split <;> omega) (by rw [hmc]; omega)).symm
  have hnb2 := nn_bound hv hf t ht c
  have hps := ps_bound hv hf ht c
  have eps : min (nn h d t c) (rateAt h c t) = ps h d t c := rfl
  have elf : nn h d t c - ps h d t c = lf h d t c := rfl
  simp only [halls_Play_L44, tab_len]
  rw [if_pos (by simpa using hc), get2 ht]
  simp only [Option.bind_some]
  rw [get_tab hc]
  simp only [Option.bind_some, hval]
  rw [get_tab hc]
  simp only [Option.bind_some]
  rw [get_tab ht]
  simp only [Option.bind_some, mn_eq, eps]
  rw [show wr ((t : Int) + 1) = ((t + 1 : Nat) : Int) from by rw [wr_small (by omega) (by omega)]; omega]
  have wl : ∀ g : Nat → Nat → Int, (∀ s, s < T h → ∀ e, -1000000000 ≤ g s e ∧ g s e ≤ 2000000000) → (∀ s, s < T h → ∀ e, e < h.Combs.length → g s e + Wt h d (ps h d) s e c t = Pm h d (mAt t (c + 1)) s e) →
      halls_Play_j40 h d t c (nn h d t c) (rateAt h c t) (tab2 (T h) h.Combs.length g) = some (.nx (tab2 (T h) h.Combs.length (Pm h d (mAt t (c + 1))), (c : Int) + 1)) := fun g hgb hg => by
    unfold halls_Play_j40
    rw [get_k hw]
    simp only [Option.bind_some]
    rw [rem_nat hw1]
    simp only [Option.bind_some]
    rw [get_k hwv]
    simp only [Option.bind_some]
    rw [get_k hx]
    simp only [Option.bind_some, mn_eq, eps]
    rw [show wr ((t : Int) + (wlk d c t : Int)) = ((t + wlk d c t : Nat) : Int) from by rw [wr_small (by omega) (by omega)]; omega]
    by_cases q : 0 ≤ x.Next ∧ t + wlk d c t < T h
    · obtain ⟨e', he'⟩ : ∃ e' : Nat, x.Next = e' := ⟨x.Next.toNat, by omega⟩
      rw [if_pos (by rw [← hTi]; simp; omega), get2 q.2]
      simp only [Option.bind_some, he']
      rw [get_tab (show e' < h.Combs.length by omega)]
      simp only [Option.bind_some, halls_Play_j30]
      have := hgb _ q.2 e'
      rw [show ((t + wlk d c t : Nat) : Int).toNat = t + wlk d c t from by omega, show ((e' : Nat) : Int).toNat = e' from by omega, set2, wr_k hc (show h.Combs.length ≤ maxLen by simp only [maxLen]; omega), wr_small (by omega) (by omega)]
      congr 3
      refine tab2_congr fun s hs e he => ?_
      rw [← hg s hs e he]
      unfold Wt
      by_cases q2 : s = t + wlk d c t ∧ e = e'
      · obtain ⟨rfl, rfl⟩ := q2
        rw [if_pos ⟨rfl, rfl⟩, if_pos ⟨by omega, rfl⟩]
      · rw [if_neg q2, if_neg (by omega)]; omega
    · rw [if_neg (by rw [← hTi]; simp; omega)]
      simp only [halls_Play_j30]
      rw [wr_k hc (show h.Combs.length ≤ maxLen by simp only [maxLen]; omega)]
      congr 3
      refine tab2_congr fun s hs e he => ?_
      rw [← hg s hs e he]
      unfold Wt
      rw [if_neg (by omega)]; omega
  by_cases q : t + 1 < T h
  · rw [if_pos (by rw [← hTi]; simp; omega), get2 q]
    simp only [Option.bind_some]
    rw [get_tab hc]
    simp only [Option.bind_some]
    have hb1 := Pm_bound hv hf hmle q c
    rw [show ((t + 1 : Nat) : Int).toNat = t + 1 from by omega, show ((c : Nat) : Int).toNat = c from by omega, set2, wr_small (n := nn h d t c - ps h d t c) (by omega) (by omega), elf, wr_small (by omega) (by omega)]
    refine wl _ (fun s hs e => ?_) (fun s hs e he => ?_)
    · have hb2 := Pm_bound hv hf hmle hs e
      by_cases q2 : s = t + 1 ∧ e = c
      · rw [if_pos q2]; omega
      · rw [if_neg q2]; omega
    · rw [Pm_step hc hmu hmc', hmc]
      by_cases q2 : s = t + 1 ∧ e = c
      · obtain ⟨rfl, rfl⟩ := q2
        rw [if_pos ⟨rfl, rfl⟩, if_pos ⟨rfl, rfl⟩]
      · rw [if_neg q2, if_neg q2]; omega
  · rw [if_neg (by rw [← hTi]; simp; omega)]
    refine wl _ (fun s hs e => ?_) (fun s hs e he => ?_)
    · have hb2 := Pm_bound hv hf hmle hs e; omega
    · rw [Pm_step hc hmu hmc', hmc, if_neg (by omega)]; omega
theorem Play_prog (hd : OkDay d) : halls_Play h d = some (tab2 (T h) h.Combs.length (nn h d), 0) := by
  have hT := T_le hv
  have hTi := T_int hv
  have hN := hv.1.2.2.2.1
  have hday : halls_isDay h d = some true := by
    rcases isDay_prog hv hd with ⟨_, h1⟩ | ⟨h1, _⟩
    · exact h1
    · exact absurd hf h1
  unfold halls_Play
  rw [(Check_v hv).1]
  simp only [Option.bind_some]
  rw [if_neg (by simp), hday]
  simp only [Option.bind_some]
  rw [if_neg (by simp)]
  have l1 := loop_stepsX (f := halls_Play_L11 h) (T h) (fun s k => (s, k)) (fun k => tab2 k h.Combs.length fun _ _ => 0) (tab2 (T h) h.Combs.length fun _ _ => 0) (s0 := []) rfl (fun t ht => by
    simp only [halls_Play_L11]
    rw [← hTi, if_pos (by simpa using ht), mks_nat (by omega) (by omega)]
    simp only [Option.bind_some]
    rw [ap_ok (by simp only [tab2_len, List.length_cons, List.length_nil]; omega)]
    simp only [Option.bind_some, wr_k ht (show T h ≤ maxLen by simp only [maxLen]; omega)]
    rw [tab2_succ]) (by
    simp only [halls_Play_L11]
    rw [← hTi, if_neg (by simp)])
  rw [l1]
  simp only [Option.bind_some, halls_Play_j10]
  rw [trains_prog hv hf]
  simp only [Option.bind_some, halls_Play_j12]
  rw [mks_nat (by omega) (by omega)]
  simp only [Option.bind_some]
  have l2 := loop_stepsX (f := halls_Play_L29 h) h.Combs.length (fun s k => (s, k)) (fill h.Combs.length (fun c => tab (T h) (rateAt h c)) []) (tab h.Combs.length fun c => tab (T h) (rateAt h c)) (s0 := tab h.Combs.length fun _ => []) (by rw [← tab_rep, fill_zero]) (fun c hc => by
    simp only [halls_Play_L29]
    rw [if_pos (by simpa using hc), rates_prog hv hc]
    simp only [Option.bind_some]
    rw [get_fill hc]
    simp only [Option.bind_some]
    rw [show ((c : Nat) : Int).toNat = c from by omega, fill_set rfl, wr_k hc (show h.Combs.length ≤ maxLen by simp only [maxLen]; omega)]) (by
    simp only [halls_Play_L29]
    rw [if_neg (by simp), fill_all (Nat.le_refl _)])
  rw [l2]
  simp only [Option.bind_some, halls_Play_j16]
  have l3 := loop_stepsX (f := halls_Play_L46 h d (tab2 (T h) h.Combs.length (arr h d)) (tab h.Combs.length fun c => tab (T h) (rateAt h c))) (T h) (fun s k => (s, k)) (fun t => tab2 (T h) h.Combs.length (Pm h d fun _ => t)) (tab2 (T h) h.Combs.length (nn h d)) (s0 := tab2 (T h) h.Combs.length (arr h d)) (tab2_congr fun s _ e _ => by
    unfold Pm Cm
    rw [nsum_null fun u _ => nsum_zero, if_neg fun hh => by have h2 : s ≤ 0 := hh.2; omega]; omega) (fun t ht => by
    simp only [halls_Play_L46, tab2_len]
    rw [if_pos (by simpa using ht), get2 ht]
    simp only [Option.bind_some]
    rw [push_prog hv hf ht]
    simp only [Option.bind_some, halls_Play_j23, wr_k ht (show T h ≤ maxLen by simp only [maxLen]; omega)]) (by
    simp only [halls_Play_L46, tab2_len]
    rw [if_neg (by simp)]
    congr 2
    exact tab2_congr fun s hs e he => (nn_Pm hv hf (fun u _ _ => by omega) (by omega)).symm)
  rw [l3]; rfl
end
end Go.Nw.HM

namespace Go.Nw.HM
/-- Who comes to a comb in a tick. -/
def cm (h : Hall) (d : Day) (c t : Nat) : Int := arr h d t c + nsum (fun u => nsum (Wt h d (ps h d) t c u) t) h.Combs.length
/-- A sum from one number up to, not with, another one. -/
def rsum (f : Nat → Int) (a b : Nat) : Int := nsum f b - nsum f a
theorem rsum_succ {f : Nat → Int} {a b : Nat} : rsum f a (b + 1) = rsum f a b + f b := by unfold rsum; rw [nsum_succ]; omega
theorem rsum_self {f : Nat → Int} {a : Nat} : rsum f a a = 0 := by unfold rsum; omega
theorem rsum_split {f : Nat → Int} {a b c : Nat} : rsum f a c = rsum f a b + rsum f b c := by unfold rsum; omega
theorem rsum_le {f g : Nat → Int} {a b : Nat} (hab : a ≤ b) (h : ∀ i, a ≤ i → i < b → f i ≤ g i) : rsum f a b ≤ rsum g a b := by
  induction b with
  | zero => have : a = 0 := by omega
            subst this; rw [rsum_self, rsum_self]; exact Int.le_refl _
  | succ b ih =>
    by_cases e : a = b + 1
    · subst e; rw [rsum_self, rsum_self]; exact Int.le_refl _
    · rw [rsum_succ, rsum_succ]
      have := ih (by omega) fun i h1 h2 => h i h1 (by omega)
      have := h b (by omega) (by omega)
      omega
theorem rsum_nn {f : Nat → Int} {a b : Nat} (hab : a ≤ b) (h : ∀ i, a ≤ i → i < b → 0 ≤ f i) : 0 ≤ rsum f a b := by
  have := rsum_le (f := fun _ => 0) (g := f) hab h
  have e : rsum (fun _ => (0 : Int)) a b = 0 := by unfold rsum; rw [nsum_null fun _ _ => rfl, nsum_null fun _ _ => rfl]; rfl
  omega
theorem nsum_swap {f : Nat → Nat → Int} {n m : Nat} : nsum (fun i => nsum (f i) m) n = nsum (fun j => nsum (fun i => f i j) n) m := by
  induction n with
  | zero => rw [nsum_zero, nsum_null fun j _ => nsum_zero]
  | succ n ih =>
    rw [nsum_succ, ih, ← nsum_add]
    exact nsum_congr fun j _ => by rw [nsum_succ]
theorem rsum_nsum {f : Nat → Nat → Int} {a b n : Nat} : rsum (fun x => nsum (f x) n) a b = nsum (fun i => rsum (fun x => f x i) a b) n := by
  unfold rsum
  rw [nsum_swap, nsum_swap (n := a)]
  have : ∀ k : Nat, nsum (fun i => nsum (fun x => f x i) b - nsum (fun x => f x i) a) k = nsum (fun i => nsum (fun x => f x i) b) k - nsum (fun i => nsum (fun x => f x i) a) k := by
    intro k
    induction k with
    | zero => rfl
    | succ k ih => rw [nsum_succ, nsum_succ, nsum_succ, ih]; omega
  rw [this]
/-- A sum in which one term counts, at the most. -/
theorem rsum_one {v : Int} {k a b : Nat} (hab : a ≤ b) : rsum (fun x => if k = x then v else 0) a b = if a ≤ k ∧ k < b then v else 0 := by
  induction b with
  | zero => have : a = 0 := by omega
            subst this; rw [rsum_self, if_neg (by omega)]
  | succ b ih =>
    by_cases e : a = b + 1
    · subst e; rw [rsum_self, if_neg (by omega)]
    · rw [rsum_succ, ih (by omega)]
      by_cases q : k = b
      · rw [if_neg (by omega), if_pos q, if_pos (by omega)]; omega
      · rw [if_neg q]
        by_cases q2 : a ≤ k ∧ k < b
        · rw [if_pos q2, if_pos (by omega)]; omega
        · rw [if_neg q2, if_neg (by omega)]; omega
section
variable {h : Hall} {d : Day} (hv : V h) (hf : Fit h d)
include hv hf
omit hv hf in
theorem nn_cm {t c : Nat} : nn h d t c = cm h d c t + if 0 < t then lf h d (t - 1) c else 0 := by rw [nn_eq]; rfl
theorem cm_nn {t : Nat} (ht : t < T h) (c : Nat) : 0 ≤ cm h d c t := by
  have h1 := arr_bound hv hf (t := t) (c := c) (Nat.le_refl _)
  have := nsum_nn (f := fun u => nsum (Wt h d (ps h d) t c u) t) (k := h.Combs.length) fun u hu => nsum_nn fun t' ht' => (Wt_bound hv (s := t) (e := c) (u := u) (n := nn h d) (fun t'' c' htt => (nn_bound hv hf t'' (by omega) c').1) ht').1
  unfold cm arr; omega
/-- How a row of people goes on. -/
theorem queue (c : Nat) {s t : Nat} (hst : s ≤ t) : nn h d t c + rsum (fun x => ps h d x c) s t = (nn h d s c - cm h d c s) + rsum (cm h d c) s (t + 1) := by
  induction t with
  | zero => have : s = 0 := by omega
            subst this; rw [rsum_self, rsum_succ, rsum_self]; omega
  | succ t ih =>
    by_cases e : s = t + 1
    · subst e; rw [rsum_self, rsum_succ, rsum_self]; omega
    · have := ih (by omega)
      have h1 := nn_cm (h := h) (d := d) (t := t + 1) (c := c)
      rw [if_pos (by omega), Nat.add_sub_cancel] at h1
      have h2 : lf h d t c = nn h d t c - ps h d t c := rfl
      rw [rsum_succ (b := t), rsum_succ (b := t + 1)]
      omega
theorem lf_nn {t : Nat} (ht : t < T h) (c : Nat) : 0 ≤ nn h d t c - cm h d c t := by
  have h1 := nn_cm (h := h) (d := d) (t := t) (c := c)
  by_cases q : 0 < t
  · rw [if_pos q] at h1
    have := ps_bound hv hf (show t - 1 < T h by omega) c
    omega
  · rw [if_neg q] at h1; omega
/-- The row is as long as people came since some tick, less who was let pass since then. -/
theorem since (c : Nat) : ∀ t, t < T h → ∃ s, s ≤ t ∧ nn h d t c = rsum (cm h d c) s (t + 1) - rsum (rateAt h c) s t := by
  intro t
  induction t with
  | zero =>
    intro ht
    refine ⟨0, Nat.le_refl _, ?_⟩
    rw [rsum_self, rsum_succ, rsum_self, nn_cm, if_neg (by omega)]; omega
  | succ t ih =>
    intro ht
    obtain ⟨s, hs, e⟩ := ih (by omega)
    have h1 := nn_cm (h := h) (d := d) (t := t + 1) (c := c)
    rw [if_pos (by omega), Nat.add_sub_cancel] at h1
    have h2 : lf h d t c = nn h d t c - min (nn h d t c) (rateAt h c t) := rfl
    by_cases q : nn h d t c ≤ rateAt h c t
    · refine ⟨t + 1, Nat.le_refl _, ?_⟩
      rw [rsum_self, rsum_succ, rsum_self]; omega
    · refine ⟨s, by omega, ?_⟩
      rw [rsum_succ (b := t + 1), rsum_succ (f := rateAt h c)]; omega
/-- The row is at least as long as that, for each tick. -/
theorem least (c : Nat) {s t : Nat} (hst : s ≤ t) (ht : t < T h) : rsum (cm h d c) s (t + 1) - rsum (rateAt h c) s t ≤ nn h d t c := by
  have h1 := queue hv hf c hst
  have h2 := lf_nn hv hf (show s < T h by omega) c
  have h3 : rsum (fun x => ps h d x c) s t ≤ rsum (rateAt h c) s t := rsum_le hst fun i _ _ => by
    have : ps h d i c = min (nn h d i c) (rateAt h c i) := rfl
    omega
  omega
/-- Who comes by train, from a tick to another one. -/
theorem arr_le (c : Nat) {s t : Nat} (hst : s ≤ t) : rsum (fun x => arr h d x c) s (t + 1) ≤ brought h c s t := by
  unfold arr
  rw [rsum_nsum]
  have e : brought h c s t = nsum (fun i => trainOf c s t (tr h i)) h.Trains.length := by
    unfold brought
    rw [← psum_all]
    have key : ∀ k, k ≤ h.Trains.length → psum h.Trains (trainOf c s t) k = nsum (fun i => trainOf c s t (tr h i)) k := by
      intro k
      induction k with
      | zero => intro _; rw [psum_zero, nsum_zero]
      | succ k ih =>
        intro hk
        obtain ⟨x, hx⟩ := ex_k (show k < h.Trains.length by omega)
        rw [psum_succ hx, nsum_succ, ih (by omega)]
        unfold tr; rw [hx]; rfl
    exact key _ (Nat.le_refl _)
  rw [e]
  refine nsum_le fun i hi => ?_
  obtain ⟨x, a, hx, ha, hda, haT, ha1, ha2, htr⟩ := at_bound hv hf hi
  have hsum : nsum (arrK h d c i) (tr h i).Crowds.length ≤ (x.Crowds.map (crowdOf c)).sum := by
    rw [htr, ← psum_all]
    have key : ∀ k, k ≤ x.Crowds.length → nsum (arrK h d c i) k ≤ psum x.Crowds (crowdOf c) k := by
      intro k
      induction k with
      | zero => intro _; rw [psum_zero, nsum_zero]; exact Int.le_refl _
      | succ k ih =>
        intro hk
        obtain ⟨y, hy⟩ := ex_k (show k < x.Crowds.length by omega)
        obtain ⟨p1, p2, y', hy', p3, p4⟩ := pe_bound hv hf hi (k := k) (by rw [htr]; omega)
        rw [htr, hy] at hy'; cases hy'
        rw [psum_succ hy, nsum_succ]
        have := ih (by omega)
        have e1 : crC h i k = y.Comb := by unfold crC; rw [htr, hy]; rfl
        have e2 : arrK h d c i k ≤ crowdOf c y := by
          unfold arrK crowdOf; rw [e1]
          split <;> omega
        omega
    exact key _ (Nat.le_refl _)
  have e3 : rsum (fun x => arrI h d x c i) s (t + 1) = if s ≤ a ∧ a < t + 1 then nsum (arrK h d c i) (tr h i).Crowds.length else 0 := by
    rw [← rsum_one (by omega)]
    congr 1
    funext x
    unfold arrI
    rw [hda]
    by_cases q : a = x
    · rw [if_pos (by omega), if_pos q]
    · rw [if_neg (by omega), if_neg q]
  rw [e3]
  have hnn := (train_bound hv (List.mem_of_getElem? hx) c s t).1
  rw [htr]
  split
  · unfold trainOf
    rw [if_neg (by omega)]; rwa [htr] at hsum
  · exact hnn
/-- Who walks to a comb from another one. -/
theorem walk_le (c u : Nat) (hu : u < h.Combs.length) {s t : Nat} (hst : s ≤ t) (ht : t < T h) (hn : nxt h u = (c : Int)) {x : Comb} (hx : h.Combs[u]? = some x) :
    rsum (fun y => nsum (Wt h d (ps h d) y c u) y) s (t + 1) ≤ if (t : Int) - x.Walk.Low < 0 then 0 else rsum (fun y => ps h d y u) ((s : Int) - x.Walk.High).toNat (((t : Int) - x.Walk.Low).toNat + 1) := by
  have hg := hv.2.1 u x hx
  unfold goodComb at hg
  have e1 : rsum (fun y => nsum (Wt h d (ps h d) y c u) y) s (t + 1) = nsum (fun t' => rsum (fun y => Wt h d (ps h d) y c u t') s (t + 1)) (t + 1) := by
    rw [← rsum_nsum]
    unfold rsum
    have e : ∀ k, k ≤ t + 1 → nsum (fun y => nsum (Wt h d (ps h d) y c u) y) k = nsum (fun y => nsum (Wt h d (ps h d) y c u) (t + 1)) k := fun k hk => nsum_congr fun y hy => (nsum_tail (fun i hi => Wt_late hv hf hu hi _) (by omega)).symm
    rw [e _ (Nat.le_refl _), e s (by omega)]
  rw [e1]
  have hw : ∀ t' : Nat, x.Walk.Low ≤ wlk d u t' ∧ (wlk d u t' : Int) ≤ x.Walk.High := fun t' => by
    obtain ⟨x', w, hx', _, _, _, _, q1, q2, _, _⟩ := wlk_pos hv hf hu t'
    rw [hx] at hx'; cases hx'
    exact ⟨q1, q2⟩
  have e2 : ∀ t', rsum (fun y => Wt h d (ps h d) y c u t') s (t + 1) = if s ≤ t' + wlk d u t' ∧ t' + wlk d u t' < t + 1 then ps h d t' u else 0 := fun t' => by
    rw [← rsum_one (by omega)]
    congr 1
    funext y
    unfold Wt
    by_cases q : t' + wlk d u t' = y
    · rw [if_pos ⟨hn, q⟩, if_pos q]
    · rw [if_neg fun hh => q hh.2, if_neg q]
  rw [nsum_congr fun t' _ => e2 t']
  have hnnp : ∀ t', t' < t + 1 → 0 ≤ ps h d t' u := fun t' ht' => (ps_bound hv hf (show t' < T h by omega) u).1
  split
  · refine Int.le_of_eq (nsum_null fun t' ht' => if_neg ?_)
    have := hw t'
    omega
  · generalize ha : ((s : Int) - x.Walk.High).toNat = a
    generalize hb : ((t : Int) - x.Walk.Low).toNat = b
    have hab : a ≤ b + 1 := by omega
    have hbt : b + 1 ≤ t + 1 := by omega
    have key : nsum (fun t' => if s ≤ t' + wlk d u t' ∧ t' + wlk d u t' < t + 1 then ps h d t' u else 0) (t + 1) ≤ nsum (fun t' => if a ≤ t' ∧ t' < b + 1 then ps h d t' u else 0) (t + 1) := nsum_le fun t' ht' => by
      have := hw t'
      have := hnnp t' ht'
      by_cases q : s ≤ t' + wlk d u t' ∧ t' + wlk d u t' < t + 1
      · rw [if_pos q, if_pos (by omega)]; exact Int.le_refl _
      · rw [if_neg q]; split <;> omega
    have e3 : ∀ k, k ≤ b + 1 → nsum (fun t' => if a ≤ t' ∧ t' < b + 1 then ps h d t' u else 0) k = if a ≤ k then rsum (fun y => ps h d y u) a k else 0 := by
      intro k
      induction k with
      | zero =>
        intro _
        rw [nsum_zero]
        split
        · have : a = 0 := by omega
          subst this; rw [rsum_self]
        · rfl
      | succ k ih =>
        intro hk
        rw [nsum_succ, ih (by omega)]
        by_cases q : a ≤ k
        · rw [if_pos q, if_pos (by omega), if_pos (by omega), rsum_succ]
        · rw [if_neg q, if_neg (by omega)]
          by_cases q2 : a = k + 1
          · rw [if_pos (by omega), q2, rsum_self]; rfl
          · rw [if_neg (by omega)]; rfl
    have e4 : nsum (fun t' => if a ≤ t' ∧ t' < b + 1 then ps h d t' u else 0) (t + 1) = nsum (fun t' => if a ≤ t' ∧ t' < b + 1 then ps h d t' u else 0) (b + 1) := nsum_tail (fun i hi => if_neg (by omega)) (by omega)
    rw [e4, e3 _ (Nat.le_refl _), if_pos hab] at key
    exact key
/-- What the bounds say of a day. -/
structure Bnd (h : Hall) (d : Day) (c : Nat) : Prop where
  come : ∀ s t, s ≤ t → t < T h → rsum (cm h d c) s (t + 1) ≤ (own h c).come s t
  most : ∀ t, t < T h → nn h d t c ≤ (own h c).most t
  flow : ∀ t, t < T h → ps h d t c ≤ (own h c).flow t
theorem pass_le {c : Nat} (hb : Bnd h d c) {a b : Nat} (hab : a ≤ b) (hbT : b < T h) : rsum (fun y => ps h d y c) a (b + 1) ≤ passN (own h c) a b := by
  have hps : ∀ i, i < T h → 0 ≤ ps h d i c := fun i hi => (ps_bound hv hf hi c).1
  have hfl : ∀ {x y : Nat}, x ≤ y → y ≤ T h → rsum (fun y => ps h d y c) x y ≤ rsum (own h c).flow x y := fun hxy hy => rsum_le hxy fun i _ hi => hb.flow i (by omega)
  have hle : ∀ k, k ≤ b → rsum (fun y => ps h d y c) k (b + 1) ≤ nn h d k c + rsum (cm h d c) (k + 1) (b + 1) := fun k hk => by
    have h1 := queue hv hf c (show k ≤ b from hk)
    have h2 : rsum (fun y => ps h d y c) k (b + 1) = rsum (fun y => ps h d y c) k b + ps h d b c := rsum_succ
    have h3 : rsum (cm h d c) k (b + 1) = rsum (cm h d c) k (k + 1) + rsum (cm h d c) (k + 1) (b + 1) := rsum_split
    rw [show rsum (cm h d c) k (k + 1) = cm h d c k from by rw [rsum_succ, rsum_self]; omega] at h3
    have h4 : ps h d b c = min (nn h d b c) (rateAt h c b) := rfl
    omega
  unfold passN
  rw [lmin_le]
  refine ⟨Int.le_min.2 ⟨?_, ?_⟩, fun i hi => ?_⟩
  · have h1 := hb.come 0 b (by omega) hbT
    have h2 := hle 0 (by omega)
    simp only [Nat.zero_add] at h2
    have h3 : rsum (fun y => ps h d y c) 0 (b + 1) = rsum (fun y => ps h d y c) 0 a + rsum (fun y => ps h d y c) a (b + 1) := rsum_split
    have h4 := rsum_nn (f := fun y => ps h d y c) (show 0 ≤ a by omega) fun i _ hi => hps i (by omega)
    have h5 := nn_cm (h := h) (d := d) (t := 0) (c := c)
    rw [if_neg (by omega)] at h5
    have h6 : rsum (cm h d c) 0 (b + 1) = rsum (cm h d c) 0 1 + rsum (cm h d c) 1 (b + 1) := rsum_split
    rw [show rsum (cm h d c) 0 1 = cm h d c 0 from by rw [rsum_succ, rsum_self]; omega] at h6
    omega
  · exact hfl (by omega) (by omega)
  · generalize hk : a + i = k
    unfold way
    have h1 := hfl (x := a) (y := k) (by omega) (by omega)
    have h2 := hle k (by omega)
    have h3 : rsum (fun y => ps h d y c) a (b + 1) = rsum (fun y => ps h d y c) a k + rsum (fun y => ps h d y c) k (b + 1) := rsum_split
    have h4 := hb.most k (by omega)
    have h5 : rsum (cm h d c) (k + 1) (b + 1) ≤ behind (own h c) b k := by
      unfold behind
      by_cases q : k < b
      · rw [if_pos q]; exact hb.come _ _ (by omega) hbT
      · rw [if_neg q, show k = b by omega, rsum_self]; exact Int.le_refl _
    have h6 : rsum (own h c).flow a k = nsum (own h c).flow k - nsum (own h c).flow a := rfl
    omega
theorem bnd : ∀ c, c < h.Combs.length → Bnd h d c := by
  intro c
  induction c using Nat.strongRecOn with
  | _ c ih =>
    intro hc
    have hcome : ∀ s t, s ≤ t → t < T h → rsum (cm h d c) s (t + 1) ≤ (own h c).come s t := fun s t hst ht => by
      have e : (own h c).come s t = comeOf h c (own h) s t := by unfold own; rw [bd_eq]; rfl
      rw [e]
      unfold comeOf
      have e1 : rsum (cm h d c) s (t + 1) = rsum (fun x => arr h d x c) s (t + 1) + rsum (fun x => nsum (fun u => nsum (Wt h d (ps h d) x c u) x) h.Combs.length) s (t + 1) := by
        have e0 : cm h d c = fun x => arr h d x c + nsum (fun u => nsum (Wt h d (ps h d) x c u) x) h.Combs.length := rfl
        unfold rsum
        rw [e0, nsum_add, nsum_add]; omega
      rw [e1]
      have h1 := arr_le hv hf c hst
      rw [rsum_nsum]
      have h2 : nsum (fun u => rsum (fun x => nsum (Wt h d (ps h d) x c u) x) s (t + 1)) h.Combs.length ≤ nsum (fun u => if u < c then walkIn h c (own h) s t u else 0) h.Combs.length := nsum_le fun u hu => by
        obtain ⟨x, hx, hnx, hnb⟩ := nxt_at hv hu
        by_cases q : nxt h u = (c : Int)
        · have huc : u < c := by omega
          have hw := walk_le hv hf c u hu hst ht q hx
          have hg := hv.2.1 u x hx
          unfold goodComb at hg
          rw [if_pos huc]
          refine Int.le_trans hw ?_
          unfold walkIn
          rw [hx]
          simp only
          rw [if_pos (c := x.Next = (c : Int)) (by omega)]
          unfold passF
          by_cases q2 : (t : Int) - x.Walk.Low < 0
          · rw [if_pos q2, if_pos (.inr q2)]; exact Int.le_refl _
          · rw [if_neg q2, if_neg (by omega)]
            have := pass_le hv hf (ih u huc hu) (a := ((s : Int) - x.Walk.High).toNat) (b := ((t : Int) - x.Walk.Low).toNat) (by omega) (by omega)
            rwa [show (max ((s : Int) - x.Walk.High) 0).toNat = ((s : Int) - x.Walk.High).toNat by omega]
        · have e0 : rsum (fun x => nsum (Wt h d (ps h d) x c u) x) s (t + 1) = 0 := by
            have hz : ∀ k, nsum (fun x => nsum (Wt h d (ps h d) x c u) x) k = 0 := fun k => nsum_null fun y _ => nsum_null fun t' _ => by unfold Wt; exact if_neg fun hh => q hh.1
            unfold rsum
            rw [hz, hz]; rfl
          rw [e0]
          by_cases huc : u < c
          · rw [if_pos huc]
            unfold walkIn
            rw [hx]
            simp only
            rw [if_neg (by omega)]; exact Int.le_refl _
          · rw [if_neg huc]; exact Int.le_refl _
      have h3 : nsum (fun u => if u < c then walkIn h c (own h) s t u else 0) h.Combs.length = nsum (walkIn h c (own h) s t) c := by
        rw [nsum_tail (s := c) (fun i hi => if_neg (by omega)) (by omega)]
        exact nsum_congr fun u hu => if_pos hu
      rw [h3] at h2
      omega
    have hmost : ∀ t, t < T h → nn h d t c ≤ (own h c).most t := fun t ht => by
      obtain ⟨s, hs, e⟩ := since hv hf c t ht
      have h1 := hcome s t hs ht
      have h2 := lmax_at (z := 0) (g := fun s => (own h c).come s t - (nsum (rateAt h c) t - nsum (rateAt h c) s)) (a := 0) (n := t + 1) (i := s) (by omega)
      have h3 : (own h c).most t = lmax 0 (fun s => (own h c).come s t - (nsum (rateAt h c) t - nsum (rateAt h c) s)) 0 (t + 1) := most_eq
      rw [Nat.zero_add] at h2
      rw [h3]
      have h4 : rsum (rateAt h c) s t = nsum (rateAt h c) t - nsum (rateAt h c) s := rfl
      omega
    refine ⟨hcome, hmost, fun t ht => ?_⟩
    have h1 := hmost t ht
    have h2 : (own h c).flow t = min ((own h c).most t) (rateAt h c t) := by unfold own; rw [bd_eq]; rfl
    have h3 : ps h d t c = min (nn h d t c) (rateAt h c t) := rfl
    omega
end
end Go.Nw.HM

namespace Go.Nw.HM
/-- What comes first in each law about a day. -/
theorem guard_day {h : Hall} {d : Day} (hk : OkHall h) (hd : OkDay d) {b : Bool} (hb : ((l06_Far h).bind fun y => (if y then some true else (r06_Check h).bind fun y7 => some (decide (¬y7 = 0)))) = some b) :
    (if b then some true else (r06_Fits h d).bind fun y9 => some (!y9)) = some true ∨ (V h ∧ Fit h d ∧ (if b then some true else (r06_Fits h d).bind fun y9 => some (!y9)) = some false) := by
  rcases guard_ok hk with g | ⟨hv, g⟩
  · rw [g] at hb; cases hb
    exact .inl rfl
  · rw [g] at hb; cases hb
    rw [if_neg (by simp)]
    rcases fits_ref hv hd with ⟨hf, e⟩ | ⟨_, e⟩
    · rw [e]; exact .inr ⟨hv, hf, rfl⟩
    · rw [e]; exact .inl rfl
end Go.Nw.HM

namespace Go.Nw.HM
theorem Rates_prog {h : Hall} (hv : V h) {c : Nat} (hc : c < h.Combs.length) : halls_Rates h c = some (tab (T h) (rateAt h c), 0) := by
  unfold halls_Rates
  rw [check_in hv hc]
  simp only [Option.bind_some]
  rw [if_neg (by simp), rates_prog hv hc]; rfl
theorem Come_prog {h : Hall} (hv : V h) {c : Nat} (hc : c < h.Combs.length) (f t : Int) :
    (halls_Come h c f t = some (0, 1)) ∨ ∃ a b : Nat, f = a ∧ t = b ∧ a < T h ∧ b < T h ∧ halls_Come h c f t = some (if a ≤ b then (own h c).come a b else 0, 0) := by
  have hTi := T_int hv
  unfold halls_Come
  have e := check_prog hv c [f, t] (by simp [maxLen])
  by_cases q : (0 ≤ f ∧ f < h.Until) ∧ (0 ≤ t ∧ t < h.Until)
  · right
    rw [if_pos ⟨by omega, fun x hx => by
      rcases List.mem_cons.1 hx with rfl | hx
      · exact q.1
      · rcases List.mem_singleton.1 hx with rfl; exact q.2⟩] at e
    obtain ⟨a, rfl⟩ : ∃ a : Nat, f = a := ⟨f.toNat, by omega⟩
    obtain ⟨b, rfl⟩ : ∃ b : Nat, t = b := ⟨t.toNat, by omega⟩
    refine ⟨a, b, rfl, rfl, by omega, by omega, ?_⟩
    rw [e]
    simp only [Option.bind_some]
    rw [if_neg (by simp), bounds_in hv, get_tab hc]
    simp only [Option.bind_some, bdT]
    rw [get_tab (show a < T h by omega)]
    simp only [Option.bind_some, comeT]
    rw [get_tab (show b < T h by omega)]
    rfl
  · left
    rw [if_neg fun hh => q ⟨hh.2 f (by simp), hh.2 t (by simp)⟩] at e
    rw [e]
    simp only [Option.bind_some]
    rw [if_pos (by simp)]
theorem within_plain (hw : l06_works = some true) (h : Hall) (d : Day) (w : l06_Window) (hk : OkHall h) (hd : OkDay d) (_ : Okl06_Window w) : l06_HallsWithin h d w = some true := by
  unfold l06_HallsWithin
  rw [← Option.bind_assoc]
  obtain ⟨b, hb⟩ : ∃ b, ((l06_Far h).bind fun y => (if y then some true else (r06_Check h).bind fun y7 => some (decide (¬y7 = 0)))) = some b := by
    rcases guard_ok hk with g | ⟨_, g⟩
    · exact ⟨_, g⟩
    · exact ⟨_, g⟩
  rw [hb]
  simp only [Option.bind_some]
  rcases guard_day hk hd hb with g | ⟨hv, hf, g⟩
  · rw [g, hw]; rfl
  · rw [g]
    simp only [Option.bind_some, Bool.false_or]
    have hT := T_le hv
    have hTi := T_int hv
    have hN := hv.1.2.2.2.1
    by_cases q : w.Comb < 0 ∨ h.Combs.length ≤ w.Comb
    · rw [if_pos (by simpa using q), hw]; rfl
    · rw [if_neg (by simpa using q)]
      obtain ⟨c, f, k, rfl⟩ : ∃ (c : Nat) (f k : Int), w = ⟨c, f, k⟩ := ⟨w.Comb.toNat, w.From, w.To, by
        cases w; simp only [l06_Window.mk.injEq] at q ⊢; exact ⟨by omega, trivial, trivial⟩⟩
      simp only at q ⊢
      have hc : c < h.Combs.length := by omega
      rw [Play_prog hv hf hd, Most_prog hv hc, Rates_prog hv hc]
      simp only [Option.bind_some]
      rw [if_neg (by simp [tab2_len, tab_len]; omega)]
      have hbd := bnd hv hf c hc
      have hcb : ∀ t, t < T h → 0 ≤ cm h d c t ∧ cm h d c t ≤ 1000000000 := fun t ht => by
        have h1 := cm_nn hv hf ht c
        have h2 := lf_nn hv hf ht c
        have h3 := nn_bound hv hf t ht c
        omega
      have hl := loop_stepsX (f := l06_HallsWithin_L17 h ⟨c, f, k⟩ (tab2 (T h) h.Combs.length (nn h d), 0) (tab (T h) (own h c).most, 0) (tab (T h) (rateAt h c), 0)) (T h) (fun (p : Int × Int) t => (p.1, p.2, t))
        (fun t => (if 0 < t then lf h d (t - 1) c else 0, nsum (fun y => if f ≤ (y : Int) ∧ (y : Int) ≤ k then cm h d c y else 0) t)) (.inl (nsum (fun y => if f ≤ (y : Int) ∧ (y : Int) ≤ k then cm h d c y else 0) (T h))) (s0 := (0, 0)) rfl (fun t ht => by
          have hnn := nn_cm (h := h) (d := d) (t := t) (c := c)
          generalize hlf : (if 0 < t then lf h d (t - 1) c else 0) = L at hnn
          have hm := hbd.most t ht
          have hcbt := hcb t ht
          have hn := nn_bound hv hf t ht c
          have hr := rate_bounds hv (c := c) t
          have hsb := nsum_bound (f := fun y => if f ≤ (y : Int) ∧ (y : Int) ≤ k then cm h d c y else 0) (B := 1000000000) (k := t) (fun i hi => by
            have := hcb i (by omega)
            show 0 ≤ (if f ≤ (i : Int) ∧ (i : Int) ≤ k then cm h d c i else 0) ∧ (if f ≤ (i : Int) ∧ (i : Int) ≤ k then cm h d c i else 0) ≤ (1000000000 : Int)
            split <;> omega)
          have hmb := (own_ok hv hc).most t ht
          simp only [l06_HallsWithin_L17]
          rw [← hTi, if_pos (by simpa using ht), get2 ht]
          simp only [Option.bind_some, tab_len]
          rw [if_neg (by simp), get_tab hc]
          simp only [Option.bind_some]
          rw [get_tab ht]
          simp only [Option.bind_some]
          rw [show decide ((own h c).most t < nn h d t c) = false from decide_eq_false (by omega), if_neg (by simp)]
          simp only [Option.bind_some]
          rw [show decide (nn h d t c < L) = false from decide_eq_false (by omega), if_neg (by simp)]
          have fin : ∀ S : Int, l06_HallsWithin_j65 ⟨c, f, k⟩ (tab2 (T h) h.Combs.length (nn h d), 0) (tab (T h) (rateAt h c), 0) t S = some (.nx (lf h d t c, S, (t : Int) + 1)) := fun S => by
            unfold l06_HallsWithin_j65
            simp only
            rw [get2 ht]
            simp only [Option.bind_some]
            rw [get_tab hc]
            simp only [Option.bind_some]
            rw [get_tab ht]
            simp only [Option.bind_some]
            rw [wr_k ht (show T h ≤ maxLen by simp only [maxLen]; omega), wr_small (by omega) (by omega), mx_eq]
            congr 3
            have : lf h d t c = nn h d t c - min (nn h d t c) (rateAt h c t) := rfl
            omega
          rw [if_pos (show 0 < t + 1 by omega), Nat.add_sub_cancel]
          by_cases q2 : f ≤ (t : Int) ∧ (t : Int) ≤ k
          · rw [if_pos (by simpa using q2), wr_small (n := nn h d t c - L) (by omega) (by omega), wr_small (by omega) (by omega), fin, nsum_succ, if_pos q2]
            rw [show nn h d t c - L = cm h d c t by omega]
          · rw [if_neg (by simpa using q2), fin, nsum_succ, if_neg q2, Int.add_zero]) (by
          simp only [l06_HallsWithin_L17]
          rw [← hTi, if_neg (by simp)])
      rw [hl]
      simp only [Option.bind_some, l06_HallsWithin_j33]
      rcases Come_prog hv hc f k with e | ⟨a, b, rfl, rfl, ha, hb, e⟩
      · rw [e]
        simp only [Option.bind_some]
        rw [if_pos (by simp), hw]; rfl
      · rw [e]
        simp only [Option.bind_some]
        have key : nsum (fun y => if (a : Int) ≤ (y : Int) ∧ (y : Int) ≤ (b : Int) then cm h d c y else 0) (T h) ≤ if a ≤ b then (own h c).come a b else 0 := by
          have e1 : nsum (fun y => if (a : Int) ≤ (y : Int) ∧ (y : Int) ≤ (b : Int) then cm h d c y else 0) (T h) = nsum (fun y => if (a : Int) ≤ (y : Int) ∧ (y : Int) ≤ (b : Int) then cm h d c y else 0) (b + 1) := nsum_tail (fun i hi => if_neg (by omega)) (by omega)
          rw [e1]
          by_cases q3 : a ≤ b
          · rw [if_pos q3]
            have e2 : ∀ n, n ≤ b + 1 → nsum (fun y => if (a : Int) ≤ (y : Int) ∧ (y : Int) ≤ (b : Int) then cm h d c y else 0) n = if a ≤ n then rsum (cm h d c) a n else 0 := by
              intro n
              induction n with
              | zero =>
                intro _
                rw [nsum_zero]
                split
                · have : a = 0 := by omega
                  subst this; rw [rsum_self]
                · rfl
              | succ n ih =>
                intro hn
                rw [nsum_succ, ih (by omega)]
                by_cases q : a ≤ n
                · rw [if_pos q, if_pos (by omega), if_pos (by omega), rsum_succ]
                · rw [if_neg q, if_neg (by omega)]
                  by_cases q2 : a = n + 1
                  · rw [if_pos (by omega), q2, rsum_self]; rfl
                  · rw [if_neg (by omega)]; rfl
            rw [e2 _ (Nat.le_refl _), if_pos (by omega)]
            exact hbd.come a b q3 hb
          · rw [if_neg q3, nsum_null fun y _ => if_neg (by omega)]; exact Int.le_refl _
        rw [if_pos (by simp only [Bool.or_eq_true, Bool.and_eq_true, decide_eq_true_eq]; exact .inr ⟨trivial, key⟩), hw]; rfl
end Go.Nw.HM
