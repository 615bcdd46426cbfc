/- Plain laws on the models. -/
import Derived.Test.YteoedeeljnboeaaP2
set_option linter.all false
set_option linter.unusedVariables false
set_option linter.unusedSimpArgs false
set_option linter.unusedSectionVars false
namespace Go.Nw.HM
def b39 (f t : Nat) (x : Train) : Prop := (f : Int) ≤ x.At.High ∧ x.At.Low ≤ (t : Int)
instance (f t : Nat) (x : Train) : Decidable (b39 f t x) := by unfold b39; infer_instance
def wAt (f t : Nat) (x : Train) : Int := if b39 f t x then max x.At.Low (f : Int) else x.At.Low
def wPe (f t : Nat) (x : Train) : List Int := x.Crowds.map fun y => if b39 f t x then y.People.High else y.People.Low
def b2t (h : Hall) (f t : Nat) : Day := ⟨h.Trains.map (wAt f t), h.Trains.map (wPe f t), h.Combs.map fun x => [x.Walk.Low]⟩
def Fst (h : Hall) (c : Nat) : Prop := ∀ x ∈ h.Combs, x.Next ≠ (c : Int)
theorem g72 {l : List Comb} {f : Comb → Option Bool} {p : Comb → Prop} (hl : l.length ≤ maxLen) (hf : ∀ x ∈ l, ∃ b, f x = some b ∧ (b = true ↔ p x)) :
    ∃ b, c65 l f = some b ∧ (b = true ↔ ∃ x ∈ l, p x) := d0d rfl hl hf
theorem d24 {h : Hall} (hv : V h) (c : Nat) : (Fst h c ∧ c1a h c = some true) ∨ (¬ Fst h c ∧ c1a h c = some false) := by
  have hN := hv.1.2.2.2.1
  unfold c1a
  rcases b53 (f := c1b h c) h.Combs (fun _ x => x.Next = (c : Int)) (.inr false) (.inl ()) (fun k x hx hb => by
      simp only [c1b, b1g hx, Option.bind_some]
      rw [if_pos (by simpa using b1b hx), if_pos (by simpa using hb)]) (fun k x hx hb => by
      simp only [c1b, b1g hx, Option.bind_some]
      rw [if_pos (by simpa using b1b hx), if_neg (by simpa using hb), b2m (b1b hx) (by simp only [maxLen]; omega)]) (by simp [c1b]) with ⟨h1, h2⟩ | ⟨⟨k, x, hx, hb⟩, h2⟩
  · rw [h2]
    refine .inl ⟨fun x hx => ?_, rfl⟩
    obtain ⟨j, hj, rfl⟩ := List.getElem_of_mem hx
    exact h1 j _ (List.getElem?_eq_getElem hj)
  · rw [h2]
    exact .inr ⟨fun hh => hh x (List.mem_of_getElem? hx) hb, rfl⟩
theorem d1n {α β : Type} {l : List α} {g : α → β} {k : Nat} {x : α} (hx : l[k]? = some x) : (l.take (k + 1)).map g = (l.take k).map g ++ [g x] := by
  rw [List.take_add_one, hx]; simp
section
variable {h : Hall} (hv : V h) {c : Nat} (hc : c < h.Combs.length) {t : Nat} (ht : t < T h)
include hv
theorem j6h {f : Nat} {x : Train} {i : Nat} (hx : h.Trains[i]? = some x) : b07 (c0i t f x) (tab x.Crowds.length fun _ => 0, 0) = some (wPe f t x) := by
  have hl := (hv.2.2.1 i x hx).2.2.2.1
  have hw : wPe f t x = tab x.Crowds.length fun k => ((x.Crowds[k]?).map fun y => if b39 f t x then y.People.High else y.People.Low).getD 0 := by
    refine List.ext_getElem? fun k => ?_
    unfold wPe
    rw [List.getElem?_map]
    by_cases hk : k < x.Crowds.length
    · obtain ⟨y, hy⟩ := b1u hk
      rw [c32 hk, hy]; rfl
    · rw [List.getElem?_eq_none (by omega), List.getElem?_eq_none (by rw [b36]; omega)]; rfl
  rw [hw]
  refine b4c (f := c0i t f x) x.Crowds.length (fun s k => (s, k)) (fill x.Crowds.length (fun k => ((x.Crowds[k]?).map fun y => if b39 f t x then y.People.High else y.People.Low).getD 0) 0) _ (by rw [← c33, c8u]) (fun k hk => ?_) (by
    simp only [c0i]
    rw [if_neg (by simp), c8s (Nat.le_refl _)])
  obtain ⟨y, hy⟩ := b1u hk
  simp only [c0i, b1g hy, Option.bind_some]
  rw [if_pos (by simpa using hk), c8z hk]
  simp only [Option.bind_some]
  rw [show ((k : Nat) : Int).toNat = k from by omega]
  have e0 : get ((fill x.Crowds.length (fun k => ((x.Crowds[k]?).map fun y => if b39 f t x then y.People.High else y.People.Low).getD 0) 0 k).set k y.People.Low) (k : Int) = some y.People.Low := by
    unfold fill; rw [c1j, b2o hk, if_pos rfl]
  by_cases q : b39 f t x
  · rw [if_pos (by unfold b39 at q; simpa using q), e0]
    simp only [Option.bind_some, c0k]
    rw [List.set_set, c4z (by rw [hy]; simp [q]), b2m hk (by simp only [maxLen]; omega)]
  · rw [if_neg (by unfold b39 at q; simpa using q)]
    simp only [c0k]
    rw [c4z (by rw [hy]; simp [q]), b2m hk (by simp only [maxLen]; omega)]
theorem g5c (f : Nat) : c2t h t f = some (b2t h f t, 0) := by
  have hN := hv.1.2.2.2.1
  have hTr := hv.1.2.2.2.2.1
  unfold c2t
  have l1 := b4c (f := c2r h t f) h.Trains.length (fun (p : List Int × List (List Int)) k => (p.1, p.2, k)) (fun i => ((h.Trains.take i).map (wAt f t), (h.Trains.take i).map (wPe f t))) (h.Trains.map (wAt f t), h.Trains.map (wPe f t)) (s0 := ([], [])) rfl (fun i hi => by
    obtain ⟨x, hx⟩ := b1u hi
    have hl := (hv.2.2.1 i x hx).2.2.2.1
    have j41 : c0j t f ((h.Trains.take i).map (wAt f t)) ((h.Trains.take i).map (wPe f t)) i x (wAt f t x) = some (.nx ((h.Trains.take (i + 1)).map (wAt f t), (h.Trains.take (i + 1)).map (wPe f t), (i : Int) + 1)) := by
      unfold c0j
      rw [c3i (by omega) (by omega)]
      simp only [Option.bind_some]
      rw [j6h hv hx]
      simp only [Option.bind_some, c5j]
      rw [b5t (by simp only [List.length_map, List.length_take, List.length_cons, List.length_nil]; omega)]
      simp only [Option.bind_some]
      rw [b5t (by simp only [List.length_map, List.length_take, List.length_cons, List.length_nil]; omega)]
      simp only [Option.bind_some, c5i]
      rw [d1n hx, d1n hx, b2m hi (by simp only [maxLen]; omega)]
    simp only [c2r, b1g hx, Option.bind_some]
    rw [if_pos (by simpa using hi)]
    by_cases q : b39 f t x
    · rw [if_pos (by unfold b39 at q; simpa using q), d1q, show max x.At.Low (f : Int) = wAt f t x from (if_pos q).symm]; exact j41
    · rw [if_neg (by unfold b39 at q; simpa using q), show x.At.Low = wAt f t x from (if_neg q).symm]; exact j41) (by
    simp only [c2r]
    rw [if_neg (by simp), List.take_length])
  simp only at l1
  rw [l1]
  simp only [Option.bind_some, c5h]
  have l2 := b4c (f := c2s h) h.Combs.length (fun s k => (s, k)) (fun i => (h.Combs.take i).map fun x => [x.Walk.Low]) (h.Combs.map fun x => [x.Walk.Low]) (s0 := []) rfl (fun i hi => by
    obtain ⟨x, hx⟩ := b1u hi
    simp only [c2s, b1g hx, Option.bind_some]
    rw [if_pos (by simpa using hi), b5t (by simp only [List.length_map, List.length_take, List.length_cons, List.length_nil]; omega)]
    simp only [Option.bind_some]
    rw [d1n hx, b2m hi (by simp only [maxLen]; omega)]) (by
    simp only [c2s]
    rw [if_neg (by simp), List.take_length])
  rw [l2]; rfl
include hc ht
theorem j1f : ∃ f, f ≤ t ∧ (own h c).come f t - b1j (b1l h c) f t = (own h c).most t ∧ b07 (c0h t (bdT (T h) (own h c) (b1l h c))) (0, 0) = some (f : Int) := by
  have hT := b4o hv
  have hok := j59 hv hc
  have hR := d1x hv
  have he : ∃ f, f ≤ t ∧ (own h c).come f t - b1j (b1l h c) f t = (own h c).most t := by
    have e : (own h c).most t = b33 0 (fun s => (own h c).come s t - (b0p (b1l h c) t - b0p (b1l h c) s)) 0 (t + 1) := d8z
    have key : ∀ n, 0 < n → n ≤ t + 1 → (b33 0 (fun s => (own h c).come s t - (b0p (b1l h c) t - b0p (b1l h c) s)) 0 n = 0 ∨ ∃ f, f < n ∧ (own h c).come f t - b1j (b1l h c) f t = b33 0 (fun s => (own h c).come s t - (b0p (b1l h c) t - b0p (b1l h c) s)) 0 n) := by
      intro n
      induction n with
      | zero => intro hn; omega
      | succ n ih =>
        intro _ hn
        simp only [b33, Nat.zero_add]
        have hr : b1j (b1l h c) n t = b0p (b1l h c) t - b0p (b1l h c) n := rfl
        by_cases q : b33 0 (fun s => (own h c).come s t - (b0p (b1l h c) t - b0p (b1l h c) s)) 0 n ≤ (own h c).come n t - (b0p (b1l h c) t - b0p (b1l h c) n)
        · right; exact ⟨n, by omega, by omega⟩
        · by_cases hn0 : n = 0
          · subst hn0; left; simp only [b33] at q ⊢; omega
          · rcases ih (by omega) (by omega) with h0 | ⟨f, hf, e⟩
            · left; omega
            · right; exact ⟨f, by omega, by omega⟩
    rw [e]
    rcases key (t + 1) (by omega) (Nat.le_refl _) with h0 | ⟨f, hf, e⟩
    · refine ⟨t, Nat.le_refl _, ?_⟩
      have h1 := d8q (z := 0) (g := fun s => (own h c).come s t - (b0p (b1l h c) t - b0p (b1l h c) s)) (a := 0) (n := t + 1) (i := t) (by omega)
      have h2 := hok.come t t (Nat.le_refl _) ht
      rw [b3r]
      simp only [Nat.zero_add] at h1
      omega
    · exact ⟨f, by omega, e⟩
  obtain ⟨f0, hf0, he0⟩ := he
  have e1 : wr ((t : Int) + 1) = ((t + 1 : Nat) : Int) := by rw [b2s (by omega) (by omega)]; omega
  have hstep : ∀ s, s ≤ t → c0h t (bdT (T h) (own h c) (b1l h c)) (0, (s : Int)) = if (own h c).come s t - b1j (b1l h c) s t = (own h c).most t then some (.br (s : Int)) else some (.nx (0, (s : Int) + 1)) := fun s hs => by
    have h1 := hok.come s t hs ht
    have h2 := hok.most t ht
    have h3 := d83 (f := b1l h c) (B := 1000) hs fun i _ hi => hR.r c i hc (by omega)
    simp only [c0h, e1, bdT]
    rw [if_pos (by simp; omega), b2o (show s < T h by omega)]
    simp only [Option.bind_some]
    rw [c4r ht hs]
    simp only [Option.bind_some]
    rw [b2o (show t < T h + 1 by omega)]
    simp only [Option.bind_some]
    rw [b2o (show s < T h + 1 by omega)]
    simp only [Option.bind_some]
    rw [b2o ht]
    simp only [Option.bind_some]
    rw [b2s (n := b0p (b1l h c) t - b0p (b1l h c) s) (by omega) (by omega), b2s (n := (own h c).come s t - (b0p (b1l h c) t - b0p (b1l h c) s)) (by omega) (by omega), b2s (n := (s : Int) + 1) (by omega) (by omega)]
    show (if decide ((own h c).come s t - b1j (b1l h c) s t = (own h c).most t) = true then _ else _) = _
    simp only [decide_eq_true_eq]
  have go : ∀ (n s : Nat), t - s = n → s ≤ f0 → ∃ f, f ≤ t ∧ (own h c).come f t - b1j (b1l h c) f t = (own h c).most t ∧ b07 (c0h t (bdT (T h) (own h c) (b1l h c))) (0, (s : Int)) = some (f : Int) := by
    intro n
    induction n with
    | zero =>
      intro s hn hs
      have hst : s = f0 := by omega
      subst hst
      exact ⟨s, hf0, he0, b5n (by rw [hstep s hf0, if_pos he0])⟩
    | succ n ih =>
      intro s hn hs
      by_cases q : (own h c).come s t - b1j (b1l h c) s t = (own h c).most t
      · exact ⟨s, by omega, q, b5n (by rw [hstep s (by omega), if_pos q])⟩
      · have hlt : s < f0 := by
          rcases Nat.lt_or_ge s f0 with h1 | h1
          · exact h1
          · have : s = f0 := by omega
            subst this; exact absurd he0 q
        have hs1 := hstep s (by omega)
        rw [if_neg q] at hs1
        rw [c04 hs1]
        have := ih (s + 1) (by omega) (by omega)
        rwa [show ((s + 1 : Nat) : Int) = (s : Int) + 1 by omega] at this
  have := go t 0 (by omega) (by omega)
  exact this
theorem g2a : (Fst h c ∧ ∃ f, f ≤ t ∧ (own h c).come f t - b1j (b1l h c) f t = (own h c).most t ∧ c0g h c t = some (b2t h f t, 0)) ∨ (¬ Fst h c ∧ ∃ d, c0g h c t = some (d, 3)) := by
  have hN := hv.1.2.2.2.1
  have hTi := b6q hv
  unfold c0g
  have e := d39 hv c [(t : Int)] (by simp [maxLen])
  rw [if_pos ⟨by omega, fun x hx => by rcases List.mem_singleton.1 hx with rfl; omega⟩] at e
  rw [e]
  simp only [Option.bind_some]
  rw [if_neg (by simp)]
  obtain ⟨b, b1, b2⟩ := g72 (l := h.Combs) (f := fun z7 => some (b8s z7 c)) (p := fun x => x.Next = (c : Int)) (by simp only [maxLen]; omega) (fun x _ => ⟨_, rfl, by simp [b8s]⟩)
  rw [b1]
  simp only [Option.bind_some]
  cases b with
  | true =>
    obtain ⟨x, h1, h2⟩ := b2.1 rfl
    rw [if_pos rfl]
    exact .inr ⟨fun hh => hh x h1 h2, _, rfl⟩
  | false =>
    rw [if_neg (by simp), d3t hv, b2o hc]
    simp only [Option.bind_some]
    obtain ⟨f, f1, f2, f3⟩ := j1f hv hc ht
    rw [f3]
    simp only [Option.bind_some]
    exact .inl ⟨fun x hx hn => (by have := b2.2 ⟨x, hx, hn⟩; cases this), f, f1, f2, g5c hv f⟩
end
end Go.Nw.HM
namespace Go.Nw.HM
section
variable {h : Hall} (hv : V h)
include hv
theorem c7b (f t : Nat) : Fit h (b2t h f t) := by
  refine ⟨by simp [b2t], by simp [b2t], by simp [b2t], fun i x a p hx ha hp => ?_, fun u x w hx hw => ?_⟩
  · obtain ⟨g1, g2, g3, g4, g5⟩ := hv.2.2.1 i x hx
    simp only [b2t, List.getElem?_map, hx, Option.map_some, Option.some.injEq] at ha hp
    subst ha hp
    refine ⟨?_, by simp [wPe], fun k y n hy hn => ?_⟩
    · unfold wAt
      split
      · rename_i q; unfold b39 at q; omega
      · omega
    · have hg := g5 k y hy
      unfold b4j at hg
      simp only [wPe, List.getElem?_map, hy, Option.map_some, Option.some.injEq] at hn
      subst hn
      split <;> omega
  · have hg := hv.2.1 u x hx
    unfold b4a at hg
    simp only [b2t, List.getElem?_map, hx, Option.map_some, Option.some.injEq] at hw
    subst hw
    exact ⟨by simp, by simp, fun n hn => by rcases List.mem_singleton.1 hn with rfl; omega⟩
theorem d2p (f t : Nat) : c4j (b2t h f t) := by
  have hf := c7b hv f t
  have hN := hv.1.2.2.2.1
  have hTr := hv.1.2.2.2.2.1
  refine ⟨⟨by rw [hf.at_]; simp only [maxLen]; omega, fun a ha => ?_⟩, ⟨by rw [hf.people]; simp only [maxLen]; omega, fun p hp => ?_⟩, ⟨by rw [hf.walks]; simp only [maxLen]; omega, fun w hw => ?_⟩⟩
  · obtain ⟨i, hi, rfl⟩ := List.getElem_of_mem ha
    have ha := List.getElem?_eq_getElem hi
    obtain ⟨x, hx⟩ := b1u (show i < h.Trains.length by rw [← hf.at_]; exact hi)
    obtain ⟨p, hp⟩ := b1u (show i < (b2t h f t).People.length by rw [hf.people, ← hf.at_]; exact hi)
    have hr := (hf.ride i x _ p hx ha hp).1
    obtain ⟨g1, g2, g3, g4, g5⟩ := hv.2.2.1 i x hx
    have := hv.1.2.1
    unfold b22; omega
  · obtain ⟨i, hi, rfl⟩ := List.getElem_of_mem hp
    have hp := List.getElem?_eq_getElem hi
    obtain ⟨x, hx⟩ := b1u (show i < h.Trains.length by rw [← hf.people]; exact hi)
    obtain ⟨a, ha⟩ := b1u (show i < (b2t h f t).At.length by rw [hf.at_, ← hf.people]; exact hi)
    obtain ⟨_, r2, r3⟩ := hf.ride i x a _ hx ha hp
    obtain ⟨g1, g2, g3, g4, g5⟩ := hv.2.2.1 i x hx
    refine ⟨by rw [r2]; simp only [maxLen]; omega, fun n hn => ?_⟩
    obtain ⟨k, hk, rfl⟩ := List.getElem_of_mem hn
    obtain ⟨y, hy⟩ := b1u (show k < x.Crowds.length by rw [← r2]; exact hk)
    have := r3 k y _ hy (List.getElem?_eq_getElem hk)
    have hg := g5 k y hy
    unfold b4j at hg
    unfold b22; omega
  · obtain ⟨u, hu, rfl⟩ := List.getElem_of_mem hw
    have hw := List.getElem?_eq_getElem hu
    obtain ⟨x, hx⟩ := b1u (show u < h.Combs.length by rw [← hf.walks]; exact hu)
    obtain ⟨_, r2, r3⟩ := hf.walk u x _ hx hw
    have hg := hv.2.1 u x hx
    unfold b4a at hg
    refine ⟨by simp only [maxLen]; omega, fun n hn => ?_⟩
    have := r3 n hn
    unfold b22; omega
theorem j8k {f t : Nat} (hft : f ≤ t) (c : Nat) : b3v h c f t ≤ b1j (fun x => arr h (b2t h f t) x c) f (t + 1) := by
  have hf := c7b hv f t
  unfold arr
  rw [c6x]
  have e : b3v h c f t = b0p (fun i => b3l c f t (tr h i)) h.Trains.length := by
    unfold b3v
    rw [← b74]
    have key : ∀ k, k ≤ h.Trains.length → b3m h.Trains (b3l c f t) k = b0p (fun i => b3l c f t (tr h i)) k := by
      intro k
      induction k with
      | zero => intro _; rw [b9f, b4x]
      | succ k ih =>
        intro hk
        obtain ⟨x, hx⟩ := b1u (show k < h.Trains.length by omega)
        rw [b75 hx, b2v, ih (by omega)]
        unfold tr; rw [hx]; rfl
    exact key _ (Nat.le_refl _)
  rw [e]
  refine b9d fun i hi => ?_
  obtain ⟨x, hx⟩ := b1u hi
  have htr : tr h i = x := by unfold tr; rw [hx]; rfl
  rw [htr]
  by_cases q : b39 f t x
  · have hda : dAt (b2t h f t) i = max x.At.Low (f : Int) := by
      unfold dAt b2t
      simp only [List.getElem?_map, hx, Option.map_some, Option.getD_some]
      exact if_pos q
    have hsum : b0p (b3u h (b2t h f t) c i) x.Crowds.length = (x.Crowds.map (b4i c)).sum := by
      rw [← b74]
      have key : ∀ k, k ≤ x.Crowds.length → b0p (b3u h (b2t h f t) c i) k = b3m x.Crowds (b4i c) k := by
        intro k
        induction k with
        | zero => intro _; rw [b9f, b4x]
        | succ k ih =>
          intro hk
          obtain ⟨y, hy⟩ := b1u (show k < x.Crowds.length by omega)
          rw [b75 hy, b2v, ih (by omega)]
          congr 1
          have e1 : crC h i k = y.Comb := by unfold crC; rw [htr, hy]; rfl
          have e2 : dPe (b2t h f t) i k = y.People.High := by
            unfold dPe b2t wPe
            simp only [List.getElem?_map, hx, hy, Option.map_some, Option.getD_some]
            exact if_pos q
          unfold b3u b4i
          rw [e1, e2]
      exact key _ (Nat.le_refl _)
    unfold b39 at q
    obtain ⟨a, ha⟩ : ∃ a : Nat, max x.At.Low (f : Int) = a := ⟨(max x.At.Low (f : Int)).toNat, by omega⟩
    have e3 : b1j (fun z => b37 h (b2t h f t) z c i) f (t + 1) = if f ≤ a ∧ a < t + 1 then b0p (b3u h (b2t h f t) c i) (tr h i).Crowds.length else 0 := by
      rw [← d19 (by omega)]
      congr 1
      funext z
      unfold b37
      rw [hda, ha]
      by_cases q : a = z
      · rw [if_pos (by omega), if_pos q]
      · rw [if_neg (by omega), if_neg q]
    rw [e3, if_pos (by omega), htr, hsum]
    unfold b3l
    rw [if_neg (by omega)]; exact Int.le_refl _
  · have e0 : b3l c f t x = 0 := by
      unfold b39 at q
      exact if_pos (by omega)
    rw [e0]
    exact d9x (by omega) fun z _ _ => (d3i hv hf hi).1
theorem j8l {c : Nat} (hc : c < h.Combs.length) {t : Nat} (ht : t < T h) {f : Nat} (hft : f ≤ t) (hF : Fst h c) (he : (own h c).come f t - b1j (b1l h c) f t = (own h c).most t) : nn h (b2t h f t) t c = (own h c).most t := by
  have hf := c7b hv f t
  have h1 := (bnd hv hf c hc).most t ht
  have h2 := c3g hv hf c hft ht
  have h3 := j8k hv hft c
  have h4 : b1j (fun x => arr h (b2t h f t) x c) f (t + 1) ≤ b1j (cm h (b2t h f t) c) f (t + 1) := c6w (by omega) fun z _ hz => by
    have := c3m (f := fun u => b0p (Wt h (b2t h f t) (ps h (b2t h f t)) z c u) z) (k := h.Combs.length) fun u hu => c3m fun t' ht' => (d3b hv (s := z) (e := c) (u := u) (n := nn h (b2t h f t)) (fun t'' c' htt => (d1u hv hf t'' (by omega) c').1) ht').1
    unfold cm; omega
  have h5 : (own h c).come f t = b3v h c f t := by
    have e : (own h c).come f t = b4r h c (own h) f t := by unfold own; rw [b69]; rfl
    rw [e]
    unfold b4r
    rw [b6k fun u _ => ?_, Int.add_zero]
    unfold b2w
    split
    · rename_i x hx
      exact if_neg (hF x (List.mem_of_getElem? hx))
    · rfl
  omega
end
theorem g5w {d : Day} (hd : c4j d) : ∃ b, c01 d = some b ∧ (d.At.length ≤ 20 → d.People.length ≤ 20 → d.Walks.length ≤ 20 → (∀ p ∈ d.People, p.length ≤ 10) → (∀ w ∈ d.Walks, w.length ≤ 30) → b = false) := by
  unfold c01
  by_cases q : (20 < d.At.length ∨ 20 < d.People.length) ∨ 20 < d.Walks.length
  · rw [if_pos (by simp; omega)]
    exact ⟨true, rfl, fun h1 h2 h3 => by omega⟩
  · rw [if_neg (by simp; omega)]
    rcases b53 (f := c03 d) d.People (fun _ p => 10 < p.length) (.inr true) (.inl ()) (fun k p hp hb => by
        simp only [c03, b1g hp, Option.bind_some]
        rw [if_pos (by simpa using b1b hp), if_pos (by simp; omega)]) (fun k p hp hb => by
        simp only [c03, b1g hp, Option.bind_some]
        rw [if_pos (by simpa using b1b hp), if_neg (by simp; omega), b2m (b1b hp) hd.2.1.1]) (by simp [c03]) with ⟨h1, h2⟩ | ⟨⟨k, p, hp, hb⟩, h2⟩
    · rw [h2]
      simp only [Option.bind_some, c6d]
      rcases b53 (f := c02 d) d.Walks (fun _ p => 30 < p.length) (.inr true) (.inl ()) (fun k p hp hb => by
          simp only [c02, b1g hp, Option.bind_some]
          rw [if_pos (by simpa using b1b hp), if_pos (by simp; omega)]) (fun k p hp hb => by
          simp only [c02, b1g hp, Option.bind_some]
          rw [if_pos (by simpa using b1b hp), if_neg (by simp; omega), b2m (b1b hp) hd.2.2.1]) (by simp [c02]) with ⟨w1, w2⟩ | ⟨⟨k, p, hp, hb⟩, w2⟩
      · rw [w2]
        exact ⟨false, rfl, fun _ _ _ _ _ => rfl⟩
      · rw [w2]
        exact ⟨true, rfl, fun _ _ _ _ h5 => by have := h5 p (List.mem_of_getElem? hp); omega⟩
    · rw [h2]
      exact ⟨true, rfl, fun _ _ _ h4 _ => by have := h4 p (List.mem_of_getElem? hp); omega⟩
theorem g5x {h : Hall} (hv : V h) (f t : Nat) : c01 (b2t h f t) = some false := by
  have hN := hv.1.2.2.2.1
  have hTr := hv.1.2.2.2.2.1
  obtain ⟨b, e, hb⟩ := g5w (d2p hv f t)
  rw [e, hb (by simp [b2t]; omega) (by simp [b2t]; omega) (by simp [b2t]; omega) (fun p hp => by
    simp only [b2t, List.mem_map] at hp
    obtain ⟨x, hx, rfl⟩ := hp
    obtain ⟨i, hi, rfl⟩ := List.getElem_of_mem hx
    have := (hv.2.2.1 i _ (List.getElem?_eq_getElem hi)).2.2.2.1
    simp [wPe]; omega) (fun w hw => by
    simp only [b2t, List.mem_map] at hw
    obtain ⟨x, hx, rfl⟩ := hw
    simp)]
theorem j6t (hw : b6z = some true) (h : Hall) (comb tick : Int) (hk : b5i h) (_ : b22 comb) (_ : b22 tick) : c3f h comb tick = some true := by
  unfold c3f
  rw [← Option.bind_assoc]
  rcases g6w hk with g | ⟨hv, g⟩
  · rw [g]; simp [hw]
  · rw [g]
    have hT := b4o hv
    have hTi := b6q hv
    simp only [Option.bind_some, Bool.false_or]
    by_cases q : ((comb < 0 ∨ h.Combs.length ≤ comb) ∨ tick < 0) ∨ h.Until ≤ tick
    · rw [if_pos (by simpa using q), hw]; rfl
    · rw [if_neg (by simpa using q)]
      obtain ⟨c, rfl⟩ : ∃ c : Nat, comb = c := ⟨comb.toNat, by omega⟩
      obtain ⟨t, rfl⟩ : ∃ t : Nat, tick = t := ⟨tick.toNat, by omega⟩
      have hc : c < h.Combs.length := by omega
      have ht : t < T h := by omega
      rcases g2a hv hc ht with ⟨hF, f, f1, f2, e⟩ | ⟨hF, d, e⟩
      · rw [e]
        simp only [Option.bind_some]
        rcases d24 hv c with ⟨_, e2⟩ | ⟨n, _⟩
        · rw [e2]
          simp only [Option.bind_some, Bool.not_true]
          rw [if_neg (by simp), g18 hv hc]
          simp only [Option.bind_some]
          rw [if_neg (c := (decide (¬True) || decide (¬True)) = true) (by simp), g5x hv]
          simp only [Option.bind_some]
          rcases g5z hv (d2p hv f t) with ⟨hf, e3⟩ | ⟨n, _⟩
          · rw [e3]
            simp only [Option.bind_some, Bool.not_true]
            rw [if_neg (c := false = true) (by simp)]
            simp only [Option.bind_some]
            rw [if_neg (by simp [b36]; omega), g19 hv hf (d2p hv f t)]
            simp only [Option.bind_some, c7a]
            rw [if_pos (by simp; omega), b98 ht]
            simp only [Option.bind_some, b36]
            rw [if_pos (by simp), b2o hc]
            simp only [Option.bind_some]
            rw [b2o ht]
            simp only [Option.bind_some]
            rw [if_pos (by simpa using j8l hv hc ht f1 hF f2), hw]; rfl
          · exact absurd (c7b hv f t) n
        · exact absurd hF n
      · rw [e]
        simp only [Option.bind_some]
        rcases d24 hv c with ⟨n, _⟩ | ⟨_, e2⟩
        · exact absurd n hF
        · rw [e2]
          simp only [Option.bind_some, Bool.not_false]
          rw [if_pos trivial, if_pos (by simp), hw]; rfl
end Go.Nw.HM
