/- Plain laws on the models. -/
import Derived.Test.YteoedeeljnboeaaP2
set_option linter.all false
set_option linter.unusedVariables false
set_option linter.unusedSimpArgs false
set_option linter.unusedSectionVars false
namespace Go.Nw.HM
def b3i (f t : Nat) (x : Train) : Prop := (f : Int) ≤ x.At.High ∧ x.At.Low ≤ (t : Int)
instance (f t : Nat) (x : Train) : Decidable (b3i f t x) := by unfold b3i; infer_instance
def wAt (f t : Nat) (x : Train) : Int := if b3i f t x then max x.At.Low (f : Int) else x.At.Low
def wPe (f t : Nat) (x : Train) : List Int := x.Crowds.map fun y => if b3i f t x then y.People.High else y.People.Low
def b5s (h : Hall) (f t : Nat) : Day := ⟨h.Trains.map (wAt f t), h.Trains.map (wPe f t), h.Combs.map fun x => [x.Walk.Low]⟩
def Fst (h : Hall) (c : Nat) : Prop := ∀ x ∈ h.Combs, x.Next ≠ (c : Int)
theorem d5v {l : List Comb} {f : Comb → Option Bool} {p : Comb → Prop} (hl : l.length ≤ maxLen) (hf : ∀ x ∈ l, ∃ b, f x = some b ∧ (b = true ↔ p x)) :
    ∃ b, c7g l f = some b ∧ (b = true ↔ ∃ x ∈ l, p x) := d0h rfl hl hf
theorem g10 {h : Hall} (hv : V h) (c : Nat) : (Fst h c ∧ c1m h c = some true) ∨ (¬ Fst h c ∧ c1m h c = some false) := by
  have hN := hv.1.2.2.2.1
  unfold c1m
  rcases d8f (f := c1n h c) h.Combs (fun _ x => x.Next = (c : Int)) (.inr false) (.inl ()) (fun k x hx hb => by
      simp only [c1n, b2f hx, Option.bind_some]
      rw [if_pos (by simpa using b17 hx), if_pos (by simpa using hb)]) (fun k x hx hb => by
      simp only [c1n, b2f hx, Option.bind_some]
      rw [if_pos (by simpa using b17 hx), if_neg (by simpa using hb), b2o (b17 hx) (by simp only [maxLen]; omega)]) (by simp [c1n]) with ⟨h1, h2⟩ | ⟨⟨k, x, hx, hb⟩, h2⟩
  · rw [h2]
    refine .inl ⟨fun x hx => ?_, rfl⟩
    obtain ⟨j, hj, rfl⟩ := List.getElem_of_mem hx
    exact h1 j _ (List.getElem?_eq_getElem hj)
  · rw [h2]
    exact .inr ⟨fun hh => hh x (List.mem_of_getElem? hx) hb, rfl⟩
theorem b89 {α β : Type} {l : List α} {g : α → β} {k : Nat} {x : α} (hx : l[k]? = some x) : (l.take (k + 1)).map g = (l.take k).map g ++ [g x] := by
  rw [List.take_add_one, hx]; simp
section
variable {h : Hall} (hv : V h) {c : Nat} (hc : c < h.Combs.length) {t : Nat} (ht : t < T h)
include hv
theorem j6w {f : Nat} {x : Train} {i : Nat} (hx : h.Trains[i]? = some x) : b08 (b99 t f x) (tab x.Crowds.length fun _ => 0, 0) = some (wPe f t x) := by
  have hl := (hv.2.2.1 i x hx).2.2.2.1
  have hw : wPe f t x = tab x.Crowds.length fun k => ((x.Crowds[k]?).map fun y => if b3i f t x then y.People.High else y.People.Low).getD 0 := by
    refine List.ext_getElem? fun k => ?_
    unfold wPe
    rw [List.getElem?_map]
    by_cases hk : k < x.Crowds.length
    · obtain ⟨y, hy⟩ := b2e hk
      rw [c4j hk, hy]; rfl
    · rw [List.getElem?_eq_none (by omega), List.getElem?_eq_none (by rw [b4a]; omega)]; rfl
  rw [hw]
  refine b3h (f := b99 t f x) x.Crowds.length (fun s k => (s, k)) (fill x.Crowds.length (fun k => ((x.Crowds[k]?).map fun y => if b3i f t x then y.People.High else y.People.Low).getD 0) 0) _ (by rw [← b75, b8o]) (fun k hk => ?_) (by
    simp only [b99]
    rw [if_neg (by simp), b7d (Nat.le_refl _)])
  obtain ⟨y, hy⟩ := b2e hk
  simp only [b99, b2f hy, Option.bind_some]
  rw [if_pos (by simpa using hk), b8r hk]
  simp only [Option.bind_some]
  rw [show ((k : Nat) : Int).toNat = k from by omega]
  have e0 : get ((fill x.Crowds.length (fun k => ((x.Crowds[k]?).map fun y => if b3i f t x then y.People.High else y.People.Low).getD 0) 0 k).set k y.People.Low) (k : Int) = some y.People.Low := by
    unfold fill; rw [b68, b2a hk, if_pos rfl]
  by_cases q : b3i f t x
  · rw [if_pos (by unfold b3i at q; simpa using q), e0]
    simp only [Option.bind_some, c0b]
    rw [List.set_set, b7e (by rw [hy]; simp [q]), b2o hk (by simp only [maxLen]; omega)]
  · rw [if_neg (by unfold b3i at q; simpa using q)]
    simp only [c0b]
    rw [b7e (by rw [hy]; simp [q]), b2o hk (by simp only [maxLen]; omega)]
theorem g5h (f : Nat) : c24 h t f = some (b5s h f t, 0) := by
  have hN := hv.1.2.2.2.1
  have hTr := hv.1.2.2.2.2.1
  unfold c24
  have l1 := b3h (f := c2z h t f) h.Trains.length (fun (p : List Int × List (List Int)) k => (p.1, p.2, k)) (fun i => ((h.Trains.take i).map (wAt f t), (h.Trains.take i).map (wPe f t))) (h.Trains.map (wAt f t), h.Trains.map (wPe f t)) (s0 := ([], [])) rfl (fun i hi => by
    obtain ⟨x, hx⟩ := b2e hi
    have hl := (hv.2.2.1 i x hx).2.2.2.1
    have j41 : c0a t f ((h.Trains.take i).map (wAt f t)) ((h.Trains.take i).map (wPe f t)) i x (wAt f t x) = some (.nx ((h.Trains.take (i + 1)).map (wAt f t), (h.Trains.take (i + 1)).map (wPe f t), (i : Int) + 1)) := by
      unfold c0a
      rw [b62 (by omega) (by omega)]
      simp only [Option.bind_some]
      rw [j6w hv hx]
      simp only [Option.bind_some, c5m]
      rw [b34 (by simp only [List.length_map, List.length_take, List.length_cons, List.length_nil]; omega)]
      simp only [Option.bind_some]
      rw [b34 (by simp only [List.length_map, List.length_take, List.length_cons, List.length_nil]; omega)]
      simp only [Option.bind_some, c5l]
      rw [b89 hx, b89 hx, b2o hi (by simp only [maxLen]; omega)]
    simp only [c2z, b2f hx, Option.bind_some]
    rw [if_pos (by simpa using hi)]
    by_cases q : b3i f t x
    · rw [if_pos (by unfold b3i at q; simpa using q), b7w, show max x.At.Low (f : Int) = wAt f t x from (if_pos q).symm]; exact j41
    · rw [if_neg (by unfold b3i at q; simpa using q), show x.At.Low = wAt f t x from (if_neg q).symm]; exact j41) (by
    simp only [c2z]
    rw [if_neg (by simp), List.take_length])
  simp only at l1
  rw [l1]
  simp only [Option.bind_some, c5k]
  have l2 := b3h (f := c21 h) h.Combs.length (fun s k => (s, k)) (fun i => (h.Combs.take i).map fun x => [x.Walk.Low]) (h.Combs.map fun x => [x.Walk.Low]) (s0 := []) rfl (fun i hi => by
    obtain ⟨x, hx⟩ := b2e hi
    simp only [c21, b2f hx, Option.bind_some]
    rw [if_pos (by simpa using hi), b34 (by simp only [List.length_map, List.length_take, List.length_cons, List.length_nil]; omega)]
    simp only [Option.bind_some]
    rw [b89 hx, b2o hi (by simp only [maxLen]; omega)]) (by
    simp only [c21]
    rw [if_neg (by simp), List.take_length])
  rw [l2]; rfl
include hc ht
theorem j1q : ∃ f, f ≤ t ∧ (own h c).come f t - b2g (b1j h c) f t = (own h c).most t ∧ b08 (b6p t (bdT (T h) (own h c) (b1j h c))) (0, 0) = some (f : Int) := by
  have hT := b3u hv
  have hok := d1z hv hc
  have hR := c02 hv
  have he : ∃ f, f ≤ t ∧ (own h c).come f t - b2g (b1j h c) f t = (own h c).most t := by
    have e : (own h c).most t = b3q 0 (fun s => (own h c).come s t - (b00 (b1j h c) t - b00 (b1j h c) s)) 0 (t + 1) := d8k
    have key : ∀ n, 0 < n → n ≤ t + 1 → (b3q 0 (fun s => (own h c).come s t - (b00 (b1j h c) t - b00 (b1j h c) s)) 0 n = 0 ∨ ∃ f, f < n ∧ (own h c).come f t - b2g (b1j h c) f t = b3q 0 (fun s => (own h c).come s t - (b00 (b1j h c) t - b00 (b1j h c) s)) 0 n) := by
      intro n
      induction n with
      | zero => intro hn; omega
      | succ n ih =>
        intro _ hn
        simp only [b3q, Nat.zero_add]
        have hr : b2g (b1j h c) n t = b00 (b1j h c) t - b00 (b1j h c) n := rfl
        by_cases q : b3q 0 (fun s => (own h c).come s t - (b00 (b1j h c) t - b00 (b1j h c) s)) 0 n ≤ (own h c).come n t - (b00 (b1j h c) t - b00 (b1j h c) n)
        · right; exact ⟨n, by omega, by omega⟩
        · by_cases hn0 : n = 0
          · subst hn0; left; simp only [b3q] at q ⊢; omega
          · rcases ih (by omega) (by omega) with h0 | ⟨f, hf, e⟩
            · left; omega
            · right; exact ⟨f, by omega, by omega⟩
    rw [e]
    rcases key (t + 1) (by omega) (Nat.le_refl _) with h0 | ⟨f, hf, e⟩
    · refine ⟨t, Nat.le_refl _, ?_⟩
      have h1 := c6f (z := 0) (g := fun s => (own h c).come s t - (b00 (b1j h c) t - b00 (b1j h c) s)) (a := 0) (n := t + 1) (i := t) (by omega)
      have h2 := hok.come t t (Nat.le_refl _) ht
      rw [b5j]
      simp only [Nat.zero_add] at h1
      omega
    · exact ⟨f, by omega, e⟩
  obtain ⟨f0, hf0, he0⟩ := he
  have e1 : wr ((t : Int) + 1) = ((t + 1 : Nat) : Int) := by rw [b1w (by omega) (by omega)]; omega
  have hstep : ∀ s, s ≤ t → b6p t (bdT (T h) (own h c) (b1j h c)) (0, (s : Int)) = if (own h c).come s t - b2g (b1j h c) s t = (own h c).most t then some (.br (s : Int)) else some (.nx (0, (s : Int) + 1)) := fun s hs => by
    have h1 := hok.come s t hs ht
    have h2 := hok.most t ht
    have h3 := b9d (f := b1j h c) (B := 1000) hs fun i _ hi => hR.r c i hc (by omega)
    simp only [b6p, e1, bdT]
    rw [if_pos (by simp; omega), b2a (show s < T h by omega)]
    simp only [Option.bind_some]
    rw [b6u ht hs]
    simp only [Option.bind_some]
    rw [b2a (show t < T h + 1 by omega)]
    simp only [Option.bind_some]
    rw [b2a (show s < T h + 1 by omega)]
    simp only [Option.bind_some]
    rw [b2a ht]
    simp only [Option.bind_some]
    rw [b1w (n := b00 (b1j h c) t - b00 (b1j h c) s) (by omega) (by omega), b1w (n := (own h c).come s t - (b00 (b1j h c) t - b00 (b1j h c) s)) (by omega) (by omega), b1w (n := (s : Int) + 1) (by omega) (by omega)]
    show (if decide ((own h c).come s t - b2g (b1j h c) s t = (own h c).most t) = true then _ else _) = _
    simp only [decide_eq_true_eq]
  have go : ∀ (n s : Nat), t - s = n → s ≤ f0 → ∃ f, f ≤ t ∧ (own h c).come f t - b2g (b1j h c) f t = (own h c).most t ∧ b08 (b6p t (bdT (T h) (own h c) (b1j h c))) (0, (s : Int)) = some (f : Int) := by
    intro n
    induction n with
    | zero =>
      intro s hn hs
      have hst : s = f0 := by omega
      subst hst
      exact ⟨s, hf0, he0, b5g (by rw [hstep s hf0, if_pos he0])⟩
    | succ n ih =>
      intro s hn hs
      by_cases q : (own h c).come s t - b2g (b1j h c) s t = (own h c).most t
      · exact ⟨s, by omega, q, b5g (by rw [hstep s (by omega), if_pos q])⟩
      · have hlt : s < f0 := by
          rcases Nat.lt_or_ge s f0 with h1 | h1
          · exact h1
          · have : s = f0 := by omega
            subst this; exact absurd he0 q
        have hs1 := hstep s (by omega)
        rw [if_neg q] at hs1
        rw [b88 hs1]
        have := ih (s + 1) (by omega) (by omega)
        rwa [show ((s + 1 : Nat) : Int) = (s : Int) + 1 by omega] at this
  have := go t 0 (by omega) (by omega)
  exact this
end
end Go.Nw.HM
namespace Go.Nw.HM
section
variable {h : Hall} (hv : V h)
include hv
theorem j83 (f t : Nat) : Fit h (b5s h f t) := by
  refine ⟨by simp [b5s], by simp [b5s], by simp [b5s], fun i x a p hx ha hp => ?_, fun u x w hx hw => ?_⟩
  · obtain ⟨g1, g2, g3, g4, g5⟩ := hv.2.2.1 i x hx
    simp only [b5s, List.getElem?_map, hx, Option.map_some, Option.some.injEq] at ha hp
    subst ha hp
    refine ⟨?_, by simp [wPe], fun k y n hy hn => ?_⟩
    · unfold wAt
      split
      · rename_i q; unfold b3i at q; omega
      · omega
    · have hg := g5 k y hy
      unfold b4k at hg
      simp only [wPe, List.getElem?_map, hy, Option.map_some, Option.some.injEq] at hn
      subst hn
      split <;> omega
  · have hg := hv.2.1 u x hx
    unfold b4t at hg
    simp only [b5s, List.getElem?_map, hx, Option.map_some, Option.some.injEq] at hw
    subst hw
    exact ⟨by simp, by simp, fun n hn => by rcases List.mem_singleton.1 hn with rfl; omega⟩
theorem j84 (f t : Nat) : b9q (b5s h f t) := by
  have hf := j83 hv f t
  have hN := hv.1.2.2.2.1
  have hTr := hv.1.2.2.2.2.1
  refine ⟨⟨by rw [hf.at_]; simp only [maxLen]; omega, fun a ha => ?_⟩, ⟨by rw [hf.people]; simp only [maxLen]; omega, fun p hp => ?_⟩, ⟨by rw [hf.walks]; simp only [maxLen]; omega, fun w hw => ?_⟩⟩
  · obtain ⟨i, hi, rfl⟩ := List.getElem_of_mem ha
    have ha := List.getElem?_eq_getElem hi
    obtain ⟨x, hx⟩ := b2e (show i < h.Trains.length by rw [← hf.at_]; exact hi)
    obtain ⟨p, hp⟩ := b2e (show i < (b5s h f t).People.length by rw [hf.people, ← hf.at_]; exact hi)
    have hr := (hf.ride i x _ p hx ha hp).1
    obtain ⟨g1, g2, g3, g4, g5⟩ := hv.2.2.1 i x hx
    have := hv.1.2.1
    unfold b3a; omega
  · obtain ⟨i, hi, rfl⟩ := List.getElem_of_mem hp
    have hp := List.getElem?_eq_getElem hi
    obtain ⟨x, hx⟩ := b2e (show i < h.Trains.length by rw [← hf.people]; exact hi)
    obtain ⟨a, ha⟩ := b2e (show i < (b5s h f t).At.length by rw [hf.at_, ← hf.people]; exact hi)
    obtain ⟨_, r2, r3⟩ := hf.ride i x a _ hx ha hp
    obtain ⟨g1, g2, g3, g4, g5⟩ := hv.2.2.1 i x hx
    refine ⟨by rw [r2]; simp only [maxLen]; omega, fun n hn => ?_⟩
    obtain ⟨k, hk, rfl⟩ := List.getElem_of_mem hn
    obtain ⟨y, hy⟩ := b2e (show k < x.Crowds.length by rw [← r2]; exact hk)
    have := r3 k y _ hy (List.getElem?_eq_getElem hk)
    have hg := g5 k y hy
    unfold b4k at hg
    unfold b3a; omega
  · obtain ⟨u, hu, rfl⟩ := List.getElem_of_mem hw
    have hw := List.getElem?_eq_getElem hu
    obtain ⟨x, hx⟩ := b2e (show u < h.Combs.length by rw [← hf.walks]; exact hu)
    obtain ⟨_, r2, r3⟩ := hf.walk u x _ hx hw
    have hg := hv.2.1 u x hx
    unfold b4t at hg
    refine ⟨by simp only [maxLen]; omega, fun n hn => ?_⟩
    have := r3 n hn
    unfold b3a; omega
end
end Go.Nw.HM
namespace Go.Nw.HM
section
variable {h : Hall} {d : Day} (hv : V h) (hf : Fit h d)
include hv hf
end
theorem d22 {l : List Int} (hl : l.length ≤ maxLen) : c1o l l = some true := by
  unfold c1o
  rw [if_neg (by simp)]
  rw [d1q (f := c30 l l) l.length (fun (_ : Unit) k => k) (fun _ => ()) (.inl ()) (fun k hk => by
    obtain ⟨x, hx⟩ := b2e hk
    simp only [c30, b2f hx, Option.bind_some]
    rw [if_pos (by simpa using hk), if_neg (by simp), b2o hk hl]) (by simp [c30])]
  rfl
theorem d9q {l : List (List Int)} (hl : l.length ≤ maxLen) (hr : ∀ r ∈ l, r.length ≤ maxLen) : c0y l l = some true := by
  unfold c0y
  rw [if_neg (by simp)]
  rw [d1q (f := c3q l l) l.length (fun (_ : Unit) k => k) (fun _ => ()) (.inl ()) (fun k hk => by
    obtain ⟨x, hx⟩ := b2e hk
    simp only [c3q, b2f hx, Option.bind_some]
    rw [if_pos (by simpa using hk), d22 (hr x (List.mem_of_getElem? hx))]
    simp only [Option.bind_some]
    rw [if_neg (by simp), b2o hk hl]) (by simp [c3q])]
  rfl
end Go.Nw.HM
namespace Go.Nw.HM
def put (n : Nat) (f : Nat → List Int) (s : Nat) (r : List Int) : List (List Int) := (fill n f [] s).set s r
theorem c86 {n s : Nat} {f : Nat → List Int} {r : List Int} (hs : s < n) : get (put n f s r) (s : Int) = some r := b2f (by unfold put; rw [List.getElem?_set, if_pos rfl, if_pos (by rw [d37]; exact hs)])
theorem d2e {n s : Nat} {f : Nat → List Int} {r r' : List Int} : (put n f s r).set s r' = put n f s r' := by unfold put; rw [List.set_set]
theorem d87 {n s : Nat} {f : Nat → List Int} {r : List Int} (e : r = f s) : put n f s r = fill n f [] (s + 1) := b7e e
theorem d4f {n s : Nat} {f : Nat → List Int} (hs : s < n) : get (fill n f [] s) (s : Int) = some [] := by rw [b8r hs, if_neg (by omega)]
section
variable {b : Bd} {n s t : Nat}
def b39 (b : Bd) (n s t : Nat) (a : Int) : List Int := (b3s b n s t).set t a
theorem d4g {a : Int} (ht : t < n) : get (b39 b n s t a) (t : Int) = some a := by unfold b39 b3s; rw [b68, b2a ht, if_pos rfl]
theorem d9t {a a' : Int} : (b39 b n s t a).set t a' = b39 b n s t a' := by unfold b39; rw [List.set_set]
theorem j7o (hst : s ≤ t) : b39 b n s t (b.come s t) = b3s b n s (t + 1) := by
  unfold b39 b3s
  rw [b68]
  refine b6f fun i hi => ?_
  by_cases e : i = t
  · subst e; rw [if_pos rfl, if_pos (by omega)]
  · rw [if_neg e]
    by_cases q : s ≤ i ∧ i < t
    · rw [if_pos q, if_pos (by omega)]
    · rw [if_neg q, if_neg (by omega)]
theorem j7p : b39 b n s t 0 = b3s b n s t := by
  unfold b39 b3s
  rw [b68]
  refine b6f fun i hi => ?_
  by_cases e : i = t
  · subst e; rw [if_pos rfl, if_neg (by omega)]
  · rw [if_neg e]
end
def pz (b : Bd) (f t : Nat) : Int := if f ≤ t then b9f b f t else 0
abbrev sH (h : Hall) (S : List Shift) : Hall := ⟨h.Combs, h.Trains, S, h.Until⟩
def b2h (h : Hall) (R : Nat → Nat → Int) (c : Nat) : r06_Bounds := ⟨tab c fun u => tab (T h) (bd h R u).most, tab c fun u => tab (T h) (bd h R u).flow, tab c fun u => tab (T h) (b25 (T h) (bd h R u)), tab c fun u => tab (T h) fun f => tab (T h) (pz (bd h R u) f)⟩
section
variable {h : Hall} {R : Nat → Nat → Int} {S : List Shift} (hv : V h) (hR : Rt h R)
include hv
theorem j6r {c u : Nat} (hu : u < c) {f t : Int} (ht : t < T h) : b9u (b2h h R c) u f t = some (b6b (bd h R u) f t) := by
  unfold b9u b6b
  by_cases q : t < f ∨ t < 0
  · rw [if_pos (by rw [b7w]; simp; omega), if_pos q]
  · rw [if_neg (by rw [b7w]; simp; omega), if_neg q]
    obtain ⟨to, rfl⟩ : ∃ to : Nat, t = to := ⟨t.toNat, by omega⟩
    obtain ⟨a, ha⟩ : ∃ a : Nat, max f 0 = a := ⟨(max f 0).toNat, by omega⟩
    rw [b7w, ha]
    simp only [b2h]
    rw [b2a hu]
    simp only [Option.bind_some]
    rw [b2a (show a < T h by omega)]
    simp only [Option.bind_some]
    rw [b2a (show to < T h by omega)]
    simp only [Option.bind_some, pz]
    rw [if_pos (by omega)]
    congr 2
variable {c : Nat} (hc : c < h.Combs.length) {s t : Nat} (hst : s ≤ t) (ht : t < T h) (F : Nat → List Int)
include hst ht
theorem g5b {x : Train} {i : Nat} (hx : h.Trains[i]? = some x) {A : Int} (hA : 0 ≤ A) (hA' : A ≤ 1000000000) (b : Bd) :
    b08 (c06 c s t x) (put (T h) F s (b39 b (T h) s t A), 0) = some (put (T h) F s (b39 b (T h) s t (A + b4f c s t x))) := by
  have hl := (hv.2.2.1 i x hx).2.2.2.1
  have hm := List.mem_of_getElem? hx
  refine b3h (f := c06 c s t x) x.Crowds.length (fun p k => (p, k)) (fun k => put (T h) F s (b39 b (T h) s t (A + if x.At.High < (s : Int) ∨ (t : Int) < x.At.Low then 0 else b3w x.Crowds (b5m c) k))) _
    (s0 := put (T h) F s (b39 b (T h) s t A)) (by rw [c3y]; simp) (fun k hk => ?_) (by
      simp only [c06]
      rw [if_neg (by simp), c03]
      unfold b4f; rfl)
  obtain ⟨y, hy⟩ := b2e hk
  have hc1 := c47 hv hm c k (by omega)
  have hg := (hv.2.2.1 i x hx).2.2.2.2 k y hy
  unfold b4k at hg
  simp only [c06, b2f hy, Option.bind_some]
  rw [if_pos (by simpa using hk)]
  by_cases q : x.At.High < (s : Int) ∨ (t : Int) < x.At.Low
  · rw [if_neg (by simp; omega), if_pos q, if_pos q]
    simp only [b9g, b2o hk (show x.Crowds.length ≤ maxLen by simp only [maxLen]; omega)]
  · rw [if_neg q, if_neg q, c04 hy]
    by_cases e : y.Comb = (c : Int)
    · rw [if_pos (by simp; omega), c86 (by omega)]
      simp only [Option.bind_some]
      rw [d4g ht]
      simp only [Option.bind_some, b9g, b2o hk (show x.Crowds.length ≤ maxLen by simp only [maxLen]; omega), Int.toNat_natCast]
      rw [d9t, d2e, b1w (by omega) (by omega), show b5m c y = y.People.High from if_pos e, Int.add_assoc]
    · rw [if_neg (by simp; omega), show b5m c y = 0 from if_neg e, Int.add_zero]
      simp only [b9g, b2o hk (show x.Crowds.length ≤ maxLen by simp only [maxLen]; omega)]
theorem j8v (b : Bd) : b08 (c07 (sH h S) c s t) (put (T h) F s (b39 b (T h) s t 0), 0) = some (put (T h) F s (b39 b (T h) s t (b4c h c s t))) := by
  have hTr := hv.1.2.2.2.2.1
  refine b3h (f := c07 (sH h S) c s t) h.Trains.length (fun p k => (p, k)) (fun k => put (T h) F s (b39 b (T h) s t (b3w h.Trains (b4f c s t) k))) _ (by rw [c3y]) (fun i hi => ?_) (by
    simp only [c07]
    rw [if_neg (by simp), c03]; rfl)
  obtain ⟨x, hx⟩ := b2e hi
  have hb := d2r hv c s t i (by omega)
  simp only [c07, b2f hx, Option.bind_some]
  rw [if_pos (by simpa using hi), g5b hv hst ht F hx (by omega) (by omega) b]
  simp only [Option.bind_some, c6t, b2o hi (show h.Trains.length ≤ maxLen by simp only [maxLen]; omega)]
  rw [c04 hx]
include hR hc
theorem j86 : b08 (c08 (sH h S) (b2h h R c).Most (b2h h R c).Flow (b2h h R c).Come (b2h h R c).Pass c s t) (put (T h) F s (b39 (bd h R c) (T h) s t (b4c h c s t)), 0) = some (put (T h) F s (b3s (bd h R c) (T h) s (t + 1))) := by
  have hN := hv.1.2.2.2.1
  have hT := b3u hv
  refine b3h (f := c08 (sH h S) (b2h h R c).Most (b2h h R c).Flow (b2h h R c).Come (b2h h R c).Pass c s t) c (fun p k => (p, k)) (fun u => put (T h) F s (b39 (bd h R c) (T h) s t (b4c h c s t + b00 (b2s h c (bd h R) s t) u))) _ (by rw [c01, Int.add_zero]) (fun u hu => ?_) (by
    simp only [c08]
    rw [if_neg (by simp), ← j7o hst]
    congr 4
    rw [b8f]; rfl)
  obtain ⟨x, hx⟩ := b2e (show u < h.Combs.length by omega)
  have hg := hv.2.1 u x hx
  unfold b4t at hg
  have hwb := c7m hv hR hc hst ht u (by omega)
  have hwb' := c7m hv hR hc hst ht (u + 1) (by omega)
  have hbb := c8o hv c s t
  rw [b49] at hwb'
  simp only [c08, b2f hx, Option.bind_some]
  rw [if_pos (by simpa using hu), b49]
  have hwr : wr ((u : Int) + 1) = (u : Int) + 1 := b1w (by omega) (by omega)
  by_cases e : x.Next = (c : Int)
  · rw [if_pos (by simpa using e), c86 (by omega)]
    simp only [Option.bind_some]
    rw [d4g ht]
    simp only [Option.bind_some]
    rw [b1w (n := (s : Int) - x.Walk.High) (by omega) (by omega), b1w (n := (t : Int) - x.Walk.Low) (by omega) (by omega)]
    have ep : b9u (r06_Bounds.mk (b2h h R c).Most (b2h h R c).Flow (b2h h R c).Come (b2h h R c).Pass) u ((s : Int) - x.Walk.High) ((t : Int) - x.Walk.Low) = some (b6b (bd h R u) ((s : Int) - x.Walk.High) ((t : Int) - x.Walk.Low)) := j6r hv hu (by omega)
    rw [ep]
    have ew : b2s h c (bd h R) s t u = b6b (bd h R u) ((s : Int) - x.Walk.High) ((t : Int) - x.Walk.Low) := by
      unfold b2s; rw [hx]; simp only; rw [if_pos e]
    simp only [Option.bind_some, c1g, Int.toNat_natCast]
    rw [← ew, d9t, d2e, hwr, b1w (n := b4c h c s t + b00 (b2s h c (bd h R) s t) u + b2s h c (bd h R) s t u) (by show _ ≤ b4c h c s t + b00 (b2s h c (bd h (R)) s t) u + b2s h c (bd h (R)) s t u; omega) (by show b4c h c s t + b00 (b2s h c (bd h (R)) s t) u + b2s h c (bd h (R)) s t u ≤ _; omega), Int.add_assoc]
  · rw [if_neg (by simpa using e)]
    have ew : b2s h c (bd h R) s t u = 0 := by
      unfold b2s; rw [hx]; simp only; rw [if_neg e]
    simp only [c1g]
    rw [ew, Int.add_zero, hwr]
omit hst ht in
theorem j7v (hs : s < T h) : b08 (c09 (sH h S) (b2h h R c).Most (b2h h R c).Flow (b2h h R c).Come (b2h h R c).Pass c s) (put (T h) F s (tab (T h) fun _ => 0), (s : Int)) = some (put (T h) F s (b25 (T h) (bd h R c) s)) := by
  have hT := b3u hv
  have hTi := b5l hv
  refine c3t (f := c09 (sH h S) (b2h h R c).Most (b2h h R c).Flow (b2h h R c).Come (b2h h R c).Pass c s) (T h) (fun p k => (p, k)) (fun t => put (T h) F s (b3s (bd h R c) (T h) s t)) _ s (by
    congr 1
    unfold b3s
    exact b6f fun i hi => by rw [if_neg (by omega)]) (by omega) (fun t hst ht => ?_) (by
    simp only [c09]
    rw [← hTi, if_neg (by simp)]
    congr 3
    unfold b3s b25
    exact b6f fun i hi => by by_cases q : s ≤ i <;> simp [q, hi])
  simp only [c09]
  rw [← hTi, if_pos (by simpa using ht), ← j7p, j8v hv hst ht F]
  simp only [Option.bind_some, c6s]
  rw [j86 hv hR hc hst ht F]
  simp only [Option.bind_some, c6r, b2o ht (show T h ≤ maxLen by simp only [maxLen]; omega)]
omit hst ht in
theorem g42 : b08 (c1a (sH h S) (b2h h R c).Most (b2h h R c).Flow (b2h h R c).Come (b2h h R c).Pass c) (tab (T h) fun _ => [], 0) = some (tab (T h) (b25 (T h) (bd h R c))) := by
  have hT := b3u hv
  have hTi := b5l hv
  refine b3h (f := c1a (sH h S) (b2h h R c).Most (b2h h R c).Flow (b2h h R c).Come (b2h h R c).Pass c) (T h) (fun p k => (p, k)) (fill (T h) (b25 (T h) (bd h R c)) []) _ (s0 := tab (T h) fun _ => []) (by rw [← b75, b8o]) (fun s hs => ?_) (by
    simp only [c1a]
    rw [← hTi, if_neg (by simp), b7d (Nat.le_refl _)])
  simp only [c1a]
  rw [← hTi, if_pos (by simpa using hs), b62 (by omega) (by omega)]
  simp only [Option.bind_some]
  rw [d4f hs]
  simp only [Option.bind_some, Int.toNat_natCast]
  rw [show (fill (T h) (b25 (T h) (bd h R c)) [] s).set s (tab (T h) fun _ => 0) = put (T h) (b25 (T h) (bd h R c)) s (tab (T h) fun _ => 0) from rfl, j7v hv hR hc _ hs]
  simp only [Option.bind_some, c6p, b2o hs (show T h ≤ maxLen by simp only [maxLen]; omega)]
  rw [d87 rfl]
end
end Go.Nw.HM
namespace Go.Nw.HM
theorem j1i {z : Int} {g : Nat → Int} {a n : Nat} : max (b3q z g (a + 1) n) (g a) = b3q z g a (n + 1) := by
  refine Int.le_antisymm ?_ ?_
  · refine Int.max_le.2 ⟨c3r.2 ⟨d1j, fun i hi => ?_⟩, ?_⟩
    · have := c6f (z := z) (g := g) (a := a) (n := n + 1) (i := i + 1) (by omega)
      rwa [show a + (i + 1) = a + 1 + i by omega] at this
    · have := c6f (z := z) (g := g) (a := a) (n := n + 1) (i := 0) (by omega)
      simpa using this
  · refine c3r.2 ⟨Int.le_trans d1j (Int.le_max_left _ _), fun i hi => ?_⟩
    by_cases e : i = 0
    · subst e; exact Int.le_max_right _ _
    · have := c6f (z := z) (g := g) (a := a + 1) (n := n) (i := i - 1) (by omega)
      rw [show a + 1 + (i - 1) = a + i by omega] at this
      exact Int.le_trans this (Int.le_max_left _ _)
theorem j1j {z w : Int} {g : Nat → Int} {a n : Nat} : min (b36 z g a n) w = b36 (min z w) g a n := by
  refine Int.le_antisymm ?_ ?_
  · exact c3s.2 ⟨Int.le_min.2 ⟨Int.le_trans (Int.min_le_left _ _) c6g, Int.min_le_right _ _⟩, fun i hi => Int.le_trans (Int.min_le_left _ _) (d8b hi)⟩
  · exact Int.le_min.2 ⟨c3s.2 ⟨Int.le_trans c6g (Int.min_le_left _ _), fun i hi => d8b hi⟩, Int.le_trans c6g (Int.min_le_right _ _)⟩
section
theorem bok {h : Hall} (hv : V h) {R : Nat → Nat → Int} (hR : Rt h R) {c : Nat} (hc : c < h.Combs.length) : BdOk (bd h R c) (T h) 1000000000 := by
  have hn := hv.1.2.2.2.1
  have := b8g hv hR c hc
  have hB := b79 (c := c) (by omega)
  exact ⟨fun s t hst ht => by have := this.come s t hst ht; omega, fun t ht => by have := this.most t ht; omega, this.flow⟩
variable {h : Hall} {R : Nat → Nat → Int} {S : List Shift} (hv : V h) (hR : Rt h R) {c : Nat} (hc : c < h.Combs.length)
include hv hR hc
theorem j1p {t : Nat} (ht : t < T h) : b08 (c1b (tab (T h) (b25 (T h) (bd h R c))) (tab (T h) (R c)) t) (fill (T h) (bd h R c).most 0 t, 0, (t : Int)) = some (fill (T h) (bd h R c).most 0 (t + 1)) := by
  have hT := b3u hv
  have hok := bok hv hR hc
  have hget : ∀ a : Int, get ((fill (T h) (bd h R c).most 0 t).set t a) (t : Int) = some a := fun a => b2f (by rw [List.getElem?_set, if_pos rfl, if_pos (by rw [d37]; exact ht)])
  have h0 : (fill (T h) (bd h R c).most 0 t).set t 0 = fill (T h) (bd h R c).most 0 t := by
    unfold fill
    rw [b68]
    refine b6f fun i hi => ?_
    by_cases e : i = t
    · subst e; rw [if_pos rfl, if_neg (by omega)]
    · rw [if_neg e]
  refine Eq.trans ?_ (b3h (f := c1b (tab (T h) (b25 (T h) (bd h R c))) (tab (T h) (R c)) t) (t + 1) (fun (p : List Int × Int) k => (p.1, p.2, (t : Int) - k))
    (fun k => ((fill (T h) (bd h R c).most 0 t).set t (b3q 0 (fun s => (bd h R c).come s t - b2g (R c) s t) (t + 1 - k) k), b2g (R c) (t + 1 - k - 1) t)) (fill (T h) (bd h R c).most 0 (t + 1)) (s0 := (fill (T h) (bd h R c).most 0 t, 0)) (by
      simp only [b3q, Nat.sub_zero, Nat.add_sub_cancel, b5j, h0]) (fun k hk => ?_) (by
      simp only [c1b]
      rw [if_neg (by simp; omega)]
      congr 2
      rw [Nat.sub_self, b7e]
      exact (d8k (h := h) (R := R) (c := c) (t := t)).symm))
  · simp
  obtain ⟨s, hs⟩ : ∃ s, s + k = t := ⟨t - k, by omega⟩
  have e1 : (t : Int) - (k : Int) = (s : Int) := by omega
  have e2 : t + 1 - k = s + 1 := by omega
  have e3 : t + 1 - (k + 1) = s := by omega
  have hcm := hok.come s t (by omega) ht
  have hr := b9d (f := R c) (B := 1000) (show s ≤ t by omega) fun i _ hi => hR.r c i hc (by omega)
  have hrs : b2g (R c) s t = b00 (R c) t - b00 (R c) s := rfl
  simp only [c1b, e1, e2, e3, Nat.add_sub_cancel]
  rw [if_pos (by simp), hget]
  simp only [Option.bind_some]
  rw [b2a (show s < T h by omega)]
  simp only [Option.bind_some]
  rw [b6u ht (by omega)]
  simp only [Option.bind_some, Int.toNat_natCast, List.set_set, b7w]
  rw [b1w (n := (bd h R c).come s t - b2g (R c) s t) (by omega) (by omega), j1i (g := fun s => (bd h R c).come s t - b2g (R c) s t)]
  by_cases q : 0 < s
  · have hr2 := b9d (f := R c) (B := 1000) (show s - 1 ≤ t by omega) fun i _ hi => hR.r c i hc (by omega)
    have hb := hR.r c (s - 1) hc (by omega)
    have e4 : b2g (R c) (s - 1) t = b2g (R c) s t + R c (s - 1) := by
      have := d9k (f := R c) (a := s - 1) (b := s) (c := t)
      have h2 : b2g (R c) (s - 1) (s - 1 + 1) = b2g (R c) (s - 1) (s - 1) + R c (s - 1) := b73
      rw [show s - 1 + 1 = s by omega, b5j] at h2
      omega
    rw [if_pos (by simpa using q), show wr ((s : Int) - 1) = ((s - 1 : Nat) : Int) from by rw [b1w (by omega) (by omega)]; omega, b2a (show s - 1 < T h by omega)]
    simp only [Option.bind_some, c1i]
    rw [← e4, b1w (by omega) (by omega), show wr ((s : Int) - 1) = (t : Int) - ((k : Int) + 1) from by rw [b1w (by omega) (by omega)]; omega]
  · rw [if_neg (by simpa using q)]
    simp only [c1i]
    rw [show wr ((s : Int) - 1) = (t : Int) - ((k : Int) + 1) from by rw [b1w (by omega) (by omega)]; omega, show s - 1 = s by omega]
theorem g54 : b08 (c1c (sH h S) (tab (T h) (b25 (T h) (bd h R c))) (tab (T h) (R c))) (tab (T h) (fun _ => 0), tab (T h) (fun _ => 0), 0) = some (tab (T h) (bd h R c).most, tab (T h) (bd h R c).flow) := by
  have hT := b3u hv
  have hTi := b5l hv
  refine b3h (f := c1c (sH h S) (tab (T h) (b25 (T h) (bd h R c))) (tab (T h) (R c))) (T h) (fun (p : List Int × List Int) k => (p.1, p.2, k)) (fun t => (fill (T h) (bd h R c).most 0 t, fill (T h) (bd h R c).flow 0 t)) _ (s0 := (tab (T h) (fun _ => 0), tab (T h) (fun _ => 0))) (by rw [← b75]; rw [← b8o, ← b8o]) (fun t ht => ?_) (by
    simp only [c1c]
    rw [← hTi, if_neg (by simp), b7d (Nat.le_refl _), b7d (Nat.le_refl _)])
  simp only [c1c]
  rw [← hTi, if_pos (by simpa using ht), j1p hv hR hc ht]
  simp only [Option.bind_some, c61]
  rw [b2a ht]
  simp only [Option.bind_some]
  rw [b8r ht, if_pos (by omega)]
  simp only [Option.bind_some]
  rw [b8r ht]
  simp only [Option.bind_some, c60, Int.toNat_natCast, b2o ht (show T h ≤ maxLen by simp only [maxLen]; omega), c00]
  rw [b7e]
  have h2 : (bd h R c).flow t = min ((bd h R c).most t) (R c t) := by rw [b8f]; rfl
  rw [h2, Int.min_comm]
theorem j88 {a to : Nat} (ha : a ≤ to) (hto : to < T h) : b08 (c1d (tab (T h) (b25 (T h) (bd h R c))) (tab (T h) (bd h R c).most) (tab (T h) (bd h R c).flow) to) ((bd h R c).come 0 to, 0, (a : Int)) = some (b36 ((bd h R c).come 0 to) (way (bd h R c) a to) a (to + 1 - a), b00 (bd h R c).flow (to + 1) - b00 (bd h R c).flow a) := by
  have hT := b3u hv
  have hok := bok hv hR hc
  refine c3t (f := c1d (tab (T h) (b25 (T h) (bd h R c))) (tab (T h) (bd h R c).most) (tab (T h) (bd h R c).flow) to) (to + 1) (fun (p : Int × Int) k => (p.1, p.2, k)) (fun k => (b36 ((bd h R c).come 0 to) (way (bd h R c) a to) a (k - a), b00 (bd h R c).flow k - b00 (bd h R c).flow a)) _ (s0 := ((bd h R c).come 0 to, 0)) a (by
    rw [Nat.sub_self, Int.sub_self]; rfl) (by omega) (fun k hak hk => ?_) (by
    simp only [c1d]
    rw [if_neg (by simp; omega)])
  have h1 := c2r hok (by omega) (show T h ≤ 1000 by omega) hak (show k ≤ T h by omega)
  have h2 := hok.most k (by omega)
  have h3 := c8m hok (by omega) (show T h ≤ 1000 by omega) (show k ≤ to by omega) hto
  have h4 := hok.flow k (by omega)
  have j61 : ∀ rest, rest = b4b (bd h R c) to k → c1h (tab (T h) (bd h R c).most) (tab (T h) (bd h R c).flow) (b36 ((bd h R c).come 0 to) (way (bd h R c) a to) a (k - a)) (b00 (bd h R c).flow k - b00 (bd h R c).flow a) k rest = some (.nx (b36 ((bd h R c).come 0 to) (way (bd h R c) a to) a (k + 1 - a), b00 (bd h R c).flow (k + 1) - b00 (bd h R c).flow a, (k : Int) + 1)) := fun rest hr => by
    subst hr
    unfold c1h
    rw [b2a (show k < T h by omega)]
    simp only [Option.bind_some]
    rw [b2a (show k < T h by omega)]
    simp only [Option.bind_some]
    rw [b1w (n := b00 (bd h R c).flow k - b00 (bd h R c).flow a + (bd h R c).most k) (by omega) (by omega), b1w (n := b00 (bd h R c).flow k - b00 (bd h R c).flow a + (bd h R c).most k + b4b (bd h R c) to k) (by omega) (by omega), b1w (n := b00 (bd h R c).flow k - b00 (bd h R c).flow a + (bd h R c).flow k) (by omega) (by omega), b1w (n := (k : Int) + 1) (by omega) (by omega), c00, b49,
      show k + 1 - a = (k - a) + 1 by omega]
    simp only [b36]
    rw [show a + (k - a) = k by omega, show b00 (bd h R c).flow k - b00 (bd h R c).flow a + (bd h R c).flow k = b00 (bd h R c).flow k + (bd h R c).flow k - b00 (bd h R c).flow a by omega]
    rfl
  simp only [c1d]
  rw [if_pos (by simp; omega)]
  by_cases q : k < to
  · rw [if_pos (by simpa using q), show wr ((k : Int) + 1) = ((k + 1 : Nat) : Int) from by rw [b1w (by omega) (by omega)]; omega, b2a (show k + 1 < T h by omega)]
    simp only [Option.bind_some]
    rw [b6u hto (by omega)]
    simp only [Option.bind_some]
    exact j61 _ (by unfold b4b; rw [if_pos q])
  · rw [if_neg (by simpa using q)]
    exact j61 _ (by unfold b4b; rw [if_neg q])
theorem j6u (F : Nat → List Int) {a : Nat} (ha : a < T h) : b08 (c1e (sH h S) (tab (T h) (b25 (T h) (bd h R c))) (tab (T h) (bd h R c).most) (tab (T h) (bd h R c).flow) a) (put (T h) F a (tab (T h) fun _ => 0), (a : Int)) = some (put (T h) F a (tab (T h) (pz (bd h R c) a))) := by
  have hT := b3u hv
  have hTi := b5l hv
  refine c3t (f := c1e (sH h S) (tab (T h) (b25 (T h) (bd h R c))) (tab (T h) (bd h R c).most) (tab (T h) (bd h R c).flow) a) (T h) (fun p k => (p, k)) (fun to => put (T h) F a (fill (T h) (pz (bd h R c) a) 0 to)) _ a (by
    congr 1
    unfold fill
    exact b6f fun i hi => by
      by_cases q : i < a
      · rw [if_pos q]; unfold pz; rw [if_neg (by omega)]
      · rw [if_neg q]) (by omega) (fun to hat hto => ?_) (by
    simp only [c1e]
    rw [← hTi, if_neg (by simp), b7d (Nat.le_refl _)])
  simp only [c1e]
  rw [← hTi, if_pos (by simpa using hto)]
  rw [show ((0 : Int)) = ((0 : Nat) : Int) from rfl, b2a (show 0 < T h by omega)]
  simp only [Option.bind_some]
  rw [b6u hto (by omega)]
  simp only [Option.bind_some]
  have hw := j88 hv hR hc hat hto
  simp only [Int.natCast_zero] at hw ⊢
  rw [hw]
  simp only [Option.bind_some, c6y]
  rw [c86 ha]
  simp only [Option.bind_some]
  rw [b8r hto]
  simp only [Option.bind_some, c6x, Int.toNat_natCast, b2o hto (show T h ≤ maxLen by simp only [maxLen]; omega), c00]
  rw [b7e, d2e]
  rw [j1j]
  unfold pz b9f
  rw [if_pos hat]
theorem j6s : b08 (c1f (sH h S) (tab (T h) (b25 (T h) (bd h R c))) (tab (T h) (bd h R c).most) (tab (T h) (bd h R c).flow)) (tab (T h) fun _ => [], 0) = some (tab (T h) fun f => tab (T h) (pz (bd h R c) f)) := by
  have hT := b3u hv
  have hTi := b5l hv
  refine b3h (f := c1f (sH h S) (tab (T h) (b25 (T h) (bd h R c))) (tab (T h) (bd h R c).most) (tab (T h) (bd h R c).flow)) (T h) (fun p k => (p, k)) (fill (T h) (fun f => tab (T h) (pz (bd h R c) f)) []) _ (s0 := tab (T h) fun _ => []) (by rw [← b75, b8o]) (fun s hs => ?_) (by
    simp only [c1f]
    rw [← hTi, if_neg (by simp), b7d (Nat.le_refl _)])
  simp only [c1f]
  rw [← hTi, if_pos (by simpa using hs), b62 (by omega) (by omega)]
  simp only [Option.bind_some]
  rw [d4f hs]
  simp only [Option.bind_some, Int.toNat_natCast]
  rw [show (fill (T h) (fun f => tab (T h) (pz (bd h R c) f)) [] s).set s (tab (T h) fun _ => 0) = put (T h) (fun f => tab (T h) (pz (bd h R c) f)) s (tab (T h) fun _ => 0) from rfl, j6u hv hR hc _ hs]
  simp only [Option.bind_some, c6w, b2o hs (show T h ≤ maxLen by simp only [maxLen]; omega)]
  rw [d87 rfl]
omit hc in
theorem g1u (hr : ∀ c, c < h.Combs.length → b71 (sH h S) (c : Int) = some (tab (T h) (R c))) : c05 (sH h S) = some (b2h h R h.Combs.length) := by
  have hT := b3u hv
  have hN := hv.1.2.2.2.1
  have hTi := b5l hv
  unfold c05
  have l := b3h (f := c3z (sH h S)) h.Combs.length (fun (p : List (List Int) × List (List Int) × List (List (List Int)) × List (List (List Int))) k => (p.1, p.2.1, p.2.2.1, p.2.2.2, k)) (fun c => ((b2h h R c).Most, (b2h h R c).Flow, (b2h h R c).Come, (b2h h R c).Pass)) ((b2h h R h.Combs.length).Most, (b2h h R h.Combs.length).Flow, (b2h h R h.Combs.length).Come, (b2h h R h.Combs.length).Pass) (s0 := ([], [], [], [])) rfl (fun c hc => by
    simp only [c3z]
    rw [if_pos (by simpa using hc), ← hTi, b62 (by omega) (by omega)]
    simp only [Option.bind_some]
    rw [g42 hv hR hc]
    simp only [Option.bind_some, c6q]
    rw [hr c hc]
    simp only [Option.bind_some]
    rw [← hTi, b62 (by omega) (by omega)]
    simp only [Option.bind_some]
    rw [g54 hv hR hc]
    simp only [Option.bind_some, c6u]
    rw [← hTi, b62 (by omega) (by omega)]
    simp only [Option.bind_some]
    rw [j6s hv hR hc]
    simp only [Option.bind_some, c6v, b2h]
    rw [b34 (by simp only [b4a, List.length_cons, List.length_nil]; omega)]
    simp only [Option.bind_some]
    rw [b34 (by simp only [b4a, List.length_cons, List.length_nil]; omega)]
    simp only [Option.bind_some]
    rw [b34 (by simp only [b4a, List.length_cons, List.length_nil]; omega)]
    simp only [Option.bind_some]
    rw [b34 (by simp only [b4a, List.length_cons, List.length_nil]; omega)]
    simp only [Option.bind_some, c6z, b2o hc (show h.Combs.length ≤ maxLen by simp only [maxLen]; omega)]
    rw [← b6r, ← b6r, ← b6r, ← b6r]) (by
    simp only [c3z]
    rw [if_neg (by simp)])
  simp only at l
  rw [l]; rfl
end
def c69 (h : Hall) (c : Nat) : r06_Bounds := b2h h (b1j h) c
theorem g1v {h : Hall} (hv : V h) : c05 h = some (c69 h h.Combs.length) := g1u (S := h.Shifts) hv (c02 hv) fun _ hc => d9a hv hc
end Go.Nw.HM
namespace Go.Nw.HM
section
variable {h : Hall} (hv : V h)
include hv
theorem d88 (c : Int) : b70 h c = decide (0 ≤ c ∧ c < h.Combs.length) := by
  have hN := hv.1.2.2.2.1
  simp only [b70, b2v, d2v (show h.Combs.length ≤ maxLen by simp only [maxLen]; omega)]
  rw [Bool.eq_iff_iff]
  simp only [Bool.and_eq_true, decide_eq_true_eq]; omega
theorem d89 (t : Int) : b2v t 0 (wr (h.Until - 1)) = decide (0 ≤ t ∧ t < h.Until) := by
  have h1 := hv.1.1
  have h2 := hv.1.2.1
  rw [b1w (by omega) (by omega)]
  simp only [b2v]
  rw [Bool.eq_iff_iff]
  simp only [Bool.and_eq_true, decide_eq_true_eq]; omega
end
end Go.Nw.HM
namespace Go.Nw.HM
def PW (h : Hall) (c t s : Nat) : Bool := decide ((own h c).come s t - b2g (b1j h c) s t = (own h c).most t)
section
variable {h : Hall} (hv : V h) {c : Nat} (hc : c < h.Combs.length) {t : Nat} (ht : t < T h)
include hv hc ht
theorem j1c : ∃ f, f ≤ t ∧ PW h c t f = true ∧ ∀ s, s < f → PW h c t s = false := by
  obtain ⟨f, f1, f2, _⟩ := j1q hv hc ht
  cases e : c5d (t + 1) (PW h c t) with
  | none =>
    have := (g53.1 e) f (by omega)
    unfold PW at this
    exact absurd f2 (by simpa using this)
  | some k =>
    unfold c5d at e
    rw [List.find?_range_eq_some] at e
    obtain ⟨e1, e2, e3⟩ := e
    have := List.mem_range.1 e2
    exact ⟨k, by omega, e1, fun s hs => by have := e3 s hs; simpa using this⟩
theorem g58 {f : Nat} (hf : f ≤ t) (h1 : PW h c t f = true) (h2 : ∀ s, s < f → PW h c t s = false) : b08 (b6p t (bdT (T h) (own h c) (b1j h c))) (0, 0) = some (f : Int) := by
  have hT := b3u hv
  have hok := d1z hv hc
  have hR := c02 hv
  have e1 : wr ((t : Int) + 1) = ((t + 1 : Nat) : Int) := by rw [b1w (by omega) (by omega)]; omega
  have hstep : ∀ s, s ≤ t → b6p t (bdT (T h) (own h c) (b1j h c)) (0, (s : Int)) = if PW h c t s = true then some (.br (s : Int)) else some (.nx (0, (s : Int) + 1)) := fun s hs => by
    have h1 := hok.come s t hs ht
    have h2 := hok.most t ht
    have h3 := b9d (f := b1j h c) (B := 1000) hs fun i _ hi => hR.r c i hc (by omega)
    simp only [b6p, e1, bdT]
    rw [if_pos (by simp; omega), b2a (show s < T h by omega)]
    simp only [Option.bind_some]
    rw [b6u ht hs]
    simp only [Option.bind_some]
    rw [b2a (show t < T h + 1 by omega)]
    simp only [Option.bind_some]
    rw [b2a (show s < T h + 1 by omega)]
    simp only [Option.bind_some]
    rw [b2a ht]
    simp only [Option.bind_some]
    rw [b1w (n := b00 (b1j h c) t - b00 (b1j h c) s) (by omega) (by omega), b1w (n := (own h c).come s t - (b00 (b1j h c) t - b00 (b1j h c) s)) (by omega) (by omega), b1w (n := (s : Int) + 1) (by omega) (by omega)]
    rfl
  have go : ∀ (n s : Nat), f - s = n → s ≤ f → b08 (b6p t (bdT (T h) (own h c) (b1j h c))) (0, (s : Int)) = some (f : Int) := by
    intro n
    induction n with
    | zero =>
      intro s hn hs
      have : s = f := by omega
      subst this
      exact b5g (by rw [hstep s hf, if_pos h1])
    | succ n ih =>
      intro s hn hs
      have hs1 := hstep s (by omega)
      rw [h2 s (by omega), if_neg (by simp)] at hs1
      rw [b88 hs1]
      have := ih (s + 1) (by omega) (by omega)
      rwa [show ((s + 1 : Nat) : Int) = (s : Int) + 1 by omega] at this
  exact go _ 0 rfl (by omega)
theorem g17 {f : Nat} (hF : Fst h c) (hf : f ≤ t) (h1 : PW h c t f = true) (h2 : ∀ s, s < f → PW h c t s = false) : b6o h c t = some (b5s h f t, 0) := by
  have hN := hv.1.2.2.2.1
  have hTi := b5l hv
  unfold b6o
  have e := d3v hv c [(t : Int)] (by simp [maxLen])
  rw [if_pos ⟨by omega, fun x hx => by rcases List.mem_singleton.1 hx with rfl; omega⟩] at e
  rw [e]
  simp only [Option.bind_some]
  rw [if_neg (by simp)]
  obtain ⟨b, b1, b2⟩ := d5v (l := h.Combs) (f := fun z7 => some (b6v z7 c)) (p := fun x => x.Next = (c : Int)) (by simp only [maxLen]; omega) (fun x _ => ⟨_, rfl, by simp [b6v]⟩)
  rw [b1]
  simp only [Option.bind_some]
  have hb : b = false := d3e fun hh => by
    obtain ⟨x, g1, g2⟩ := b2.1 hh
    exact hF x g1 g2
  rw [hb, if_neg (by simp), g2w hv, b2a hc]
  simp only [Option.bind_some]
  rw [g58 hv hc ht hf h1 h2]
  exact g5h hv f
def gF (h : Hall) (c t : Nat) : Nat → Int
  | 0 => 0
  | k + 1 => if PW h c t (t - k) = true then ((t - k : Nat) : Int) else gF h c t k
omit hv hc ht in
theorem g6g {f : Nat} (hf : f ≤ t) (h1 : PW h c t f = true) (h2 : ∀ s, s < f → PW h c t s = false) : gF h c t (t + 1) = f := by
  have key : ∀ d, d ≤ f → gF h c t (t - f + 1 + d) = f := by
    intro d
    induction d with
    | zero =>
      intro _
      show (if PW h c t (t - (t - f)) = true then ((t - (t - f) : Nat) : Int) else _) = _
      rw [show t - (t - f) = f by omega, if_pos h1]
    | succ d ih =>
      intro hd
      show (if PW h c t (t - (t - f + 1 + d)) = true then ((t - (t - f + 1 + d) : Nat) : Int) else gF h c t (t - f + 1 + d)) = _
      rw [h2 (t - (t - f + 1 + d)) (by omega), if_neg (by simp)]
      exact ih (by omega)
  have := key f (Nat.le_refl _)
  rwa [show t - f + 1 + f = t + 1 by omega] at this
theorem g59 {f : Nat} (hf : f ≤ t) (h1 : PW h c t f = true) (h2 : ∀ s, s < f → PW h c t s = false) : b08 (c1p c t (c69 h h.Combs.length) (tab (T h) (b1j h c))) (0, 0, (t : Int)) = some (f : Int) := by
  have hT := b3u hv
  have hok := d1z hv hc
  have hR := c02 hv
  refine Eq.trans ?_ (b3h (f := c1p c t (c69 h h.Combs.length) (tab (T h) (b1j h c))) (t + 1) (fun (p : Int × Int) k => (p.1, p.2, (t : Int) - k))
    (fun k => (gF h c t k, b2g (b1j h c) (t + 1 - k - 1) t)) (f : Int) (s0 := (0, 0)) (by
      simp only [Nat.sub_zero, Nat.add_sub_cancel, b5j]; rfl) (fun k hk => ?_) (by
      simp only [c1p]
      rw [if_neg (by simp; omega), g6g hf h1 h2]))
  · simp
  obtain ⟨s, hs⟩ : ∃ s, s + k = t := ⟨t - k, by omega⟩
  have e1 : (t : Int) - (k : Int) = (s : Int) := by omega
  have e2 : t + 1 - k = s + 1 := by omega
  have e3 : t + 1 - (k + 1) = s := by omega
  have hcm := hok.come s t (by omega) ht
  have hr := b9d (f := b1j h c) (B := 1000) (show s ≤ t by omega) fun i _ hi => hR.r c i hc (by omega)
  have hrs : b2g (b1j h c) s t = b00 (b1j h c) t - b00 (b1j h c) s := rfl
  have j77 : ∀ v, v = gF h c t (k + 1) → c1u (tab (T h) (b1j h c)) (b2g (b1j h c) s t) s v = some (.nx (gF h c t (k + 1), b2g (b1j h c) (s - 1) t, (t : Int) - ((k : Int) + 1))) := fun v hvv => by
    subst hvv
    unfold c1u
    by_cases q : 0 < s
    · have hr2 := b9d (f := b1j h c) (B := 1000) (show s - 1 ≤ t by omega) fun i _ hi => hR.r c i hc (by omega)
      have hb := c36 hv (c := c) (s - 1)
      have e4 : b2g (b1j h c) (s - 1) t = b2g (b1j h c) s t + b1j h c (s - 1) := by
        have := d9k (f := b1j h c) (a := s - 1) (b := s) (c := t)
        have h2 : b2g (b1j h c) (s - 1) (s - 1 + 1) = b2g (b1j h c) (s - 1) (s - 1) + b1j h c (s - 1) := b73
        rw [show s - 1 + 1 = s by omega, b5j] at h2
        omega
      rw [if_pos (by simpa using q), show wr ((s : Int) - 1) = ((s - 1 : Nat) : Int) from by rw [b1w (by omega) (by omega)]; omega, b2a (show s - 1 < T h by omega)]
      simp only [Option.bind_some, c1t]
      rw [← e4, b1w (by omega) (by omega), show wr ((s : Int) - 1) = (t : Int) - ((k : Int) + 1) from by rw [b1w (by omega) (by omega)]; omega]
    · rw [if_neg (by simpa using q)]
      simp only [c1t]
      rw [show wr ((s : Int) - 1) = (t : Int) - ((k : Int) + 1) from by rw [b1w (by omega) (by omega)]; omega, show s - 1 = s by omega]
  simp only [c1p, e1, e2, e3, Nat.add_sub_cancel, c69, b2h]
  rw [if_pos (by simp), b2a hc]
  simp only [Option.bind_some]
  rw [b2a (show s < T h by omega)]
  simp only [Option.bind_some]
  rw [b6u ht (by omega)]
  simp only [Option.bind_some]
  rw [b2a hc]
  simp only [Option.bind_some]
  rw [b2a ht]
  simp only [Option.bind_some]
  rw [b1w (n := (own h c).come s t - b2g (b1j h c) s t) (by omega) (by omega)]
  have eg : gF h c t (k + 1) = if PW h c t s = true then (s : Int) else gF h c t k := by
    show (if PW h c t (t - k) = true then ((t - k : Nat) : Int) else gF h c t k) = _
    rw [show t - k = s by omega]
  by_cases q : PW h c t s = true
  · rw [if_pos (by unfold PW at q; exact q)]
    exact j77 _ (by rw [eg, if_pos q])
  · rw [if_neg (by unfold PW at q; exact q)]
    exact j77 _ (by rw [eg, if_neg q])
omit hc ht in
theorem g5i (f : Nat) : c33 h t f = some (b5s h f t, 0) := by
  have hN := hv.1.2.2.2.1
  have hTr := hv.1.2.2.2.2.1
  unfold c33
  have l1 := b3h (f := c31 h t f) h.Trains.length (fun (p : List Int × List (List Int)) k => (p.1, p.2, k)) (fun i => ((h.Trains.take i).map (wAt f t), (h.Trains.take i).map (wPe f t))) (h.Trains.map (wAt f t), h.Trains.map (wPe f t)) (s0 := ([], [])) rfl (fun i hi => by
    obtain ⟨x, hx⟩ := b2e hi
    have hl := (hv.2.2.1 i x hx).2.2.2.1
    have pe : b08 (c1q t f x) ([], 0) = some (wPe f t x) := b3h (f := c1q t f x) x.Crowds.length (fun s k => (s, k)) (fun k => (x.Crowds.take k).map fun y => if b3i f t x then y.People.High else y.People.Low) (wPe f t x) (s0 := []) rfl (fun k hk => by
        obtain ⟨y, hy⟩ := b2e hk
        have j54 : ∀ v, v = (if b3i f t x then y.People.High else y.People.Low) → c1s ((x.Crowds.take k).map fun y => if b3i f t x then y.People.High else y.People.Low) k v = some (.nx ((x.Crowds.take (k + 1)).map fun y => if b3i f t x then y.People.High else y.People.Low, (k : Int) + 1)) := fun v hvv => by
          subst hvv
          unfold c1s
          rw [b34 (by simp only [List.length_map, List.length_take, List.length_cons, List.length_nil]; omega)]
          simp only [Option.bind_some]
          rw [b89 hy, b2o hk (show x.Crowds.length ≤ maxLen by simp only [maxLen]; omega)]
        simp only [c1q, b2f hy, Option.bind_some]
        rw [if_pos (by simpa using hk)]
        by_cases q : b3i f t x
        · rw [if_pos (by unfold b3i at q; simp; omega)]; exact j54 _ (by rw [if_pos q])
        · rw [if_neg (by unfold b3i at q; simp; omega)]; exact j54 _ (by rw [if_neg q])) (by
        simp only [c1q]
        rw [if_neg (by simp), List.take_length]; rfl)
    have j40 : ∀ v, v = wAt f t x → c1r t f ((h.Trains.take i).map (wAt f t)) ((h.Trains.take i).map (wPe f t)) i x v = some (.nx ((h.Trains.take (i + 1)).map (wAt f t), (h.Trains.take (i + 1)).map (wPe f t), (i : Int) + 1)) := fun v hvv => by
      subst hvv
      unfold c1r
      rw [b34 (by simp only [List.length_map, List.length_take, List.length_cons, List.length_nil]; omega)]
      simp only [Option.bind_some]
      rw [pe]
      simp only [Option.bind_some, c67]
      rw [b34 (by simp only [List.length_map, List.length_take, List.length_cons, List.length_nil]; omega)]
      simp only [Option.bind_some, c66]
      rw [b89 hx, b89 hx, b2o hi (by simp only [maxLen]; omega)]
    simp only [c31, b2f hx, Option.bind_some]
    rw [if_pos (by simpa using hi)]
    by_cases q : b3i f t x
    · rw [if_pos (by unfold b3i at q; simp; omega)]; exact j40 _ (by rw [b7w]; exact (if_pos q).symm)
    · rw [if_neg (by unfold b3i at q; simp; omega)]; exact j40 _ (if_neg q).symm) (by
    simp only [c31]
    rw [if_neg (by simp), List.take_length])
  simp only at l1
  rw [l1]
  simp only [Option.bind_some, c65]
  have l2 := b3h (f := c32 h) h.Combs.length (fun s k => (s, k)) (fun i => (h.Combs.take i).map fun x => [x.Walk.Low]) (h.Combs.map fun x => [x.Walk.Low]) (s0 := []) rfl (fun i hi => by
    obtain ⟨x, hx⟩ := b2e hi
    simp only [c32, b2f hx, Option.bind_some]
    rw [if_pos (by simpa using hi), b34 (by simp only [List.length_map, List.length_take, List.length_cons, List.length_nil]; omega)]
    simp only [Option.bind_some]
    rw [b89 hx, b2o hi (by simp only [maxLen]; omega)]) (by
    simp only [c32]
    rw [if_neg (by simp), List.take_length])
  rw [l2]; rfl
end
theorem g16 {h : Hall} (hv : V h) (comb tick : Int) : ∃ d e, b6o h comb tick = some (d, e) ∧ b67 h comb tick = some (d, e) ∧ b9q d := by
  have hTi := b5l hv
  have hN := hv.1.2.2.2.1
  have ok0 : b9q ⟨[], [], []⟩ := ⟨⟨by simp, by simp⟩, ⟨by simp, by simp⟩, ⟨by simp, by simp⟩⟩
  have e := d3v hv comb [tick] (by simp [maxLen])
  by_cases q : (0 ≤ comb ∧ comb < h.Combs.length) ∧ (0 ≤ tick ∧ tick < h.Until)
  · obtain ⟨c, rfl⟩ : ∃ a : Nat, comb = a := ⟨comb.toNat, by omega⟩
    obtain ⟨t, rfl⟩ : ∃ a : Nat, tick = a := ⟨tick.toNat, by omega⟩
    have hc : c < h.Combs.length := by omega
    have ht : t < T h := by omega
    have hr : ∀ {α : Type} (x y : α), (if (!(b70 h (c : Int)) || !(b2v (t : Int) 0 (wr (h.Until - 1)))) = true then x else y) = y := fun x y => if_neg (by
      rw [d88 hv, d89 hv]
      simp; omega)
    rcases g10 hv c with ⟨hF, e2⟩ | ⟨hF, e2⟩
    · obtain ⟨f, f1, f2, f3⟩ := j1c hv hc ht
      refine ⟨_, _, g17 hv hc ht hF f1 f2 f3, ?_, j84 hv f t⟩
      unfold b67
      rw [(c4w hv).2]
      simp only [Option.bind_some]
      rw [if_neg (by simp), hr, e2]
      simp only [Option.bind_some]
      rw [if_neg (by simp), g1v hv, d9a hv hc]
      simp only [Option.bind_some]
      rw [g59 hv hc ht f1 f2 f3]
      exact g5i hv f
    · refine ⟨⟨[], [], []⟩, 3, ?_, ?_, ok0⟩
      · unfold b6o
        rw [if_pos ⟨q.1, fun x hx => by rcases List.mem_singleton.1 hx with rfl; exact q.2⟩] at e
        rw [e]
        simp only [Option.bind_some]
        rw [if_neg (by simp)]
        obtain ⟨b, b1, b2⟩ := d5v (l := h.Combs) (f := fun z7 => some (b6v z7 c)) (p := fun x => x.Next = (c : Int)) (by simp only [maxLen]; omega) (fun x _ => ⟨_, rfl, by simp [b6v]⟩)
        rw [b1]
        simp only [Option.bind_some]
        rw [if_pos (b2.2 (Classical.byContradiction fun hh => hF fun x hx hn => hh ⟨x, hx, hn⟩))]
      · unfold b67
        rw [(c4w hv).2]
        simp only [Option.bind_some]
        rw [if_neg (by simp), hr, e2]
        simp only [Option.bind_some]
        rw [if_pos (by simp)]
  · refine ⟨⟨[], [], []⟩, 1, ?_, ?_, ok0⟩
    · unfold b6o
      rw [if_neg fun hh => q ⟨hh.1, hh.2 tick (by simp)⟩] at e
      rw [e]
      simp only [Option.bind_some]
      rw [if_pos (by simp)]
    · unfold b67
      rw [(c4w hv).2]
      simp only [Option.bind_some]
      rw [if_neg (by simp), if_pos]
      rw [d88 hv, d89 hv]
      simp only [Bool.or_eq_true, Bool.not_eq_true', decide_eq_false_iff_not]
      omega
theorem j8a {d : Day} (hd : b9q d) : c3p d d = some true := by
  unfold c3p
  rw [d22 hd.1.1]
  simp only [Option.bind_some]
  rw [if_pos trivial, d9q hd.2.1.1 fun r hr => (hd.2.1.2 r hr).1]
  simp only [Option.bind_some]
  rw [if_pos trivial, d9q hd.2.2.1 fun r hr => (hd.2.2.2 r hr).1]
  rfl
theorem j9b (hw : b7u = some true) (h : Hall) (comb tick : Int) (hk : b5v h) (_ : b3a comb) (_ : b3a tick) : c3o h comb tick = some true := by
  obtain ⟨b, hb⟩ := g1z hk
  unfold c3o
  rw [hb]
  simp only [Option.bind_some]
  cases b with
  | true =>
    rw [if_pos rfl, hw]; rfl
  | false =>
    rw [if_neg (by simp)]
    obtain ⟨d, e, w1, w2, w3⟩ : ∃ d e, b6o h comb tick = some (d, e) ∧ b67 h comb tick = some (d, e) ∧ b9q d := by
      rcases d2y hk with ⟨hv, _, _⟩ | ⟨_, c1, c2⟩
      · exact g16 hv comb tick
      · refine ⟨⟨[], [], []⟩, 60, ?_, ?_, ⟨⟨by simp, by simp⟩, ⟨by simp, by simp⟩, ⟨by simp, by simp⟩⟩⟩
        · unfold b6o b6w
          rw [c1]; rfl
        · unfold b67
          rw [c2]; rfl
    rw [w1, w2]
    simp only [Option.bind_some]
    rw [if_pos (by simp), j8a w3]
    simp only [Option.bind_some]
    rw [if_pos trivial, hw]; rfl
end Go.Nw.HM
