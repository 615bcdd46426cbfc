/- ControlTwin: the law. -/
import Derived.Test.YtfahaljhgfjooaaDoorKMTwin9
set_option linter.all false
namespace Go.Nw.KM
noncomputable section
theorem r22 {m : Machine} (hf : ∀ n ∈ b3g m, n.size <= maxLen) (hm : OkM m) : r06 m = some (count m m.Counters.length) := by
 unfold r06 r1s
 obtain ⟨e, h1, h2⟩ := d5t hf
 have he : e = 0 := by rcases h2 with ⟨h, _⟩ | ⟨_, h⟩; exact h; exact absurd hm h
 subst he
 rw [h1, Option.bind_some, if_neg (by simp)]
 have hc := hm.z.c
 have hb : ∀ k, k <= m.Counters.length -> 0 <= count m k /\ count m k <= 768 := fun k hk => by
  obtain ⟨h0, h1⟩ := d62 hm k
  have : k = 0 \/ k = 1 \/ k = 2 := by omega
  rcases this with rfl | rfl | rfl <;> simp at h1 <;> omega
 have := b4h (f := r1g m) m.Counters.length (fun (s : Int) k => (s, k)) (count m) (count m m.Counters.length) (s0 := (m.States.length : Int)) rfl (fun k hk => by
   obtain ⟨x, hx⟩ := b3b hk
   have hM := hm.c x (b1d.2 ⟨k, hx⟩)
   have h3 := hb k (by omega)
   have h4 := hb (k + 1) (by omega)
   have e : count m (k + 1) = count m k * (x.Max + 1) := by (conv => lhs; unfold count; rw [hx])
   unfold r1g
   simp only [Int.ofNat_lt, hk, decide_true, if_true, b1h hx, Option.bind_some]
   rw [b2r hk (b1o (by omega)), b3t (by omega : -9223372036854775808 <= x.Max + 1) (by omega), <- e, b3t (by omega) (by omega)]) (by
   unfold r1g
   simp only [Int.lt_irrefl, decide_false, Bool.false_eq_true, if_false])
 rw [this]; rfl
section
variable [Bd]
theorem r4i (a b : Machine) (run : List Int) (ha0 : b9d a) (hb0 : b9d b) (hr0 : OkL b5k run) : r1f a b run = some true := by
 have hfa := l5y ha0
 have hfb := l5y hb0
 obtain ⟨e1, h1, h1'⟩ := d5t hfa
 obtain ⟨e2, h2, h2'⟩ := d5t hfb
 unfold r1f
 rw [h1, Option.bind_some]
 by_cases z1 : e1 = 0
 case neg =>
  rw [if_pos (by simpa using z1)]
  rfl
 subst z1
 have ha : OkM a := by rcases h1' with ⟨_, h⟩ | ⟨h, _⟩; exact h; cases h
 rw [if_neg (by simp), h2, Option.bind_some, Option.bind_some]
 by_cases z2 : e2 = 0
 case neg =>
  rw [show decide (¬ e2 = 0) = true by simpa using z2]
  rfl
 subst z2
 have hb : OkM b := by rcases h2' with ⟨_, h⟩ | ⟨h, _⟩; exact h; cases h
 obtain ⟨w, hw⟩ := l7h hfa
 have h00 : decide (¬ (0 : Int) = 0) = false := by simp
 rw [h00]
 simp only [Bool.false_eq_true, if_false]
 rw [hw, Option.bind_some, Option.bind_some]
 cases w with
 | true => rfl
 | false =>
 simp only [Bool.false_eq_true, if_false]
 rw [r22 hfa ha, Option.bind_some, Option.bind_some]
 by_cases pa : 20 < count a a.Counters.length
 ·rw [decide_eq_true pa]; rfl
 rw [decide_eq_false pa]
 simp only [Bool.false_eq_true, if_false]
 rw [r22 hfb hb, Option.bind_some, Option.bind_some]
 by_cases pb : 20 < count b b.Counters.length
 ·rw [decide_eq_true pb]; rfl
 rw [decide_eq_false pb, Bool.false_or]
 by_cases h60 : (60 : Int) < (run.length : Int)
 ·rw [if_pos (by simpa using h60)]; rfl
 rw [if_neg (by simpa using h60)]
 -- a machine is the same as itself
 obtain ⟨r, r1, r2⟩ := r2l hfa hfa ha ha
 have hself : r = ([], true, 0) := by
  rcases r2 with ⟨_, h⟩ | ⟨_, _, ⟨h, _⟩ | ⟨_, _, _, h, _⟩⟩
  ·exact absurd ⟨rfl, rfl⟩ h
  ·exact h
  ·exact absurd rfl h
 subst hself
 rw [r1, Option.bind_some, if_neg (by simp)]
 obtain ⟨q, q1, q2⟩ := r2l hfa hfb ha hb
 rw [q1, Option.bind_some]
 rcases q2 with ⟨rfl, _⟩ | ⟨hi, ho, hq⟩
 ·rw [if_pos (by simp)]; rfl
 have hx : ∀ x, OkX b x ↔ OkX a x := fun x => by unfold OkX; rw [hi]
 rcases hq with ⟨rfl, hall⟩ | ⟨w, rfl, hw1, hw2, hw3⟩
 ·rw [if_neg (by simp)]
  simp only
  have e1 : b93 a [] = some (b70 a [], true) := by
   rcases l41 hfa ha [] with ⟨_, h⟩ | ⟨h, _⟩
   ·exact h
   ·exact absurd ⟨by simp, fun x hx => by simp at hx⟩ h
  have e2 : b93 b [] = some (b70 b [], true) := by
   rcases l41 hfb hb [] with ⟨_, h⟩ | ⟨h, _⟩
   ·exact h
   ·exact absurd ⟨by simp, fun x hx => by simp at hx⟩ h
  rw [e1, e2, Option.bind_some, Option.bind_some]
  simp only [Bool.not_true, Bool.false_or, Bool.or_false, Bool.false_and, Bool.false_eq_true, if_false]
  rcases l41 hfa ha run with ⟨⟨_, k1⟩, k2⟩ | ⟨_, k2⟩ <;> rcases l41 hfb hb run with ⟨_, k3⟩ | ⟨_, k3⟩ <;> rw [k2, k3, Option.bind_some, Option.bind_some]
  ·rw [hall run k1]; simp [c7n]
  ·simp [c7n]
  ·simp [c7n]
  ·simp [c7n]
 ·rw [if_neg (by simp)]
  simp only
  obtain ⟨u, u1, u2, u3⟩ := r4h ha hb hi hw1 hw2
  have hlen := hw3 u u2 u3
  have hlw : w.length <= 200 := by omega
  have e1 : b93 a w = some (b70 a w, true) := by
   rcases l41 hfa ha w with ⟨_, h⟩ | ⟨h, _⟩
   ·exact h
   ·exact absurd ⟨hlw, hw1⟩ h
  have e2 : b93 b w = some (b70 b w, true) := by
   rcases l41 hfb hb w with ⟨_, h⟩ | ⟨h, _⟩
   ·exact h
   ·exact absurd ⟨hlw, fun x hx' => (hx x).2 (hw1 x hx')⟩ h
  rw [e1, e2, Option.bind_some, Option.bind_some, if_neg (by simp [hw2])]
  obtain ⟨v1, k1⟩ : ∃ v, b93 a run = some v := by rcases l41 hfa ha run with ⟨_, h⟩ | ⟨_, h⟩ <;> exact ⟨_, h⟩
  obtain ⟨v2, k2⟩ : ∃ v, b93 b run = some v := by rcases l41 hfb hb run with ⟨_, h⟩ | ⟨_, h⟩ <;> exact ⟨_, h⟩
  rw [k1, k2, Option.bind_some, Option.bind_some]
  simp [c7n]
end
end
end Go.Nw.KM
