/- ControlSteps: a step, and a run, are what the document says. -/
import Derived.Test.YtfahaljhgfjooaaDoorP5
import Derived.Test.YtfahaljhgfjooaaDoorNwFirst
set_option linter.all false
namespace Go.Nw.KM
noncomputable section
theorem d6y {m : Machine} {p : Place} : OkP m p ↔ In p.State m.States.length /\ b5g 2 (fun k => !(b1o (if (k : Int) = 0 then p.Values.1 else p.Values.2) 0 (b2y m k))) = none := by
 rw [d22]
 constructor
 ·intro h
  refine ⟨h.s, fun t ht => ?_⟩
  have : t = 0 \/ t = 1 := by omega
  rcases this with rfl | rfl
  ·have := b3p.2 h.a; simp [this]
  ·have := b3p.2 h.b; simp [this]
 ·rintro ⟨h1, h2⟩
  have h3 := h2 0 (by omega)
  have h4 := h2 1 (by omega)
  simp only [Bool.not_eq_false', Int.natCast_zero, if_true, b3p] at h3
  simp only [Bool.not_eq_false', show ¬ ((1 : Nat) : Int) = 0 by decide, if_false, b3p] at h4
  exact ⟨h1, h3, h4⟩
theorem d5d {m : Machine} (hm : OkM m) {p : Place} : ∃ b, b1o p.State 0 (wr ((List.length m.States : Int) - 1)) = b /\ (b = true ↔ In p.State m.States.length) := by
 have := hm.z.s
 rw [b64 (b1q (by omega))]
 refine ⟨_, rfl, ?_⟩
 rw [b3p]
 unfold In
 omega
theorem d6o {m : Machine} {k : Nat} : (k < m.Counters.length /\ ∃ c, get m.Counters k = some c /\ c.Max = b2y m k) \/ (¬ k < m.Counters.length /\ b2y m k = 0) := by
 by_cases h : k < m.Counters.length
 ·obtain ⟨c, hc⟩ := b3z h
  exact .inl ⟨h, c, b1e hc, by unfold b2y; rw [hc]⟩
 ·exact .inr ⟨h, by unfold b2y; rw [List.getElem?_eq_none (by omega)]⟩
theorem d9x {m : Machine} (hm : OkM m) (p : Place) : ∃ b, b9q ⟨m⟩ p = some b /\ (b = true ↔ OkP m p) := by
 unfold b9q c2w
 have step : ∀ k : Nat, k < 2 -> b9r ⟨m⟩ p k = (if (!(b1o (if (k : Int) = 0 then p.Values.1 else p.Values.2) 0 (b2y m k))) = true then some (.br (.inr false)) else some (.nx ((k : Int) + 1))) := fun k hk => by
  have h2 : (k : Int) < 2 := by omega
  unfold b9r b9s
  simp only [h2, decide_true, if_true, b7l (show In (k : Int) 2 from ⟨by omega, by omega⟩), bS9, Int.ofNat_lt]
  rcases d6o (m := m) (k := k) with ⟨h3, c, h4, h5⟩ | ⟨h3, h4⟩
  ·simp only [h3, decide_true, if_true, h4, bS9, h5, b21 hk (show 2 <= maxLen by decide)]
  ·simp only [h3, decide_false, fT9, if_false, h4, b21 hk (show 2 <= maxLen by decide)]
 rw [d6c (f := b9r ⟨m⟩ p) (n := 2) (p := fun k => !(b1o (if (k : Int) = 0 then p.Values.1 else p.Values.2) 0 (b2y m k))) (e := fun _ => .inr false) (u := .inl ()) (fun t ht hp => by rw [step t ht, if_pos hp]) (fun t ht hp => by rw [step t ht, if_neg (by rw [hp]; simp)]) (by rfl), d6y]
 obtain ⟨b, h1, h2⟩ := d5d hm (p := p)
 cases b5g 2 (fun k => !(b1o (if (k : Int) = 0 then p.Values.1 else p.Values.2) 0 (b2y m k))) with
 | none => exact ⟨b, by simp only [bS9, h1], by rw [h2]; simp⟩
 | some t => exact ⟨false, rfl, by simp⟩
theorem d9v {m : Machine} (hm : OkM m) (p : Place) : ∃ b, c1e m p = some b /\ (b = true ↔ OkP m p) := by
 unfold c1e c4z
 have step : ∀ k : Nat, k < 2 -> c1f m p k = (if (!(b1o (if (k : Int) = 0 then p.Values.1 else p.Values.2) 0 (b2y m k))) = true then some (.br (.inr false)) else some (.nx ((k : Int) + 1))) := fun k hk => by
  have h2 : (k : Int) < 2 := by omega
  have e : ∀ x y : Int, b1k x 0 y = b1o x 0 y := fun x y => by rw [Bool.eq_iff_iff, b4p, b3p]
  unfold c1f c1g
  simp only [h2, decide_true, if_true, b7l (show In (k : Int) 2 from ⟨by omega, by omega⟩), bS9, Int.ofNat_lt, e]
  rcases d6o (m := m) (k := k) with ⟨h3, c, h4, h5⟩ | ⟨h3, h4⟩
  ·simp only [h3, decide_true, if_true, h4, bS9, h5, b21 hk (show 2 <= maxLen by decide)]
  ·simp only [h3, decide_false, fT9, if_false, h4, b21 hk (show 2 <= maxLen by decide)]
 rw [d6c (f := c1f m p) (n := 2) (p := fun k => !(b1o (if (k : Int) = 0 then p.Values.1 else p.Values.2) 0 (b2y m k))) (e := fun _ => .inr false) (u := .inl ()) (fun t ht hp => by rw [step t ht, if_pos hp]) (fun t ht hp => by rw [step t ht, if_neg (by rw [hp]; simp)]) (by rfl), d6y]
 obtain ⟨b, h1, h2⟩ := d5d hm (p := p)
 have e : b1k p.State 0 (wr ((List.length m.States : Int) - 1)) = b := by rw [<- h1, Bool.eq_iff_iff, b4p, b3p]
 rw [e]
 cases b with
 | false => exact ⟨false, rfl, by rw [<- h2]; simp⟩
 | true =>
  rw [if_neg (by simp), <- h2]
  cases b5g 2 (fun k => !(b1o (if (k : Int) = 0 then p.Values.1 else p.Values.2) 0 (b2y m k))) with
  | none => exact ⟨true, rfl, by simp⟩
  | some t => exact ⟨false, rfl, by simp⟩
theorem d9m {m : Machine} (hs : SizesOk m) : b9o ⟨m⟩ = some ((2 ^ m.Inputs.length : Nat) : Int) := by
 unfold b9o
 have := hs.i
 simp only
 rw [c5k (by omega)]; simp
theorem c7b {m : Machine} (hm : OkM m) (x : Int) : ∃ b, b8a ⟨m⟩ x = some b /\ (b = true ↔ OkX m x) := by
 unfold b8a
 have := d7d hm.z
 rw [d9m hm.z, bS9, b64 (b1q (by omega))]
 refine ⟨_, rfl, ?_⟩
 rw [b3p]
 unfold OkX In
 omega
theorem d23 {m : Machine} (hm : OkM m) (x : Int) : ∃ b, b1k x 0 (wr (((2 ^ m.Inputs.length : Nat) : Int) - 1)) = b /\ (b = true ↔ OkX m x) := by
 have := d7d hm.z
 rw [b64 (b1q (by omega))]
 refine ⟨_, rfl, ?_⟩
 rw [b4p]
 unfold OkX In
 omega
theorem d91 {m : Machine} (hf : ∀ n ∈ b3e m, n.size <= maxLen) (p : Place) (x : Int) : ∃ r, b94 m p x = some r /\ c1l m p x = some r /\
  ((OkM m /\ OkP m p /\ OkX m x /\ r = (nxt m p x, 0)) \/ (OkM m /\ ¬ (OkP m p /\ OkX m x) /\ r = (zero, 1)) \/ (¬ OkM m /\ r = (zero, 41))) := by
 obtain ⟨e, h1, h2⟩ := d09 hf
 obtain ⟨e', h3, h4⟩ := d1a hf
 unfold b94 c1l
 rw [h1, h3, bS9, bS9]
 rcases h2 with ⟨rfl, hm⟩ | ⟨rfl, hm⟩ <;> rcases h4 with ⟨rfl, hm'⟩ | ⟨rfl, hm'⟩
 ·obtain ⟨b, a1, a2⟩ := d9x hm p
  obtain ⟨b', a3, a4⟩ := d9v hm p
  obtain ⟨d, a5, a6⟩ := c7b hm x
  obtain ⟨d', a7, a8⟩ := d23 hm x
  have eb : b' = b := by rw [Bool.eq_iff_iff, a2, a4]
  have ed : d' = d := by rw [Bool.eq_iff_iff, a6, a8]
  subst eb; subst ed
  rw [if_neg (by simp), if_neg (by simp), show b2a m = ⟨⟨m⟩⟩ from rfl]
  simp only
  rw [a1, a3, a5, d1g hm.z, bS9, bS9, bS9, bS9, a7]
  cases b' with
  | false => exact ⟨(zero, 1), rfl, rfl, .inr (.inl ⟨hm, fun h => by simpa using a2.2 h.1, rfl⟩)⟩
  | true =>
   cases d' with
   | false => exact ⟨(zero, 1), rfl, rfl, .inr (.inl ⟨hm, fun h => by simpa using a6.2 h.2, rfl⟩)⟩
   | true =>
    have ho := a2.1 rfl
    refine ⟨(nxt m p x, 0), ?_, ?_, .inl ⟨hm, ho, a6.1 rfl, rfl⟩⟩
    ·simp only [Bool.not_true, fT9, if_false, bS9]
     rw [d1e hm ho]; rfl
    ·simp only [Bool.not_true, fT9, if_false, bS9]
     rw [d1b hm ho]; rfl
 ·exact absurd hm hm'
 ·exact absurd hm' hm
 ·exact ⟨(zero, 41), rfl, rfl, .inr (.inr ⟨hm, rfl⟩)⟩
def b3o (m : Machine) (l : List Int) : Nat -> Place
 | 0 => zero
 | k + 1 => nxt m (b3o m l k) (l.getD k 0)
theorem d00 {m : Machine} (hm : OkM m) (l : List Int) : ∀ k, OkP m (b3o m l k)
 | 0 => m67 hm
 | k + 1 => j41 hm (d00 hm l k) _
theorem d28 {α : Type} {l : List α} {k : Nat} {x z : α} (h : l[k]? = some x) : l.getD k z = x := by
 rw [List.getD_eq_getElem?_getD, h]; rfl
theorem d90 {m : Machine} (hf : ∀ n ∈ b3e m, n.size <= maxLen) (l : List Int) : ∃ r, b93 m l = some r /\ c1i m l = some r /\ r.1.length <= 200 /\
  ((OkM m /\ l.length <= 200 /\ (∀ x ∈ l, OkX m x) /\ r = (tab l.length fun k => b3o m l (k + 1), 0)) \/ (r.1 = [] /\ r.2 ≠ 0)) := by
 obtain ⟨e, h1, h2⟩ := d09 hf
 obtain ⟨e', h3, h4⟩ := d1a hf
 unfold b93 c1i
 rw [h1, h3, bS9, bS9]
 rcases h2 with ⟨rfl, hm⟩ | ⟨rfl, hm⟩ <;> rcases h4 with ⟨rfl, hm'⟩ | ⟨rfl, hm'⟩
 ·have h00 : ¬ (decide (¬ (0 : Int) = 0) = true) := by simp
  rw [if_neg h00, if_neg h00]
  by_cases hl : (200 : Int) < (l.length : Int)
  ·refine ⟨([], 2), by rw [if_pos (by simpa using hl)], by rw [if_pos (by simpa using hl)], by simp, .inr ⟨rfl, by decide⟩⟩
  have hl' : l.length <= 200 := by omega
  rw [if_neg (by simpa using hl), if_neg (by simpa using hl)]
  have p1 : ((∀ (k : Nat) x, l[k]? = some x -> OkX m x) /\ b0w (b51 m l) (0, 0, 0, [], 0) = some (.inl (tab l.length fun k => b3o m l (k + 1)))) \/ ((∃ (k : Nat) (x : Int), l[k]? = some x /\ ¬ OkX m x) /\ b0w (b51 m l) (0, 0, 0, [], 0) = some (.inr ([], 1))) := by
   have := d6e (f := b51 m l) l (fun (s : Place × List Place) k => (s.1.State, s.1.Values.1, s.1.Values.2, s.2, k)) (fun k => (b3o m l k, tab k fun i => b3o m l (i + 1))) (fun _ x => ¬ OkX m x) (.inr ([], 1)) (.inl (tab l.length fun k => b3o m l (k + 1))) (fun k x _ hx hb => by
     have hk := b1m hx
     obtain ⟨b, a1, a2⟩ := c7b hm x
     have : b = false := c3b fun h => hb (a2.1 h)
     subst this
     unfold b51
     simp only [Int.ofNat_lt, hk, decide_true, if_true, b1e hx, bS9, show b2a m = ⟨⟨m⟩⟩ from rfl, a1, Bool.not_false]) (fun k x _ hx hb => by
     have hk := b1m hx
     obtain ⟨b, a1, a2⟩ := c7b hm x
     have : b = true := a2.2 (Classical.not_not.1 hb)
     subst this
     unfold b51
     simp only [Int.ofNat_lt, hk, decide_true, if_true, b1e hx, bS9, show b2a m = ⟨⟨m⟩⟩ from rfl, a1, Bool.not_true, fT9, if_false, c98]
     rw [d1e hm (d00 hm l k), bS9, d1h (by rw [d02]; omega) (by simp) (by omega), bS9, b21 hk (b1q (by omega)), d75, show b3o m l (k + 1) = nxt m (b3o m l k) x from by conv => lhs; unfold b3o; rw [d28 hx]]) (by
     unfold b51
     simp only [Int.lt_irrefl, decide_false, fT9, if_false]) (s0 := (zero, [])) rfl
   rcases this with ⟨a, b⟩ | ⟨a, b⟩
   ·exact .inl ⟨fun k x hx => Classical.not_not.1 (a k x hx), b⟩
   ·exact .inr ⟨a, b⟩
  have p2 := b32 (f := c1j m l) (l := l) (p := fun _ x => ¬ OkX m x) (e := .inr ([], 1)) (u := .inl ()) (b1q (by omega)) (fun k x hx => by
   have hk := b1m hx
   obtain ⟨b, a1, a2⟩ := d23 hm x
   refine ⟨!b, ?_, by rw [<- a2]; simp⟩
   unfold c1j
   simp only [Int.ofNat_lt, hk, decide_true, if_true, b1e hx, bS9, d1g hm.z, a1]) (by unfold c1j; simp only [Int.lt_irrefl, decide_false, fT9, if_false])
  have p3 := b6i (f := c1k m l) l.length (fun (s : Place × List Place) k => (s.2, s.1.State, s.1.Values.1, s.1.Values.2, k)) (fun k => (b3o m l k, tab k fun i => b3o m l (i + 1))) (tab l.length fun k => b3o m l (k + 1)) (s0 := (zero, [])) rfl (fun k hk => by
   obtain ⟨x, hx⟩ := b3z hk
   unfold c1k
   simp only [Int.ofNat_lt, hk, decide_true, if_true, b1e hx, bS9, c98]
   rw [d1b hm (d00 hm l k), bS9, d1h (by rw [d02]; omega) (by simp) (by omega), bS9, b21 hk (b1q (by omega)), d75, show b3o m l (k + 1) = nxt m (b3o m l k) x from by conv => lhs; unfold b3o; rw [d28 hx]]) (by
   unfold c1k
   simp only [Int.lt_irrefl, decide_false, fT9, if_false])
  simp only [show zero.State = 0 from rfl, show zero.Values.1 = 0 from rfl, show zero.Values.2 = 0 from rfl] at p3
  rcases p1 with ⟨a1, a2⟩ | ⟨⟨k, x, a1, a1'⟩, a2⟩ <;> rcases p2 with ⟨a3, a4⟩ | ⟨⟨k', x', a3, a3'⟩, a4⟩
  ·rw [a2, a4, bS9, bS9]
   refine ⟨(tab l.length fun k => b3o m l (k + 1), 0), rfl, ?_, by simp only [d02]; exact hl', .inl ⟨hm, hl', fun x hx => ?_, rfl⟩⟩
   ·simp only
    unfold c45 c44
    rw [p3]; rfl
   ·obtain ⟨k, hk⟩ := b1f.1 hx
    exact a1 k x hk
  ·exact absurd (a1 k' x' a3) a3'
  ·exact absurd a1' (a3 k x a1)
  ·rw [a2, a4]
   exact ⟨([], 1), rfl, rfl, by simp, .inr ⟨rfl, by decide⟩⟩
 ·exact absurd hm hm'
 ·exact absurd hm' hm
 ·exact ⟨([], 41), rfl, rfl, by simp, .inr ⟨rfl, by decide⟩⟩
section
variable [Bd]
theorem j8c (hB : Bd.B <= 1048576) (m : Machine) (p : Place) (inputs : List Int) (hm : b79 m) (hp : c2r p) (hi : OkL b2u inputs) : c0u m p inputs = some true := by
 have hf := tdm hB hm
 have key : ∀ x, b81 m p inputs m x = some true := fun x => by
  obtain ⟨r, h1, h2, _⟩ := d91 hf.n p x
  obtain ⟨r', h3, h4, h5, _⟩ := d90 hf.n inputs
  unfold b81
  rw [h1, h2, bS9, bS9, if_neg (by simp), h3, h4, bS9, bS9, j7w (b1q (by omega)), bS9]
  simp [c9o]
 unfold c0u
 rw [d9q hf, bS9]
 by_cases h : (0 : Int) < (inputs.length : Int)
 ·obtain ⟨x, hx⟩ := b3z (l := inputs) (k := 0) (by omega)
  rw [if_pos (by simpa using h)]
  have := b1e hx
  simp only [Int.natCast_zero] at this
  rw [this, bS9]; exact key x
 ·rw [if_neg (by simpa using h)]; exact key 0
end
end
end Go.Nw.KM
