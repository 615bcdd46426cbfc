/- Plain laws on the models. -/
import Derived.Test.YtfahaljhgfjooaaDoorP5
import Derived.Test.YtfahaljhgfjooaaDoorNwFirst
set_option linter.all false
namespace Go.Nw.KM
noncomputable section
theorem o8t {m : Machine} {p : Place} : OkP m p ↔ In p.State m.States.length /\ b5q 2 (fun k => !(b2q (if (k : Int) = 0 then p.Values.1 else p.Values.2) 0 (b56 m k))) = none := by
 rw [d72]
 constructor
 ·intro h
  refine ⟨h.s, fun t ht => ?_⟩
  have : t = 0 \/ t = 1 := by omega
  rcases this with rfl | rfl
  ·have := b6t.2 h.a; simp [this]
  ·have := b6t.2 h.b; simp [this]
 ·rintro ⟨h1, h2⟩
  have h3 := h2 0 (by omega)
  have h4 := h2 1 (by omega)
  simp only [Bool.not_eq_false', Int.natCast_zero, if_true, b6t] at h3
  simp only [Bool.not_eq_false', show ¬ ((1 : Nat) : Int) = 0 by decide, if_false, b6t] at h4
  exact ⟨h1, h3, h4⟩
theorem o8q {m : Machine} (hm : OkM m) {p : Place} : ∃ b, b2q p.State 0 (wr ((List.length m.States : Int) - 1)) = b /\ (b = true ↔ In p.State m.States.length) := by
 have := hm.z.s
 rw [c1n (b1o (by omega))]
 refine ⟨_, rfl, ?_⟩
 rw [b6t]
 unfold In
 omega
theorem o8s {m : Machine} {k : Nat} : (k < m.Counters.length /\ ∃ c, get m.Counters k = some c /\ c.Max = b56 m k) \/ (¬ k < m.Counters.length /\ b56 m k = 0) := by
 by_cases h : k < m.Counters.length
 ·obtain ⟨c, hc⟩ := b3b h
  exact .inl ⟨h, c, b1h hc, by unfold b56; rw [hc]⟩
 ·exact .inr ⟨h, by unfold b56; rw [List.getElem?_eq_none (by omega)]⟩
theorem o8o {m : Machine} (hm : OkM m) (p : Place) : ∃ b, o7s ⟨m⟩ p = some b /\ (b = true ↔ OkP m p) := by
 unfold o7s o73
 have step : ∀ k : Nat, k < 2 -> o7t ⟨m⟩ p k = (if (!(b2q (if (k : Int) = 0 then p.Values.1 else p.Values.2) 0 (b56 m k))) = true then some (.br (.inr false)) else some (.nx ((k : Int) + 1))) := fun k hk => by
  have h2 : (k : Int) < 2 := by omega
  unfold o7t o7u
  simp only [h2, decide_true, if_true, c2x (show In (k : Int) 2 from ⟨by omega, by omega⟩), bS9, Int.ofNat_lt]
  rcases o8s (m := m) (k := k) with ⟨h3, c, h4, h5⟩ | ⟨h3, h4⟩
  ·simp only [h3, decide_true, if_true, h4, bS9, h5, b2r hk (show 2 <= maxLen by decide)]
  ·simp only [h3, decide_false, fT9, if_false, h4, b2r hk (show 2 <= maxLen by decide)]
 rw [c7s (f := o7t ⟨m⟩ p) (n := 2) (p := fun k => !(b2q (if (k : Int) = 0 then p.Values.1 else p.Values.2) 0 (b56 m k))) (e := fun _ => .inr false) (u := .inl ()) (fun t ht hp => by rw [step t ht, if_pos hp]) (fun t ht hp => by rw [step t ht, if_neg (by rw [hp]; simp)]) (by rfl), o8t]
 obtain ⟨b, h1, h2⟩ := o8q hm (p := p)
 cases b5q 2 (fun k => !(b2q (if (k : Int) = 0 then p.Values.1 else p.Values.2) 0 (b56 m k))) with
 | none => exact ⟨b, by simp only [bS9, h1], by rw [h2]; simp⟩
 | some t => exact ⟨false, rfl, by simp⟩
theorem o83 {m : Machine} (hm : OkM m) (p : Place) : ∃ b, o7y m p = some b /\ (b = true ↔ OkP m p) := by
 unfold o7y o77
 have step : ∀ k : Nat, k < 2 -> o7z m p k = (if (!(b2q (if (k : Int) = 0 then p.Values.1 else p.Values.2) 0 (b56 m k))) = true then some (.br (.inr false)) else some (.nx ((k : Int) + 1))) := fun k hk => by
  have h2 : (k : Int) < 2 := by omega
  have e : ∀ x y : Int, b2b x 0 y = b2q x 0 y := fun x y => by rw [Bool.eq_iff_iff, b6g, b6t]
  unfold o7z o70
  simp only [h2, decide_true, if_true, c2x (show In (k : Int) 2 from ⟨by omega, by omega⟩), bS9, Int.ofNat_lt, e]
  rcases o8s (m := m) (k := k) with ⟨h3, c, h4, h5⟩ | ⟨h3, h4⟩
  ·simp only [h3, decide_true, if_true, h4, bS9, h5, b2r hk (show 2 <= maxLen by decide)]
  ·simp only [h3, decide_false, fT9, if_false, h4, b2r hk (show 2 <= maxLen by decide)]
 rw [c7s (f := o7z m p) (n := 2) (p := fun k => !(b2q (if (k : Int) = 0 then p.Values.1 else p.Values.2) 0 (b56 m k))) (e := fun _ => .inr false) (u := .inl ()) (fun t ht hp => by rw [step t ht, if_pos hp]) (fun t ht hp => by rw [step t ht, if_neg (by rw [hp]; simp)]) (by rfl), o8t]
 obtain ⟨b, h1, h2⟩ := o8q hm (p := p)
 have e : b2b p.State 0 (wr ((List.length m.States : Int) - 1)) = b := by rw [<- h1, Bool.eq_iff_iff, b6g, b6t]
 rw [e]
 cases b with
 | false => exact ⟨false, rfl, by rw [<- h2]; simp⟩
 | true =>
  rw [if_neg (by simp), <- h2]
  cases b5q 2 (fun k => !(b2q (if (k : Int) = 0 then p.Values.1 else p.Values.2) 0 (b56 m k))) with
  | none => exact ⟨true, rfl, by simp⟩
  | some t => exact ⟨false, rfl, by simp⟩
theorem o82 {m : Machine} (hs : SizesOk m) : c1y ⟨m⟩ = some ((2 ^ m.Inputs.length : Nat) : Int) := by
 unfold c1y
 have := hs.i
 simp only
 rw [c83 (by omega)]; simp
theorem p3i {m : Machine} (hm : OkM m) (x : Int) : ∃ b, p2c ⟨m⟩ x = some b /\ (b = true ↔ OkX m x) := by
 unfold p2c
 have := p2a hm.z
 rw [o82 hm.z, bS9, c1n (b1o (by omega))]
 refine ⟨_, rfl, ?_⟩
 rw [b6t]
 unfold OkX In
 omega
theorem p3v {m : Machine} (hm : OkM m) (x : Int) : ∃ b, b2b x 0 (wr (((2 ^ m.Inputs.length : Nat) : Int) - 1)) = b /\ (b = true ↔ OkX m x) := by
 have := p2a hm.z
 rw [c1n (b1o (by omega))]
 refine ⟨_, rfl, ?_⟩
 rw [b6g]
 unfold OkX In
 omega
theorem p3k {m : Machine} (hf : ∀ n ∈ b3g m, n.size <= maxLen) (p : Place) (x : Int) : ∃ r, p2f m p x = some r /\ p3f m p x = some r /\
  ((OkM m /\ OkP m p /\ OkX m x /\ r = (nxt m p x, 0)) \/ (OkM m /\ ¬ (OkP m p /\ OkX m x) /\ r = (zero, 1)) \/ (¬ OkM m /\ r = (zero, 41))) := by
 obtain ⟨e, h1, h2⟩ := g5k hf
 obtain ⟨e', h3, h4⟩ := d5t hf
 unfold p2f p3f
 rw [h1, h3, bS9, bS9]
 rcases h2 with ⟨rfl, hm⟩ | ⟨rfl, hm⟩ <;> rcases h4 with ⟨rfl, hm'⟩ | ⟨rfl, hm'⟩
 ·obtain ⟨b, a1, a2⟩ := o8o hm p
  obtain ⟨b', a3, a4⟩ := o83 hm p
  obtain ⟨d, a5, a6⟩ := p3i hm x
  obtain ⟨d', a7, a8⟩ := p3v hm x
  have eb : b' = b := by rw [Bool.eq_iff_iff, a2, a4]
  have ed : d' = d := by rw [Bool.eq_iff_iff, a6, a8]
  subst eb; subst ed
  rw [if_neg (by simp), if_neg (by simp), show b3h m = ⟨⟨m⟩⟩ from rfl]
  simp only
  rw [a1, a3, a5, b9j hm.z, bS9, bS9, bS9, bS9, a7]
  cases b' with
  | false => exact ⟨(zero, 1), rfl, rfl, .inr (.inl ⟨hm, fun h => by simpa using a2.2 h.1, rfl⟩)⟩
  | true =>
   cases d' with
   | false => exact ⟨(zero, 1), rfl, rfl, .inr (.inl ⟨hm, fun h => by simpa using a6.2 h.2, rfl⟩)⟩
   | true =>
    have ho := a2.1 rfl
    refine ⟨(nxt m p x, 0), ?_, ?_, .inl ⟨hm, ho, a6.1 rfl, rfl⟩⟩
    ·simp only [Bool.not_true, fT9, if_false, bS9]
     rw [g5u hm ho]; rfl
    ·simp only [Bool.not_true, fT9, if_false, bS9]
     rw [d5u hm ho]; rfl
 ·exact absurd hm hm'
 ·exact absurd hm' hm
 ·exact ⟨(zero, 41), rfl, rfl, .inr (.inr ⟨hm, rfl⟩)⟩
theorem o8p {α : Type} {l : List α} {k : Nat} {x z : α} (h : l[k]? = some x) : l.getD k z = x := by
 rw [List.getD_eq_getElem?_getD, h]; rfl
section
variable [Bd]
end
end
end Go.Nw.KM
namespace Go.Nw.KM
noncomputable section
section
variable {m : Machine} {c : List (List Literal)} {hd : Nat -> Int}
theorem d73 {s : S3} (hg : Good m s) (ht : Tr m c hd s) (hl : s.1.length <= 768) {w : control_walk} {g : r04_graph} (hw : w.from_ = s.2.1 /\ w.by_ = s.2.2) (hwp : w.places = s.1) (hgr : g.back = s.2.1 /\ g.input = s.2.2) (hgp : g.places = s.1)
  {wanted : Int -> Option Bool} {p : Nat -> Bool} (hwant : ∀ k : Nat, k < s.1.length -> wanted k = some (p k)) :
  ∃ r, b9e w wanted = some r /\ r.1.length <= 768 /\
   (∀ (f : Int -> Option (Out Int (Unit ⊕ ((List Int) × Bool)))), (∀ k : Nat, k < s.1.length -> f k = (if p k = true then (b4c g k).bind fun y => some (.br (.inr (y, true))) else some (.nx ((k : Int) + 1)))) -> f (s.1.length : Int) = some (.br (.inl ())) ->
    (b0w f 0).bind (fun | (.inl ()) => some ([], false) | (.inr r') => some r') = some r) /\
   ((r = ([], false) /\ ∀ k, k < s.1.length -> p k = false) \/ ∃ (k : Nat) (q : Place) (P : List Nat), r = (b27 P, true) /\ s.1[k]? = some q /\ p k = true /\ (∀ j, j < k -> p j = false) /\ o8f m c hd zero P q /\ P.length <= k /\ b4c g k = some (b27 P)) := by
 have hrun := g2z hg ht hl w g hw hgr
 have run2 : ∀ k : Nat, k < s.1.length -> ∃ P : List Nat, b71 w k = some (b27 P) /\ b4c g k = some (b27 P) /\ P.length <= k /\ ∃ q, s.1[k]? = some q /\ o8f m c hd zero P q := hrun
 obtain ⟨R, hR⟩ : ∃ R : Nat -> List Nat, ∀ k : Nat, k < s.1.length -> b71 w k = some (b27 (R k)) /\ b4c g k = some (b27 (R k)) /\ (R k).length <= k /\ ∃ q, s.1[k]? = some q /\ o8f m c hd zero (R k) q :=
  ⟨fun k => if h : k < s.1.length then (run2 k h).choose else [], fun k h => by dsimp only; rw [dif_pos h]; exact (run2 k h).choose_spec⟩
 have e1 := c7s (f := b9f w wanted) (n := s.1.length) (p := p) (e := fun k => .inr (b27 (R k), true)) (u := .inl ()) (fun t h hp => by
   unfold b9f
   simp only [hwp, Int.ofNat_lt, h, decide_true, if_true, hwant t h, bS9, hp, (hR t h).1]) (fun t h hp => by
   unfold b9f
   simp only [hwp, Int.ofNat_lt, h, decide_true, if_true, hwant t h, bS9, hp, fT9, if_false, b2r h (b1o (by omega))]) (by
   unfold b9f
   simp only [hwp, Int.lt_irrefl, decide_false, fT9, if_false])
 have e2 : ∀ (f : Int -> Option (Out Int (Unit ⊕ ((List Int) × Bool)))), (∀ k : Nat, k < s.1.length -> f k = (if p k = true then (b4c g k).bind fun y => some (.br (.inr (y, true))) else some (.nx ((k : Int) + 1)))) -> f (s.1.length : Int) = some (.br (.inl ())) ->
   b0w f 0 = some (match b5q s.1.length p with | some t => .inr (b27 (R t), true) | none => .inl ()) := fun f hf hfin => c7s (p := p) (fun t h hp => by
   rw [hf t h, if_pos hp, (hR t h).2.1]; rfl) (fun t h hp => by rw [hf t h, if_neg (by rw [hp]; simp)]) hfin
 unfold b9e c56
 rw [e1, bS9]
 cases hf : b5q s.1.length p with
 | none =>
  refine ⟨([], false), rfl, by simp, fun f h1 h2 => by rw [e2 f h1 h2, hf]; rfl, .inl ⟨rfl, d72.1 hf⟩⟩
 | some k =>
  obtain ⟨h1, h2, h3⟩ := j00 hf
  obtain ⟨_, r2, r3, q, r4, r5⟩ := hR k h1
  exact ⟨(b27 (R k), true), rfl, by rw [g0o]; omega, fun f h1 h2 => by rw [e2 f h1 h2, hf]; rfl, .inr ⟨k, q, R k, rfl, r4, h2, h3, r5, r3, r2⟩⟩
end
end
end Go.Nw.KM
namespace Go.Nw.KM
noncomputable section
abbrev idn : Nat -> Int := fun x => (x : Int)
section
variable (m : Machine) (c : List (List Literal)) (P : List Place)
def hit (cur : List Bool) (i : Nat) : Bool := (List.range (2 ^ m.Inputs.length)).any fun j => b22 m (P.getD i zero) j c && cur.getD (P.idxOf (nxt m (P.getD i zero) (idn j))) false
def stp (s : List Bool × Bool) (i : Nat) : List Bool × Bool := if s.1.getD i false = false /\ hit m c P s.1 i = true then (s.1.set i true, true) else s
def b13 (s : List Bool × Bool) : Nat -> List Bool × Bool
 | 0 => s
 | k + 1 => stp m c P (b13 s k) k
end
section
variable {m : Machine} {c : List (List Literal)} {P : List Place}
theorem l5v (s : List Bool × Bool) (i : Nat) : (stp m c P s i).1.length = s.1.length := by unfold stp; split <;> simp
theorem c0p (s : List Bool × Bool) : ∀ k, (b13 m c P s k).1.length = s.1.length
 | 0 => rfl
 | k + 1 => by unfold b13; rw [l5v, c0p s k]
theorem b7a {l : List Bool} {i : Nat} (h : i < l.length) : get l (i : Int) = some (l.getD i false) := by
 obtain ⟨x, hx⟩ := b3b h
 rw [b1h hx, List.getD_eq_getElem?_getD, hx]; rfl
def cnt (l : List Bool) : Nat := l.count false
theorem g9b {l : List Bool} {i : Nat} (h : l.getD i false = false) (hi : i < l.length) : cnt (l.set i true) < cnt l := by
 unfold cnt
 rw [List.count_set hi]
 obtain ⟨x, hx⟩ := b3b hi
 rw [List.getD_eq_getElem?_getD, hx] at h
 simp only [Option.getD_some] at h
 subst h
 have e : l[i] = false := by have := gG9 hi; rw [this] at hx; exact Option.some.inj hx
 have : 0 < l.count false := List.count_pos_iff.2 (b1d.2 ⟨i, hx⟩)
 simp only [e]
 simp
 omega
theorem g3i {s : List Bool × Bool} {i : Nat} (hi : i < s.1.length) : cnt (stp m c P s i).1 + (if (stp m c P s i).2 = true /\ s.2 = false then 1 else 0) <= cnt s.1 /\ ((stp m c P s i).2 = false -> stp m c P s i = s) /\ (s.2 = true -> (stp m c P s i).2 = true) := by
 unfold stp
 split
 ·rename_i h
  have := g9b h.1 hi
  refine ⟨?_, fun h => by simp at h, fun _ => rfl⟩
  simp only; split <;> omega
 ·refine ⟨?_, fun _ => rfl, fun h => h⟩
  split
  ·rename_i h; rw [h.1] at h; exact absurd h.2 (by simp)
  ·omega
theorem c73 {cur : List Bool} : ∀ k, k <= cur.length -> (cnt (b13 m c P (cur, false) k).1 + (if (b13 m c P (cur, false) k).2 = true then 1 else 0) <= cnt cur) /\ ((b13 m c P (cur, false) k).2 = false -> b13 m c P (cur, false) k = (cur, false))
 | 0, _ => by simp [b13]
 | k + 1, hk => by
  obtain ⟨h1, h2⟩ := c73 (cur := cur) k (by omega)
  have hl := c0p (m := m) (c := c) (P := P) (cur, false) k
  simp only at hl
  obtain ⟨h3, h4, h5⟩ := g3i (m := m) (c := c) (P := P) (s := b13 m c P (cur, false) k) (i := k) (by omega)
  unfold b13
  refine ⟨?_, fun h => ?_⟩
  ·cases hb : (b13 m c P (cur, false) k).2 with
   | true => rw [hb] at h1; simp only [if_true] at h1; split <;> omega
   | false =>
    rw [hb] at h1 h3
    simp only [fT9, if_false, and_true, Nat.add_zero] at h1 h3
    omega
  ·have e := h4 h
   rw [e] at h ⊢
   exact h2 h
end
def d17 (m : Machine) (c rest : List (List Literal)) (p : Place) : Prop := ∃ l q, o8f m c idn p l q /\ b46 m q 0 rest = true
structure Calm (m : Machine) (c rest : List (List Literal)) (P : List Place) (cur : List Bool) : Prop where
 n : cur.length = P.length
 s : ∀ i, i < P.length -> cur.getD i false = true -> d17 m c rest (P.getD i zero)
 r : ∀ i, i < P.length -> b46 m (P.getD i zero) 0 rest = true -> cur.getD i false = true
section
variable {m : Machine} {c rest : List (List Literal)} {P : List Place}
theorem j1v {q : Place} (h : q ∈ P) : P.getD (P.idxOf q) zero = q := by
 rw [List.getD_eq_getElem?_getD, d2b h]; rfl
theorem l5u (hcl : ∀ (i j : Nat), i < P.length -> j < 2 ^ m.Inputs.length -> b22 m (P.getD i zero) j c = true -> nxt m (P.getD i zero) (idn j) ∈ P) {s : List Bool × Bool} (h : Calm m c rest P s.1) {i : Nat} (hi : i < P.length) : Calm m c rest P (stp m c P s i).1 := by
 unfold stp
 split
 case isFalse => exact h
 rename_i hh
 refine ⟨by simp [h.n], fun k hk hc => ?_, fun k hk hr => ?_⟩
 ·by_cases e : k = i
  ·subst e
   obtain ⟨j, hj, hj2⟩ := List.any_eq_true.1 hh.2
   have hj := List.mem_range.1 hj
   simp only [Bool.and_eq_true] at hj2
   have hm := hcl k j hi hj hj2.1
   obtain ⟨l, q, g1, g2⟩ := h.s _ (List.idxOf_lt_length_iff.2 hm) hj2.2
   rw [j1v hm] at g1
   exact ⟨j :: l, q, ⟨hj, hj2.1, g1⟩, g2⟩
  ·refine h.s k hk ?_
   simp only [List.getD_eq_getElem?_getD] at hc ⊢
   rw [List.getElem?_set, if_neg (fun x => e x.symm)] at hc
   exact hc
 ·have h1 := h.r k hk hr
  simp only [List.getD_eq_getElem?_getD] at h1 ⊢
  rw [List.getElem?_set]
  split
  ·rename_i e; subst e; rw [if_pos (by rw [h.n]; exact hi)]; rfl
  ·exact h1
theorem g2k (hcl : ∀ (i j : Nat), i < P.length -> j < 2 ^ m.Inputs.length -> b22 m (P.getD i zero) j c = true -> nxt m (P.getD i zero) (idn j) ∈ P) {s : List Bool × Bool} (h : Calm m c rest P s.1) : ∀ k, k <= P.length -> Calm m c rest P (b13 m c P s k).1
 | 0, _ => h
 | k + 1, hk => by unfold b13; exact l5u hcl (g2k hcl h k (by omega)) (by omega)
theorem g2l {cur : List Bool} (hn : cur.length = P.length) (h : (b13 m c P (cur, false) P.length).2 = false) : ∀ i, i < P.length -> cur.getD i false = false -> hit m c P cur i = false := by
 have key : ∀ k, k <= P.length -> (b13 m c P (cur, false) k).2 = false -> ∀ i, i < k -> cur.getD i false = false -> hit m c P cur i = false := by
  intro k
  induction k with
  | zero => intro _ _ i hi; omega
  | succ k ih =>
   intro hk hf i hi hc
   have hl := c0p (m := m) (c := c) (P := P) (cur, false) k
   obtain ⟨_, h4, h5⟩ := g3i (m := m) (c := c) (P := P) (s := b13 m c P (cur, false) k) (i := k) (by simp only at hl; omega)
   unfold b13 at hf
   have hfk : (b13 m c P (cur, false) k).2 = false := by
    cases hb : (b13 m c P (cur, false) k).2 with
    | false => rfl
    | true => rw [h5 hb] at hf; cases hf
   by_cases e : i = k
   ·subst e
    rw [(c73 (m := m) (c := c) (P := P) (cur := cur) i (by omega)).2 hfk] at hf
    unfold stp at hf
    cases hh : hit m c P cur i with
    | false => rfl
    | true => rw [if_pos ⟨hc, hh⟩] at hf; cases hf
   ·exact ih (by omega) hfk i (by omega) hc
 exact key P.length (Nat.le_refl _) h
end
section
variable {m : Machine} {c rest : List (List Literal)} {K : Nat}
theorem d1q (hK : End m c idn K) : (b0h m c idn K).1.length = K := by
 obtain ⟨h0, h1, h2⟩ := hK
 have hz : 0 < (b0h m c idn K).1.length := Nat.lt_of_lt_of_le (by simp [b0h]) (d4g (m := m) (c := c) (hd := idn) (Nat.zero_le K)).length_le
 have h3 := h1 (K - 1) (by omega)
 have h4 := (d4g (m := m) (c := c) (hd := idn) (show K - 1 <= K by omega)).length_le
 omega
theorem c6w (hK : End m c idn K) (i j : Nat) (hi : i < (b0h m c idn K).1.length) (hj : j < 2 ^ m.Inputs.length) (ha : b22 m ((b0h m c idn K).1.getD i zero) j c = true) : nxt m ((b0h m c idn K).1.getD i zero) (idn j) ∈ (b0h m c idn K).1 := by
 obtain ⟨p, hp⟩ := b3b hi
 have e : (b0h m c idn K).1.getD i zero = p := by rw [List.getD_eq_getElem?_getD, hp]; rfl
 rw [e] at ha ⊢
 exact closed hp (by rw [d1q hK] at hi; exact hi) ha hj
theorem l4t (hm : OkM m) (hK : End m c idn K) {cur : List Bool} (hn : cur.length = (b0h m c idn K).1.length) {i : Nat} (hi : i < (b0h m c idn K).1.length) :
  c47 (tab (2 ^ m.Inputs.length) (rv m c idn (b0h m c idn K).1 ((b0h m c idn K).1.getD i zero))) (fun z36 => b60 z36 cur) = some (hit m c (b0h m c idn K).1 cur i) := by
 have hpow := p2a hm.z
 obtain ⟨b, h1, h2⟩ := c20 (g := c47 (tab (2 ^ m.Inputs.length) (rv m c idn (b0h m c idn K).1 ((b0h m c idn K).1.getD i zero))) (fun z36 => b60 z36 cur)) (s := tab (2 ^ m.Inputs.length) (rv m c idn (b0h m c idn K).1 ((b0h m c idn K).1.getD i zero))) (f := fun z36 => b60 z36 cur) (p := fun z => 0 <= z /\ cur.getD z.toNat false = true) rfl (b1o (by rw [b3y]; omega)) (fun x hx => by
  obtain ⟨j, hj, rfl⟩ := g3k hx
  unfold b60 rv
  split
  ·rename_i ha
   have hlt := List.idxOf_lt_length_iff.2 (c6w hK i j hi hj ha)
   rw [<- hn] at hlt
   rw [if_pos (by simp), b7a hlt]
   exact ⟨_, rfl, by simp⟩
  ·exact ⟨false, rfl, by simp⟩)
 rw [h1]
 congr 1
 rw [Bool.eq_iff_iff, h2]
 unfold hit
 rw [List.any_eq_true]
 constructor
 ·rintro ⟨x, hx, h3, h4⟩
  obtain ⟨j, hj, rfl⟩ := g3k hx
  refine ⟨j, List.mem_range.2 hj, ?_⟩
  unfold rv at h3 h4
  by_cases ha : b22 m ((b0h m c idn K).1.getD i zero) j c = true
  ·rw [if_pos ha] at h4
   rw [ha, Bool.true_and]; simpa using h4
  ·rw [if_neg ha] at h3; omega
 ·rintro ⟨j, hj, h3⟩
  simp only [Bool.and_eq_true] at h3
  have hj := List.mem_range.1 hj
  refine ⟨_, List.mem_map.2 ⟨j, List.mem_range.2 hj, rfl⟩, ?_⟩
  unfold rv
  rw [if_pos h3.1]
  exact ⟨by omega, by simpa using h3.2⟩
theorem d4m (hm : OkM m) (hK : End m c idn K) {cur : List Bool} (hn : cur.length = (b0h m c idn K).1.length) :
  b0w (b9u (b4a m c idn K)) (cur, false, 0) = some ((b13 m c (b0h m c idn K).1 (cur, false) (b0h m c idn K).1.length).1, (b13 m c (b0h m c idn K).1 (cur, false) (b0h m c idn K).1.length).2) := by
 have hl := d1q hK
 refine b4h (f := b9u (b4a m c idn K)) (b0h m c idn K).1.length (fun (s : List Bool × Bool) k => (s.1, s.2, k)) (fun k => b13 m c (b0h m c idn K).1 (cur, false) k) _ (s0 := (cur, false)) rfl (fun k hk => ?_) ?_
 ·have hpl := c0p (m := m) (c := c) (P := (b0h m c idn K).1) (cur, false) k
  simp only at hpl
  have hrow : get (b4a m c idn K).next k = some (tab (2 ^ m.Inputs.length) (rv m c idn (b0h m c idn K).1 ((b0h m c idn K).1.getD k zero))) := c2y (by omega)
  have hlen : (b4a m c idn K).next.length = (b0h m c idn K).1.length := by show (tab K _).length = _; rw [b3y, hl]
  conv => rhs; unfold b13
  unfold b9u c2h
  simp only [hlen, Int.ofNat_lt, hk, decide_true, if_true, hrow, bS9, b7a (show k < (b13 m c (b0h m c idn K).1 (cur, false) k).1.length by omega), b2r hk (b1o (by have := hK.1; omega))]
  unfold stp
  cases hg : (b13 m c (b0h m c idn K).1 (cur, false) k).1.getD k false with
  | true => simp
  | false =>
   simp only [Bool.not_false, if_true]
   rw [l4t hm hK (by rw [hpl, hn]) hk]
   cases hh : hit m c (b0h m c idn K).1 (b13 m c (b0h m c idn K).1 (cur, false) k).1 k with
   | true => simp
   | false => simp
 ·have hlen : (b4a m c idn K).next.length = (b0h m c idn K).1.length := by show (tab K _).length = _; rw [b3y, hl]
  unfold b9u
  simp only [hlen, Int.lt_irrefl, decide_false, fT9, if_false]
theorem l4c (hm : OkM m) {ins : Bool} (hc : b2s m ins c) (hK : End m c idn K) {cur : List Bool} (hn : cur.length = (b0h m c idn K).1.length) {more : Bool} {i : Nat} (hi : i < (b0h m c idn K).1.length) :
  b0w (b6b m c ⟨(b0h m c idn K).1, (b0h m c idn K).2.1, (b0h m c idn K).2.2⟩ i) (cur, more, 0) = some (stp m c (b0h m c idn K).1 (cur, more) i) := by
 have hg := b40 (c := c) (hd := idn) hm K
 have hlN := c0q hm hg.n hg.o
 have hpow := p2a hm.z
 obtain ⟨p, hp⟩ := b3b hi
 have ho := hg.o p (b1d.2 ⟨i, hp⟩)
 have e : (b0h m c idn K).1.getD i zero = p := by rw [List.getD_eq_getElem?_getD, hp]; rfl
 have hi' : i < cur.length := by omega
 unfold stp
 cases hc0 : cur.getD i false with
 | true =>
  rw [if_neg (by simp)]
  refine b3d ?_
  unfold b6b
  simp only [b9j hm.z, bS9, b7a hi', hc0]
  by_cases hx : (0 : Int) < ((2 ^ m.Inputs.length : Nat) : Int) <;> simp [hx]
 | false =>
  have step : ∀ j : Nat, j < 2 ^ m.Inputs.length -> b6b m c ⟨(b0h m c idn K).1, (b0h m c idn K).2.1, (b0h m c idn K).2.2⟩ i (cur, more, (j : Int)) =
    (if (b22 m p j c && cur.getD ((b0h m c idn K).1.idxOf (nxt m p (idn j))) false) = true then some (.nx (cur.set i true, true, (j : Int) + 1)) else some (.nx (cur, more, (j : Int) + 1))) := fun j hj => by
   unfold b6b c4h
   simp only [b9j hm.z, bS9, Int.ofNat_lt, hj, decide_true, if_true, b7a hi', hc0, Bool.not_false, b1h hp, d5o hm.z ho.s hc, b2r hj (b1o (by omega)), Int.toNat_natCast]
   cases ha : b22 m p j c with
   | false => simp
   | true =>
    have hmem := c6w hK i j hi hj (by rw [e]; exact ha)
    rw [e] at hmem
    have hlt := List.idxOf_lt_length_iff.2 hmem
    simp only [if_true]
    rw [d5u hm ho, bS9, g0i (by omega), if_pos hmem, bS9, b7a (by rw [hn]; exact hlt), bS9, Bool.true_and, bS9]
  have key : ∀ d k : Nat, 2 ^ m.Inputs.length - k = d -> k <= 2 ^ m.Inputs.length -> (∀ j, j < k -> (b22 m p j c && cur.getD ((b0h m c idn K).1.idxOf (nxt m p (idn j))) false) = false) ->
    b0w (b6b m c ⟨(b0h m c idn K).1, (b0h m c idn K).2.1, (b0h m c idn K).2.2⟩ i) (cur, more, (k : Int)) = some (if hit m c (b0h m c idn K).1 cur i = true then (cur.set i true, true) else (cur, more)) := by
   intro d
   induction d with
   | zero =>
    intro k h1 h2 h3
    have : k = 2 ^ m.Inputs.length := by omega
    subst this
    rw [if_neg]
    ·refine b3d ?_
     unfold b6b
     simp only [b9j hm.z, bS9, Int.lt_irrefl, decide_false, fT9, if_false]
    ·intro hh
     obtain ⟨j, hj, hj2⟩ := List.any_eq_true.1 hh
     rw [e, h3 j (List.mem_range.1 hj)] at hj2; cases hj2
   | succ d ih =>
    intro k h1 h2 h3
    have hk : k < 2 ^ m.Inputs.length := by omega
    cases hh : (b22 m p k c && cur.getD ((b0h m c idn K).1.idxOf (nxt m p (idn k))) false) with
    | true =>
     rw [b32 (by rw [step k hk, if_pos hh]), if_pos (show hit m c (b0h m c idn K).1 cur i = true from List.any_eq_true.2 ⟨k, List.mem_range.2 hk, by rw [e]; exact hh⟩)]
     refine b3d ?_
     have hg2 : get (cur.set i true) (i : Int) = some true := by
      refine b1h ?_
      rw [List.getElem?_set, if_pos rfl, if_pos hi']
     unfold b6b
     simp only [b9j hm.z, bS9, hg2]
     by_cases hx : (k : Int) + 1 < ((2 ^ m.Inputs.length : Nat) : Int) <;> simp [hx]
    | false =>
     have := b32 (f := b6b m c ⟨(b0h m c idn K).1, (b0h m c idn K).2.1, (b0h m c idn K).2.2⟩ i) (s := (cur, more, (k : Int))) (s' := (cur, more, ((k + 1 : Nat) : Int))) (by rw [step k hk, if_neg (by rw [hh]; simp)]; rfl)
     rw [this]
     exact ih (k + 1) (by omega) (by omega) fun j hj => by
      by_cases ej : j = k
      ·subst ej; exact hh
      ·exact h3 j (by omega)
  have := key _ 0 rfl (Nat.zero_le _) (fun j hj => by omega)
  simp only [Int.natCast_zero] at this
  rw [this]
  simp only [true_and]
theorem d4v (hm : OkM m) {ins : Bool} (hc : b2s m ins c) (hK : End m c idn K) {cur : List Bool} (hn : cur.length = (b0h m c idn K).1.length) :
  b0w (c0y m c ⟨(b0h m c idn K).1, (b0h m c idn K).2.1, (b0h m c idn K).2.2⟩) (cur, false, 0) = some ((b13 m c (b0h m c idn K).1 (cur, false) (b0h m c idn K).1.length).1, (b13 m c (b0h m c idn K).1 (cur, false) (b0h m c idn K).1.length).2) := by
 refine b4h (f := c0y m c ⟨(b0h m c idn K).1, (b0h m c idn K).2.1, (b0h m c idn K).2.2⟩) (b0h m c idn K).1.length (fun (s : List Bool × Bool) k => (s.1, s.2, k)) (fun k => b13 m c (b0h m c idn K).1 (cur, false) k) _ (s0 := (cur, false)) rfl (fun k hk => ?_) ?_
 ·have hpl := c0p (m := m) (c := c) (P := (b0h m c idn K).1) (cur, false) k
  simp only at hpl
  have hkl : k < (b13 m c (b0h m c idn K).1 (cur, false) k).1.length := by omega
  have hr := l4c hm hc hK (cur := (b13 m c (b0h m c idn K).1 (cur, false) k).1) (more := (b13 m c (b0h m c idn K).1 (cur, false) k).2) (by rw [hpl, hn]) hk
  conv => rhs; unfold b13
  unfold c0y c8n
  simp only [Int.ofNat_lt, hkl, decide_true, if_true, hr, bS9, b2r hk (b1o (by have := hK.1; have := d1q hK; omega))]
 ·have hpl := c0p (m := m) (c := c) (P := (b0h m c idn K).1) (cur, false) (b0h m c idn K).1.length
  simp only at hpl
  have hkl : ¬ (b0h m c idn K).1.length < (b13 m c (b0h m c idn K).1 (cur, false) (b0h m c idn K).1.length).1.length := by omega
  unfold c0y
  simp only [Int.ofNat_lt, hkl, decide_false, fT9, if_false]
theorem g8w (hm : OkM m) {ins : Bool} (hc : b2s m ins c) (hK : End m c idn K) : ∀ (d : Nat) (cur : List Bool), cnt cur <= d -> Calm m c rest (b0h m c idn K).1 cur ->
  ∃ cur', b0w (b9v (b4a m c idn K)) (cur, true) = some cur' /\ b0w (c0z m c ⟨(b0h m c idn K).1, (b0h m c idn K).2.1, (b0h m c idn K).2.2⟩) (cur, true) = some cur' /\ Calm m c rest (b0h m c idn K).1 cur' /\
   ∀ i, i < (b0h m c idn K).1.length -> cur'.getD i false = false -> hit m c (b0h m c idn K).1 cur' i = false := by
 intro d
 induction d with
 | zero =>
  intro cur hd hcur
  have hp := c73 (m := m) (c := c) (P := (b0h m c idn K).1) (cur := cur) (b0h m c idn K).1.length (by rw [hcur.n]; omega)
  have hf : (b13 m c (b0h m c idn K).1 (cur, false) (b0h m c idn K).1.length).2 = false := by
   cases hb : (b13 m c (b0h m c idn K).1 (cur, false) (b0h m c idn K).1.length).2 with
   | false => rfl
   | true => rw [hb] at hp; have := hp.1; simp only [if_true] at this; omega
  have he := hp.2 hf
  refine ⟨cur, ?_, ?_, hcur, g2l hcur.n hf⟩
  ·rw [b32 (s' := (cur, false)) (by unfold b9v b9w; simp only [if_true]; rw [d4m hm hK hcur.n, he]; rfl)]
   exact b3d rfl
  ·rw [b32 (s' := (cur, false)) (by unfold c0z c01; simp only [if_true]; rw [d4v hm hc hK hcur.n, he]; rfl)]
   exact b3d rfl
 | succ d ih =>
  intro cur hd hcur
  have hp := c73 (m := m) (c := c) (P := (b0h m c idn K).1) (cur := cur) (b0h m c idn K).1.length (by rw [hcur.n]; omega)
  cases hb : (b13 m c (b0h m c idn K).1 (cur, false) (b0h m c idn K).1.length).2 with
  | false =>
   have he := hp.2 hb
   refine ⟨cur, ?_, ?_, hcur, g2l hcur.n hb⟩
   ·rw [b32 (s' := (cur, false)) (by unfold b9v b9w; simp only [if_true]; rw [d4m hm hK hcur.n, he]; rfl)]
    exact b3d rfl
   ·rw [b32 (s' := (cur, false)) (by unfold c0z c01; simp only [if_true]; rw [d4v hm hc hK hcur.n, he]; rfl)]
    exact b3d rfl
  | true =>
   have hcnt := hp.1
   rw [hb] at hcnt
   simp only [if_true] at hcnt
   obtain ⟨cur', h1, h2, h3⟩ := ih (b13 m c (b0h m c idn K).1 (cur, false) (b0h m c idn K).1.length).1 (by omega) (g2k (c6w hK) hcur _ (Nat.le_refl _))
   refine ⟨cur', ?_, ?_, h3⟩
   ·rw [b32 (s' := ((b13 m c (b0h m c idn K).1 (cur, false) (b0h m c idn K).1.length).1, true)) (by unfold b9v b9w; simp only [if_true]; rw [d4m hm hK hcur.n, hb]; rfl)]
    exact h1
   ·rw [b32 (s' := ((b13 m c (b0h m c idn K).1 (cur, false) (b0h m c idn K).1.length).1, true)) (by unfold c0z c01; simp only [if_true]; rw [d4v hm hc hK hcur.n, hb]; rfl)]
    exact h2
end
end
end Go.Nw.KM
namespace Go.Nw.KM
noncomputable section
def hs (i v : Nat) (x : Nat) : Int := (b6a x i v).getD 0
theorem d6y {m : Machine} {c n : List (List Literal)} (h : b7w m [c, n] 0) : OkM m /\ b2s m true c /\ b2s m true n := by
 rcases h with ⟨_, a, b⟩ | ⟨e, _⟩ | ⟨e, _⟩
 ·exact ⟨a, b c (by simp), b n (by simp)⟩
 ·cases e
 ·cases e
section
variable [Bd]
end
end
end Go.Nw.KM
namespace Go.Nw.KM
noncomputable section
theorem d9s (x : Nat) : b6a x (-1) 0 = some (idn x) := g5p x
def g5v (m : Machine) (c rest : List (List Literal)) (r : List Int × Bool) : Prop :=
 ∃ K, End m c idn K /\ ((r = ([], false) /\ ∀ q ∈ (b0h m c idn K).1, d17 m c rest q) \/
  ∃ (k : Nat) (q : Place) (P : List Nat), r = (b27 P, true) /\ (b0h m c idn K).1[k]? = some q /\ ¬ d17 m c rest q /\ o8f m c idn zero P q /\ P.length <= k)
section
variable {m : Machine} {c rest : List (List Literal)} {K : Nat}
theorem g15 (hK : End m c idn K) {cur : List Bool} (hcm : Calm m c rest (b0h m c idn K).1 cur) (hst : ∀ i, i < (b0h m c idn K).1.length -> cur.getD i false = false -> hit m c (b0h m c idn K).1 cur i = false) :
  ∀ (l : List Nat) (i : Nat) (p q : Place), (b0h m c idn K).1[i]? = some p -> cur.getD i false = false -> o8f m c idn p l q -> b46 m q 0 rest = false
 | [], i, p, q, hp, hc0, hg => by
  cases hg
  have hi := b1k hp
  have e : (b0h m c idn K).1.getD i zero = p := by rw [List.getD_eq_getElem?_getD, hp]; rfl
  cases hh : b46 m p 0 rest with
  | false => rfl
  | true => have := hcm.r i hi (by rw [e]; exact hh); rw [hc0] at this; cases this
 | x :: l, i, p, q, hp, hc0, ⟨hx, ha, hg⟩ => by
  have hi := b1k hp
  have e : (b0h m c idn K).1.getD i zero = p := by rw [List.getD_eq_getElem?_getD, hp]; rfl
  have hmem := c6w hK i x hi hx (by rw [e]; exact ha)
  rw [e] at hmem
  refine g15 hK hcm hst l _ _ q (d2b hmem) ?_ hg
  have hh := hst i hi hc0
  cases hb : cur.getD ((b0h m c idn K).1.idxOf (nxt m p (idn x))) false with
  | false => rfl
  | true =>
   have : hit m c (b0h m c idn K).1 cur i = true := List.any_eq_true.2 ⟨x, List.mem_range.2 hx, by rw [e, ha, hb]; rfl⟩
   rw [hh] at this; cases this
end
theorem g5w {m : Machine} (hf : ∀ n ∈ b3g m, n.size <= maxLen) (c rest : List (List Literal)) : ∃ r, c2g m c rest = some r /\ c4g m c rest = some r /\ r.1.length <= 768 /\ b7w m [c, rest] r.2.2 /\ (r.2.2 = 0 -> g5v m c rest (r.1, r.2.1)) := by
 obtain ⟨e, h1, h2⟩ := d6t hf (l := [c, rest]) (by simp)
 obtain ⟨e', h3, h4⟩ := d5s hf (l := [c, rest]) (by simp)
 obtain rfl := d6z h2 h4
 unfold c2g c4g
 rw [h1, h3, bS9, bS9]
 by_cases he : e = 0
 case neg =>
  refine ⟨([], false, e), ?_, ?_, by simp, h2, fun h => absurd h he⟩ <;> rw [if_pos (by simpa using he)]
 subst he
 obtain ⟨hm, hc, hn⟩ := d6y h2
 obtain ⟨K, hK⟩ := g2u (c := c) (hd := idn) hm
 have hg := b40 (c := c) (hd := idn) hm K
 have ht := d4h (c := c) (hd := idn) hm K
 have hl := c0q hm hg.n hg.o
 have hp : ∀ k : Nat, k < (b0h m c idn K).1.length -> ∃ q, (b0h m c idn K).1[k]? = some q /\ OkP m q := fun k hk => by
  obtain ⟨q, hq⟩ := b3b hk
  exact ⟨q, hq, hg.o q (b1d.2 ⟨k, hq⟩)⟩
 rw [if_neg (by simp), if_neg (by simp), show b3h m = ⟨⟨m⟩⟩ from rfl, d7u (hd := idn) hm hc (heard := fun z7 => some (b6f z7)) (fun x _ => rfl) hK, d7v hm hc (inp := -1) (val := 0) (fun x _ => d9s x) hK, bS9, bS9]
 have hmk : mks 1 ((b0h m c idn K).1.length : Int) false = some (tab (b0h m c idn K).1.length fun _ => false) := g1q (by omega) (by omega)
 rw [show (b4a m c idn K).places = (b0h m c idn K).1 from rfl, hmk, bS9, bS9]
 have first1 : b0w (b9t m rest (b4a m c idn K)) (tab (b0h m c idn K).1.length (fun _ => false), 0) = some (tab (b0h m c idn K).1.length fun k => b46 m ((b0h m c idn K).1.getD k zero) 0 rest) := by
  refine b4h (f := b9t m rest (b4a m c idn K)) (b0h m c idn K).1.length (fun (s : List Bool) k => (s, k)) (fun k => fill (b0h m c idn K).1.length (fun k => b46 m ((b0h m c idn K).1.getD k zero) 0 rest) false k) _ (by rw [<- p6y]; exact d1w) (fun k hk => ?_) ?_
  ·obtain ⟨q, hq, ho⟩ := hp k hk
   unfold b9t
   simp only [show (b4a m c idn K).places = (b0h m c idn K).1 from rfl, show b3h m = ⟨⟨m⟩⟩ from rfl, Int.ofNat_lt, hk, decide_true, if_true, b1h hq, bS9, c74, c5w hm.z ho.s hn, d15 hk, Int.toNat_natCast, b2r hk (b1o (by omega))]
   rw [c2r (by simp only [List.getD_eq_getElem?_getD, hq, Option.getD_some])]
  ·unfold b9t
   simp only [show (b4a m c idn K).places = (b0h m c idn K).1 from rfl, Int.lt_irrefl, decide_false, fT9, if_false, d1u (Nat.le_refl _)]
 have first2 : b0w (c0x m rest ⟨(b0h m c idn K).1, (b0h m c idn K).2.1, (b0h m c idn K).2.2⟩) (tab (b0h m c idn K).1.length (fun _ => false), 0) = some (tab (b0h m c idn K).1.length fun k => b46 m ((b0h m c idn K).1.getD k zero) 0 rest) := by
  refine b4h (f := c0x m rest ⟨(b0h m c idn K).1, (b0h m c idn K).2.1, (b0h m c idn K).2.2⟩) (b0h m c idn K).1.length (fun (s : List Bool) k => (s, k)) (fun k => fill (b0h m c idn K).1.length (fun k => b46 m ((b0h m c idn K).1.getD k zero) 0 rest) false k) _ (by rw [<- p6y]; exact d1w) (fun k hk => ?_) ?_
  ·obtain ⟨q, hq, ho⟩ := hp k hk
   unfold c0x
   simp only [d7z, Int.ofNat_lt, hk, decide_true, if_true, b1h hq, bS9, c5x hm.z ho.s hn, d15 hk, Int.toNat_natCast, b2r hk (b1o (by omega))]
   rw [c2r (by simp only [List.getD_eq_getElem?_getD, hq, Option.getD_some])]
  ·unfold c0x
   simp only [d1u (Nat.le_refl _), b3y, Int.lt_irrefl, decide_false, fT9, if_false]
 have hc0 : Calm m c rest (b0h m c idn K).1 (tab (b0h m c idn K).1.length fun k => b46 m ((b0h m c idn K).1.getD k zero) 0 rest) := by
  refine ⟨b3y, fun i hi hh => ?_, fun i hi hh => ?_⟩
  ·rw [List.getD_eq_getElem?_getD, c1l hi, Option.getD_some] at hh
   exact ⟨[], _, rfl, hh⟩
  ·rw [List.getD_eq_getElem?_getD, c1l hi, Option.getD_some]; exact hh
 obtain ⟨cur, b1, b2, b3, b4⟩ := g8w hm hc hK _ _ (Nat.le_refl _) hc0
 rw [first1, first2, bS9, bS9]
 unfold c6r c8k
 rw [b1, b2, bS9, bS9]
 obtain ⟨r, d1, d2, d3, d4⟩ := d73 (w := b4a m c idn K) (g := ⟨(b0h m c idn K).1, (b0h m c idn K).2.1, (b0h m c idn K).2.2⟩) hg ht hl ⟨rfl, rfl⟩ rfl ⟨rfl, rfl⟩ rfl
  (wanted := fun z17 => b9s z17 cur) (p := fun k => !(cur.getD k false)) (fun k hk => by
   unfold b9s
   rw [b7a (by rw [b3.n]; exact hk)]; rfl)
 refine ⟨(r.1, r.2, 0), ?_, ?_, d2, h2, fun _ => ⟨K, hK, ?_⟩⟩
 ·unfold c6s
  rw [d1]; rfl
 ·unfold c8l c8m
  obtain ⟨R, hR⟩ : ∃ R : Nat -> List Int, ∀ k : Nat, k < (b0h m c idn K).1.length -> b4c ⟨(b0h m c idn K).1, (b0h m c idn K).2.1, (b0h m c idn K).2.2⟩ k = some (R k) := by
   refine ⟨fun k => (b4c ⟨(b0h m c idn K).1, (b0h m c idn K).2.1, (b0h m c idn K).2.2⟩ k).getD [], fun k hk => ?_⟩
   obtain ⟨P, _, h, _⟩ := g2z hg ht hl (b4a m c idn K) ⟨(b0h m c idn K).1, (b0h m c idn K).2.1, (b0h m c idn K).2.2⟩ ⟨rfl, rfl⟩ ⟨rfl, rfl⟩ k hk
   dsimp only
   rw [h]; rfl
  have e3 := c7s (f := c00 ⟨(b0h m c idn K).1, (b0h m c idn K).2.1, (b0h m c idn K).2.2⟩ cur) (n := (b0h m c idn K).1.length) (p := fun k => !(cur.getD k false)) (e := fun k => .inr (R k, true, 0)) (u := .inl ()) (fun k hk hpk => by
    unfold c00
    simp only [b3.n, Int.ofNat_lt, hk, decide_true, if_true, b7a (show k < cur.length by rw [b3.n]; exact hk), bS9]
    rw [if_pos hpk, hR k hk]; rfl) (fun k hk hpk => by
    unfold c00
    simp only [b3.n, Int.ofNat_lt, hk, decide_true, if_true, b7a (show k < cur.length by rw [b3.n]; exact hk), bS9]
    rw [if_neg (by rw [hpk]; simp), b2r hk (b1o (by omega))]) (by
    unfold c00
    simp only [b3.n, Int.lt_irrefl, decide_false, fT9, if_false])
  have e4 := d3 (fun i => if i < ((b0h m c idn K).1.length : Int) then (if cur.getD i.toNat false = false then (b4c ⟨(b0h m c idn K).1, (b0h m c idn K).2.1, (b0h m c idn K).2.2⟩ i).bind fun y => some (.br (.inr (y, true))) else some (.nx (i + 1))) else some (.br (.inl ()))) (fun k hk => by
    simp only [Int.ofNat_lt, hk, if_true, Int.toNat_natCast]
    by_cases hb : cur.getD k false = true
    ·rw [if_neg (by rw [hb]; simp), if_neg (by rw [hb]; simp)]
    ·have hb := c19 hb
     rw [if_pos hb, if_pos (by rw [hb]; rfl)]) (by simp)
  have e5 := c7s (f := fun i => if i < ((b0h m c idn K).1.length : Int) then (if cur.getD i.toNat false = false then (b4c ⟨(b0h m c idn K).1, (b0h m c idn K).2.1, (b0h m c idn K).2.2⟩ i).bind fun y => some (Out.br (Sum.inr (α := Unit) (y, true))) else some (.nx (i + 1))) else some (.br (.inl ()))) (n := (b0h m c idn K).1.length) (p := fun k => !(cur.getD k false)) (e := fun k => .inr (R k, true)) (u := .inl ()) (fun k hk hpk => by
    simp only [Int.ofNat_lt, hk, if_true, Int.toNat_natCast]
    rw [if_pos (by simpa using hpk), hR k hk]; rfl) (fun k hk hpk => by
    simp only [Int.ofNat_lt, hk, if_true, Int.toNat_natCast]
    rw [if_neg (by simpa using hpk)]) (by simp)
  rw [e5] at e4
  rw [e3]
  revert e4
  cases b5q (b0h m c idn K).1.length (fun k => !(cur.getD k false)) with
  | none => intro e4; simp only [bS9, iE9] at e4; rw [<- e4]; rfl
  | some t => intro e4; simp only [bS9, iE9] at e4; rw [<- e4]; rfl
 ·rcases d4 with ⟨rfl, d5⟩ | ⟨k, q, P, rfl, d5, d6, d7, d8, d9, _⟩
  ·refine .inl ⟨rfl, fun q hq => ?_⟩
   obtain ⟨k, hk⟩ := b1d.1 hq
   have := d5 k (b1k hk)
   have hh := b3.s k (b1k hk) (by simpa using this)
   rwa [show (b0h m c idn K).1.getD k zero = q by rw [List.getD_eq_getElem?_getD, hk]; rfl] at hh
  ·refine .inr ⟨k, q, P, rfl, d5, ?_, d8, d9⟩
   rintro ⟨l, q', g1, g2⟩
   have := g15 hK b3 b4 l k q q' d5 (by simpa using d6) g1
   rw [g2] at this; cases this
section
variable [Bd]
end
end
end Go.Nw.KM
namespace Go.Nw.KM
noncomputable section
section
variable [Bd]
end
end
end Go.Nw.KM
namespace Go.Nw.KM
noncomputable section
def plc (m : Machine) (hd : Nat -> Int) (p : Place) (l : List Int) : Nat -> Place
 | 0 => p
 | k + 1 => nxt m (plc m hd p l k) (hd (l.getD k 0).toNat)
section
variable {m : Machine} {c never : List (List Literal)} {hd : Nat -> Int}
theorem p2n (hm : OkM m) {p : Place} (hp : OkP m p) (l : List Int) : ∀ k, OkP m (plc m hd p l k)
 | 0 => hp
 | k + 1 => l18 hm (p2n hm hp l k) _
theorem p22 {p : Place} {x : Int} {l : List Int} : ∀ k, plc m hd p (x :: l) (k + 1) = plc m hd (nxt m p (hd x.toNat)) l k
 | 0 => by simp [plc]
 | k + 1 => by
  have e : plc m hd p (x :: l) (k + 1 + 1) = nxt m (plc m hd p (x :: l) (k + 1)) (hd ((x :: l).getD (k + 1) 0).toNat) := rfl
  rw [e, p22 k]
  conv => rhs; unfold plc
  simp
def p2u (m : Machine) (c : List (List Literal)) (hd : Nat -> Int) (l : List Int) : Prop := ∀ (k : Nat) x, l[k]? = some x -> OkX m x /\ b22 m (plc m hd zero l k) x c = true
theorem p3b : ∀ {P : List Nat} {p q : Place}, o8f m c hd p P q -> (∀ (k : Nat) x, (b27 P)[k]? = some x -> OkX m x /\ b22 m (plc m hd p (b27 P) k) x c = true) /\ plc m hd p (b27 P) P.length = q
 | [], p, q, h => by cases h; exact ⟨fun k x hx => by simp [b27] at hx, rfl⟩
 | y :: P, p, q, ⟨h1, h2, h3⟩ => by
  obtain ⟨h4, h5⟩ := p3b h3
  have e : b27 (y :: P) = (y : Int) :: b27 P := rfl
  refine ⟨fun k x hx => ?_, ?_⟩
  ·cases k with
   | zero =>
    rw [e] at hx
    simp only [List.getElem?_cons_zero, iE9] at hx
    subst hx
    exact ⟨⟨by omega, by have : ((2 ^ m.Inputs.length : Nat) : Int) = 2 ^ m.Inputs.length := by simp
                         omega⟩, h2⟩
   | succ k =>
    rw [e] at hx ⊢
    rw [p22]
    exact h4 k x (by simpa using hx)
  ·rw [e, List.length_cons, p22]; exact h5
theorem p3e (l : List Int) (hf : p2u m c hd l) : ∀ k, k <= l.length -> ∃ P : List Nat, P.length = k /\ o8f m c hd zero P (plc m hd zero l k)
 | 0, _ => ⟨[], rfl, rfl⟩
 | k + 1, hk => by
  obtain ⟨P, h1, h2⟩ := p3e l hf k (by omega)
  obtain ⟨x, hx⟩ := b3b (l := l) (k := k) (by omega)
  obtain ⟨h3, h4⟩ := hf k x hx
  obtain ⟨h5, h6⟩ := h3
  refine ⟨P ++ [x.toNat], by simp [h1], ?_⟩
  have e : plc m hd zero l (k + 1) = nxt m (plc m hd zero l k) (hd x.toNat) := by conv => lhs; unfold plc; rw [o8p hx]
  rw [e]
  refine d8d h2 ?_ (by rw [Int.toNat_of_nonneg h5]; exact h4)
  have : ((2 ^ m.Inputs.length : Nat) : Int) = 2 ^ m.Inputs.length := by simp
  omega
theorem p3d (hf : ∀ n ∈ b3g m, n.size <= maxLen) (hm : OkM m) {ins : Bool} (hc : b2s m ins c) {inp val : Int} (hh : ∀ x : Nat, x < 2 ^ m.Inputs.length -> b6a x inp val = some (hd x) /\ OkX m (hd x)) {l : List Int} (hl : l.length <= 900) :
  (p2u m c hd l /\ p16 m l c inp val = some (tab (l.length + 1) (plc m hd zero l), true)) \/ (¬ p2u m c hd l /\ p16 m l c inp val = some ([], false)) := by
 have hi := hm.z.i
 have hpow : ((2 ^ m.Inputs.length : Nat) : Int) = 2 ^ m.Inputs.length := by simp
 have hw : IntKind.wrap .u64 ((m.Inputs.length : Nat) : Int) = (m.Inputs.length : Nat) := c9p (by omega) (by omega)
 have pre : ∀ (k : Nat) x, l[k]? = some x -> ∃ b, (if decide (x < 0) = true then some true else (shl .i64 1 (IntKind.wrap .u64 (List.length m.Inputs : Int))).bind fun q15 => some (decide (q15 <= x))) = some b /\ (b = true ↔ ¬ OkX m x) := fun k x hx => by
  unfold OkX In
  by_cases h : x < 0
  ·exact ⟨true, by simp [h], by simp; omega⟩
  ·rw [if_neg (by simpa using h), hw, c83 (by omega)]
   refine ⟨_, rfl, ?_⟩
   simp only [decide_eq_true_eq]
   omega
 have := g1j (f := p19 m l c inp val) l (fun (s : List Place) k => (s, k)) (fun k => tab (k + 1) (plc m hd zero l)) (fun k x => ¬ (OkX m x /\ b22 m (plc m hd zero l k) x c = true)) (.inr ([], false)) (.inl (tab (l.length + 1) (plc m hd zero l))) (fun k x _ hx hb => by
   have hk := b1k hx
   obtain ⟨b, b1, b2⟩ := pre k x hx
   unfold p19
   simp only [Int.ofNat_lt, hk, decide_true, if_true, c2y (show k < k + 1 by omega), b1h hx, bS9, c74]
   rw [b1, bS9]
   cases b with
   | true => rfl
   | false =>
    have hx' : OkX m x := Classical.byContradiction fun h => by simpa using b2.2 h
    have ha : b22 m (plc m hd zero l k) x c = false := c19 fun h => hb ⟨hx', h⟩
    rw [if_neg (by simp), d5o hm.z (p2n hm (o5b hm) l k).s hc, bS9, ha]
    rfl) (fun k x _ hx hb => by
   have hk := b1k hx
   have hb := Classical.not_not.1 hb
   obtain ⟨b, b1, b2⟩ := pre k x hx
   have hbf : b = false := c19 fun h => b2.1 h hb.1
   subst hbf
   obtain ⟨h0, h1⟩ := hb.1
   have hx' : x.toNat < 2 ^ m.Inputs.length := by omega
   have ex : ((x.toNat : Nat) : Int) = x := Int.toNat_of_nonneg h0
   obtain ⟨hd1, hd2⟩ := hh x.toNat hx'
   rw [ex] at hd1
   have hok := p2n (hd := hd) hm (o5b hm) l k
   unfold p19
   simp only [Int.ofNat_lt, hk, decide_true, if_true, c2y (show k < k + 1 by omega), b1h hx, bS9, c74]
   rw [b1, bS9, if_neg (by simp), d5o hm.z hok.s hc, bS9, hb.2, bS9, if_neg (by simp), hd1, bS9]
   obtain ⟨r, r1, _, r3⟩ := p3k hf (plc m hd zero l k) (hd x.toNat)
   have hr : r = (nxt m (plc m hd zero l k) (hd x.toNat), 0) := by
    rcases r3 with ⟨_, _, _, e⟩ | ⟨_, h, _⟩ | ⟨h, _⟩
    ·exact e
    ·exact absurd ⟨hok, hd2⟩ h
    ·exact absurd hm h
   subst hr
   obtain ⟨b', c1, c2⟩ := o83 hm (nxt m (plc m hd zero l k) (hd x.toNat))
   have hb' : b' = true := c2.2 (l18 hm hok _)
   subst hb'
   rw [r1, bS9]
   simp only [not_true_eq_false, decide_false, fT9, if_false, c74, c1, bS9, Bool.not_true]
   rw [b6d (by rw [b3y]; omega) (by simp) (by omega), bS9, b2r hk (b1o (by omega))]
   have e : plc m hd zero l (k + 1) = nxt m (plc m hd zero l k) (hd x.toNat) := by conv => lhs; unfold plc; rw [o8p hx]
   rw [<- e, <- l5w]) (by
   unfold p19
   simp only [Int.lt_irrefl, decide_false, fT9, if_false]) (s0 := [zero]) rfl
 unfold p16 p2l
 rw [show [Place.mk 0 (0, 0)] = [zero] from rfl]
 rcases this with ⟨h1, h2⟩ | ⟨⟨k, x, h1, h2⟩, h3⟩
 ·rw [h2]
  exact .inl ⟨fun k x hx => Classical.not_not.1 (h1 k x hx), rfl⟩
 ·rw [h3]
  exact .inr ⟨fun h => h2 (h k x h1), rfl⟩
theorem p28 {K K' : Nat} (h : End m c hd K) (h' : End m c hd K') : K = K' := by
 have key : ∀ {K K' : Nat}, End m c hd K -> End m c hd K' -> ¬ K < K' := fun {K K'} h h' hlt => by
  have := h'.2.1 K hlt
  have := h.2.2
  omega
 have := key h h'; have := key h' h
 omega
theorem p2w {K : Nat} (hK : End m c hd K) : ∀ {P : List Nat} {p q : Place}, p ∈ (b0h m c hd K).1 -> o8f m c hd p P q -> q ∈ (b0h m c hd K).1
 | [], p, q, hp, h => by cases h; exact hp
 | x :: P, p, q, hp, ⟨h1, h2, h3⟩ => by
  obtain ⟨k, hk⟩ := b1d.1 hp
  exact p2w hK (closed hk (by have := b1k hk; have := hK.2.2; omega) h2 h1) h3
theorem p24 (k : Nat) : zero ∈ (b0h m c hd k).1 := (d4g (m := m) (c := c) (hd := hd) (Nat.zero_le k)).subset (by simp [b0h])
theorem p3a {l : List Place} (hl : ∀ q ∈ l, ∀ x : Nat, x < 2 ^ m.Inputs.length -> b22 m q x c = true -> nxt m q (hd x) ∈ l) : ∀ {P : List Nat} {p q : Place}, p ∈ l -> o8f m c hd p P q -> q ∈ l
 | [], p, q, hp, h => by cases h; exact hp
 | x :: P, p, q, hp, ⟨h1, h2, h3⟩ => p3a hl (hl p hp x h1 h2) h3
inductive Dp (s : S3) : Nat -> Nat -> Prop
 | z : Dp s 0 0
 | s {k b n : Nat} (hk : 1 <= k) (hb : s.2.1[k]? = some (b : Int)) (h : Dp s b n) : Dp s k (n + 1)
structure Bo (i : Int) (s : S3) : Prop where
 l : ∀ (j : Nat) b, s.2.1[j]? = some b -> b <= i
 m : ∀ (j j' : Nat) b b', j <= j' -> s.2.1[j]? = some b -> s.2.1[j']? = some b' -> b <= b'
theorem Bo.up {i i' : Int} {s : S3} (h : Bo i s) (hi : i <= i') : Bo i' s := ⟨fun j b hb => Int.le_trans (h.l j b hb) hi, h.m⟩
end
end
end Go.Nw.KM
namespace Go.Nw.KM
noncomputable section
theorem p3j {m : Machine} (hf : ∀ n ∈ b3g m, n.size <= maxLen) {c : List (List Literal)} (hm : OkM m) (hc : b2s m true c) : ∃ K, End m c idn K /\ p2e m c = some ((b0h m c idn K).1, 0) := by
 obtain ⟨e, h1, h2⟩ := d6t hf (l := [c]) (by simp)
 have he : e = 0 := d6z h2 (.inl ⟨rfl, hm, fun x hx => by simp at hx; subst hx; exact hc⟩)
 subst he
 obtain ⟨K, hK⟩ := g2u (c := c) (hd := idn) hm
 unfold p2e
 rw [h1, bS9, if_neg (by simp), show b3h m = ⟨⟨m⟩⟩ from rfl, d7u (hd := idn) hm hc (heard := fun z7 => some (b6f z7)) (fun x _ => rfl) hK]
 exact ⟨K, hK, rfl⟩
theorem p3c {m : Machine} (x : Nat) (hx : x < 2 ^ m.Inputs.length) : b6a x (-1) 0 = some (idn x) /\ OkX m (idn x) := ⟨d9s x, by
 have : ((2 ^ m.Inputs.length : Nat) : Int) = 2 ^ m.Inputs.length := by simp
 unfold OkX In; show 0 <= (x : Int) /\ (x : Int) < _; omega⟩
theorem p32 {m : Machine} {hd : Nat -> Int} {l : List Int} (hl : l.length <= 900) : get (tab (l.length + 1) (plc m hd zero l)) (wr ((List.length (tab (l.length + 1) (plc m hd zero l)) : Int) - 1)) = some (plc m hd zero l l.length) := by
 rw [c1n (by rw [b3y]; exact b1o (by omega)), b3y]
 have : ((l.length + 1 : Nat) : Int) - 1 = (l.length : Nat) := by omega
 rw [this]
 exact c2y (by omega)
section
variable [Bd]
end
end
end Go.Nw.KM
namespace Go.Nw.KM
noncomputable section
theorem p68 {l : List Place} (hl : l.length <= maxLen) (q : Place) : p6s l q = some (decide (q ∈ l)) := by
 unfold p6s p61
 rw [c7s (f := p6t l q) (n := l.length) (p := fun k => decide (l[k]? = some q)) (e := fun _ => .inr true) (u := .inl ()) (fun k hk hp => by
   obtain ⟨x, hx⟩ := b3b hk
   have e : x = q := by simpa [hx] using hp
   unfold p6t
   simp only [Int.ofNat_lt, hk, decide_true, if_true, b1h hx, bS9, e]) (fun k hk hp => by
   obtain ⟨x, hx⟩ := b3b hk
   have e : ¬ x = q := by simpa [hx] using hp
   unfold p6t
   simp only [Int.ofNat_lt, hk, decide_true, if_true, b1h hx, bS9, e, decide_false, fT9, if_false, b2r hk hl]) (by
   unfold p6t
   simp only [Int.lt_irrefl, decide_false, fT9, if_false]), bS9]
 cases hf : b5q l.length (fun k => decide (l[k]? = some q)) with
 | none =>
  have : q ∉ l := fun h => by
   obtain ⟨k, hk⟩ := b1d.1 h
   have := d72.1 hf k (b1k hk)
   simp [hk] at this
  rw [decide_eq_false this]
 | some k =>
  obtain ⟨h1, h2, _⟩ := j00 hf
  have : q ∈ l := b1d.2 ⟨k, by simpa using h2⟩
  rw [decide_eq_true this]
structure Seen (m : Machine) (c : List (List Literal)) (L : List Place) (p : Place) (s : List Place) : Prop where
 n : s.Nodup
 l : ∀ q ∈ s, q ∈ L
 g : ∀ q ∈ s, ∃ P, o8f m c idn p P q
 p : p ∈ s
section
variable {m : Machine} {c rest : List (List Literal)} {K : Nat}
theorem p7a (hf : ∀ n ∈ b3g m, n.size <= maxLen) (hm : OkM m) {ins ins' : Bool} (hc : b2s m ins c) (hr : b2s m ins' rest) (hK : End m c idn K) {p : Place} (hp : p ∈ (b0h m c idn K).1) :
  ∃ b, p6u m (b0h m c idn K).1 p c rest = some b /\ (b = true ↔ d17 m c rest p) := by
 have hgood := b40 (c := c) (hd := idn) hm K
 have hlenL := c0q hm hgood.n hgood.o
 have hi := hm.z.i
 have hpow := p2a hm.z
 have hw : IntKind.wrap .u64 ((m.Inputs.length : Nat) : Int) = (m.Inputs.length : Nat) := c9p (by omega) (by omega)
 have hq16 : shl .i64 1 (IntKind.wrap .u64 (List.length m.Inputs : Int)) = some (((2 ^ m.Inputs.length : Nat) : Int)) := by
  rw [hw, c83 (by omega)]; simp
 have few : ∀ {s : List Place}, Seen m c (b0h m c idn K).1 p s -> s.length <= 768 := fun h => c0q hm h.n fun q hq => hgood.o q (h.l q hq)
 have next : ∀ {s : List Place}, Seen m c (b0h m c idn K).1 p s -> ∀ q ∈ s, ∀ x : Nat, x < 2 ^ m.Inputs.length -> b22 m q x c = true -> nxt m q (idn x) ∈ (b0h m c idn K).1 /\ ∃ P, o8f m c idn p P (nxt m q (idn x)) := fun {s} h q hq x hx ha => by
  obtain ⟨P, hP⟩ := h.g q hq
  refine ⟨?_, _, d8d hP hx ha⟩
  obtain ⟨k, hk⟩ := b1d.1 (h.l q hq)
  exact closed hk (by have := b1k hk; have := hK.2.2; omega) ha hx
 -- what one situation leads to
 have inner : ∀ (i : Nat) (q : Place) (s0 : List Place), Seen m c (b0h m c idn K).1 p s0 -> s0[i]? = some q -> ∃ s, b0w (b51 m (b0h m c idn K).1 c i) (s0, 0) = some s /\ Seen m c (b0h m c idn K).1 p s /\ s0 <+: s /\ ∀ y : Nat, y < 2 ^ m.Inputs.length -> b22 m q y c = true -> nxt m q (idn y) ∈ s := fun i q s0 h0 hq => by
  refine p69 (f := b51 m (b0h m c idn K).1 c i) (fun (st : List Place × Int) => ∃ x : Nat, st.2 = (x : Int) /\ x <= 2 ^ m.Inputs.length /\ Seen m c (b0h m c idn K).1 p st.1 /\ s0 <+: st.1 /\ ∀ y : Nat, y < x -> b22 m q y c = true -> nxt m q (idn y) ∈ st.1)
   (fun st => 2 ^ m.Inputs.length - st.2.toNat) (fun s => Seen m c (b0h m c idn K).1 p s /\ s0 <+: s /\ ∀ y : Nat, y < 2 ^ m.Inputs.length -> b22 m q y c = true -> nxt m q (idn y) ∈ s) ?_ (s0, 0) ⟨0, rfl, Nat.zero_le _, h0, List.prefix_refl _, fun y hy => by omega⟩
  rintro ⟨s, xi⟩ ⟨x, rfl, hx, hs, hpre, hy⟩
  simp only at hs hpre hy
  by_cases hlt : x < 2 ^ m.Inputs.length
  case neg =>
   have hxe : x = 2 ^ m.Inputs.length := by omega
   refine .inr ⟨s, ?_, hs, hpre, fun y h => hy y (by omega)⟩
   unfold b51
   simp only [hq16, bS9, hxe, Int.lt_irrefl, decide_false, fT9, if_false]
  refine .inl ?_
  have hqs := c0r hpre hq
  have hqm : q ∈ s := b1d.2 ⟨i, hqs⟩
  have hoq := hgood.o q (hs.l q hqm)
  obtain ⟨r, r1, _, r3⟩ := p3k hf q (idn x)
  have hxx : OkX m (idn x) := (p3c x hlt).2
  have hre : r = (nxt m q (idn x), 0) := by
   rcases r3 with ⟨_, _, _, e⟩ | ⟨_, h, _⟩ | ⟨h, _⟩
   ·exact e
   ·exact absurd ⟨hoq, hxx⟩ h
   ·exact absurd hm h
  subst hre
  have hlen := few hs
  have step : ∀ s', s' = (if b22 m q x c = true /\ nxt m q (idn x) ∉ s then s ++ [nxt m q (idn x)] else s) -> b51 m (b0h m c idn K).1 c i (s, (x : Int)) = some (.nx (s', ((x + 1 : Nat) : Int))) := fun s' hs' => by
   unfold b51 p6w
   simp only [hq16, bS9, Int.ofNat_lt, hlt, decide_true, if_true, b1h hqs, bS9]
   rw [show p2f m q (x : Int) = some (nxt m q (idn x), 0) from r1, bS9]
   simp only [decide_true, if_true, d5o hm.z hoq.s hc, bS9, c74, b2r hlt (b1o (by omega))]
   cases ha : b22 m q x c with
   | false =>
    rw [if_neg (by simp [ha])] at hs'
    subst hs'
    simp
   | true =>
    simp only [if_true]
    rw [p68 (b1o (by omega)), bS9, bS9, decide_eq_true (next hs q hqm x hlt ha).1]
    simp only [if_true]
    rw [p68 (b1o (by omega)), bS9, bS9]
    by_cases hin : nxt m q (idn x) ∈ s
    ·rw [if_neg (by simp [hin])] at hs'
     subst hs'
     rw [decide_eq_true hin]
     simp
    ·rw [if_pos ⟨ha, hin⟩] at hs'
     subst hs'
     rw [decide_eq_false hin]
     simp only [Bool.not_false, if_true]
     rw [b6d (by omega) (by simp) (by omega), bS9]
     simp
  refine ⟨_, step _ rfl, ⟨x + 1, rfl, by omega, ?_, ?_, ?_⟩, ?_⟩
  ·simp only
   split
   ·rename_i h
    obtain ⟨h1, h2⟩ := next hs q hqm x hlt h.1
    refine ⟨?_, fun y hy => ?_, fun y hy => ?_, List.mem_append_left _ hs.p⟩
    ·rw [List.nodup_append]
     exact ⟨hs.n, by simp, fun a ha b hb e => by simp at hb; subst hb; exact h.2 (e ▸ ha)⟩
    ·rcases List.mem_append.1 hy with hy | hy
     ·exact hs.l y hy
     ·simp at hy; subst hy; exact h1
    ·rcases List.mem_append.1 hy with hy | hy
     ·exact hs.g y hy
     ·simp at hy; subst hy; exact h2
   ·exact hs
  ·simp only
   split
   ·exact hpre.trans (List.prefix_append _ _)
   ·exact hpre
  ·simp only
   intro y hyx ha
   by_cases e : y = x
   ·subst e
    split
    ·simp
    ·rename_i h; exact Classical.byContradiction fun hn => h ⟨ha, hn⟩
   ·have := hy y (by omega) ha
    split
    ·exact List.mem_append_left _ this
    ·exact this
  ·simp only [Int.toNat_natCast]
   omega
 have outer : ∃ b, b0w (c35 m (b0h m c idn K).1 c rest) ([p], 0) = some b /\ ((b = .inr true /\ d17 m c rest p) \/ (b = .inl () /\ ¬ d17 m c rest p)) := by
  refine p69 (f := c35 m (b0h m c idn K).1 c rest) (fun (st : List Place × Int) => ∃ i : Nat, st.2 = (i : Int) /\ i <= st.1.length /\ Seen m c (b0h m c idn K).1 p st.1 /\ ∀ (j : Nat) q, j < i -> st.1[j]? = some q -> b46 m q 0 rest = false /\ ∀ y : Nat, y < 2 ^ m.Inputs.length -> b22 m q y c = true -> nxt m q (idn y) ∈ st.1)
   (fun st => 769 - st.2.toNat) _ ?_ ([p], 0) ⟨0, rfl, Nat.zero_le _, ⟨by simp, fun q hq => by simp at hq; subst hq; exact hp, fun q hq => by simp at hq; subst hq; exact ⟨[], rfl⟩, by simp⟩, fun j q hj => by omega⟩
  rintro ⟨s, ii⟩ ⟨i, rfl, hi2, hs, hj⟩
  simp only at hi2 hs hj
  have hlen := few hs
  by_cases hlt : i < s.length
  case neg =>
   refine .inr ⟨.inl (), ?_, .inr ⟨rfl, ?_⟩⟩
   ·unfold c35
    have : ¬ ((i : Int) < ((s.length : Nat) : Int)) := by omega
    simp only [this, decide_false, fT9, if_false]
   ·rintro ⟨P, q, g1, g2⟩
    have hq := p3a (l := s) (fun q hq x hx ha => by
     obtain ⟨k, hk⟩ := b1d.1 hq
     exact (hj k q (by have := b1k hk; omega) hk).2 x hx ha) hs.p g1
    obtain ⟨k, hk⟩ := b1d.1 hq
    have := (hj k q (by have := b1k hk; omega) hk).1
    rw [g2] at this; cases this
  obtain ⟨q, hq⟩ := b3b hlt
  have hqm : q ∈ s := b1d.2 ⟨i, hq⟩
  have hoq := hgood.o q (hs.l q hqm)
  cases hh : b46 m q 0 rest with
  | true =>
   refine .inr ⟨.inr true, ?_, .inl ⟨rfl, ?_⟩⟩
   ·unfold c35
    simp only [Int.ofNat_lt, hlt, decide_true, if_true, b1h hq, bS9, c5x hm.z hoq.s hr, hh]
   ·obtain ⟨P, hP⟩ := hs.g q hqm
    exact ⟨P, q, hP, hh⟩
  | false =>
   obtain ⟨s', e1, e2, e3, e4⟩ := inner i q s hs hq
   have := e3.length_le
   have := few e2
   refine .inl ⟨(s', ((i + 1 : Nat) : Int)), ?_, ⟨i + 1, rfl, by simp only; omega, e2, fun j q' hj' hq' => ?_⟩, ?_⟩
   ·unfold c35 p63
    simp only [Int.ofNat_lt, hlt, decide_true, if_true, b1h hq, bS9, c5x hm.z hoq.s hr, hh, fT9, if_false]
    rw [e1, bS9, b2r hlt (b1o (by omega))]; rfl
   ·simp only at hq'
    by_cases e : j = i
    ·subst e
     have := c0r e3 hq
     rw [hq'] at this
     have := Option.some.inj this
     subst this
     exact ⟨hh, e4⟩
    ·obtain ⟨q'', hq''⟩ := b3b (l := s) (k := j) (by omega)
     have := c0r e3 hq''
     rw [hq'] at this
     have := Option.some.inj this
     subst this
     obtain ⟨f1, f2⟩ := hj j q' (by omega) hq''
     exact ⟨f1, fun y hy ha => e3.subset (f2 y hy ha)⟩
   ·simp only [Int.toNat_natCast]
    omega
 obtain ⟨b, b1, b2⟩ := outer
 unfold p6u p62
 rw [b1, bS9]
 rcases b2 with ⟨rfl, h⟩ | ⟨rfl, h⟩
 ·exact ⟨true, rfl, by simp [h]⟩
 ·exact ⟨false, rfl, by simp [h]⟩
end
section
variable [Bd]
theorem p7k (m : Machine) (c : l04_Conds) (run : List Int) (hm0 : b9d m) (hc0 : c54 c) (hx0 : OkL b5k run) : p6v m c run = some true := by
 have hf := l5y hm0
 obtain ⟨b, hb⟩ := l7h hf
 obtain ⟨e, he1, he2⟩ := d5s hf (l := [c.Assume, c.Never]) (by simp)
 unfold p6v
 rw [hb, bS9, he1, bS9]
 cases b with
 | true => rfl
 | false =>
 simp only [fT9, if_false, bS9]
 by_cases he : e = 0
 case neg => rw [if_pos (by simp [he])]; rfl
 subst he
 obtain ⟨hm, hc, hn⟩ := d6y he2
 by_cases h60 : (60 : Int) < (run.length : Int)
 ·rw [if_pos (by simp [h60])]; rfl
 rw [if_neg (by simp only [Bool.or_eq_true, decide_eq_true_eq, not_or]; exact ⟨by simp, h60⟩)]
 obtain ⟨r, r1, _, r3, r4, r5⟩ := g5w hf c.Assume c.Never
 have hr0 : r.2.2 = 0 := d6z r4 he2
 have hs := r5 hr0
 obtain ⟨K, hK, hr⟩ := p3j hf hm hc
 have hgood := b40 (c := c.Assume) (hd := idn) hm K
 have hlen := c0q hm hgood.n hgood.o
 rw [r1, bS9, hr, bS9, if_neg (by simp [hr0])]
 obtain ⟨K', hK', h⟩ := hs
 have := p28 hK hK'
 subst this
 rcases h with ⟨h1, h2⟩ | ⟨k, q, P, h1, h2, h3, h4, h5⟩
 ·have e2 : r.2.1 = false := congrArg Prod.snd h1
  rw [e2, if_neg (by simp)]
  rcases p3d hf hm hc (fun y hy => p3c y hy) (l := run) (by omega) with ⟨hfair, hp⟩ | ⟨_, hp⟩
  case inr => rw [hp, bS9]; rfl
  rw [hp, bS9]
  simp only [Bool.not_true, fT9, if_false]
  rw [p32 (by omega), bS9]
  obtain ⟨P, g1, g2⟩ := p3e run hfair run.length (Nat.le_refl _)
  have hin := p2w hK (p24 K) g2
  obtain ⟨b, b1, b2⟩ := p7a hf hm hc hn hK hin
  rw [b1, bS9, b2.2 (h2 _ hin)]
  rfl
 ·have e2 : r.2.1 = true := congrArg Prod.snd h1
  have er : r.1 = b27 P := congrArg Prod.fst h1
  have hlt := b1k h2
  obtain ⟨f1, f2⟩ := p3b h4
  rw [e2, if_pos rfl, er]
  rcases p3d hf hm hc (fun y hy => p3c y hy) (l := b27 P) (by rw [g0o]; omega) with ⟨hfair, hp⟩ | ⟨hno, _⟩
  case inr => exact absurd f1 hno
  rw [hp, bS9]
  simp only [if_true]
  rw [p32 (by rw [g0o]; omega), bS9, g0o, f2]
  obtain ⟨b, b1, b2⟩ := p7a hf hm hc hn hK (b1d.2 ⟨k, h2⟩)
  have hbf : b = false := c19 fun hb => h3 (b2.1 hb)
  rw [b1, bS9, bS9, hbf]
  rfl
end
end
end Go.Nw.KM
