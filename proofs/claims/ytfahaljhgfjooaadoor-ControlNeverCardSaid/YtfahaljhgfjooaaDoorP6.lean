/- Plain laws on the models. -/
import Derived.Test.YtfahaljhgfjooaaDoorP5
import Derived.Test.YtfahaljhgfjooaaDoorNwFirst
set_option linter.all false
namespace Go.Nw.KM
noncomputable section
theorem o8t {m : Machine} {p : Place} : OkP m p ↔ In p.State m.States.length /\ b5q 2 (fun k => !(b2q (if (k : Int) = 0 then p.Values.1 else p.Values.2) 0 (b56 m k))) = none := by
 rw [d72]
 constructor
 ·intro h
  refine ⟨h.s, fun t ht => ?_⟩
  have : t = 0 \/ t = 1 := by omega
  rcases this with rfl | rfl
  ·have := b6t.2 h.a; simp [this]
  ·have := b6t.2 h.b; simp [this]
 ·rintro ⟨h1, h2⟩
  have h3 := h2 0 (by omega)
  have h4 := h2 1 (by omega)
  simp only [Bool.not_eq_false', Int.natCast_zero, if_true, b6t] at h3
  simp only [Bool.not_eq_false', show ¬ ((1 : Nat) : Int) = 0 by decide, if_false, b6t] at h4
  exact ⟨h1, h3, h4⟩
theorem o8q {m : Machine} (hm : OkM m) {p : Place} : ∃ b, b2q p.State 0 (wr ((List.length m.States : Int) - 1)) = b /\ (b = true ↔ In p.State m.States.length) := by
 have := hm.z.s
 rw [c1n (b1o (by omega))]
 refine ⟨_, rfl, ?_⟩
 rw [b6t]
 unfold In
 omega
theorem o8s {m : Machine} {k : Nat} : (k < m.Counters.length /\ ∃ c, get m.Counters k = some c /\ c.Max = b56 m k) \/ (¬ k < m.Counters.length /\ b56 m k = 0) := by
 by_cases h : k < m.Counters.length
 ·obtain ⟨c, hc⟩ := b3b h
  exact .inl ⟨h, c, b1h hc, by unfold b56; rw [hc]⟩
 ·exact .inr ⟨h, by unfold b56; rw [List.getElem?_eq_none (by omega)]⟩
theorem o8o {m : Machine} (hm : OkM m) (p : Place) : ∃ b, o7s ⟨m⟩ p = some b /\ (b = true ↔ OkP m p) := by
 unfold o7s o73
 have step : ∀ k : Nat, k < 2 -> o7t ⟨m⟩ p k = (if (!(b2q (if (k : Int) = 0 then p.Values.1 else p.Values.2) 0 (b56 m k))) = true then some (.br (.inr false)) else some (.nx ((k : Int) + 1))) := fun k hk => by
  have h2 : (k : Int) < 2 := by omega
  unfold o7t o7u
  simp only [h2, decide_true, if_true, c2x (show In (k : Int) 2 from ⟨by omega, by omega⟩), bS9, Int.ofNat_lt]
  rcases o8s (m := m) (k := k) with ⟨h3, c, h4, h5⟩ | ⟨h3, h4⟩
  ·simp only [h3, decide_true, if_true, h4, bS9, h5, b2r hk (show 2 <= maxLen by decide)]
  ·simp only [h3, decide_false, fT9, if_false, h4, b2r hk (show 2 <= maxLen by decide)]
 rw [c7s (f := o7t ⟨m⟩ p) (n := 2) (p := fun k => !(b2q (if (k : Int) = 0 then p.Values.1 else p.Values.2) 0 (b56 m k))) (e := fun _ => .inr false) (u := .inl ()) (fun t ht hp => by rw [step t ht, if_pos hp]) (fun t ht hp => by rw [step t ht, if_neg (by rw [hp]; simp)]) (by rfl), o8t]
 obtain ⟨b, h1, h2⟩ := o8q hm (p := p)
 cases b5q 2 (fun k => !(b2q (if (k : Int) = 0 then p.Values.1 else p.Values.2) 0 (b56 m k))) with
 | none => exact ⟨b, by simp only [bS9, h1], by rw [h2]; simp⟩
 | some t => exact ⟨false, rfl, by simp⟩
theorem o83 {m : Machine} (hm : OkM m) (p : Place) : ∃ b, o7y m p = some b /\ (b = true ↔ OkP m p) := by
 unfold o7y o77
 have step : ∀ k : Nat, k < 2 -> o7z m p k = (if (!(b2q (if (k : Int) = 0 then p.Values.1 else p.Values.2) 0 (b56 m k))) = true then some (.br (.inr false)) else some (.nx ((k : Int) + 1))) := fun k hk => by
  have h2 : (k : Int) < 2 := by omega
  have e : ∀ x y : Int, b2b x 0 y = b2q x 0 y := fun x y => by rw [Bool.eq_iff_iff, b6g, b6t]
  unfold o7z o70
  simp only [h2, decide_true, if_true, c2x (show In (k : Int) 2 from ⟨by omega, by omega⟩), bS9, Int.ofNat_lt, e]
  rcases o8s (m := m) (k := k) with ⟨h3, c, h4, h5⟩ | ⟨h3, h4⟩
  ·simp only [h3, decide_true, if_true, h4, bS9, h5, b2r hk (show 2 <= maxLen by decide)]
  ·simp only [h3, decide_false, fT9, if_false, h4, b2r hk (show 2 <= maxLen by decide)]
 rw [c7s (f := o7z m p) (n := 2) (p := fun k => !(b2q (if (k : Int) = 0 then p.Values.1 else p.Values.2) 0 (b56 m k))) (e := fun _ => .inr false) (u := .inl ()) (fun t ht hp => by rw [step t ht, if_pos hp]) (fun t ht hp => by rw [step t ht, if_neg (by rw [hp]; simp)]) (by rfl), o8t]
 obtain ⟨b, h1, h2⟩ := o8q hm (p := p)
 have e : b2b p.State 0 (wr ((List.length m.States : Int) - 1)) = b := by rw [<- h1, Bool.eq_iff_iff, b6g, b6t]
 rw [e]
 cases b with
 | false => exact ⟨false, rfl, by rw [<- h2]; simp⟩
 | true =>
  rw [if_neg (by simp), <- h2]
  cases b5q 2 (fun k => !(b2q (if (k : Int) = 0 then p.Values.1 else p.Values.2) 0 (b56 m k))) with
  | none => exact ⟨true, rfl, by simp⟩
  | some t => exact ⟨false, rfl, by simp⟩
theorem o82 {m : Machine} (hs : SizesOk m) : c1y ⟨m⟩ = some ((2 ^ m.Inputs.length : Nat) : Int) := by
 unfold c1y
 have := hs.i
 simp only
 rw [c83 (by omega)]; simp
theorem p3i {m : Machine} (hm : OkM m) (x : Int) : ∃ b, p2c ⟨m⟩ x = some b /\ (b = true ↔ OkX m x) := by
 unfold p2c
 have := p2a hm.z
 rw [o82 hm.z, bS9, c1n (b1o (by omega))]
 refine ⟨_, rfl, ?_⟩
 rw [b6t]
 unfold OkX In
 omega
theorem p3v {m : Machine} (hm : OkM m) (x : Int) : ∃ b, b2b x 0 (wr (((2 ^ m.Inputs.length : Nat) : Int) - 1)) = b /\ (b = true ↔ OkX m x) := by
 have := p2a hm.z
 rw [c1n (b1o (by omega))]
 refine ⟨_, rfl, ?_⟩
 rw [b6g]
 unfold OkX In
 omega
theorem p3k {m : Machine} (hf : ∀ n ∈ b3g m, n.size <= maxLen) (p : Place) (x : Int) : ∃ r, p2f m p x = some r /\ p3f m p x = some r /\
  ((OkM m /\ OkP m p /\ OkX m x /\ r = (nxt m p x, 0)) \/ (OkM m /\ ¬ (OkP m p /\ OkX m x) /\ r = (zero, 1)) \/ (¬ OkM m /\ r = (zero, 41))) := by
 obtain ⟨e, h1, h2⟩ := g5k hf
 obtain ⟨e', h3, h4⟩ := d5t hf
 unfold p2f p3f
 rw [h1, h3, bS9, bS9]
 rcases h2 with ⟨rfl, hm⟩ | ⟨rfl, hm⟩ <;> rcases h4 with ⟨rfl, hm'⟩ | ⟨rfl, hm'⟩
 ·obtain ⟨b, a1, a2⟩ := o8o hm p
  obtain ⟨b', a3, a4⟩ := o83 hm p
  obtain ⟨d, a5, a6⟩ := p3i hm x
  obtain ⟨d', a7, a8⟩ := p3v hm x
  have eb : b' = b := by rw [Bool.eq_iff_iff, a2, a4]
  have ed : d' = d := by rw [Bool.eq_iff_iff, a6, a8]
  subst eb; subst ed
  rw [if_neg (by simp), if_neg (by simp), show b3h m = ⟨⟨m⟩⟩ from rfl]
  simp only
  rw [a1, a3, a5, b9j hm.z, bS9, bS9, bS9, bS9, a7]
  cases b' with
  | false => exact ⟨(zero, 1), rfl, rfl, .inr (.inl ⟨hm, fun h => by simpa using a2.2 h.1, rfl⟩)⟩
  | true =>
   cases d' with
   | false => exact ⟨(zero, 1), rfl, rfl, .inr (.inl ⟨hm, fun h => by simpa using a6.2 h.2, rfl⟩)⟩
   | true =>
    have ho := a2.1 rfl
    refine ⟨(nxt m p x, 0), ?_, ?_, .inl ⟨hm, ho, a6.1 rfl, rfl⟩⟩
    ·simp only [Bool.not_true, fT9, if_false, bS9]
     rw [g5u hm ho]; rfl
    ·simp only [Bool.not_true, fT9, if_false, bS9]
     rw [d5u hm ho]; rfl
 ·exact absurd hm hm'
 ·exact absurd hm' hm
 ·exact ⟨(zero, 41), rfl, rfl, .inr (.inr ⟨hm, rfl⟩)⟩
theorem o8p {α : Type} {l : List α} {k : Nat} {x z : α} (h : l[k]? = some x) : l.getD k z = x := by
 rw [List.getD_eq_getElem?_getD, h]; rfl
section
variable [Bd]
end
end
end Go.Nw.KM
namespace Go.Nw.KM
noncomputable section
section
variable {m : Machine} {c : List (List Literal)} {hd : Nat -> Int}
theorem d73 {s : S3} (hg : Good m s) (ht : Tr m c hd s) (hl : s.1.length <= 768) {w : control_walk} {g : r04_graph} (hw : w.from_ = s.2.1 /\ w.by_ = s.2.2) (hwp : w.places = s.1) (hgr : g.back = s.2.1 /\ g.input = s.2.2) (hgp : g.places = s.1)
  {wanted : Int -> Option Bool} {p : Nat -> Bool} (hwant : ∀ k : Nat, k < s.1.length -> wanted k = some (p k)) :
  ∃ r, b9e w wanted = some r /\ r.1.length <= 768 /\
   (∀ (f : Int -> Option (Out Int (Unit ⊕ ((List Int) × Bool)))), (∀ k : Nat, k < s.1.length -> f k = (if p k = true then (b4c g k).bind fun y => some (.br (.inr (y, true))) else some (.nx ((k : Int) + 1)))) -> f (s.1.length : Int) = some (.br (.inl ())) ->
    (b0w f 0).bind (fun | (.inl ()) => some ([], false) | (.inr r') => some r') = some r) /\
   ((r = ([], false) /\ ∀ k, k < s.1.length -> p k = false) \/ ∃ (k : Nat) (q : Place) (P : List Nat), r = (b27 P, true) /\ s.1[k]? = some q /\ p k = true /\ (∀ j, j < k -> p j = false) /\ o8f m c hd zero P q /\ P.length <= k /\ b4c g k = some (b27 P)) := by
 have hrun := g2z hg ht hl w g hw hgr
 have run2 : ∀ k : Nat, k < s.1.length -> ∃ P : List Nat, b71 w k = some (b27 P) /\ b4c g k = some (b27 P) /\ P.length <= k /\ ∃ q, s.1[k]? = some q /\ o8f m c hd zero P q := hrun
 obtain ⟨R, hR⟩ : ∃ R : Nat -> List Nat, ∀ k : Nat, k < s.1.length -> b71 w k = some (b27 (R k)) /\ b4c g k = some (b27 (R k)) /\ (R k).length <= k /\ ∃ q, s.1[k]? = some q /\ o8f m c hd zero (R k) q :=
  ⟨fun k => if h : k < s.1.length then (run2 k h).choose else [], fun k h => by dsimp only; rw [dif_pos h]; exact (run2 k h).choose_spec⟩
 have e1 := c7s (f := b9f w wanted) (n := s.1.length) (p := p) (e := fun k => .inr (b27 (R k), true)) (u := .inl ()) (fun t h hp => by
   unfold b9f
   simp only [hwp, Int.ofNat_lt, h, decide_true, if_true, hwant t h, bS9, hp, (hR t h).1]) (fun t h hp => by
   unfold b9f
   simp only [hwp, Int.ofNat_lt, h, decide_true, if_true, hwant t h, bS9, hp, fT9, if_false, b2r h (b1o (by omega))]) (by
   unfold b9f
   simp only [hwp, Int.lt_irrefl, decide_false, fT9, if_false])
 have e2 : ∀ (f : Int -> Option (Out Int (Unit ⊕ ((List Int) × Bool)))), (∀ k : Nat, k < s.1.length -> f k = (if p k = true then (b4c g k).bind fun y => some (.br (.inr (y, true))) else some (.nx ((k : Int) + 1)))) -> f (s.1.length : Int) = some (.br (.inl ())) ->
   b0w f 0 = some (match b5q s.1.length p with | some t => .inr (b27 (R t), true) | none => .inl ()) := fun f hf hfin => c7s (p := p) (fun t h hp => by
   rw [hf t h, if_pos hp, (hR t h).2.1]; rfl) (fun t h hp => by rw [hf t h, if_neg (by rw [hp]; simp)]) hfin
 unfold b9e c56
 rw [e1, bS9]
 cases hf : b5q s.1.length p with
 | none =>
  refine ⟨([], false), rfl, by simp, fun f h1 h2 => by rw [e2 f h1 h2, hf]; rfl, .inl ⟨rfl, d72.1 hf⟩⟩
 | some k =>
  obtain ⟨h1, h2, h3⟩ := j00 hf
  obtain ⟨_, r2, r3, q, r4, r5⟩ := hR k h1
  exact ⟨(b27 (R k), true), rfl, by rw [g0o]; omega, fun f h1 h2 => by rw [e2 f h1 h2, hf]; rfl, .inr ⟨k, q, R k, rfl, r4, h2, h3, r5, r3, r2⟩⟩
def d5x (m : Machine) (c never : List (List Literal)) (hd : Nat -> Int) (r : List Int × Bool) : Prop :=
 ∃ K, End m c hd K /\ ((r = ([], false) /\ ∀ q ∈ (b0h m c hd K).1, b46 m q 0 never = false) \/
  ∃ (k : Nat) (q : Place) (P : List Nat), r = (b27 P, true) /\ (b0h m c hd K).1[k]? = some q /\ b46 m q 0 never = true /\ (∀ (j : Nat) q', j < k -> (b0h m c hd K).1[j]? = some q' -> b46 m q' 0 never = false) /\ o8f m c hd zero P q /\ P.length <= k /\ b4c ⟨(b0h m c hd K).1, (b0h m c hd K).2.1, (b0h m c hd K).2.2⟩ k = some (b27 P))
theorem g6v (hm : OkM m) {ins ins' : Bool} (hc : b2s m ins c) {never : List (List Literal)} (hn : b2s m ins' never) {heard : Int -> Option Int} (hh : ∀ x : Nat, x < 2 ^ m.Inputs.length -> heard x = some (hd x)) {inp val : Int} (hh' : ∀ x : Nat, x < 2 ^ m.Inputs.length -> b6a x inp val = some (hd x)) :
  ∃ r g, c1t ⟨⟨m⟩⟩ c never heard = some r /\ b8z m c inp val = some g /\ c1x g m never = some r /\ r.1.length <= 768 /\ d5x m c never hd r := by
 obtain ⟨K, hK⟩ := g2u (c := c) (hd := hd) hm
 have hg := c49 (c := c) (hd := hd) hm K
 have ht := d4h (c := c) (hd := hd) hm K
 have hl := c0q hm hg.n hg.o
 have hp : ∀ k : Nat, k < (b0h m c hd K).1.length -> ∃ q, (b0h m c hd K).1[k]? = some q /\ OkP m q := fun k hk => by
  obtain ⟨q, hq⟩ := b3b hk
  exact ⟨q, hq, hg.o q (b1d.2 ⟨k, hq⟩)⟩
 obtain ⟨r, h1, h2, h3, h4⟩ := d73 (w := b4a m c hd K) (g := ⟨(b0h m c hd K).1, (b0h m c hd K).2.1, (b0h m c hd K).2.2⟩) hg ht hl ⟨rfl, rfl⟩ rfl ⟨rfl, rfl⟩ rfl
  (wanted := fun z5 => b9g z5 ⟨⟨m⟩⟩ never (b4a m c hd K)) (p := fun k => b46 m ((b0h m c hd K).1.getD k zero) 0 never) (fun k hk => by
   obtain ⟨q, hq, ho⟩ := hp k hk
   unfold b9g b4a
   simp only [b1h hq, bS9, c5w hm.z ho.s hn, List.getD_eq_getElem?_getD, hq, Option.getD_some])
 refine ⟨r, _, ?_, d7v hm hc hh' hK, ?_, h2, K, hK, ?_⟩
 ·unfold c1t
  rw [d7u hm hc hh hK, bS9, h1]; rfl
 ·unfold c1x c6d
  refine h3 _ (fun k hk => ?_) ?_
  ·obtain ⟨q, hq, ho⟩ := hp k hk
   unfold c6c
   simp only [Int.ofNat_lt, hk, decide_true, if_true, b1h hq, bS9, c5x hm.z ho.s hn, List.getD_eq_getElem?_getD, hq, Option.getD_some, b2r hk (b1o (by omega))]
  ·unfold c6c
   simp only [Int.lt_irrefl, decide_false, fT9, if_false]
 ·rcases h4 with ⟨rfl, h5⟩ | ⟨k, q, P, rfl, h6, h7, h8, h9, h10, h11⟩
  ·refine .inl ⟨rfl, fun q hq => ?_⟩
   obtain ⟨k, hk⟩ := b1d.1 hq
   have := h5 k (b1k hk)
   simpa only [List.getD_eq_getElem?_getD, hk, Option.getD_some] using this
  ·refine .inr ⟨k, q, P, rfl, h6, ?_, fun j q' hj hq' => ?_, h9, h10, h11⟩
   ·simpa only [List.getD_eq_getElem?_getD, h6, Option.getD_some] using h7
   ·have := h8 j hj
    simpa only [List.getD_eq_getElem?_getD, hq', Option.getD_some] using this
end
end
end Go.Nw.KM
namespace Go.Nw.KM
noncomputable section
abbrev idn : Nat -> Int := fun x => (x : Int)
section
variable (m : Machine) (c : List (List Literal)) (P : List Place)
def hit (cur : List Bool) (i : Nat) : Bool := (List.range (2 ^ m.Inputs.length)).any fun j => b22 m (P.getD i zero) j c && cur.getD (P.idxOf (nxt m (P.getD i zero) (idn j))) false
end
section
variable {m : Machine} {c : List (List Literal)} {P : List Place}
end
def d17 (m : Machine) (c rest : List (List Literal)) (p : Place) : Prop := ∃ l q, o8f m c idn p l q /\ b46 m q 0 rest = true
structure Calm (m : Machine) (c rest : List (List Literal)) (P : List Place) (cur : List Bool) : Prop where
 n : cur.length = P.length
 s : ∀ i, i < P.length -> cur.getD i false = true -> d17 m c rest (P.getD i zero)
 r : ∀ i, i < P.length -> b46 m (P.getD i zero) 0 rest = true -> cur.getD i false = true
section
variable {m : Machine} {c rest : List (List Literal)} {P : List Place}
end
section
variable {m : Machine} {c rest : List (List Literal)} {K : Nat}
end
end
end Go.Nw.KM
namespace Go.Nw.KM
noncomputable section
def hs (i v : Nat) (x : Nat) : Int := (b6a x i v).getD 0
theorem d6y {m : Machine} {c n : List (List Literal)} (h : b7w m [c, n] 0) : OkM m /\ b2s m true c /\ b2s m true n := by
 rcases h with ⟨_, a, b⟩ | ⟨e, _⟩ | ⟨e, _⟩
 ·exact ⟨a, b c (by simp), b n (by simp)⟩
 ·cases e
 ·cases e
section
variable [Bd]
end
end
end Go.Nw.KM
namespace Go.Nw.KM
noncomputable section
theorem d9s (x : Nat) : b6a x (-1) 0 = some (idn x) := g5p x
theorem g5j {m : Machine} (hf : ∀ n ∈ b3g m, n.size <= maxLen) (c never : List (List Literal)) : ∃ r, c2e m c never = some r /\ c34 m c never = some r /\ r.1.length <= 768 /\ b7w m [c, never] r.2.2 /\ (r.2.2 = 0 -> d5x m c never idn (r.1, r.2.1)) := by
 obtain ⟨e, h1, h2⟩ := d6t hf (l := [c, never]) (by simp)
 obtain ⟨e', h3, h4⟩ := d5s hf (l := [c, never]) (by simp)
 obtain rfl := d6z h2 h4
 unfold c2e c34
 rw [h1, h3, bS9, bS9]
 by_cases he : e = 0
 case neg =>
  refine ⟨([], false, e), ?_, ?_, by simp, h2, fun h => absurd h he⟩ <;> rw [if_pos (by simpa using he)]
 subst he
 obtain ⟨hm, hc, hn⟩ := d6y h2
 obtain ⟨r, g, a1, a2, a3, a4, a5⟩ := g6v (hd := idn) hm hc hn (heard := fun z7 => some (b6f z7)) (fun x _ => rfl) (inp := -1) (val := 0) (fun x _ => d9s x)
 rw [if_neg (by simp), if_neg (by simp), show b3h m = ⟨⟨m⟩⟩ from rfl, a1, a2, bS9, bS9, a3]
 exact ⟨(r.1, r.2, 0), rfl, rfl, a4, h2, fun _ => a5⟩
section
variable {m : Machine} {c rest : List (List Literal)} {K : Nat}
end
section
variable [Bd]
end
end
end Go.Nw.KM
namespace Go.Nw.KM
noncomputable section
theorem o9k {κ ν : Type} [DecidableEq κ] {l : List (κ × ν)} {k q : κ} {v : ν} : q ∈ (b3w l k v).map (·.1) ↔ q = k \/ q ∈ l.map (·.1) := by
 by_cases h : k ∈ l.map (·.1)
 ·unfold b3w
  cases hm : b2u l k 0 with
  | none => exact absurd h (c0k.1 hm)
  | some p =>
   obtain ⟨d, h1, h2⟩ := c7w (v := p.2) (j := p.1) hm
   have e : (l.set p.1 (k, v)).map (·.1) = l.map (·.1) := by
    apply List.ext_getElem?
    intro i
    rw [List.getElem?_map, List.getElem?_map, List.getElem?_set]
    split
    ·rename_i hi
     have hd : p.1 = d := by omega
     rw [hd] at hi
     subst hi
     rw [h2, if_pos (b1k (by rw [hd]; exact h2)) ]
     rfl
    ·rfl
   obtain ⟨p1, p2⟩ := p
   simp only at e ⊢
   rw [e]
   exact ⟨.inr, fun hh => hh.elim (fun hh => hh ▸ h) id⟩
 ·rw [g1w h]; simp only [List.map_append, List.map_cons, List.map_nil, List.mem_append, List.mem_singleton]
  exact ⟨fun hh => hh.elim .inr .inl, fun hh => hh.elim .inr .inl⟩
def lst (l : List Place) : Nat -> List (Place × Int)
 | 0 => []
 | k + 1 => match l[k]? with | some q => b3w (lst l k) q (k : Int) | none => lst l k
theorem o8k {l : List Place} {q : Place} : ∀ k, q ∈ (lst l k).map (·.1) ↔ q ∈ l.take k
 | 0 => by simp [lst]
 | k + 1 => by
  unfold lst
  rw [List.take_add_one]
  cases hx : l[k]? with
  | none => simp only; rw [o8k k]; simp
  | some x => simp only; rw [o9k, o8k k]; simp; exact or_comm
theorem o8r {l : List Place} {q : Place} : b6m (lst l l.length) q = decide (q ∈ l) := by
 rw [Bool.eq_iff_iff, j78, o8k, List.take_length, decide_eq_true_eq]
def c24 (m : Machine) (c : List (List Literal)) (l : List Place) (q : Place) (x : Nat) : Bool := b22 m q x c && !(decide (nxt m q (idn x) ∈ l))
def l20 (m : Machine) (c never : List (List Literal)) (l : List Place) (i : Nat) : Bool := b46 m (l.getD i zero) 0 never || (b5q (2 ^ m.Inputs.length) (c24 m c l (l.getD i zero))).isSome
def o84 (m : Machine) (c never : List (List Literal)) (l : List Place) (r : Int × Bool × Int) : Prop :=
 (r.2.2 = 2 /\ 1000 < l.length /\ r.2.1 = false) \/ (r.2.2 = 1 /\ l.length <= 1000 /\ r.2.1 = false /\ ∃ q ∈ l, ¬ OkP m q) \/
 (r.2.2 = 0 /\ l.length <= 1000 /\ (∀ q ∈ l, OkP m q) /\ (r.2.1 = true ↔ (zero ∈ l /\ ∀ i, i < l.length -> l20 m c never l i = false)))
theorem o85 {m : Machine} (hf : ∀ n ∈ b3g m, n.size <= maxLen) (c never : List (List Literal)) (l : List Place) :
  ∃ r, o7v m c never l = some r /\ o71 m c never l = some r /\ ((r.2.1 = false /\ r.2.2 ≠ 0 /\ b7w m [c, never] r.2.2) \/ (b7w m [c, never] 0 /\ o84 m c never l r)) := by
 obtain ⟨e, h1, h2⟩ := d6t hf (l := [c, never]) (by simp)
 obtain ⟨e', h3, h4⟩ := d5s hf (l := [c, never]) (by simp)
 obtain rfl := d6z h2 h4
 unfold o7v o71
 rw [h1, h3, bS9, bS9]
 by_cases he : e = 0
 case neg =>
  refine ⟨(0, false, e), ?_, ?_, .inl ⟨rfl, he, h2⟩⟩ <;> rw [if_pos (by simpa using he)]
 subst he
 obtain ⟨hm, hc, hn⟩ := d6y h2
 have hpow := p2a hm.z
 have h00 : ¬ (decide (¬ (0 : Int) = 0) = true) := by simp
 rw [if_neg h00, if_neg h00]
 by_cases hl : (1000 : Int) < (l.length : Int)
 ·exact ⟨(0, false, 2), by rw [if_pos (by simpa using hl)], by rw [if_pos (by simpa using hl)], .inr ⟨h2, .inl ⟨rfl, by omega, rfl⟩⟩⟩
 have hl' : l.length <= 1000 := by omega
 rw [if_neg (by simpa using hl), if_neg (by simpa using hl)]
 have p1 := g1j (f := p17 m l) l (fun (s : List (Place × Int)) k => (s, k)) (fun k => lst l k) (fun _ q => ¬ OkP m q) (.inr (0, false, 1)) (.inl (lst l l.length)) (fun k x _ hx hb => by
   have hk := b1k hx
   obtain ⟨b, a1, a2⟩ := o8o hm x
   have : b = false := c19 fun h => hb (a2.1 h)
   subst this
   unfold p17
   simp only [Int.ofNat_lt, hk, decide_true, if_true, b1h hx, bS9, show b3h m = ⟨⟨m⟩⟩ from rfl, c74, a1, Bool.not_false]) (fun k x _ hx hb => by
   have hk := b1k hx
   obtain ⟨b, a1, a2⟩ := o8o hm x
   have : b = true := a2.2 (Classical.not_not.1 hb)
   subst this
   unfold p17
   simp only [Int.ofNat_lt, hk, decide_true, if_true, b1h hx, bS9, show b3h m = ⟨⟨m⟩⟩ from rfl, c74, a1, Bool.not_true, fT9, if_false, b2r hk (b1o hl')]
   rw [show lst l (k + 1) = b3w (lst l k) x (k : Int) from by conv => lhs; unfold lst; rw [hx]]) (by
   unfold p17
   simp only [Int.lt_irrefl, decide_false, fT9, if_false]) (s0 := []) rfl
 have p2 := b4j (f := o72 m l) (l := l) (p := fun _ q => ¬ OkP m q) (e := .inr (0, false, 1)) (u := .inl ()) (b1o hl') (fun k x hx => by
   have hk := b1k hx
   obtain ⟨b, a1, a2⟩ := o83 hm x
   refine ⟨!b, ?_, by rw [<- a2]; simp⟩
   unfold o72
   simp only [Int.ofNat_lt, hk, decide_true, if_true, b1h hx, bS9, a1]) (by unfold o72; simp only [Int.lt_irrefl, decide_false, fT9, if_false])
 rcases p1 with ⟨a1, a2⟩ | ⟨⟨k, x, a1, a1'⟩, a2⟩ <;> rcases p2 with ⟨a3, a4⟩ | ⟨⟨k', x', a3, a3'⟩, a4⟩
 ·have ho : ∀ q ∈ l, OkP m q := fun q hq => by obtain ⟨k, hk⟩ := b1d.1 hq; exact Classical.not_not.1 (a1 k q hk)
  rw [a2, a4, bS9, bS9]
  simp only
  unfold o76 o8a
  have in1 : ∀ (i : Nat) q, l[i]? = some q -> b0w (p15 m c (lst l l.length) i q ((2 ^ m.Inputs.length : Nat) : Int)) 0 = some (match b5q (2 ^ m.Inputs.length) (c24 m c l q) with | some _ => .inr ((i : Int), false, 0) | none => .inl ()) := fun i q hq => by
   have hoq := ho q (b1d.2 ⟨i, hq⟩)
   have st : ∀ x : Nat, x < 2 ^ m.Inputs.length -> p15 m c (lst l l.length) i q ((2 ^ m.Inputs.length : Nat) : Int) x = (if c24 m c l q x = true then some (.br (.inr ((i : Int), false, 0))) else some (.nx ((x : Int) + 1))) := fun x hx => by
    unfold p15 o7w
    simp only [Int.ofNat_lt, hx, decide_true, if_true, show b3h m = ⟨⟨m⟩⟩ from rfl, c74, g5i hm.z hoq.s hc, bS9, b2r hx (b1o (by omega))]
    unfold c24
    cases ha : b22 m q x c with
    | false => simp
    | true =>
     rw [g5u hm hoq, bS9, o8r]
     simp
   exact c7s (f := p15 m c (lst l l.length) i q ((2 ^ m.Inputs.length : Nat) : Int)) (p := c24 m c l q) (e := fun _ => .inr ((i : Int), false, 0)) (u := .inl ()) (fun x hx hp => by rw [st x hx, if_pos hp]) (fun x hx hp => by rw [st x hx, if_neg (by rw [hp]; simp)]) (by
    unfold p15
    simp only [Int.lt_irrefl, decide_false, fT9, if_false])
  have in2 : ∀ (i : Nat) q, l[i]? = some q -> b0w (p2b m c l i) 0 = some (match b5q (2 ^ m.Inputs.length) (c24 m c l q) with | some _ => .inr ((i : Int), false, 0) | none => .inl ()) := fun i q hq => by
   have hoq := ho q (b1d.2 ⟨i, hq⟩)
   have st : ∀ x : Nat, x < 2 ^ m.Inputs.length -> p2b m c l i x = (if c24 m c l q x = true then some (.br (.inr ((i : Int), false, 0))) else some (.nx ((x : Int) + 1))) := fun x hx => by
    unfold p2b
    simp only [b9j hm.z, bS9, Int.ofNat_lt, hx, decide_true, if_true, b1h hq, d5o hm.z hoq.s hc, b2r hx (b1o (by omega))]
    unfold c24
    cases ha : b22 m q x c with
    | false => simp
    | true =>
     simp only [if_true]
     rw [d5u hm hoq, bS9, g0i hl', bS9, bS9]
     by_cases hin : nxt m q (idn x) ∈ l
     ·rw [if_pos hin]; simp [hin]
     ·rw [if_neg hin]; simp [hin]
   exact c7s (f := p2b m c l i) (p := c24 m c l q) (e := fun _ => .inr ((i : Int), false, 0)) (u := .inl ()) (fun x hx hp => by rw [st x hx, if_pos hp]) (fun x hx hp => by rw [st x hx, if_neg (by rw [hp]; simp)]) (by
    unfold p2b
    simp only [b9j hm.z, bS9, Int.lt_irrefl, decide_false, fT9, if_false])
  have s1 : ∀ i : Nat, i < l.length -> o7q m c never l (lst l l.length) i = (if l20 m c never l i = true then some (.br (.inr ((i : Int), false, 0))) else some (.nx ((i : Int) + 1))) := fun i hi => by
   obtain ⟨q, hq⟩ := b3b hi
   have hoq := ho q (b1d.2 ⟨i, hq⟩)
   unfold o7q o75 l20
   simp only [Int.ofNat_lt, hi, decide_true, if_true, b1h hq, bS9, show b3h m = ⟨⟨m⟩⟩ from rfl, c74, c5w hm.z hoq.s hn, o8p hq, b2r hi (b1o hl')]
   cases hh : b46 m q 0 never with
   | true => simp
   | false =>
    simp only [fT9, if_false, Bool.false_or]
    rw [o82 hm.z, bS9, in1 i q hq, bS9]
    cases b5q (2 ^ m.Inputs.length) (c24 m c l q) <;> rfl
  have s2 : ∀ i : Nat, i < l.length -> o7r m c never l i = (if l20 m c never l i = true then some (.br (.inr ((i : Int), false, 0))) else some (.nx ((i : Int) + 1))) := fun i hi => by
   obtain ⟨q, hq⟩ := b3b hi
   have hoq := ho q (b1d.2 ⟨i, hq⟩)
   unfold o7r o79 l20
   simp only [Int.ofNat_lt, hi, decide_true, if_true, b1h hq, bS9, c5x hm.z hoq.s hn, o8p hq, b2r hi (b1o hl')]
   cases hh : b46 m q 0 never with
   | true => simp
   | false =>
    simp only [fT9, if_false, Bool.false_or]
    rw [in2 i q hq, bS9]
    cases b5q (2 ^ m.Inputs.length) (c24 m c l q) <;> rfl
  have e1 := c7s (f := o7q m c never l (lst l l.length)) (n := l.length) (p := l20 m c never l) (e := fun i => .inr ((i : Int), false, 0)) (u := .inl ()) (fun x hx hp => by rw [s1 x hx, if_pos hp]) (fun x hx hp => by rw [s1 x hx, if_neg (by rw [hp]; simp)]) (by
    unfold o7q
    simp only [Int.lt_irrefl, decide_false, fT9, if_false])
  have e2 := c7s (f := o7r m c never l) (n := l.length) (p := l20 m c never l) (e := fun i => .inr ((i : Int), false, 0)) (u := .inl ()) (fun x hx hp => by rw [s2 x hx, if_pos hp]) (fun x hx hp => by rw [s2 x hx, if_neg (by rw [hp]; simp)]) (by
    unfold o7r
    simp only [Int.lt_irrefl, decide_false, fT9, if_false])
  rw [e1, e2, bS9, bS9]
  cases hfi : b5q l.length (l20 m c never l) with
  | some i =>
   obtain ⟨b1, b2, _⟩ := j00 hfi
   refine ⟨((i : Int), false, 0), rfl, rfl, .inr ⟨h2, .inr (.inr ⟨rfl, hl', ho, ?_⟩)⟩⟩
   constructor
   ·intro h; cases h
   ·rintro ⟨_, h⟩; rw [h i b1] at b2; cases b2
  | none =>
   have hno := d72.1 hfi
   simp only
   unfold o74 o78
   rw [g0i hl', bS9, o8r]
   by_cases hz : zero ∈ l
   ·refine ⟨(0, true, 0), ?_, ?_, .inr ⟨h2, .inr (.inr ⟨rfl, hl', ho, by simp only [true_iff]; exact ⟨hz, hno⟩⟩)⟩⟩
    ·rw [show Place.mk 0 (0, 0) = zero from rfl, decide_eq_true hz]; rfl
    ·rw [show Place.mk 0 (0, 0) = zero from rfl, if_pos hz]
     rw [if_neg (by simp)]
   ·refine ⟨((l.length : Int), false, 0), ?_, ?_, .inr ⟨h2, .inr (.inr ⟨rfl, hl', ho, ?_⟩)⟩⟩
    ·rw [show Place.mk 0 (0, 0) = zero from rfl, decide_eq_false hz]; rfl
    ·rw [show Place.mk 0 (0, 0) = zero from rfl, if_neg hz]; rfl
    ·constructor
     ·intro h; cases h
     ·rintro ⟨h, _⟩; exact absurd h hz
 ·exact absurd (Classical.not_not.1 (a1 k' x' a3)) a3'
 ·exact absurd (Classical.not_not.1 (a3 k x a1)) a1'
 ·rw [a2, a4]
  exact ⟨(0, false, 1), rfl, rfl, .inr ⟨h2, .inr (.inl ⟨rfl, hl', rfl, x, b1d.2 ⟨k, a1⟩, a1'⟩)⟩⟩
section
variable [Bd]
end
end
end Go.Nw.KM
namespace Go.Nw.KM
noncomputable section
def plc (m : Machine) (hd : Nat -> Int) (p : Place) (l : List Int) : Nat -> Place
 | 0 => p
 | k + 1 => nxt m (plc m hd p l k) (hd (l.getD k 0).toNat)
section
variable {m : Machine} {c never : List (List Literal)} {hd : Nat -> Int}
theorem p2n (hm : OkM m) {p : Place} (hp : OkP m p) (l : List Int) : ∀ k, OkP m (plc m hd p l k)
 | 0 => hp
 | k + 1 => l18 hm (p2n hm hp l k) _
theorem p22 {p : Place} {x : Int} {l : List Int} : ∀ k, plc m hd p (x :: l) (k + 1) = plc m hd (nxt m p (hd x.toNat)) l k
 | 0 => by simp [plc]
 | k + 1 => by
  have e : plc m hd p (x :: l) (k + 1 + 1) = nxt m (plc m hd p (x :: l) (k + 1)) (hd ((x :: l).getD (k + 1) 0).toNat) := rfl
  rw [e, p22 k]
  conv => rhs; unfold plc
  simp
def p2u (m : Machine) (c : List (List Literal)) (hd : Nat -> Int) (l : List Int) : Prop := ∀ (k : Nat) x, l[k]? = some x -> OkX m x /\ b22 m (plc m hd zero l k) x c = true
theorem p3b : ∀ {P : List Nat} {p q : Place}, o8f m c hd p P q -> (∀ (k : Nat) x, (b27 P)[k]? = some x -> OkX m x /\ b22 m (plc m hd p (b27 P) k) x c = true) /\ plc m hd p (b27 P) P.length = q
 | [], p, q, h => by cases h; exact ⟨fun k x hx => by simp [b27] at hx, rfl⟩
 | y :: P, p, q, ⟨h1, h2, h3⟩ => by
  obtain ⟨h4, h5⟩ := p3b h3
  have e : b27 (y :: P) = (y : Int) :: b27 P := rfl
  refine ⟨fun k x hx => ?_, ?_⟩
  ·cases k with
   | zero =>
    rw [e] at hx
    simp only [List.getElem?_cons_zero, iE9] at hx
    subst hx
    exact ⟨⟨by omega, by have : ((2 ^ m.Inputs.length : Nat) : Int) = 2 ^ m.Inputs.length := by simp
                         omega⟩, h2⟩
   | succ k =>
    rw [e] at hx ⊢
    rw [p22]
    exact h4 k x (by simpa using hx)
  ·rw [e, List.length_cons, p22]; exact h5
theorem p3e (l : List Int) (hf : p2u m c hd l) : ∀ k, k <= l.length -> ∃ P : List Nat, P.length = k /\ o8f m c hd zero P (plc m hd zero l k)
 | 0, _ => ⟨[], rfl, rfl⟩
 | k + 1, hk => by
  obtain ⟨P, h1, h2⟩ := p3e l hf k (by omega)
  obtain ⟨x, hx⟩ := b3b (l := l) (k := k) (by omega)
  obtain ⟨h3, h4⟩ := hf k x hx
  obtain ⟨h5, h6⟩ := h3
  refine ⟨P ++ [x.toNat], by simp [h1], ?_⟩
  have e : plc m hd zero l (k + 1) = nxt m (plc m hd zero l k) (hd x.toNat) := by conv => lhs; unfold plc; rw [o8p hx]
  rw [e]
  refine d8d h2 ?_ (by rw [Int.toNat_of_nonneg h5]; exact h4)
  have : ((2 ^ m.Inputs.length : Nat) : Int) = 2 ^ m.Inputs.length := by simp
  omega
theorem p3d (hf : ∀ n ∈ b3g m, n.size <= maxLen) (hm : OkM m) {ins : Bool} (hc : b2s m ins c) {inp val : Int} (hh : ∀ x : Nat, x < 2 ^ m.Inputs.length -> b6a x inp val = some (hd x) /\ OkX m (hd x)) {l : List Int} (hl : l.length <= 900) :
  (p2u m c hd l /\ p16 m l c inp val = some (tab (l.length + 1) (plc m hd zero l), true)) \/ (¬ p2u m c hd l /\ p16 m l c inp val = some ([], false)) := by
 have hi := hm.z.i
 have hpow : ((2 ^ m.Inputs.length : Nat) : Int) = 2 ^ m.Inputs.length := by simp
 have hw : IntKind.wrap .u64 ((m.Inputs.length : Nat) : Int) = (m.Inputs.length : Nat) := c9p (by omega) (by omega)
 have pre : ∀ (k : Nat) x, l[k]? = some x -> ∃ b, (if decide (x < 0) = true then some true else (shl .i64 1 (IntKind.wrap .u64 (List.length m.Inputs : Int))).bind fun q15 => some (decide (q15 <= x))) = some b /\ (b = true ↔ ¬ OkX m x) := fun k x hx => by
  unfold OkX In
  by_cases h : x < 0
  ·exact ⟨true, by simp [h], by simp; omega⟩
  ·rw [if_neg (by simpa using h), hw, c83 (by omega)]
   refine ⟨_, rfl, ?_⟩
   simp only [decide_eq_true_eq]
   omega
 have := g1j (f := p19 m l c inp val) l (fun (s : List Place) k => (s, k)) (fun k => tab (k + 1) (plc m hd zero l)) (fun k x => ¬ (OkX m x /\ b22 m (plc m hd zero l k) x c = true)) (.inr ([], false)) (.inl (tab (l.length + 1) (plc m hd zero l))) (fun k x _ hx hb => by
   have hk := b1k hx
   obtain ⟨b, b1, b2⟩ := pre k x hx
   unfold p19
   simp only [Int.ofNat_lt, hk, decide_true, if_true, c2y (show k < k + 1 by omega), b1h hx, bS9, c74]
   rw [b1, bS9]
   cases b with
   | true => rfl
   | false =>
    have hx' : OkX m x := Classical.byContradiction fun h => by simpa using b2.2 h
    have ha : b22 m (plc m hd zero l k) x c = false := c19 fun h => hb ⟨hx', h⟩
    rw [if_neg (by simp), d5o hm.z (p2n hm (o5b hm) l k).s hc, bS9, ha]
    rfl) (fun k x _ hx hb => by
   have hk := b1k hx
   have hb := Classical.not_not.1 hb
   obtain ⟨b, b1, b2⟩ := pre k x hx
   have hbf : b = false := c19 fun h => b2.1 h hb.1
   subst hbf
   obtain ⟨h0, h1⟩ := hb.1
   have hx' : x.toNat < 2 ^ m.Inputs.length := by omega
   have ex : ((x.toNat : Nat) : Int) = x := Int.toNat_of_nonneg h0
   obtain ⟨hd1, hd2⟩ := hh x.toNat hx'
   rw [ex] at hd1
   have hok := p2n (hd := hd) hm (o5b hm) l k
   unfold p19
   simp only [Int.ofNat_lt, hk, decide_true, if_true, c2y (show k < k + 1 by omega), b1h hx, bS9, c74]
   rw [b1, bS9, if_neg (by simp), d5o hm.z hok.s hc, bS9, hb.2, bS9, if_neg (by simp), hd1, bS9]
   obtain ⟨r, r1, _, r3⟩ := p3k hf (plc m hd zero l k) (hd x.toNat)
   have hr : r = (nxt m (plc m hd zero l k) (hd x.toNat), 0) := by
    rcases r3 with ⟨_, _, _, e⟩ | ⟨_, h, _⟩ | ⟨h, _⟩
    ·exact e
    ·exact absurd ⟨hok, hd2⟩ h
    ·exact absurd hm h
   subst hr
   obtain ⟨b', c1, c2⟩ := o83 hm (nxt m (plc m hd zero l k) (hd x.toNat))
   have hb' : b' = true := c2.2 (l18 hm hok _)
   subst hb'
   rw [r1, bS9]
   simp only [not_true_eq_false, decide_false, fT9, if_false, c74, c1, bS9, Bool.not_true]
   rw [b6d (by rw [b3y]; omega) (by simp) (by omega), bS9, b2r hk (b1o (by omega))]
   have e : plc m hd zero l (k + 1) = nxt m (plc m hd zero l k) (hd x.toNat) := by conv => lhs; unfold plc; rw [o8p hx]
   rw [<- e, <- l5w]) (by
   unfold p19
   simp only [Int.lt_irrefl, decide_false, fT9, if_false]) (s0 := [zero]) rfl
 unfold p16 p2l
 rw [show [Place.mk 0 (0, 0)] = [zero] from rfl]
 rcases this with ⟨h1, h2⟩ | ⟨⟨k, x, h1, h2⟩, h3⟩
 ·rw [h2]
  exact .inl ⟨fun k x hx => Classical.not_not.1 (h1 k x hx), rfl⟩
 ·rw [h3]
  exact .inr ⟨fun h => h2 (h k x h1), rfl⟩
theorem p28 {K K' : Nat} (h : End m c hd K) (h' : End m c hd K') : K = K' := by
 have key : ∀ {K K' : Nat}, End m c hd K -> End m c hd K' -> ¬ K < K' := fun {K K'} h h' hlt => by
  have := h'.2.1 K hlt
  have := h.2.2
  omega
 have := key h h'; have := key h' h
 omega
theorem p2w {K : Nat} (hK : End m c hd K) : ∀ {P : List Nat} {p q : Place}, p ∈ (b0h m c hd K).1 -> o8f m c hd p P q -> q ∈ (b0h m c hd K).1
 | [], p, q, hp, h => by cases h; exact hp
 | x :: P, p, q, hp, ⟨h1, h2, h3⟩ => by
  obtain ⟨k, hk⟩ := b1d.1 hp
  exact p2w hK (closed hk (by have := b1k hk; have := hK.2.2; omega) h2 h1) h3
theorem p24 (k : Nat) : zero ∈ (b0h m c hd k).1 := (d4g (m := m) (c := c) (hd := hd) (Nat.zero_le k)).subset (by simp [b0h])
theorem p3a {l : List Place} (hl : ∀ q ∈ l, ∀ x : Nat, x < 2 ^ m.Inputs.length -> b22 m q x c = true -> nxt m q (hd x) ∈ l) : ∀ {P : List Nat} {p q : Place}, p ∈ l -> o8f m c hd p P q -> q ∈ l
 | [], p, q, hp, h => by cases h; exact hp
 | x :: P, p, q, hp, ⟨h1, h2, h3⟩ => p3a hl (hl p hp x h1 h2) h3
inductive Dp (s : S3) : Nat -> Nat -> Prop
 | z : Dp s 0 0
 | s {k b n : Nat} (hk : 1 <= k) (hb : s.2.1[k]? = some (b : Int)) (h : Dp s b n) : Dp s k (n + 1)
structure Bo (i : Int) (s : S3) : Prop where
 l : ∀ (j : Nat) b, s.2.1[j]? = some b -> b <= i
 m : ∀ (j j' : Nat) b b', j <= j' -> s.2.1[j]? = some b -> s.2.1[j']? = some b' -> b <= b'
theorem Bo.up {i i' : Int} {s : S3} (h : Bo i s) (hi : i <= i') : Bo i' s := ⟨fun j b hb => Int.le_trans (h.l j b hb) hi, h.m⟩
theorem p3l {i x : Nat} {q : Place} {s : S3} (h : Bo i s) : Bo i (b5l s i x q) := by
 unfold b5l
 split
 ·exact h
 ·have key : ∀ (j : Nat) b, (s.2.1 ++ [(i : Int)])[j]? = some b -> (j < s.2.1.length /\ s.2.1[j]? = some b) \/ (j = s.2.1.length /\ b = i) := fun j b hb => by
   by_cases hj : j < s.2.1.length
   ·rw [List.getElem?_append_left hj] at hb; exact .inl ⟨hj, hb⟩
   ·have := b1k hb
    simp only [List.length_append, List.length_cons, List.length_nil] at this
    have e : j = s.2.1.length := by omega
    subst e
    simp only [List.getElem?_append_right (Nat.le_refl _), Nat.sub_self, List.getElem?_cons_zero, iE9] at hb
    exact .inr ⟨rfl, hb.symm⟩
  refine ⟨fun j b hb => ?_, fun j j' b b' hj hb hb' => ?_⟩
  ·rcases key j b hb with ⟨_, h1⟩ | ⟨_, rfl⟩
   ·exact h.l j b h1
   ·exact Int.le_refl _
  ·rcases key j b hb with ⟨h1, h2⟩ | ⟨h1, rfl⟩ <;> rcases key j' b' hb' with ⟨h3, h4⟩ | ⟨h3, rfl⟩
   ·exact h.m j j' b b' hj h2 h4
   ·exact h.l j b h2
   ·omega
   ·exact Int.le_refl _
theorem p2x {i : Nat} {p : Place} : ∀ (x : Nat) {s : S3}, Bo i s -> Bo i (inn m c hd i p x s)
 | 0, s, h => h
 | x + 1, s, h => by
  unfold inn; split
  ·exact p3l (p2x x h)
  ·exact p2x x h
theorem p2m : ∀ k : Nat, Bo ((k : Int) - 1) (b0h m c hd k)
 | 0 => by
  have key : ∀ (j : Nat) b, ([(-1)] : List Int)[j]? = some b -> b = -1 := fun j b hb => by
   cases j with
   | zero => simpa using hb.symm
   | succ j => simp at hb
  exact ⟨fun j b hb => by have := key j b hb; omega, fun j j' b b' _ hb hb' => by have := key j b hb; have := key j' b' hb'; omega⟩
 | k + 1 => by
  have h := p2m k
  unfold b0h
  cases hp : (b0h m c hd k).1[k]? with
  | none => exact h.up (by omega)
  | some p => exact (p2x (p := p) _ (h.up (by omega))).up (by omega)
theorem p3m (k : Nat) : (b0h m c hd k).2.1 <+: (b0h m c hd (k + 1)).2.1 := by
 have add : ∀ (s : S3) (i x : Nat) (q : Place), s.2.1 <+: (b5l s i x q).2.1 := fun s i x q => by
  unfold b5l; split
  ·exact List.prefix_refl _
  ·exact List.prefix_append _ _
 have inner : ∀ (i : Nat) (p : Place) (x : Nat) (s : S3), s.2.1 <+: (inn m c hd i p x s).2.1 := fun i p x s => by
  induction x with
  | zero => exact List.prefix_refl _
  | succ x ih =>
   unfold inn; split
   ·exact ih.trans (add _ _ _ _)
   ·exact ih
 conv => rhs; unfold b0h
 cases (b0h m c hd k).1[k]? with
 | none => exact List.prefix_refl _
 | some p => exact inner _ _ _ _
theorem p3n {k k' : Nat} (h : k <= k') : (b0h m c hd k).2.1 <+: (b0h m c hd k').2.1 := by
 induction k' with
 | zero => have : k = 0 := by omega
           subst this; exact List.prefix_refl _
 | succ n ih =>
  by_cases e : k = n + 1
  ·subst e; exact List.prefix_refl _
  ·exact (ih (by omega)).trans (p3m n)
theorem p26 {s : S3} (hb : ∀ (j j' : Nat) b b', j <= j' -> s.2.1[j]? = some b -> s.2.1[j']? = some b' -> b <= b') : ∀ {k n : Nat}, Dp s k n -> ∀ {k' n' : Nat}, Dp s k' n' -> k <= k' -> n <= n' := by
 intro k n h
 induction h with
 | z => intro k' n' _ _; omega
 | s hk hb1 h ih =>
  intro k' n' h' hkk
  cases h' with
  | z => omega
  | s hk' hb1' h'' =>
   have := hb _ _ _ _ hkk hb1 hb1'
   have := ih h'' (by omega)
   omega
theorem p2t {s : S3} (ht : Tr m c hd s) : ∀ (d k : Nat), k <= d -> k < s.1.length -> ∃ n, Dp s k n
 | 0, k, h1, h2 => by
  have : k = 0 := by omega
  subst this; exact ⟨0, .z⟩
 | d + 1, k, h1, h2 => by
  by_cases e : k = 0
  ·subst e; exact ⟨0, .z⟩
  ·obtain ⟨q, hq⟩ := b3b h2
   obtain ⟨b, x, p, e1, _, e3, _, e5, _⟩ := ht.t k q (by omega) hq
   obtain ⟨n, hn⟩ := p2t ht d b (by omega) (b1k e5)
   exact ⟨n + 1, .s (by omega) e1 hn⟩
theorem p3t {s : S3} (ht : Tr m c hd s) : ∀ {k n : Nat}, Dp s k n -> k < s.1.length -> ∀ l : List Int, l.length + k <= 768 -> ∃ r, b0w (b73 ⟨s.1, s.2.1, s.2.2⟩) ((k : Int), l) = some r /\ r.length = n + l.length := by
 intro k n h
 induction h with
 | z => exact fun _ l _ => ⟨l, b3d (by unfold b73; simp), by omega⟩
 | @s k b n hk hb h ih =>
  intro hlt l hl
  obtain ⟨q, hq⟩ := b3b hlt
  obtain ⟨b', x, p, e1, e2, e3, e4, e5, _⟩ := ht.t k q hk hq
  have eb : b' = b := by rw [hb] at e1; have := Option.some.inj e1; omega
  subst eb
  obtain ⟨r, h1, h2⟩ := ih (b1k e5) ((x : Int) :: l) (by simp; omega)
  refine ⟨r, ?_, by rw [h2]; simp; omega⟩
  rw [<- h1]
  refine b32 ?_
  unfold b73
  have : 0 < (k : Int) := by omega
  simp only [b1h e1, b1h e2, bS9, this, decide_true, if_true]
  rw [b6d (by simp) (by omega) (by omega), bS9]; rfl
theorem p27 (hm : OkM m) {K : Nat} (hK : End m c hd K) : ∀ {P : List Nat} {i n : Nat} {p q : Place}, (b0h m c hd K).1[i]? = some p -> Dp (b0h m c hd K) i n -> o8f m c hd p P q -> ∃ n', Dp (b0h m c hd K) ((b0h m c hd K).1.idxOf q) n' /\ n' <= n + P.length
 | [], i, n, p, q, hp, hd0, h => by
  cases h
  have hn := (c49 (c := c) (hd := hd) hm K).n
  have e : (b0h m c hd K).1.idxOf p = i := by
   have h1 := d2b (b1d.2 ⟨i, hp⟩)
   have hlt := b1k hp
   have hlt' := b1k h1
   rw [gG9 hlt] at hp
   rw [gG9 hlt'] at h1
   have := (List.getElem_inj hn).1 ((Option.some.inj h1).trans (Option.some.inj hp).symm)
   exact this
  rw [e]; exact ⟨n, hd0, by simp⟩
 | x :: P, i, n, p, q, hp, hd0, ⟨h1, h2, h3⟩ => by
  have hiK : i < K := by have := b1k hp; have := hK.2.2; omega
  have hmemK := closed hp hiK h2 h1
  obtain ⟨p', hp'⟩ := b3b (hK.2.1 i hiK)
  have hpp : p' = p := by have := c0r (d4g (m := m) (c := c) (hd := hd) (show i <= K by omega)) hp'; rw [hp] at this; exact (Option.some.inj this).symm
  subst hpp
  have hp1 := c0r (c3y (m := m) (c := c) (hd := hd) i) hp'
  have hmem := closed (m := m) (c := c) (hd := hd) (k := i + 1) hp1 (by omega) h2 h1
  have eidx := j4z (d4g (m := m) (c := c) (hd := hd) (show i + 1 <= K by omega)) hmem
  have hj := d2b hmemK
  have hjlt := b1k hj
  obtain ⟨n1, hn1⟩ := p2t (d4h (c := c) (hd := hd) hm K) _ _ (Nat.le_refl _) hjlt
  have hstep : ∀ j, j = (b0h m c hd K).1.idxOf (nxt m p' (hd x)) -> Dp (b0h m c hd K) j n1 -> n1 <= n + 1 := fun j ej hj1 => by
   cases hj1 with
   | z => omega
   | @s _ b n2 hk hb hb' =>
    rw [ej] at hb
    have hlt1 := List.idxOf_lt_length_iff.2 hmem
    have hback : (b0h m c hd (i + 1)).2.1[(b0h m c hd K).1.idxOf (nxt m p' (hd x))]? = some (b : Int) := by
     rw [eidx] at hb ⊢
     obtain ⟨b2, hb2⟩ := b3b (l := (b0h m c hd (i + 1)).2.1) (k := (b0h m c hd (i + 1)).1.idxOf (nxt m p' (hd x))) (by rw [(c49 (c := c) (hd := hd) hm (i + 1)).b]; exact hlt1)
     have := c0r (p3n (m := m) (c := c) (hd := hd) (show i + 1 <= K by omega)) hb2
     rw [hb] at this
     rw [hb2]; exact this.symm
    have := (p2m (m := m) (c := c) (hd := hd) (i + 1)).l _ _ hback
    have := p26 (p2m (m := m) (c := c) (hd := hd) K).m hb' hd0 (by omega)
    omega
  obtain ⟨n', hn', hle⟩ := p27 hm hK hj hn1 h3
  have := hstep _ rfl hn1
  exact ⟨n', hn', by simp; omega⟩
theorem p39 (hm : OkM m) {r : List Int × Bool} (hs : d5x m c never hd r) {P : List Nat} {q : Place} (hg : o8f m c hd zero P q) (hh : b46 m q 0 never = true) : r.2 = true /\ r.1.length <= P.length := by
 obtain ⟨K, hK, h | h⟩ := hs
 ·have := h.2 q (p2w hK (p24 K) hg)
  rw [hh] at this; cases this
 ·obtain ⟨k, q', P', rfl, h1, h2, h3, h4, h5, h6⟩ := h
  refine ⟨rfl, ?_⟩
  have ht := d4h (c := c) (hd := hd) hm K
  have hgood := c49 (c := c) (hd := hd) hm K
  have hlen := c0q hm hgood.n hgood.o
  obtain ⟨n', hn', hle⟩ := p27 hm hK (i := 0) ht.z .z hg
  obtain ⟨n, hn⟩ := p2t ht k k (Nat.le_refl _) (b1k h1)
  obtain ⟨l, hl1, hl2⟩ := p3t ht hn (b1k h1) [] (by have := b1k h1; simp; omega)
  unfold b4c c6e at h6
  rw [hl1, bS9] at h6
  have hlk := Option.some.inj h6
  have hk : k <= (b0h m c hd K).1.idxOf q := by
   refine Classical.byContradiction fun hlt => ?_
   have := h3 _ q (by omega) (d2b (p2w hK (p24 K) hg))
   rw [hh] at this; cases this
  have := p26 (p2m (m := m) (c := c) (hd := hd) K).m hn hn' hk
  simp only
  rw [<- hlk, hl2]
  simp
  omega
end
end
end Go.Nw.KM
namespace Go.Nw.KM
noncomputable section
theorem p3j {m : Machine} (hf : ∀ n ∈ b3g m, n.size <= maxLen) {c : List (List Literal)} (hm : OkM m) (hc : b2s m true c) : ∃ K, End m c idn K /\ p2e m c = some ((b0h m c idn K).1, 0) := by
 obtain ⟨e, h1, h2⟩ := d6t hf (l := [c]) (by simp)
 have he : e = 0 := d6z h2 (.inl ⟨rfl, hm, fun x hx => by simp at hx; subst hx; exact hc⟩)
 subst he
 obtain ⟨K, hK⟩ := g2u (c := c) (hd := idn) hm
 unfold p2e
 rw [h1, bS9, if_neg (by simp), show b3h m = ⟨⟨m⟩⟩ from rfl, d7u (hd := idn) hm hc (heard := fun z7 => some (b6f z7)) (fun x _ => rfl) hK]
 exact ⟨K, hK, rfl⟩
theorem p3c {m : Machine} (x : Nat) (hx : x < 2 ^ m.Inputs.length) : b6a x (-1) 0 = some (idn x) /\ OkX m (idn x) := ⟨d9s x, by
 have : ((2 ^ m.Inputs.length : Nat) : Int) = 2 ^ m.Inputs.length := by simp
 unfold OkX In; show 0 <= (x : Int) /\ (x : Int) < _; omega⟩
theorem p32 {m : Machine} {hd : Nat -> Int} {l : List Int} (hl : l.length <= 900) : get (tab (l.length + 1) (plc m hd zero l)) (wr ((List.length (tab (l.length + 1) (plc m hd zero l)) : Int) - 1)) = some (plc m hd zero l l.length) := by
 rw [c1n (by rw [b3y]; exact b1o (by omega)), b3y]
 have : ((l.length + 1 : Nat) : Int) - 1 = (l.length : Nat) := by omega
 rw [this]
 exact c2y (by omega)
theorem p29 {m : Machine} {c never : List (List Literal)} {l : List Place} (h : ∀ i, i < l.length -> l20 m c never l i = false) : (∀ q ∈ l, b46 m q 0 never = false) /\ ∀ q ∈ l, ∀ x : Nat, x < 2 ^ m.Inputs.length -> b22 m q x c = true -> nxt m q (idn x) ∈ l := by
 have key : ∀ q ∈ l, b46 m q 0 never = false /\ b5q (2 ^ m.Inputs.length) (c24 m c l q) = none := fun q hq => by
  obtain ⟨k, hk⟩ := b1d.1 hq
  have := h k (b1k hk)
  unfold l20 at this
  rw [o8p hk, Bool.or_eq_false_iff, Option.isSome_eq_false_iff, Option.isNone_iff_eq_none] at this
  exact this
 refine ⟨fun q hq => (key q hq).1, fun q hq x hx ha => ?_⟩
 have := d72.1 (key q hq).2 x hx
 unfold c24 at this
 rw [ha] at this
 simpa using this
section
variable [Bd]
theorem p34 (m : Machine) (c : l04_Conds) (x : l04_Claim) (hm0 : b9d m) (hc0 : c54 c) (hx0 : p2j x) : p2g m c x = some true := by
 have hf := l5y hm0
 obtain ⟨b, hb⟩ := l7h hf
 obtain ⟨e, he1, he2⟩ := d5s hf (l := [c.Assume, c.Never]) (by simp)
 unfold p2g
 rw [hb, bS9, he1, bS9]
 cases b with
 | true => rfl
 | false =>
 simp only [fT9, if_false, bS9]
 by_cases he : e = 0
 case neg => rw [if_pos (by simp [he])]; rfl
 subst he
 obtain ⟨hm, hc, hn⟩ := d6y he2
 by_cases h60 : (60 : Int) < (x.Run.length : Int)
 ·rw [if_pos (by simp [h60])]; rfl
 by_cases h200 : (200 : Int) < (x.Places.length : Int)
 ·rw [if_pos (by simp [h200])]; rfl
 rw [if_neg (by simp only [Bool.or_eq_true, decide_eq_true_eq, not_or]; exact ⟨⟨by simp, h60⟩, h200⟩)]
 obtain ⟨r, r1, _, r3, r4, r5⟩ := g5j hf c.Assume c.Never
 have hr0 : r.2.2 = 0 := d6z r4 he2
 have hs := r5 hr0
 obtain ⟨K, hK, hr⟩ := p3j hf hm hc
 have hgood := c49 (c := c.Assume) (hd := idn) hm K
 have hlen := c0q hm hgood.n hgood.o
 rw [r1, bS9, hr, bS9, if_neg (by simp [hr0])]
 obtain ⟨pr, p1, _, p3⟩ := o85 hf c.Assume c.Never (b0h m c.Assume idn K).1
 -- what stands in the list of all situations
 have hflaw : (∀ i, i < (b0h m c.Assume idn K).1.length -> l20 m c.Assume c.Never (b0h m c.Assume idn K).1 i = false) ↔ ∀ q ∈ (b0h m c.Assume idn K).1, b46 m q 0 c.Never = false := by
  constructor
  ·exact fun h => (p29 h).1
  ·intro h i hi
   obtain ⟨q, hq⟩ := b3b hi
   unfold l20
   rw [o8p hq, h q (b1d.2 ⟨i, hq⟩), Bool.false_or, Option.isSome_eq_false_iff, Option.isNone_iff_eq_none, d72]
   intro x hx
   unfold c24
   cases ha : b22 m q x c.Assume with
   | false => rfl
   | true => simp [closed hq (by have := hK.2.2; omega) ha hx]
 have hbr : r.2.1 = true ↔ ∃ q ∈ (b0h m c.Assume idn K).1, b46 m q 0 c.Never = true := by
  obtain ⟨K', hK', h | h⟩ := hs
  ·have := p28 hK hK'
   subst this
   have e2 : r.2.1 = false := congrArg Prod.snd h.1
   rw [e2]
   simp only [fT9, false_iff, not_exists, not_and]
   intro q hq hh
   rw [h.2 q hq] at hh; cases hh
  ·have := p28 hK hK'
   subst this
   obtain ⟨k, q, P, e1, e2, e3, _⟩ := h
   have e4 : r.2.1 = true := congrArg Prod.snd e1
   rw [e4]
   simp only [true_iff]
   exact ⟨q, b1d.2 ⟨k, e2⟩, e3⟩
 have hpr : pr.2.2 = 0 /\ (pr.2.1 = true ↔ r.2.1 = false) := by
  rcases p3 with ⟨_, h2, h3⟩ | ⟨_, h⟩
  ·exact absurd (d6z h3 he2) h2
  ·rcases h with ⟨_, h, _⟩ | ⟨_, _, _, q, hq, h⟩ | ⟨h1, _, _, h2⟩
   ·omega
   ·exact absurd (hgood.o q hq) h
   ·refine ⟨h1, ?_⟩
    rw [h2, hflaw, <- Bool.not_eq_true, hbr]
    constructor
    ·rintro ⟨_, h⟩ ⟨q, hq, hh⟩
     rw [h q hq] at hh; cases hh
    ·intro h
     exact ⟨p24 K, fun q hq => c19 fun hh => h ⟨q, hq, hh⟩⟩
 rw [p1, bS9, if_neg (by
  rw [hpr.1]
  simp only [not_true_eq_false, decide_false, Bool.false_or]
  intro h
  have h3 := hpr.2
  revert h h3
  cases pr.2.1 <;> cases r.2.1 <;> simp [b5c])]
 have rest : p18 m c x r = some true := by
  unfold p18
  obtain ⟨px, q1, _, q3⟩ := o85 hf c.Assume c.Never x.Places
  have hsp : o84 m c.Assume c.Never x.Places px := by
   rcases q3 with ⟨_, h2, h3⟩ | ⟨_, h⟩
   ·exact absurd (d6z h3 he2) h2
   ·exact h
  rw [q1, bS9]
  rw [if_neg (by
   rcases hsp with ⟨_, h, _⟩ | ⟨h1, _, h2, _⟩ | ⟨h1, _, _, h2⟩
   ·omega
   ·rw [h1, h2]; simp
   ·rw [h1]
    simp only [decide_true, Bool.true_and, not_true_eq_false, decide_false, Bool.false_and, Bool.or_false, Bool.and_eq_true, not_and]
    intro h3 h4
    obtain ⟨hz, hfl⟩ := h2.1 h3
    obtain ⟨f1, f2⟩ := p29 hfl
    obtain ⟨K', hK', h | ⟨k, q, P, e1, e2, e3, _, e5, _⟩⟩ := hs
    ·have := congrArg Prod.snd h.1
     simp only at this
     rw [h4] at this; cases this
    ·have := f1 q (p3a f2 hz e5)
     rw [e3] at this; cases this)]
  rcases p3d hf hm hc (fun y hy => p3c y hy) (l := x.Run) (by omega) with ⟨hfair, hp⟩ | ⟨_, hp⟩
  case inr => rw [hp, bS9]; rfl
  rw [hp, bS9]
  simp only [Bool.not_true, fT9, if_false]
  have := b4h (f := p2h m c r (tab (x.Run.length + 1) (plc m idn zero x.Run), true)) (x.Run.length + 1) (fun (_ : Unit) k => k) (fun _ => ()) (.inl ()) (s0 := ()) rfl (fun k hk => by
    unfold p2h
    simp only [b3y, Int.ofNat_lt, hk, decide_true, if_true, c2y hk, bS9, c5x hm.z (p2n (hd := idn) hm (o5b hm) x.Run k).s hn, b2r hk (b1o (by omega))]
    rw [if_neg]
    intro h
    simp only [Bool.and_eq_true, Bool.or_eq_true, Bool.not_eq_true', decide_eq_true_eq] at h
    obtain ⟨P, g1, g2⟩ := p3e x.Run hfair k (by omega)
    obtain ⟨s1, s2⟩ := p39 hm hs g2 h.1
    simp only at s1 s2
    rcases h.2 with h3 | h3
    ·rw [s1] at h3; cases h3
    ·omega) (by
    unfold p2h
    simp only [b3y, Int.lt_irrefl, decide_false, fT9, if_false])
  rw [this]; rfl
 cases hrt : r.2.1 with
 | false => rw [if_neg (by simp)]; exact rest
 | true =>
  rw [if_pos rfl]
  obtain ⟨K', hK', h | ⟨k, q, P, e1, e2, e3, _, e5, e6, _⟩⟩ := hs
  ·have := congrArg Prod.snd h.1
   simp only at this
   rw [hrt] at this; cases this
  ·have er : r.1 = b27 P := congrArg Prod.fst e1
   have hgood' := c49 (c := c.Assume) (hd := idn) hm K'
   have hlen' := c0q hm hgood'.n hgood'.o
   have hlt := b1k e2
   obtain ⟨f1, f2⟩ := p3b e5
   rw [er]
   rcases p3d hf hm hc (fun y hy => p3c y hy) (l := b27 P) (by rw [g0o]; omega) with ⟨hfair, hp⟩ | ⟨hno, _⟩
   case inr => exact absurd f1 hno
   rw [hp, bS9]
   simp only [Bool.not_true, fT9, if_false]
   rw [p32 (by rw [g0o]; omega), bS9, g0o, f2, c5x hm.z (hgood'.o q (b1d.2 ⟨k, e2⟩)).s hn, bS9, bS9, e3]
   simp only [Bool.not_true, fT9, if_false]
   exact rest
end
end
end Go.Nw.KM
