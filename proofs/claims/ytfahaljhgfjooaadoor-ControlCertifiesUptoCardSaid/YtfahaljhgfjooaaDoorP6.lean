/- Plain laws on the models. -/
import Derived.Test.YtfahaljhgfjooaaDoorP5
import Derived.Test.YtfahaljhgfjooaaDoorNwFirst
set_option linter.all false
namespace Go.Nw.KM
noncomputable section
theorem o8t {m : Machine} {p : Place} : OkP m p ↔ In p.State m.States.length /\ b5q 2 (fun k => !(b2q (if (k : Int) = 0 then p.Values.1 else p.Values.2) 0 (b56 m k))) = none := by
 rw [d72]
 constructor
 ·intro h
  refine ⟨h.s, fun t ht => ?_⟩
  have : t = 0 \/ t = 1 := by omega
  rcases this with rfl | rfl
  ·have := b6t.2 h.a; simp [this]
  ·have := b6t.2 h.b; simp [this]
 ·rintro ⟨h1, h2⟩
  have h3 := h2 0 (by omega)
  have h4 := h2 1 (by omega)
  simp only [Bool.not_eq_false', Int.natCast_zero, if_true, b6t] at h3
  simp only [Bool.not_eq_false', show ¬ ((1 : Nat) : Int) = 0 by decide, if_false, b6t] at h4
  exact ⟨h1, h3, h4⟩
theorem o8q {m : Machine} (hm : OkM m) {p : Place} : ∃ b, b2q p.State 0 (wr ((List.length m.States : Int) - 1)) = b /\ (b = true ↔ In p.State m.States.length) := by
 have := hm.z.s
 rw [c1n (b1o (by omega))]
 refine ⟨_, rfl, ?_⟩
 rw [b6t]
 unfold In
 omega
theorem o8s {m : Machine} {k : Nat} : (k < m.Counters.length /\ ∃ c, get m.Counters k = some c /\ c.Max = b56 m k) \/ (¬ k < m.Counters.length /\ b56 m k = 0) := by
 by_cases h : k < m.Counters.length
 ·obtain ⟨c, hc⟩ := b3b h
  exact .inl ⟨h, c, b1h hc, by unfold b56; rw [hc]⟩
 ·exact .inr ⟨h, by unfold b56; rw [List.getElem?_eq_none (by omega)]⟩
theorem o8o {m : Machine} (hm : OkM m) (p : Place) : ∃ b, o7s ⟨m⟩ p = some b /\ (b = true ↔ OkP m p) := by
 unfold o7s o73
 have step : ∀ k : Nat, k < 2 -> o7t ⟨m⟩ p k = (if (!(b2q (if (k : Int) = 0 then p.Values.1 else p.Values.2) 0 (b56 m k))) = true then some (.br (.inr false)) else some (.nx ((k : Int) + 1))) := fun k hk => by
  have h2 : (k : Int) < 2 := by omega
  unfold o7t o7u
  simp only [h2, decide_true, if_true, c2x (show In (k : Int) 2 from ⟨by omega, by omega⟩), bS9, Int.ofNat_lt]
  rcases o8s (m := m) (k := k) with ⟨h3, c, h4, h5⟩ | ⟨h3, h4⟩
  ·simp only [h3, decide_true, if_true, h4, bS9, h5, b2r hk (show 2 <= maxLen by decide)]
  ·simp only [h3, decide_false, fT9, if_false, h4, b2r hk (show 2 <= maxLen by decide)]
 rw [c7s (f := o7t ⟨m⟩ p) (n := 2) (p := fun k => !(b2q (if (k : Int) = 0 then p.Values.1 else p.Values.2) 0 (b56 m k))) (e := fun _ => .inr false) (u := .inl ()) (fun t ht hp => by rw [step t ht, if_pos hp]) (fun t ht hp => by rw [step t ht, if_neg (by rw [hp]; simp)]) (by rfl), o8t]
 obtain ⟨b, h1, h2⟩ := o8q hm (p := p)
 cases b5q 2 (fun k => !(b2q (if (k : Int) = 0 then p.Values.1 else p.Values.2) 0 (b56 m k))) with
 | none => exact ⟨b, by simp only [bS9, h1], by rw [h2]; simp⟩
 | some t => exact ⟨false, rfl, by simp⟩
theorem o83 {m : Machine} (hm : OkM m) (p : Place) : ∃ b, o7y m p = some b /\ (b = true ↔ OkP m p) := by
 unfold o7y o77
 have step : ∀ k : Nat, k < 2 -> o7z m p k = (if (!(b2q (if (k : Int) = 0 then p.Values.1 else p.Values.2) 0 (b56 m k))) = true then some (.br (.inr false)) else some (.nx ((k : Int) + 1))) := fun k hk => by
  have h2 : (k : Int) < 2 := by omega
  have e : ∀ x y : Int, b2b x 0 y = b2q x 0 y := fun x y => by rw [Bool.eq_iff_iff, b6g, b6t]
  unfold o7z o70
  simp only [h2, decide_true, if_true, c2x (show In (k : Int) 2 from ⟨by omega, by omega⟩), bS9, Int.ofNat_lt, e]
  rcases o8s (m := m) (k := k) with ⟨h3, c, h4, h5⟩ | ⟨h3, h4⟩
  ·simp only [h3, decide_true, if_true, h4, bS9, h5, b2r hk (show 2 <= maxLen by decide)]
  ·simp only [h3, decide_false, fT9, if_false, h4, b2r hk (show 2 <= maxLen by decide)]
 rw [c7s (f := o7z m p) (n := 2) (p := fun k => !(b2q (if (k : Int) = 0 then p.Values.1 else p.Values.2) 0 (b56 m k))) (e := fun _ => .inr false) (u := .inl ()) (fun t ht hp => by rw [step t ht, if_pos hp]) (fun t ht hp => by rw [step t ht, if_neg (by rw [hp]; simp)]) (by rfl), o8t]
 obtain ⟨b, h1, h2⟩ := o8q hm (p := p)
 have e : b2b p.State 0 (wr ((List.length m.States : Int) - 1)) = b := by rw [<- h1, Bool.eq_iff_iff, b6g, b6t]
 rw [e]
 cases b with
 | false => exact ⟨false, rfl, by rw [<- h2]; simp⟩
 | true =>
  rw [if_neg (by simp), <- h2]
  cases b5q 2 (fun k => !(b2q (if (k : Int) = 0 then p.Values.1 else p.Values.2) 0 (b56 m k))) with
  | none => exact ⟨true, rfl, by simp⟩
  | some t => exact ⟨false, rfl, by simp⟩
theorem o82 {m : Machine} (hs : SizesOk m) : c1y ⟨m⟩ = some ((2 ^ m.Inputs.length : Nat) : Int) := by
 unfold c1y
 have := hs.i
 simp only
 rw [c83 (by omega)]; simp
theorem o8p {α : Type} {l : List α} {k : Nat} {x z : α} (h : l[k]? = some x) : l.getD k z = x := by
 rw [List.getD_eq_getElem?_getD, h]; rfl
section
variable [Bd]
end
end
end Go.Nw.KM
namespace Go.Nw.KM
noncomputable section
section
variable {m : Machine} {c : List (List Literal)} {hd : Nat -> Int}
end
end
end Go.Nw.KM
namespace Go.Nw.KM
noncomputable section
abbrev idn : Nat -> Int := fun x => (x : Int)
section
variable (m : Machine) (c : List (List Literal)) (P : List Place)
def hit (cur : List Bool) (i : Nat) : Bool := (List.range (2 ^ m.Inputs.length)).any fun j => b22 m (P.getD i zero) j c && cur.getD (P.idxOf (nxt m (P.getD i zero) (idn j))) false
end
section
variable {m : Machine} {c : List (List Literal)} {P : List Place}
end
def d17 (m : Machine) (c rest : List (List Literal)) (p : Place) : Prop := ∃ l q, o8f m c idn p l q /\ l10 m q 0 rest = true
structure Calm (m : Machine) (c rest : List (List Literal)) (P : List Place) (cur : List Bool) : Prop where
 n : cur.length = P.length
 s : ∀ i, i < P.length -> cur.getD i false = true -> d17 m c rest (P.getD i zero)
 r : ∀ i, i < P.length -> l10 m (P.getD i zero) 0 rest = true -> cur.getD i false = true
section
variable {m : Machine} {c rest : List (List Literal)} {P : List Place}
end
section
variable {m : Machine} {c rest : List (List Literal)} {K : Nat}
end
end
end Go.Nw.KM
namespace Go.Nw.KM
noncomputable section
def hs (i v : Nat) (x : Nat) : Int := (b6a x i v).getD 0
theorem d6y {m : Machine} {c n : List (List Literal)} (h : b7w m [c, n] 0) : OkM m /\ b2s m true c /\ b2s m true n := by
 rcases h with ⟨_, a, b⟩ | ⟨e, _⟩ | ⟨e, _⟩
 ·exact ⟨a, b c (by simp), b n (by simp)⟩
 ·cases e
 ·cases e
theorem d50 (b : Bool) : b5c b b = true := by cases b <;> rfl
section
variable [Bd]
end
end
end Go.Nw.KM
namespace Go.Nw.KM
noncomputable section
section
variable {m : Machine} {c rest : List (List Literal)} {K : Nat}
end
section
variable [Bd]
end
end
end Go.Nw.KM
namespace Go.Nw.KM
noncomputable section
theorem o9k {κ ν : Type} [DecidableEq κ] {l : List (κ × ν)} {k q : κ} {v : ν} : q ∈ (b3w l k v).map (·.1) ↔ q = k \/ q ∈ l.map (·.1) := by
 by_cases h : k ∈ l.map (·.1)
 ·unfold b3w
  cases hm : b2u l k 0 with
  | none => exact absurd h (c0k.1 hm)
  | some p =>
   obtain ⟨d, h1, h2⟩ := c7w (v := p.2) (j := p.1) hm
   have e : (l.set p.1 (k, v)).map (·.1) = l.map (·.1) := by
    apply List.ext_getElem?
    intro i
    rw [List.getElem?_map, List.getElem?_map, List.getElem?_set]
    split
    ·rename_i hi
     have hd : p.1 = d := by omega
     rw [hd] at hi
     subst hi
     rw [h2, if_pos (b1k (by rw [hd]; exact h2)) ]
     rfl
    ·rfl
   obtain ⟨p1, p2⟩ := p
   simp only at e ⊢
   rw [e]
   exact ⟨.inr, fun hh => hh.elim (fun hh => hh ▸ h) id⟩
 ·rw [g1w h]; simp only [List.map_append, List.map_cons, List.map_nil, List.mem_append, List.mem_singleton]
  exact ⟨fun hh => hh.elim .inr .inl, fun hh => hh.elim .inr .inl⟩
def lst (l : List Place) : Nat -> List (Place × Int)
 | 0 => []
 | k + 1 => match l[k]? with | some q => b3w (lst l k) q (k : Int) | none => lst l k
theorem o8k {l : List Place} {q : Place} : ∀ k, q ∈ (lst l k).map (·.1) ↔ q ∈ l.take k
 | 0 => by simp [lst]
 | k + 1 => by
  unfold lst
  rw [List.take_add_one]
  cases hx : l[k]? with
  | none => simp only; rw [o8k k]; simp
  | some x => simp only; rw [o9k, o8k k]; simp; exact or_comm
theorem o8r {l : List Place} {q : Place} : b6m (lst l l.length) q = decide (q ∈ l) := by
 rw [Bool.eq_iff_iff, j78, o8k, List.take_length, decide_eq_true_eq]
def l29 (m : Machine) (c : List (List Literal)) (l : List Place) (q : Place) (x : Nat) : Bool := b22 m q x c && !(decide (nxt m q (idn x) ∈ l))
def l31 (m : Machine) (c never : List (List Literal)) (l : List Place) (i : Nat) : Bool := l10 m (l.getD i zero) 0 never || (b5q (2 ^ m.Inputs.length) (l29 m c l (l.getD i zero))).isSome
def o84 (m : Machine) (c never : List (List Literal)) (l : List Place) (r : Int × Bool × Int) : Prop :=
 (r.2.2 = 2 /\ 1000 < l.length /\ r.2.1 = false) \/ (r.2.2 = 1 /\ l.length <= 1000 /\ r.2.1 = false /\ ∃ q ∈ l, ¬ OkP m q) \/
 (r.2.2 = 0 /\ l.length <= 1000 /\ (∀ q ∈ l, OkP m q) /\ (r.2.1 = true ↔ (zero ∈ l /\ ∀ i, i < l.length -> l31 m c never l i = false)))
theorem o85 {m : Machine} (hf : ∀ n ∈ b3g m, n.size <= maxLen) (c never : List (List Literal)) (l : List Place) :
  ∃ r, o7v m c never l = some r /\ o71 m c never l = some r /\ ((r.2.1 = false /\ r.2.2 ≠ 0 /\ b7w m [c, never] r.2.2) \/ (b7w m [c, never] 0 /\ o84 m c never l r)) := by
 obtain ⟨e, h1, h2⟩ := d6t hf (l := [c, never]) (by simp)
 obtain ⟨e', h3, h4⟩ := d5s hf (l := [c, never]) (by simp)
 obtain rfl := d6z h2 h4
 unfold o7v o71
 rw [h1, h3, bS9, bS9]
 by_cases he : e = 0
 case neg =>
  refine ⟨(0, false, e), ?_, ?_, .inl ⟨rfl, he, h2⟩⟩ <;> rw [if_pos (by simpa using he)]
 subst he
 obtain ⟨hm, hc, hn⟩ := d6y h2
 have hpow := c30 hm.z
 have h00 : ¬ (decide (¬ (0 : Int) = 0) = true) := by simp
 rw [if_neg h00, if_neg h00]
 by_cases hl : (1000 : Int) < (l.length : Int)
 ·exact ⟨(0, false, 2), by rw [if_pos (by simpa using hl)], by rw [if_pos (by simpa using hl)], .inr ⟨h2, .inl ⟨rfl, by omega, rfl⟩⟩⟩
 have hl' : l.length <= 1000 := by omega
 rw [if_neg (by simpa using hl), if_neg (by simpa using hl)]
 have p1 := g1j (f := l43 m l) l (fun (s : List (Place × Int)) k => (s, k)) (fun k => lst l k) (fun _ q => ¬ OkP m q) (.inr (0, false, 1)) (.inl (lst l l.length)) (fun k x _ hx hb => by
   have hk := b1k hx
   obtain ⟨b, a1, a2⟩ := o8o hm x
   have : b = false := c19 fun h => hb (a2.1 h)
   subst this
   unfold l43
   simp only [Int.ofNat_lt, hk, decide_true, if_true, b1h hx, bS9, show b3h m = ⟨⟨m⟩⟩ from rfl, c74, a1, Bool.not_false]) (fun k x _ hx hb => by
   have hk := b1k hx
   obtain ⟨b, a1, a2⟩ := o8o hm x
   have : b = true := a2.2 (Classical.not_not.1 hb)
   subst this
   unfold l43
   simp only [Int.ofNat_lt, hk, decide_true, if_true, b1h hx, bS9, show b3h m = ⟨⟨m⟩⟩ from rfl, c74, a1, Bool.not_true, fT9, if_false, b2r hk (b1o hl')]
   rw [show lst l (k + 1) = b3w (lst l k) x (k : Int) from by conv => lhs; unfold lst; rw [hx]]) (by
   unfold l43
   simp only [Int.lt_irrefl, decide_false, fT9, if_false]) (s0 := []) rfl
 have p2 := b4j (f := o72 m l) (l := l) (p := fun _ q => ¬ OkP m q) (e := .inr (0, false, 1)) (u := .inl ()) (b1o hl') (fun k x hx => by
   have hk := b1k hx
   obtain ⟨b, a1, a2⟩ := o83 hm x
   refine ⟨!b, ?_, by rw [<- a2]; simp⟩
   unfold o72
   simp only [Int.ofNat_lt, hk, decide_true, if_true, b1h hx, bS9, a1]) (by unfold o72; simp only [Int.lt_irrefl, decide_false, fT9, if_false])
 rcases p1 with ⟨a1, a2⟩ | ⟨⟨k, x, a1, a1'⟩, a2⟩ <;> rcases p2 with ⟨a3, a4⟩ | ⟨⟨k', x', a3, a3'⟩, a4⟩
 ·have ho : ∀ q ∈ l, OkP m q := fun q hq => by obtain ⟨k, hk⟩ := b1d.1 hq; exact Classical.not_not.1 (a1 k q hk)
  rw [a2, a4, bS9, bS9]
  simp only
  unfold o76 o8a
  have in1 : ∀ (i : Nat) q, l[i]? = some q -> b0w (l33 m c (lst l l.length) i q ((2 ^ m.Inputs.length : Nat) : Int)) 0 = some (match b5q (2 ^ m.Inputs.length) (l29 m c l q) with | some _ => .inr ((i : Int), false, 0) | none => .inl ()) := fun i q hq => by
   have hoq := ho q (b1d.2 ⟨i, hq⟩)
   have st : ∀ x : Nat, x < 2 ^ m.Inputs.length -> l33 m c (lst l l.length) i q ((2 ^ m.Inputs.length : Nat) : Int) x = (if l29 m c l q x = true then some (.br (.inr ((i : Int), false, 0))) else some (.nx ((x : Int) + 1))) := fun x hx => by
    unfold l33 o7w
    simp only [Int.ofNat_lt, hx, decide_true, if_true, show b3h m = ⟨⟨m⟩⟩ from rfl, c74, g5i hm.z hoq.s hc, bS9, b2r hx (b1o (by omega))]
    unfold l29
    cases ha : b22 m q x c with
    | false => simp
    | true =>
     rw [g5u hm hoq, bS9, o8r]
     simp
   exact c7s (f := l33 m c (lst l l.length) i q ((2 ^ m.Inputs.length : Nat) : Int)) (p := l29 m c l q) (e := fun _ => .inr ((i : Int), false, 0)) (u := .inl ()) (fun x hx hp => by rw [st x hx, if_pos hp]) (fun x hx hp => by rw [st x hx, if_neg (by rw [hp]; simp)]) (by
    unfold l33
    simp only [Int.lt_irrefl, decide_false, fT9, if_false])
  have in2 : ∀ (i : Nat) q, l[i]? = some q -> b0w (l41 m c l i) 0 = some (match b5q (2 ^ m.Inputs.length) (l29 m c l q) with | some _ => .inr ((i : Int), false, 0) | none => .inl ()) := fun i q hq => by
   have hoq := ho q (b1d.2 ⟨i, hq⟩)
   have st : ∀ x : Nat, x < 2 ^ m.Inputs.length -> l41 m c l i x = (if l29 m c l q x = true then some (.br (.inr ((i : Int), false, 0))) else some (.nx ((x : Int) + 1))) := fun x hx => by
    unfold l41
    simp only [b9j hm.z, bS9, Int.ofNat_lt, hx, decide_true, if_true, b1h hq, d5o hm.z hoq.s hc, b2r hx (b1o (by omega))]
    unfold l29
    cases ha : b22 m q x c with
    | false => simp
    | true =>
     simp only [if_true]
     rw [d5u hm hoq, bS9, g0i hl', bS9, bS9]
     by_cases hin : nxt m q (idn x) ∈ l
     ·rw [if_pos hin]; simp [hin]
     ·rw [if_neg hin]; simp [hin]
   exact c7s (f := l41 m c l i) (p := l29 m c l q) (e := fun _ => .inr ((i : Int), false, 0)) (u := .inl ()) (fun x hx hp => by rw [st x hx, if_pos hp]) (fun x hx hp => by rw [st x hx, if_neg (by rw [hp]; simp)]) (by
    unfold l41
    simp only [b9j hm.z, bS9, Int.lt_irrefl, decide_false, fT9, if_false])
  have s1 : ∀ i : Nat, i < l.length -> o7q m c never l (lst l l.length) i = (if l31 m c never l i = true then some (.br (.inr ((i : Int), false, 0))) else some (.nx ((i : Int) + 1))) := fun i hi => by
   obtain ⟨q, hq⟩ := b3b hi
   have hoq := ho q (b1d.2 ⟨i, hq⟩)
   unfold o7q o75 l31
   simp only [Int.ofNat_lt, hi, decide_true, if_true, b1h hq, bS9, show b3h m = ⟨⟨m⟩⟩ from rfl, c74, c5w hm.z hoq.s hn, o8p hq, b2r hi (b1o hl')]
   cases hh : l10 m q 0 never with
   | true => simp
   | false =>
    simp only [fT9, if_false, Bool.false_or]
    rw [o82 hm.z, bS9, in1 i q hq, bS9]
    cases b5q (2 ^ m.Inputs.length) (l29 m c l q) <;> rfl
  have s2 : ∀ i : Nat, i < l.length -> o7r m c never l i = (if l31 m c never l i = true then some (.br (.inr ((i : Int), false, 0))) else some (.nx ((i : Int) + 1))) := fun i hi => by
   obtain ⟨q, hq⟩ := b3b hi
   have hoq := ho q (b1d.2 ⟨i, hq⟩)
   unfold o7r o79 l31
   simp only [Int.ofNat_lt, hi, decide_true, if_true, b1h hq, bS9, c5x hm.z hoq.s hn, o8p hq, b2r hi (b1o hl')]
   cases hh : l10 m q 0 never with
   | true => simp
   | false =>
    simp only [fT9, if_false, Bool.false_or]
    rw [in2 i q hq, bS9]
    cases b5q (2 ^ m.Inputs.length) (l29 m c l q) <;> rfl
  have e1 := c7s (f := o7q m c never l (lst l l.length)) (n := l.length) (p := l31 m c never l) (e := fun i => .inr ((i : Int), false, 0)) (u := .inl ()) (fun x hx hp => by rw [s1 x hx, if_pos hp]) (fun x hx hp => by rw [s1 x hx, if_neg (by rw [hp]; simp)]) (by
    unfold o7q
    simp only [Int.lt_irrefl, decide_false, fT9, if_false])
  have e2 := c7s (f := o7r m c never l) (n := l.length) (p := l31 m c never l) (e := fun i => .inr ((i : Int), false, 0)) (u := .inl ()) (fun x hx hp => by rw [s2 x hx, if_pos hp]) (fun x hx hp => by rw [s2 x hx, if_neg (by rw [hp]; simp)]) (by
    unfold o7r
    simp only [Int.lt_irrefl, decide_false, fT9, if_false])
  rw [e1, e2, bS9, bS9]
  cases hfi : b5q l.length (l31 m c never l) with
  | some i =>
   obtain ⟨b1, b2, _⟩ := j00 hfi
   refine ⟨((i : Int), false, 0), rfl, rfl, .inr ⟨h2, .inr (.inr ⟨rfl, hl', ho, ?_⟩)⟩⟩
   constructor
   ·intro h; cases h
   ·rintro ⟨_, h⟩; rw [h i b1] at b2; cases b2
  | none =>
   have hno := d72.1 hfi
   simp only
   unfold o74 o78
   rw [g0i hl', bS9, o8r]
   by_cases hz : zero ∈ l
   ·refine ⟨(0, true, 0), ?_, ?_, .inr ⟨h2, .inr (.inr ⟨rfl, hl', ho, by simp only [true_iff]; exact ⟨hz, hno⟩⟩)⟩⟩
    ·rw [show Place.mk 0 (0, 0) = zero from rfl, decide_eq_true hz]; rfl
    ·rw [show Place.mk 0 (0, 0) = zero from rfl, if_pos hz]
     rw [if_neg (by simp)]
   ·refine ⟨((l.length : Int), false, 0), ?_, ?_, .inr ⟨h2, .inr (.inr ⟨rfl, hl', ho, ?_⟩)⟩⟩
    ·rw [show Place.mk 0 (0, 0) = zero from rfl, decide_eq_false hz]; rfl
    ·rw [show Place.mk 0 (0, 0) = zero from rfl, if_neg hz]; rfl
    ·constructor
     ·intro h; cases h
     ·rintro ⟨h, _⟩; exact absurd h hz
 ·exact absurd (Classical.not_not.1 (a1 k' x' a3)) a3'
 ·exact absurd (Classical.not_not.1 (a3 k x a1)) a1'
 ·rw [a2, a4]
  exact ⟨(0, false, 1), rfl, rfl, .inr ⟨h2, .inr (.inl ⟨rfl, hl', rfl, x, b1d.2 ⟨k, a1⟩, a1'⟩)⟩⟩
section
variable [Bd]
theorem o9c (hB : Bd.B <= 1048576) (m : Machine) (c : l04_Conds) (l : List Place) (hm : b9d m) (hc : c54 c) (hl : OkL l42 l) : o7x m c l = some true := by
 have hf := tdm hB hm
 obtain ⟨b, hb⟩ := l7h hf.n
 unfold o7x
 rw [hb, bS9]
 split
 ·rfl
 ·obtain ⟨r, h1, h2, _⟩ := o85 hf.n c.Assume c.Never l
  rw [g5m hf, bS9, d01 (d5j hB hc.1), bS9, d01 (d5j hB hc.2), bS9, b6x (by simp) (Nat.le_trans hl.1 hB) (by omega), bS9, List.nil_append, h1, h2, bS9, bS9, d50]
  simp [c7n]
end
end
end Go.Nw.KM
