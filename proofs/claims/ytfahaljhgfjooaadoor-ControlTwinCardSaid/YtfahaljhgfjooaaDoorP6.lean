/- Plain laws on the models. -/
import Derived.Test.YtfahaljhgfjooaaDoorP5
import Derived.Test.YtfahaljhgfjooaaDoorNwFirst
import Derived.Test.YtfahaljhgfjooaaDoorP2
set_option linter.all false
namespace Go.Nw.KM
noncomputable section
theorem o8t {m : Machine} {p : Place} : OkP m p ↔ In p.State m.States.length /\ b5q 2 (fun k => !(b2q (if (k : Int) = 0 then p.Values.1 else p.Values.2) 0 (b56 m k))) = none := by
 rw [d72]
 constructor
 ·intro h
  refine ⟨h.s, fun t ht => ?_⟩
  have : t = 0 \/ t = 1 := by omega
  rcases this with rfl | rfl
  ·have := b6t.2 h.a; simp [this]
  ·have := b6t.2 h.b; simp [this]
 ·rintro ⟨h1, h2⟩
  have h3 := h2 0 (by omega)
  have h4 := h2 1 (by omega)
  simp only [Bool.not_eq_false', Int.natCast_zero, if_true, b6t] at h3
  simp only [Bool.not_eq_false', show ¬ ((1 : Nat) : Int) = 0 by decide, if_false, b6t] at h4
  exact ⟨h1, h3, h4⟩
theorem o8q {m : Machine} (hm : OkM m) {p : Place} : ∃ b, b2q p.State 0 (wr ((List.length m.States : Int) - 1)) = b /\ (b = true ↔ In p.State m.States.length) := by
 have := hm.z.s
 rw [c1n (b1o (by omega))]
 refine ⟨_, rfl, ?_⟩
 rw [b6t]
 unfold In
 omega
theorem o8s {m : Machine} {k : Nat} : (k < m.Counters.length /\ ∃ c, get m.Counters k = some c /\ c.Max = b56 m k) \/ (¬ k < m.Counters.length /\ b56 m k = 0) := by
 by_cases h : k < m.Counters.length
 ·obtain ⟨c, hc⟩ := b3b h
  exact .inl ⟨h, c, b1h hc, by unfold b56; rw [hc]⟩
 ·exact .inr ⟨h, by unfold b56; rw [List.getElem?_eq_none (by omega)]⟩
theorem o83 {m : Machine} (hm : OkM m) (p : Place) : ∃ b, o7y m p = some b /\ (b = true ↔ OkP m p) := by
 unfold o7y o77
 have step : ∀ k : Nat, k < 2 -> o7z m p k = (if (!(b2q (if (k : Int) = 0 then p.Values.1 else p.Values.2) 0 (b56 m k))) = true then some (.br (.inr false)) else some (.nx ((k : Int) + 1))) := fun k hk => by
  have h2 : (k : Int) < 2 := by omega
  have e : ∀ x y : Int, b2b x 0 y = b2q x 0 y := fun x y => by rw [Bool.eq_iff_iff, b6g, b6t]
  unfold o7z o70
  simp only [h2, decide_true, if_true, c2x (show In (k : Int) 2 from ⟨by omega, by omega⟩), bS9, Int.ofNat_lt, e]
  rcases o8s (m := m) (k := k) with ⟨h3, c, h4, h5⟩ | ⟨h3, h4⟩
  ·simp only [h3, decide_true, if_true, h4, bS9, h5, b2r hk (show 2 <= maxLen by decide)]
  ·simp only [h3, decide_false, fT9, if_false, h4, b2r hk (show 2 <= maxLen by decide)]
 rw [c7s (f := o7z m p) (n := 2) (p := fun k => !(b2q (if (k : Int) = 0 then p.Values.1 else p.Values.2) 0 (b56 m k))) (e := fun _ => .inr false) (u := .inl ()) (fun t ht hp => by rw [step t ht, if_pos hp]) (fun t ht hp => by rw [step t ht, if_neg (by rw [hp]; simp)]) (by rfl), o8t]
 obtain ⟨b, h1, h2⟩ := o8q hm (p := p)
 have e : b2b p.State 0 (wr ((List.length m.States : Int) - 1)) = b := by rw [<- h1, Bool.eq_iff_iff, b6g, b6t]
 rw [e]
 cases b with
 | false => exact ⟨false, rfl, by rw [<- h2]; simp⟩
 | true =>
  rw [if_neg (by simp), <- h2]
  cases b5q 2 (fun k => !(b2q (if (k : Int) = 0 then p.Values.1 else p.Values.2) 0 (b56 m k))) with
  | none => exact ⟨true, rfl, by simp⟩
  | some t => exact ⟨false, rfl, by simp⟩
theorem o82 {m : Machine} (hs : SizesOk m) : c1y ⟨m⟩ = some ((2 ^ m.Inputs.length : Nat) : Int) := by
 unfold c1y
 have := hs.i
 simp only
 rw [c83 (by omega)]; simp
theorem p3i {m : Machine} (hm : OkM m) (x : Int) : ∃ b, p2c ⟨m⟩ x = some b /\ (b = true ↔ OkX m x) := by
 unfold p2c
 have := p2a hm.z
 rw [o82 hm.z, bS9, c1n (b1o (by omega))]
 refine ⟨_, rfl, ?_⟩
 rw [b6t]
 unfold OkX In
 omega
theorem p3v {m : Machine} (hm : OkM m) (x : Int) : ∃ b, b2b x 0 (wr (((2 ^ m.Inputs.length : Nat) : Int) - 1)) = b /\ (b = true ↔ OkX m x) := by
 have := p2a hm.z
 rw [c1n (b1o (by omega))]
 refine ⟨_, rfl, ?_⟩
 rw [b6g]
 unfold OkX In
 omega
def b87 (m : Machine) (l : List Int) : Nat -> Place
 | 0 => zero
 | k + 1 => nxt m (b87 m l k) (l.getD k 0)
theorem r2j {m : Machine} (hm : OkM m) (l : List Int) : ∀ k, OkP m (b87 m l k)
 | 0 => o5b hm
 | k + 1 => l18 hm (r2j hm l k) _
theorem o8p {α : Type} {l : List α} {k : Nat} {x z : α} (h : l[k]? = some x) : l.getD k z = x := by
 rw [List.getD_eq_getElem?_getD, h]; rfl
theorem r3h {m : Machine} (hf : ∀ n ∈ b3g m, n.size <= maxLen) (l : List Int) : ∃ r, r1c m l = some r /\ r26 m l = some r /\ r.1.length <= 200 /\
  ((OkM m /\ l.length <= 200 /\ (∀ x ∈ l, OkX m x) /\ r = (tab l.length fun k => b87 m l (k + 1), 0)) \/ (r.1 = [] /\ r.2 ≠ 0 /\ ¬ (OkM m /\ l.length <= 200 /\ ∀ x ∈ l, OkX m x))) := by
 obtain ⟨e, h1, h2⟩ := g5k hf
 obtain ⟨e', h3, h4⟩ := d5t hf
 unfold r1c r26
 rw [h1, h3, bS9, bS9]
 rcases h2 with ⟨rfl, hm⟩ | ⟨rfl, hm⟩ <;> rcases h4 with ⟨rfl, hm'⟩ | ⟨rfl, hm'⟩
 ·have h00 : ¬ (decide (¬ (0 : Int) = 0) = true) := by simp
  rw [if_neg h00, if_neg h00]
  by_cases hl : (200 : Int) < (l.length : Int)
  ·refine ⟨([], 2), by rw [if_pos (by simpa using hl)], by rw [if_pos (by simpa using hl)], by simp, .inr ⟨rfl, by decide, fun h => by have := h.2.1; omega⟩⟩
  have hl' : l.length <= 200 := by omega
  rw [if_neg (by simpa using hl), if_neg (by simpa using hl)]
  have p1 : ((∀ (k : Nat) x, l[k]? = some x -> OkX m x) /\ b0w (l40 m l) (0, 0, 0, [], 0) = some (.inl (tab l.length fun k => b87 m l (k + 1)))) \/ ((∃ (k : Nat) (x : Int), l[k]? = some x /\ ¬ OkX m x) /\ b0w (l40 m l) (0, 0, 0, [], 0) = some (.inr ([], 1))) := by
   have := g1j (f := l40 m l) l (fun (s : Place × List Place) k => (s.1.State, s.1.Values.1, s.1.Values.2, s.2, k)) (fun k => (b87 m l k, tab k fun i => b87 m l (i + 1))) (fun _ x => ¬ OkX m x) (.inr ([], 1)) (.inl (tab l.length fun k => b87 m l (k + 1))) (fun k x _ hx hb => by
     have hk := b1k hx
     obtain ⟨b, a1, a2⟩ := p3i hm x
     have : b = false := c19 fun h => hb (a2.1 h)
     subst this
     unfold l40
     simp only [Int.ofNat_lt, hk, decide_true, if_true, b1h hx, bS9, show b3h m = ⟨⟨m⟩⟩ from rfl, a1, Bool.not_false]) (fun k x _ hx hb => by
     have hk := b1k hx
     obtain ⟨b, a1, a2⟩ := p3i hm x
     have : b = true := a2.2 (Classical.not_not.1 hb)
     subst this
     unfold l40
     simp only [Int.ofNat_lt, hk, decide_true, if_true, b1h hx, bS9, show b3h m = ⟨⟨m⟩⟩ from rfl, a1, Bool.not_true, fT9, if_false, c74]
     rw [g5u hm (r2j hm l k), bS9, b6d (by rw [b3y]; omega) (by simp) (by omega), bS9, b2r hk (b1o (by omega)), l5w, show b87 m l (k + 1) = nxt m (b87 m l k) x from by conv => lhs; unfold b87; rw [o8p hx]]) (by
     unfold l40
     simp only [Int.lt_irrefl, decide_false, fT9, if_false]) (s0 := (zero, [])) rfl
   rcases this with ⟨a, b⟩ | ⟨a, b⟩
   ·exact .inl ⟨fun k x hx => Classical.not_not.1 (a k x hx), b⟩
   ·exact .inr ⟨a, b⟩
  have p2 := b4j (f := r1u m l) (l := l) (p := fun _ x => ¬ OkX m x) (e := .inr ([], 1)) (u := .inl ()) (b1o (by omega)) (fun k x hx => by
   have hk := b1k hx
   obtain ⟨b, a1, a2⟩ := p3v hm x
   refine ⟨!b, ?_, by rw [<- a2]; simp⟩
   unfold r1u
   simp only [Int.ofNat_lt, hk, decide_true, if_true, b1h hx, bS9, b9j hm.z, a1]) (by unfold r1u; simp only [Int.lt_irrefl, decide_false, fT9, if_false])
  have p3 := b4h (f := r1v m l) l.length (fun (s : Place × List Place) k => (s.2, s.1.State, s.1.Values.1, s.1.Values.2, k)) (fun k => (b87 m l k, tab k fun i => b87 m l (i + 1))) (tab l.length fun k => b87 m l (k + 1)) (s0 := (zero, [])) rfl (fun k hk => by
   obtain ⟨x, hx⟩ := b3b hk
   unfold r1v
   simp only [Int.ofNat_lt, hk, decide_true, if_true, b1h hx, bS9, c74]
   rw [d5u hm (r2j hm l k), bS9, b6d (by rw [b3y]; omega) (by simp) (by omega), bS9, b2r hk (b1o (by omega)), l5w, show b87 m l (k + 1) = nxt m (b87 m l k) x from by conv => lhs; unfold b87; rw [o8p hx]]) (by
   unfold r1v
   simp only [Int.lt_irrefl, decide_false, fT9, if_false])
  simp only [show zero.State = 0 from rfl, show zero.Values.1 = 0 from rfl, show zero.Values.2 = 0 from rfl] at p3
  rcases p1 with ⟨a1, a2⟩ | ⟨⟨k, x, a1, a1'⟩, a2⟩ <;> rcases p2 with ⟨a3, a4⟩ | ⟨⟨k', x', a3, a3'⟩, a4⟩
  ·rw [a2, a4, bS9, bS9]
   refine ⟨(tab l.length fun k => b87 m l (k + 1), 0), rfl, ?_, by simp only [b3y]; exact hl', .inl ⟨hm, hl', fun x hx => ?_, rfl⟩⟩
   ·simp only
    unfold r28 r27
    rw [p3]; rfl
   ·obtain ⟨k, hk⟩ := b1d.1 hx
    exact a1 k x hk
  ·exact absurd (a1 k' x' a3) a3'
  ·exact absurd a1' (a3 k x a1)
  ·rw [a2, a4]
   exact ⟨([], 1), rfl, rfl, by simp, .inr ⟨rfl, by decide, fun h => a1' (h.2.2 x (b1d.2 ⟨k, a1⟩))⟩⟩
 ·exact absurd hm hm'
 ·exact absurd hm' hm
 ·exact ⟨([], 41), rfl, rfl, by simp, .inr ⟨rfl, by decide, fun h => hm h.1⟩⟩
section
variable [Bd]
end
end
end Go.Nw.KM
namespace Go.Nw.KM
noncomputable section
section
variable {m : Machine} {c : List (List Literal)} {hd : Nat -> Int}
end
end
end Go.Nw.KM
namespace Go.Nw.KM
noncomputable section
abbrev idn : Nat -> Int := fun x => (x : Int)
section
variable (m : Machine) (c : List (List Literal)) (P : List Place)
def hit (cur : List Bool) (i : Nat) : Bool := (List.range (2 ^ m.Inputs.length)).any fun j => b22 m (P.getD i zero) j c && cur.getD (P.idxOf (nxt m (P.getD i zero) (idn j))) false
end
section
variable {m : Machine} {c : List (List Literal)} {P : List Place}
end
def d17 (m : Machine) (c rest : List (List Literal)) (p : Place) : Prop := ∃ l q, o8f m c idn p l q /\ b46 m q 0 rest = true
structure Calm (m : Machine) (c rest : List (List Literal)) (P : List Place) (cur : List Bool) : Prop where
 n : cur.length = P.length
 s : ∀ i, i < P.length -> cur.getD i false = true -> d17 m c rest (P.getD i zero)
 r : ∀ i, i < P.length -> b46 m (P.getD i zero) 0 rest = true -> cur.getD i false = true
section
variable {m : Machine} {c rest : List (List Literal)} {P : List Place}
end
section
variable {m : Machine} {c rest : List (List Literal)} {K : Nat}
end
end
end Go.Nw.KM
namespace Go.Nw.KM
noncomputable section
def hs (i v : Nat) (x : Nat) : Int := (b6a x i v).getD 0
section
variable [Bd]
end
end
end Go.Nw.KM
namespace Go.Nw.KM
noncomputable section
theorem d9s (x : Nat) : b6a x (-1) 0 = some (idn x) := g5p x
section
variable {m : Machine} {c rest : List (List Literal)} {K : Nat}
end
section
variable [Bd]
end
end
end Go.Nw.KM
namespace Go.Nw.KM
noncomputable section
section
variable [Bd]
end
end
end Go.Nw.KM
namespace Go.Nw.KM
noncomputable section
def plc (m : Machine) (hd : Nat -> Int) (p : Place) (l : List Int) : Nat -> Place
 | 0 => p
 | k + 1 => nxt m (plc m hd p l k) (hd (l.getD k 0).toNat)
section
variable {m : Machine} {c never : List (List Literal)} {hd : Nat -> Int}
theorem p2n (hm : OkM m) {p : Place} (hp : OkP m p) (l : List Int) : ∀ k, OkP m (plc m hd p l k)
 | 0 => hp
 | k + 1 => l18 hm (p2n hm hp l k) _
theorem p22 {p : Place} {x : Int} {l : List Int} : ∀ k, plc m hd p (x :: l) (k + 1) = plc m hd (nxt m p (hd x.toNat)) l k
 | 0 => by simp [plc]
 | k + 1 => by
  have e : plc m hd p (x :: l) (k + 1 + 1) = nxt m (plc m hd p (x :: l) (k + 1)) (hd ((x :: l).getD (k + 1) 0).toNat) := rfl
  rw [e, p22 k]
  conv => rhs; unfold plc
  simp
def p2u (m : Machine) (c : List (List Literal)) (hd : Nat -> Int) (l : List Int) : Prop := ∀ (k : Nat) x, l[k]? = some x -> OkX m x /\ b22 m (plc m hd zero l k) x c = true
inductive Dp (s : S3) : Nat -> Nat -> Prop
 | z : Dp s 0 0
 | s {k b n : Nat} (hk : 1 <= k) (hb : s.2.1[k]? = some (b : Int)) (h : Dp s b n) : Dp s k (n + 1)
structure Bo (i : Int) (s : S3) : Prop where
 l : ∀ (j : Nat) b, s.2.1[j]? = some b -> b <= i
 m : ∀ (j j' : Nat) b b', j <= j' -> s.2.1[j]? = some b -> s.2.1[j']? = some b' -> b <= b'
theorem Bo.up {i i' : Int} {s : S3} (h : Bo i s) (hi : i <= i') : Bo i' s := ⟨fun j b hb => Int.le_trans (h.l j b hb) hi, h.m⟩
end
end
end Go.Nw.KM
namespace Go.Nw.KM
noncomputable section
theorem p3c {m : Machine} (x : Nat) (hx : x < 2 ^ m.Inputs.length) : b6a x (-1) 0 = some (idn x) /\ OkX m (idn x) := ⟨d9s x, by
 have : ((2 ^ m.Inputs.length : Nat) : Int) = 2 ^ m.Inputs.length := by simp
 unfold OkX In; show 0 <= (x : Int) /\ (x : Int) < _; omega⟩
section
variable [Bd]
end
end
end Go.Nw.KM
namespace Go.Nw.KM
noncomputable section
abbrev S4 := List control_pair × List (List Int)
def l17 (s : S4) (run : List Int) (x : Nat) (q : control_pair) : S4 := if q ∈ s.1 then s else (s.1 ++ [q], s.2 ++ [run ++ [(x : Int)]])
section
variable (a b : Machine) (c : List (List Literal))
def nx2 (p : control_pair) (x : Nat) : control_pair := ⟨nxt a p.a (idn x), nxt b p.b (idn x)⟩
def b59 (p : control_pair) (run : List Int) : Nat -> S4 -> S4
 | 0, s => s
 | x + 1, s => if b22 a p.a x c = true then l17 (b59 p run x s) run x (nx2 a b p x) else b59 p run x s
def b49 : Nat -> S4
 | 0 => ([⟨zero, zero⟩], [[]])
 | k + 1 => match (b49 k).1[k]?, (b49 k).2[k]? with
  | some p, some r => b59 a b c p r (2 ^ a.Inputs.length) (b49 k)
  | _, _ => b49 k
def r4a (r : List Int) (p : control_pair) : Prop := p2u a c idn r /\ p = ⟨plc a idn zero r r.length, plc b idn zero r r.length⟩
structure G4 (s : S4) : Prop where
 n : s.1.Nodup
 o : ∀ p ∈ s.1, OkP a p.a /\ OkP b p.b
 l : s.2.length = s.1.length
 g : ∀ (k : Nat) p r, s.1[k]? = some p -> s.2[k]? = some r -> r4a a b c r p /\ r.length <= k
end
variable {a b : Machine} {c : List (List Literal)}
theorem r1t {m : Machine} {hd : Nat -> Int} {p : Place} {l : List Int} {x : Int} : ∀ k, k <= l.length -> plc m hd p (l ++ [x]) k = plc m hd p l k
 | 0, _ => rfl
 | k + 1, h => by
  unfold plc
  rw [r1t k (by omega), List.getD_eq_getElem?_getD, List.getD_eq_getElem?_getD, List.getElem?_append_left (by omega)]
theorem r25 {m : Machine} {hd : Nat -> Int} {p : Place} {l : List Int} {x : Int} : plc m hd p (l ++ [x]) (l ++ [x]).length = nxt m (plc m hd p l l.length) (hd x.toNat) := by
 rw [List.length_append, List.length_singleton]
 conv => lhs; unfold plc
 rw [r1t _ (Nat.le_refl _), List.getD_eq_getElem?_getD]
 simp
theorem r3v {m : Machine} {l : List Int} {x : Nat} (h : p2u m c idn l) (hx : x < 2 ^ m.Inputs.length) (ha : b22 m (plc m idn zero l l.length) x c = true) : p2u m c idn (l ++ [(x : Int)]) := fun k y hy => by
 by_cases hk : k < l.length
 ·rw [List.getElem?_append_left hk] at hy
  rw [r1t k (by omega)]
  exact h k y hy
 ·have := b1k hy
  simp only [List.length_append, List.length_singleton] at this
  have e : k = l.length := by omega
  subst e
  simp only [List.getElem?_append_right (Nat.le_refl _), Nat.sub_self, List.getElem?_cons_zero, iE9] at hy
  subst hy
  rw [r1t _ (Nat.le_refl _)]
  exact ⟨(p3c x hx).2, ha⟩
theorem r3i (ha : OkM a) (hb : OkM b) {s : S4} (h : G4 a b c s) {i x : Nat} {p : control_pair} {r : List Int} (hp : s.1[i]? = some p) (hr : s.2[i]? = some r) (hx : x < 2 ^ a.Inputs.length) (hal : b22 a p.a x c = true) : G4 a b c (l17 s r x (nx2 a b p x)) := by
 unfold l17
 split
 ·exact h
 rename_i hn
 have ho := h.o p (b1d.2 ⟨i, hp⟩)
 obtain ⟨⟨h1, h2⟩, h3⟩ := h.g i p r hp hr
 refine ⟨?_, fun q hq => ?_, by simp [h.l], fun k q t hq ht => ?_⟩
 ·rw [List.nodup_append]
  exact ⟨h.n, by simp, fun u hu v hv e => by simp at hv; subst hv; exact hn (e ▸ hu)⟩
 ·rcases List.mem_append.1 hq with hq | hq
  ·exact h.o q hq
  ·simp at hq; subst hq; exact ⟨l18 ha ho.1 _, l18 hb ho.2 _⟩
 ·by_cases hk : k < s.1.length
  ·rw [List.getElem?_append_left hk] at hq
   rw [List.getElem?_append_left (by rw [h.l]; exact hk)] at ht
   exact h.g k q t hq ht
  ·have := b1k hq
   simp only [List.length_append, List.length_singleton] at this
   have e : k = s.1.length := by omega
   subst e
   simp only [List.getElem?_append_right (Nat.le_refl _), Nat.sub_self, List.getElem?_cons_zero, iE9] at hq
   rw [<- h.l] at ht
   simp only [List.getElem?_append_right (Nat.le_refl _), Nat.sub_self, List.getElem?_cons_zero, iE9] at ht
   subst hq; subst ht
   have e1 : p.a = plc a idn zero r r.length := by rw [h2]
   have e2 : p.b = plc b idn zero r r.length := by rw [h2]
   refine ⟨⟨r3v h1 hx (by rw [<- e1]; exact hal), ?_⟩, by have := b1k hp; simp; omega⟩
   rw [r25, r25, <- e1, <- e2]; rfl
theorem r2m (s : S4) (r : List Int) (x : Nat) (q : control_pair) : s.1 <+: (l17 s r x q).1 /\ s.2 <+: (l17 s r x q).2 := by
 unfold l17; split
 ·exact ⟨List.prefix_refl _, List.prefix_refl _⟩
 ·exact ⟨List.prefix_append _ _, List.prefix_append _ _⟩
theorem r1e {p : control_pair} {r : List Int} : ∀ (x : Nat) {s : S4}, s.1 <+: (b59 a b c p r x s).1 /\ s.2 <+: (b59 a b c p r x s).2
 | 0, s => ⟨List.prefix_refl _, List.prefix_refl _⟩
 | x + 1, s => by
  have ih := r1e (p := p) (r := r) x (s := s)
  unfold b59; split
  ·have := r2m (b59 a b c p r x s) r x (nx2 a b p x)
   exact ⟨ih.1.trans this.1, ih.2.trans this.2⟩
  ·exact ih
theorem r2a (ha : OkM a) (hb : OkM b) {i : Nat} {p : control_pair} {r : List Int} : ∀ (x : Nat) {s : S4}, x <= 2 ^ a.Inputs.length -> G4 a b c s -> s.1[i]? = some p -> s.2[i]? = some r -> G4 a b c (b59 a b c p r x s)
 | 0, s, _, h, _, _ => h
 | x + 1, s, hx, h, hp, hr => by
  have ih := r2a ha hb (p := p) (r := r) x (s := s) (by omega) h hp hr
  have pre := r1e (a := a) (b := b) (c := c) (p := p) (r := r) x (s := s)
  unfold b59; split
  ·rename_i hal
   exact r3i ha hb ih (c0r pre.1 hp) (c0r pre.2 hr) (by omega) hal
  ·exact ih
theorem r2y {p : control_pair} {r : List Int} {j : Nat} (hal : b22 a p.a j c = true) : ∀ (x : Nat) {s : S4}, j < x -> nx2 a b p j ∈ (b59 a b c p r x s).1
 | 0, s, h => by omega
 | x + 1, s, h => by
  by_cases e : j = x
  ·subst e; unfold b59; rw [if_pos hal]
   unfold l17; split
   ·assumption
   ·simp
  ·have ih := r2y (r := r) hal x (s := s) (by omega)
   unfold b59; split
   ·exact (r2m _ _ _ _).1.subset ih
   ·exact ih
theorem r08 (ha : OkM a) (hb : OkM b) : ∀ k, G4 a b c (b49 a b c k)
 | 0 => by
  refine ⟨by simp [b49], fun p hp => by simp [b49] at hp; subst hp; exact ⟨o5b ha, o5b hb⟩, rfl, fun k p r hp hr => ?_⟩
  cases k with
  | zero =>
   simp only [b49, List.getElem?_cons_zero, iE9] at hp hr
   subst hp; subst hr
   exact ⟨⟨fun k x hx => by simp at hx, rfl⟩, Nat.le_refl _⟩
  | succ k => simp [b49] at hp
 | k + 1 => by
  have ih := r08 ha hb k
  unfold b49
  split
  ·rename_i p r hp hr; exact r2a ha hb _ (Nat.le_refl _) ih hp hr
  ·exact ih
theorem r21 (k : Nat) : (b49 a b c k).1 <+: (b49 a b c (k + 1)).1 /\ (b49 a b c k).2 <+: (b49 a b c (k + 1)).2 := by
 conv => rhs; rhs; unfold b49
 conv => lhs; rhs; unfold b49
 split
 ·exact r1e _
 ·exact ⟨List.prefix_refl _, List.prefix_refl _⟩
theorem r09 {j k : Nat} (h : j <= k) : (b49 a b c j).1 <+: (b49 a b c k).1 /\ (b49 a b c j).2 <+: (b49 a b c k).2 := by
 induction k with
 | zero =>
  have : j = 0 := by omega
  subst this; exact ⟨List.prefix_refl _, List.prefix_refl _⟩
 | succ k ih =>
  by_cases e : j = k + 1
  ·subst e; exact ⟨List.prefix_refl _, List.prefix_refl _⟩
  ·have := ih (by omega); have h1 := r21 (a := a) (b := b) (c := c) k
   exact ⟨this.1.trans h1.1, this.2.trans h1.2⟩
theorem r2o {m : Machine} (hm : OkM m) {p : Place} (hp : OkP m p) : 0 <= p.State /\ p.State < 12 /\ 0 <= p.Values.1 /\ p.Values.1 <= 7 /\ 0 <= p.Values.2 /\ p.Values.2 <= 7 := by
 have hs := hm.z.s
 have := hp.s; have := hp.a; have := hp.b; have := b57 hm.c 0; have := b57 hm.c 1
 unfold In at *
 omega
theorem r2h (ha : OkM a) (hb : OkM b) {s : S4} (h : G4 a b c s) : s.1.length <= 589824 := by
 have hc : ∀ p ∈ s.1, _ := fun p hp => And.intro (r2o ha (h.o p hp).1) (r2o hb (h.o p hp).2)
 have h1 := d4k 589824 (s.1.map fun p => (p.a.State * 64 + p.a.Values.1 * 8 + p.a.Values.2).toNat * 768 + (p.b.State * 64 + p.b.Values.1 * 8 + p.b.Values.2).toNat) (l1z h.n fun p hp q hq e => by
   have := hc p hp; have := hc q hq
   obtain ⟨⟨s1, a1, b1⟩, ⟨s2, a2, b2⟩⟩ := p; obtain ⟨⟨s3, a3, b3⟩, ⟨s4, a4, b4⟩⟩ := q
   simp only at *
   have e1 : s1 = s3 := by omega
   have e2 : a1 = a3 := by omega
   have e3 : b1 = b3 := by omega
   have e4 : s2 = s4 := by omega
   have e5 : a2 = a4 := by omega
   have e6 : b2 = b4 := by omega
   subst e1; subst e2; subst e3; subst e4; subst e5; subst e6; rfl) (fun x hx => by
   obtain ⟨p, hp, rfl⟩ := List.mem_map.1 hx
   have := hc p hp
   omega)
 simpa using h1
def r14 (a b : Machine) (c : List (List Literal)) (K : Nat) : Prop := K <= 589824 /\ (∀ k, k < K -> k < (b49 a b c k).1.length) /\ (b49 a b c K).1.length <= K
theorem r4f (ha : OkM a) (hb : OkM b) : ∃ K, r14 a b c K := by
 have hbd : ∀ k, (b49 a b c k).1.length <= 589824 := fun k => r2h ha hb (r08 ha hb k)
 have key : ∀ d, (∃ K, K <= d /\ (∀ k, k < K -> k < (b49 a b c k).1.length) /\ (b49 a b c K).1.length <= K) \/ ∀ k, k <= d -> k < (b49 a b c k).1.length := by
  intro d
  induction d with
  | zero =>
   by_cases h : (b49 a b c 0).1.length <= 0
   ·exact .inl ⟨0, Nat.le_refl _, fun k hk => by omega, h⟩
   ·refine .inr fun k hk => ?_
    have : k = 0 := by omega
    subst this; omega
  | succ d ih =>
   rcases ih with ⟨K, h1, h2⟩ | h
   ·exact .inl ⟨K, by omega, h2⟩
   ·by_cases h' : (b49 a b c (d + 1)).1.length <= d + 1
    ·exact .inl ⟨d + 1, Nat.le_refl _, fun k hk => h k (by omega), h'⟩
    ·refine .inr fun k hk => ?_
     by_cases e : k = d + 1
     ·subst e; omega
     ·exact h k (by omega)
 rcases key 589824 with h | h
 ·exact h
 ·have := h 589824 (Nat.le_refl _); have := hbd 589824; omega
end
end Go.Nw.KM
namespace Go.Nw.KM
noncomputable section
def l10 (l : List control_pair) : List (control_pair × Int) := l.zipIdx.map fun p => (p.1, (p.2 : Int))
theorem r2u (l : List control_pair) : (l10 l).map (·.1) = l := by
 unfold l10
 rw [List.map_map]
 have : ((fun x : control_pair × Int => x.1) ∘ fun p : control_pair × Nat => (p.1, (p.2 : Int))) = Prod.fst := rfl
 rw [this, List.zipIdx_map_fst]
theorem r3x (l : List control_pair) (q : control_pair) : l10 (l ++ [q]) = l10 l ++ [(q, (l.length : Int))] := by
 unfold l10
 rw [List.zipIdx_append]
 simp
theorem r2t {l : List control_pair} {q : control_pair} : b6m (l10 l) q = true ↔ q ∈ l := by rw [j78, r2u]
theorem r1l {α : Type} {w : Nat} {l m : List α} (hl : l.length <= 600000) (hm : m.length <= 600000) (hb : w <= 64) : ap w l m = some (l ++ m) := b9k (by
 have : (l.length + m.length) * w <= 1200000 * 64 := Nat.mul_le_mul (by omega) hb
 omega)
theorem r4b {n : Nat} (h : n <= 600000) : n <= maxLen := by simp only [maxLen]; omega
theorem r3r {l : List Int} (h : l.length <= 600000) : r15 l = some l := by
 cases l with
 | nil => rfl
 | cons x l =>
  unfold r15 r1w
  simp only [r1h, bS9, fT9, if_false]
  rw [r1l (by simp) h (by omega)]; rfl
def sh (m : Machine) (p : Place) : Int := ((m.States[p.State.toNat]?).map (·.Shows)).getD 0
theorem r2i {m : Machine} {p : Place} (hp : OkP m p) : ∃ s, get m.States p.State = some s /\ s.Shows = sh m p := by
 obtain ⟨k, s, hk, hx, hg⟩ := d2l hp.s
 refine ⟨s, hg, ?_⟩
 unfold sh
 rw [hk, Int.toNat_natCast, hx]; rfl
section
variable {a b : Machine} {c : List (List Literal)}
theorem r37 (ha : OkM a) (hb : OkM b) {ins : Bool} (hc : b2s a ins c) {i : Nat} {p : control_pair} {r : List Int} {s : S4} (h : G4 a b c s) (hp : s.1[i]? = some p) (hr : s.2[i]? = some r) :
  b0w (r03 a b c i p ((2 ^ a.Inputs.length : Nat) : Int)) (s.2, s.1, l10 s.1, 0) = some ((b59 a b c p r (2 ^ a.Inputs.length) s).2, (b59 a b c p r (2 ^ a.Inputs.length) s).1, l10 (b59 a b c p r (2 ^ a.Inputs.length) s).1) := by
 have hpow := p2a ha.z
 have ho := h.o p (b1d.2 ⟨i, hp⟩)
 refine b4h (f := r03 a b c i p ((2 ^ a.Inputs.length : Nat) : Int)) (2 ^ a.Inputs.length) (fun (s : S4) k => (s.2, s.1, l10 s.1, k)) (fun k => b59 a b c p r k s) _ (s0 := s) rfl (fun k hk => ?_) ?_
 ·have hg' := r2a ha hb (p := p) (r := r) k (by omega) h hp hr
  have hlen := r2h ha hb hg'
  have hpre := r1e (a := a) (b := b) (c := c) (p := p) (r := r) k (s := s)
  have hr' := c0r hpre.2 hr
  have hrl := (hg'.g i p r (c0r hpre.1 hp) hr').2
  have hil := b1k (c0r hpre.1 hp)
  have hl2 := hg'.l
  conv => rhs; unfold b59
  unfold r03 r04
  simp only [Int.ofNat_lt, hk, decide_true, if_true, show b3h a = ⟨⟨a⟩⟩ from rfl, show b3h b = ⟨⟨b⟩⟩ from rfl, c74, g5i ha.z ho.1.s hc, bS9, b2r hk (b1o (by omega))]
  cases hal : b22 a p.a k c with
  | false => simp
  | true =>
   simp only [Bool.not_true, fT9, if_false, if_true]
   rw [g5u ha ho.1, bS9, g5u hb ho.2, bS9]
   unfold l17
   by_cases hq : nx2 a b p k ∈ (b59 a b c p r k s).1
   ·rw [if_pos hq, if_neg]
    rw [show control_pair.mk (nxt a p.a (k : Int)) (nxt b p.b (k : Int)) = nx2 a b p k from rfl, r2t.2 hq]; simp
   ·have hnh : b6m (l10 (b59 a b c p r k s).1) (nx2 a b p k) = false := c19 fun h => hq (r2t.1 h)
    rw [if_neg hq, if_pos (by rw [show control_pair.mk (nxt a p.a (k : Int)) (nxt b p.b (k : Int)) = nx2 a b p k from rfl, hnh]; rfl), r1l (by omega) (by simp) (by omega), bS9, b1h hr', bS9, r3r (by omega), bS9, r1l (by omega) (by simp) (by omega), bS9, r1l (by omega) (by simp) (by omega), bS9,
     g1w (by rw [r2u]; exact hq), <- r3x]
    rfl
 ·unfold r03
  simp only [Int.lt_irrefl, decide_false, fT9, if_false]
def dif (a b : Machine) (c : List (List Literal)) (K k : Nat) : Bool := decide (sh a ((b49 a b c K).1.getD k ⟨zero, zero⟩).a ≠ sh b ((b49 a b c K).1.getD k ⟨zero, zero⟩).b)
theorem r4e (ha : OkM a) (hb : OkM b) {ins : Bool} (hc : b2s a ins c) {K : Nat} (hK : r14 a b c K) : ∀ d k : Nat, K - k = d -> k <= K -> (∀ j, j < k -> dif a b c K j = false) ->
  b0w (l42 a b c) ((b49 a b c k).2, (b49 a b c k).1, l10 (b49 a b c k).1, (k : Int)) = some (match b5q K (dif a b c K) with | some t => .inr ((b49 a b c K).2.getD t [], false, 0) | none => .inl ()) := by
 obtain ⟨hK0, hK1, hK2⟩ := hK
 intro d
 induction d with
 | zero =>
  intro k h1 h2 h3
  obtain rfl : k = K := by omega
  rw [d72.2 h3]
  refine b3d ?_
  unfold l42
  have : ¬ ((k : Int) < (((b49 a b c k).1.length : Nat) : Int)) := by omega
  simp only [this, decide_false, fT9, if_false]
 | succ d ih =>
  intro k h1 h2 h3
  have hkK : k < K := by omega
  have hlt := hK1 k hkK
  have hg := r08 (c := c) ha hb k
  obtain ⟨p, hp⟩ := b3b hlt
  obtain ⟨r, hr⟩ := b3b (l := (b49 a b c k).2) (k := k) (by rw [hg.l]; exact hlt)
  have ho := hg.o p (b1d.2 ⟨k, hp⟩)
  have hpK := c0r (r09 (a := a) (b := b) (c := c) (show k <= K by omega)).1 hp
  have hrK := c0r (r09 (a := a) (b := b) (c := c) (show k <= K by omega)).2 hr
  obtain ⟨s1, g1, e1⟩ := r2i ho.1
  obtain ⟨s2, g2, e2⟩ := r2i ho.2
  have hd : dif a b c K k = decide (s1.Shows ≠ s2.Shows) := by unfold dif; rw [o8p hpK, e1, e2]
  cases hdk : dif a b c K k with
  | true =>
   rw [j01 hkK hdk h3]
   refine b3d ?_
   rw [hd] at hdk
   unfold l42
   simp only [Int.ofNat_lt, hlt, decide_true, if_true, b1h hp, bS9, g1, g2]
   rw [if_pos hdk, b1h hr, bS9, o8p hrK]
  | false =>
   rw [<- ih (k + 1) (by omega) (by omega) (fun j hj => by
    by_cases e : j = k
    ·subst e; exact hdk
    ·exact h3 j (by omega))]
   rw [hd] at hdk
   refine b32 ?_
   have hlen := r2h ha hb hg
   have hout : b49 a b c (k + 1) = b59 a b c p r (2 ^ a.Inputs.length) (b49 a b c k) := by
    conv => lhs; unfold b49
    rw [hp, hr]
   unfold l42 r1n
   simp only [Int.ofNat_lt, hlt, decide_true, if_true, b1h hp, bS9, g1, g2]
   rw [if_neg (by rw [hdk]; simp), show b3h a = ⟨⟨a⟩⟩ from rfl]
   simp only
   rw [o82 ha.z, bS9, r37 ha hb hc hg hp hr, bS9]
   simp only
   rw [b2r hkK (r4b (by omega)), <- hout]; rfl
theorem r3a {l r : List ByteArray} (hl : l.length <= maxLen) : ∃ b : Bool, r1a l r = some b /\ (b = true ↔ l = r) := by
 unfold r1a r1x
 by_cases h : (l.length : Int) = (r.length : Int)
 case neg => exact ⟨false, by rw [if_pos (by simpa using h)], by simp; intro e; rw [e] at h; exact h rfl⟩
 rw [if_neg (by simpa using h)]
 have hlr : l.length = r.length := by omega
 rcases b4j (f := r1k l r) (l := l) (p := fun k x => ¬ r[k]? = some x) (e := .inr false) (u := .inl ()) hl (fun k x hx => by
   have hk := b1k hx
   obtain ⟨y, hy⟩ := b3b (l := r) (k := k) (by omega)
   refine ⟨!(decide (x = y)), ?_, by rw [hy, iE9, Bool.not_eq_true', decide_eq_false_iff_not]; exact ⟨fun h e => h e.symm, fun h e => h e.symm⟩⟩
   unfold r1k
   simp only [Int.ofNat_lt, hk, decide_true, if_true, b1h hx, b1h hy, bS9]) (by unfold r1k; simp only [Int.lt_irrefl, decide_false, fT9, if_false]) with ⟨h1, h2⟩ | ⟨⟨k, x, h1, h2⟩, h3⟩
 ·rw [h2]
  refine ⟨true, rfl, ?_⟩
  simp only [true_iff]
  apply List.ext_getElem?
  intro k
  by_cases hk : k < l.length
  ·obtain ⟨x, hx⟩ := b3b hk
   rw [hx]; exact (Classical.not_not.1 (h1 k x hx)).symm
  ·rw [List.getElem?_eq_none (by omega), List.getElem?_eq_none (by omega)]
 ·rw [h3]
  refine ⟨false, rfl, ?_⟩
  simp only [fT9, false_iff]
  intro e; subst e; exact h2 h1
end
end
end Go.Nw.KM
namespace Go.Nw.KM
noncomputable section
structure Ln (L : Nat) (s : S4) : Prop where
 m : ∀ (j j' : Nat) r r', j <= j' -> s.2[j]? = some r -> s.2[j']? = some r' -> r.length <= r'.length
 u : ∀ (j : Nat) r, s.2[j]? = some r -> r.length <= L
section
variable {a b : Machine} {c : List (List Literal)}
theorem r3j {s : S4} {r : List Int} {x : Nat} {q : control_pair} (h : Ln (r.length + 1) s) : Ln (r.length + 1) (l17 s r x q) := by
 unfold l17
 split
 ·exact h
 have key : ∀ (j : Nat) t, (s.2 ++ [r ++ [(x : Int)]])[j]? = some t -> (j < s.2.length /\ s.2[j]? = some t) \/ (j = s.2.length /\ t.length = r.length + 1) := fun j t ht => by
  by_cases hj : j < s.2.length
  ·rw [List.getElem?_append_left hj] at ht; exact .inl ⟨hj, ht⟩
  ·have := b1k ht
   simp only [List.length_append, List.length_singleton] at this
   have e : j = s.2.length := by omega
   subst e
   simp only [List.getElem?_append_right (Nat.le_refl _), Nat.sub_self, List.getElem?_cons_zero, iE9] at ht
   subst ht
   exact .inr ⟨rfl, by simp⟩
 refine ⟨fun j j' t t' hj ht ht' => ?_, fun j t ht => ?_⟩
 ·rcases key j t ht with ⟨h1, h2⟩ | ⟨h1, h2⟩ <;> rcases key j' t' ht' with ⟨h3, h4⟩ | ⟨h3, h4⟩
  ·exact h.m j j' t t' hj h2 h4
  ·have := h.u j t h2; omega
  ·omega
  ·omega
 ·rcases key j t ht with ⟨h1, h2⟩ | ⟨h1, h2⟩
  ·exact h.u j t h2
  ·omega
theorem r2b {p : control_pair} {r : List Int} : ∀ (x : Nat) {s : S4}, Ln (r.length + 1) s -> Ln (r.length + 1) (b59 a b c p r x s)
 | 0, s, h => h
 | x + 1, s, h => by
  unfold b59; split
  ·exact r3j (r2b x h)
  ·exact r2b x h
theorem r2g : ∀ k, (∀ (j j' : Nat) r r', j <= j' -> (b49 a b c k).2[j]? = some r -> (b49 a b c k).2[j']? = some r' -> r.length <= r'.length) /\
  ∀ (j i : Nat) r ri, k <= i + 1 -> (b49 a b c k).2[j]? = some r -> (b49 a b c k).2[i]? = some ri -> r.length <= ri.length + 1
 | 0 => by
  have key : ∀ (j : Nat) r, (b49 a b c 0).2[j]? = some r -> r = [] := fun j r h => by
   cases j with
   | zero => simpa [b49] using h.symm
   | succ j => simp [b49] at h
  exact ⟨fun j j' r r' _ h h' => by rw [key j r h, key j' r' h']; exact Nat.le_refl _, fun j i r ri _ h _ => by rw [key j r h]; simp⟩
 | k + 1 => by
  obtain ⟨h1, h2⟩ := r2g k
  unfold b49
  split
  ·rename_i p r hp hr
   have hl : Ln (r.length + 1) (b49 a b c k) := ⟨h1, fun j t ht => h2 j k t r (by omega) ht hr⟩
   have hl2 := r2b (a := a) (b := b) (c := c) (p := p) (2 ^ a.Inputs.length) hl
   refine ⟨hl2.m, fun j i t ti hi ht hti => ?_⟩
   have hrK := c0r (r1e (a := a) (b := b) (c := c) (p := p) (r := r) (2 ^ a.Inputs.length) (s := b49 a b c k)).2 hr
   have := hl2.u j t ht
   have := hl2.m k i r ti (by omega) hrK hti
   omega
  ·rename_i hn
   refine ⟨h1, fun j i t ti hi ht hti => ?_⟩
   by_cases e : k <= i
   ·exact h2 j i t ti (by omega) ht hti
   ·omega
theorem r2v (ha : OkM a) (hb : OkM b) {K : Nat} (hK : r14 a b c K) (l : List Int) (hf : p2u a c idn l) : ∀ n, n <= l.length -> ∃ (j : Nat) (r : List Int), (b49 a b c K).1[j]? = some ⟨plc a idn zero l n, plc b idn zero l n⟩ /\ (b49 a b c K).2[j]? = some r /\ r.length <= n
 | 0, _ => by
  have h := r09 (a := a) (b := b) (c := c) (Nat.zero_le K)
  exact ⟨0, [], c0r h.1 rfl, c0r h.2 rfl, Nat.le_refl _⟩
 | n + 1, hn => by
  obtain ⟨j, r, h1, h2, h3⟩ := r2v ha hb hK l hf n (by omega)
  have hjK : j < K := by have := b1k h1; have := hK.2.2; omega
  obtain ⟨x, hx⟩ := b3b (l := l) (k := n) (by omega)
  obtain ⟨⟨hx0, hx1⟩, hal⟩ := hf n x hx
  have ex : ((x.toNat : Nat) : Int) = x := Int.toNat_of_nonneg hx0
  have hpow : ((2 ^ a.Inputs.length : Nat) : Int) = 2 ^ a.Inputs.length := by simp
  have hlt := hK.2.1 j hjK
  have hg := r08 (c := c) ha hb j
  obtain ⟨p', hp'⟩ := b3b hlt
  obtain ⟨r', hr'⟩ := b3b (l := (b49 a b c j).2) (k := j) (by rw [hg.l]; exact hlt)
  have hpre := r09 (a := a) (b := b) (c := c) (show j <= K by omega)
  have e1 := c0r hpre.1 hp'
  have e2 := c0r hpre.2 hr'
  rw [h1] at e1; rw [h2] at e2
  have e1 := Option.some.inj e1; have e2 := Option.some.inj e2
  subst e1; subst e2
  have hout : b49 a b c (j + 1) = b59 a b c ⟨plc a idn zero l n, plc b idn zero l n⟩ r (2 ^ a.Inputs.length) (b49 a b c j) := by
   conv => lhs; unfold b49
   rw [hp', hr']
  have hmem : nx2 a b ⟨plc a idn zero l n, plc b idn zero l n⟩ x.toNat ∈ (b49 a b c (j + 1)).1 := by
   rw [hout]
   exact r2y (by rw [ex]; exact hal) _ (by omega)
  obtain ⟨i, hi⟩ := b1d.1 hmem
  have hg1 := r08 (c := c) ha hb (j + 1)
  obtain ⟨t, ht⟩ := b3b (l := (b49 a b c (j + 1)).2) (k := i) (by rw [hg1.l]; exact b1k hi)
  have hr1 := c0r (r21 (a := a) (b := b) (c := c) j).2 hr'
  have hlen := (r2g (a := a) (b := b) (c := c) (j + 1)).2 i j t r (Nat.le_refl _) ht hr1
  have hpre1 := r09 (a := a) (b := b) (c := c) (show j + 1 <= K by omega)
  refine ⟨i, t, ?_, c0r hpre1.2 ht, by omega⟩
  have := c0r hpre1.1 hi
  have e3 : nx2 a b ⟨plc a idn zero l n, plc b idn zero l n⟩ x.toNat = ⟨plc a idn zero l (n + 1), plc b idn zero l (n + 1)⟩ := by
   unfold nx2
   conv => rhs; unfold plc
   rw [o8p hx]
  rw [e3] at this
  exact this
def b70 (m : Machine) (l : List Int) : Int := sh m (plc m idn zero l l.length)
theorem r2s {m : Machine} {l : List Int} : p2u m [] idn l ↔ ∀ x ∈ l, OkX m x := by
 constructor
 ·intro h x hx
  obtain ⟨k, hk⟩ := b1d.1 hx
  exact (h k x hk).1
 ·intro h k x hx
  exact ⟨h x (b1d.2 ⟨k, hx⟩), rfl⟩
theorem r2l (hfa : ∀ n ∈ b3g a, n.size <= maxLen) (hfb : ∀ n ∈ b3g b, n.size <= maxLen) (ha : OkM a) (hb : OkM b) : ∃ r, r02 a b [] = some r /\
  ((r = ([], false, 1) /\ ¬ (a.Inputs = b.Inputs /\ a.Outputs = b.Outputs)) \/ (a.Inputs = b.Inputs /\ a.Outputs = b.Outputs /\
   ((r = ([], true, 0) /\ ∀ l, (∀ x ∈ l, OkX a x) -> b70 a l = b70 b l) \/
    ∃ run, r = (run, false, 0) /\ (∀ x ∈ run, OkX a x) /\ b70 a run ≠ b70 b run /\ ∀ l, (∀ x ∈ l, OkX a x) -> b70 a l ≠ b70 b l -> run.length <= l.length))) := by
 have hc : b2s a true [] := ⟨by simp, fun t ht => by simp at ht⟩
 obtain ⟨e1, h1, h1'⟩ := g5k hfa
 obtain ⟨e2, h2, h2'⟩ := g5k hfb
 obtain ⟨e3, h3, h3'⟩ := d6t hfa (l := [[]]) (by simp)
 have z1 : e1 = 0 := by rcases h1' with ⟨h, _⟩ | ⟨_, h⟩; exact h; exact absurd ha h
 have z2 : e2 = 0 := by rcases h2' with ⟨h, _⟩ | ⟨_, h⟩; exact h; exact absurd hb h
 have z3 : e3 = 0 := d6z h3' (.inl ⟨rfl, ha, fun x hx => by simp at hx; subst hx; exact hc⟩)
 subst z1; subst z2; subst z3
 have h00 : ¬ (decide (¬ (0 : Int) = 0) = true) := by simp
 obtain ⟨b1, s1, s1'⟩ := r3a (l := a.Inputs) (r := b.Inputs) (b1o (by have := ha.z.i; omega))
 obtain ⟨b2, s2, s2'⟩ := r3a (l := a.Outputs) (r := b.Outputs) (b1o (by have := ha.z.o; omega))
 unfold r02 r1m
 rw [h1, bS9, if_neg h00, h2, bS9, if_neg h00, h3, bS9, if_neg h00, s1, bS9, s2]
 cases b1 with
 | false => exact ⟨([], false, 1), rfl, .inl ⟨rfl, fun h => by simpa using s1'.2 h.1⟩⟩
 | true =>
 cases b2 with
 | false => exact ⟨([], false, 1), rfl, .inl ⟨rfl, fun h => by simpa using s2'.2 h.2⟩⟩
 | true =>
 obtain ⟨K, hK⟩ := r4f (c := []) ha hb
 have hl := r4e ha hb hc hK K 0 rfl (Nat.zero_le _) (fun j hj => by omega)
 have e0 : b0w (l42 a b []) ([] ++ [([] : List Int)], [control_pair.mk (Place.mk 0 (0, 0)) (Place.mk 0 (0, 0))], b3w ([] : List (control_pair × Int)) (control_pair.mk (Place.mk 0 (0, 0)) (Place.mk 0 (0, 0))) 0, 0) = some (match b5q K (dif a b [] K) with | some t => .inr ((b49 a b [] K).2.getD t [], false, 0) | none => .inl ()) := hl
 simp only [Bool.not_true, fT9, if_false, bS9]
 rw [e0, bS9]
 have hsh : ∀ l, (∀ x ∈ l, OkX a x) -> ∃ j r, (b49 a b [] K).2[j]? = some r /\ r.length <= l.length /\ j < K /\ (dif a b [] K j = true ↔ b70 a l ≠ b70 b l) := fun l hlx => by
  obtain ⟨j, r, f1, f2, f3⟩ := r2v ha hb hK l (r2s.2 hlx) l.length (Nat.le_refl _)
  refine ⟨j, r, f2, f3, by have := b1k f1; have := hK.2.2; omega, ?_⟩
  unfold dif b70
  rw [o8p f1, decide_eq_true_eq]
 cases hft : b5q K (dif a b [] K) with
 | none =>
  refine ⟨([], true, 0), rfl, .inr ⟨s1'.1 rfl, s2'.1 rfl, .inl ⟨rfl, fun l hlx => ?_⟩⟩⟩
  obtain ⟨j, r, _, _, hj, hd⟩ := hsh l hlx
  have := d72.1 hft j hj
  refine Classical.byContradiction fun hne => ?_
  rw [hd.2 hne] at this; cases this
 | some t =>
  obtain ⟨t1, t2, t3⟩ := j00 hft
  have hg := r08 (c := []) ha hb K
  have htl : t < (b49 a b [] K).1.length := Nat.lt_of_lt_of_le (hK.2.1 t t1) (r09 (a := a) (b := b) (c := []) (show t <= K by omega)).1.length_le
  obtain ⟨p, hp⟩ := b3b htl
  obtain ⟨r, hr⟩ := b3b (l := (b49 a b [] K).2) (k := t) (by rw [hg.l]; exact htl)
  obtain ⟨⟨g1, g2⟩, g3⟩ := hg.g t p r hp hr
  refine ⟨((b49 a b [] K).2.getD t [], false, 0), rfl, .inr ⟨s1'.1 rfl, s2'.1 rfl, .inr ⟨r, by rw [o8p hr], r2s.1 g1, ?_, fun l hlx hne => ?_⟩⟩⟩
  ·unfold dif at t2
   rw [o8p hp, decide_eq_true_eq, g2] at t2
   exact t2
  ·obtain ⟨j, r', f1, f2, f3, f4⟩ := hsh l hlx
   have htj : t <= j := Classical.byContradiction fun h => by
    have := t3 j (by omega)
    rw [f4.2 hne] at this; cases this
   have := (r2g (a := a) (b := b) (c := []) K).1 t j r r' htj hr f1
   omega
end
end
end Go.Nw.KM
