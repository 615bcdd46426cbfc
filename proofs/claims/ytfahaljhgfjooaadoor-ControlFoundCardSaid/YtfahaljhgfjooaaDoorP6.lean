/- Plain laws on the models. -/
import Derived.Test.YtfahaljhgfjooaaDoorP5
import Derived.Test.YtfahaljhgfjooaaDoorNwFirst
import Derived.Test.YtfahaljhgfjooaaDoorP2
set_option linter.all false
namespace Go.Nw.KM
noncomputable section
theorem o8t {m : Machine} {p : Place} : OkP m p ↔ In p.State m.States.length /\ b5q 2 (fun k => !(b2q (if (k : Int) = 0 then p.Values.1 else p.Values.2) 0 (b56 m k))) = none := by
 rw [d72]
 constructor
 ·intro h
  refine ⟨h.s, fun t ht => ?_⟩
  have : t = 0 \/ t = 1 := by omega
  rcases this with rfl | rfl
  ·have := b6t.2 h.a; simp [this]
  ·have := b6t.2 h.b; simp [this]
 ·rintro ⟨h1, h2⟩
  have h3 := h2 0 (by omega)
  have h4 := h2 1 (by omega)
  simp only [Bool.not_eq_false', Int.natCast_zero, if_true, b6t] at h3
  simp only [Bool.not_eq_false', show ¬ ((1 : Nat) : Int) = 0 by decide, if_false, b6t] at h4
  exact ⟨h1, h3, h4⟩
theorem o8q {m : Machine} (hm : OkM m) {p : Place} : ∃ b, b2q p.State 0 (wr ((List.length m.States : Int) - 1)) = b /\ (b = true ↔ In p.State m.States.length) := by
 have := hm.z.s
 rw [c1n (b1o (by omega))]
 refine ⟨_, rfl, ?_⟩
 rw [b6t]
 unfold In
 omega
theorem o8s {m : Machine} {k : Nat} : (k < m.Counters.length /\ ∃ c, get m.Counters k = some c /\ c.Max = b56 m k) \/ (¬ k < m.Counters.length /\ b56 m k = 0) := by
 by_cases h : k < m.Counters.length
 ·obtain ⟨c, hc⟩ := b3b h
  exact .inl ⟨h, c, b1h hc, by unfold b56; rw [hc]⟩
 ·exact .inr ⟨h, by unfold b56; rw [List.getElem?_eq_none (by omega)]⟩
theorem o8o {m : Machine} (hm : OkM m) (p : Place) : ∃ b, o7s ⟨m⟩ p = some b /\ (b = true ↔ OkP m p) := by
 unfold o7s o73
 have step : ∀ k : Nat, k < 2 -> o7t ⟨m⟩ p k = (if (!(b2q (if (k : Int) = 0 then p.Values.1 else p.Values.2) 0 (b56 m k))) = true then some (.br (.inr false)) else some (.nx ((k : Int) + 1))) := fun k hk => by
  have h2 : (k : Int) < 2 := by omega
  unfold o7t o7u
  simp only [h2, decide_true, if_true, c2x (show In (k : Int) 2 from ⟨by omega, by omega⟩), bS9, Int.ofNat_lt]
  rcases o8s (m := m) (k := k) with ⟨h3, c, h4, h5⟩ | ⟨h3, h4⟩
  ·simp only [h3, decide_true, if_true, h4, bS9, h5, b2r hk (show 2 <= maxLen by decide)]
  ·simp only [h3, decide_false, fT9, if_false, h4, b2r hk (show 2 <= maxLen by decide)]
 rw [c7s (f := o7t ⟨m⟩ p) (n := 2) (p := fun k => !(b2q (if (k : Int) = 0 then p.Values.1 else p.Values.2) 0 (b56 m k))) (e := fun _ => .inr false) (u := .inl ()) (fun t ht hp => by rw [step t ht, if_pos hp]) (fun t ht hp => by rw [step t ht, if_neg (by rw [hp]; simp)]) (by rfl), o8t]
 obtain ⟨b, h1, h2⟩ := o8q hm (p := p)
 cases b5q 2 (fun k => !(b2q (if (k : Int) = 0 then p.Values.1 else p.Values.2) 0 (b56 m k))) with
 | none => exact ⟨b, by simp only [bS9, h1], by rw [h2]; simp⟩
 | some t => exact ⟨false, rfl, by simp⟩
theorem o83 {m : Machine} (hm : OkM m) (p : Place) : ∃ b, o7y m p = some b /\ (b = true ↔ OkP m p) := by
 unfold o7y o77
 have step : ∀ k : Nat, k < 2 -> o7z m p k = (if (!(b2q (if (k : Int) = 0 then p.Values.1 else p.Values.2) 0 (b56 m k))) = true then some (.br (.inr false)) else some (.nx ((k : Int) + 1))) := fun k hk => by
  have h2 : (k : Int) < 2 := by omega
  have e : ∀ x y : Int, b2b x 0 y = b2q x 0 y := fun x y => by rw [Bool.eq_iff_iff, b6g, b6t]
  unfold o7z o70
  simp only [h2, decide_true, if_true, c2x (show In (k : Int) 2 from ⟨by omega, by omega⟩), bS9, Int.ofNat_lt, e]
  rcases o8s (m := m) (k := k) with ⟨h3, c, h4, h5⟩ | ⟨h3, h4⟩
  ·simp only [h3, decide_true, if_true, h4, bS9, h5, b2r hk (show 2 <= maxLen by decide)]
  ·simp only [h3, decide_false, fT9, if_false, h4, b2r hk (show 2 <= maxLen by decide)]
 rw [c7s (f := o7z m p) (n := 2) (p := fun k => !(b2q (if (k : Int) = 0 then p.Values.1 else p.Values.2) 0 (b56 m k))) (e := fun _ => .inr false) (u := .inl ()) (fun t ht hp => by rw [step t ht, if_pos hp]) (fun t ht hp => by rw [step t ht, if_neg (by rw [hp]; simp)]) (by rfl), o8t]
 obtain ⟨b, h1, h2⟩ := o8q hm (p := p)
 have e : b2b p.State 0 (wr ((List.length m.States : Int) - 1)) = b := by rw [<- h1, Bool.eq_iff_iff, b6g, b6t]
 rw [e]
 cases b with
 | false => exact ⟨false, rfl, by rw [<- h2]; simp⟩
 | true =>
  rw [if_neg (by simp), <- h2]
  cases b5q 2 (fun k => !(b2q (if (k : Int) = 0 then p.Values.1 else p.Values.2) 0 (b56 m k))) with
  | none => exact ⟨true, rfl, by simp⟩
  | some t => exact ⟨false, rfl, by simp⟩
theorem o82 {m : Machine} (hs : SizesOk m) : c1y ⟨m⟩ = some ((2 ^ m.Inputs.length : Nat) : Int) := by
 unfold c1y
 have := hs.i
 simp only
 rw [c83 (by omega)]; simp
theorem p3i {m : Machine} (hm : OkM m) (x : Int) : ∃ b, p2c ⟨m⟩ x = some b /\ (b = true ↔ OkX m x) := by
 unfold p2c
 have := p2a hm.z
 rw [o82 hm.z, bS9, c1n (b1o (by omega))]
 refine ⟨_, rfl, ?_⟩
 rw [b6t]
 unfold OkX In
 omega
theorem p3v {m : Machine} (hm : OkM m) (x : Int) : ∃ b, b2b x 0 (wr (((2 ^ m.Inputs.length : Nat) : Int) - 1)) = b /\ (b = true ↔ OkX m x) := by
 have := p2a hm.z
 rw [c1n (b1o (by omega))]
 refine ⟨_, rfl, ?_⟩
 rw [b6g]
 unfold OkX In
 omega
theorem p3k {m : Machine} (hf : ∀ n ∈ b3g m, n.size <= maxLen) (p : Place) (x : Int) : ∃ r, p2f m p x = some r /\ p3f m p x = some r /\
  ((OkM m /\ OkP m p /\ OkX m x /\ r = (nxt m p x, 0)) \/ (OkM m /\ ¬ (OkP m p /\ OkX m x) /\ r = (zero, 1)) \/ (¬ OkM m /\ r = (zero, 41))) := by
 obtain ⟨e, h1, h2⟩ := g5k hf
 obtain ⟨e', h3, h4⟩ := d5t hf
 unfold p2f p3f
 rw [h1, h3, bS9, bS9]
 rcases h2 with ⟨rfl, hm⟩ | ⟨rfl, hm⟩ <;> rcases h4 with ⟨rfl, hm'⟩ | ⟨rfl, hm'⟩
 ·obtain ⟨b, a1, a2⟩ := o8o hm p
  obtain ⟨b', a3, a4⟩ := o83 hm p
  obtain ⟨d, a5, a6⟩ := p3i hm x
  obtain ⟨d', a7, a8⟩ := p3v hm x
  have eb : b' = b := by rw [Bool.eq_iff_iff, a2, a4]
  have ed : d' = d := by rw [Bool.eq_iff_iff, a6, a8]
  subst eb; subst ed
  rw [if_neg (by simp), if_neg (by simp), show b3h m = ⟨⟨m⟩⟩ from rfl]
  simp only
  rw [a1, a3, a5, b9j hm.z, bS9, bS9, bS9, bS9, a7]
  cases b' with
  | false => exact ⟨(zero, 1), rfl, rfl, .inr (.inl ⟨hm, fun h => by simpa using a2.2 h.1, rfl⟩)⟩
  | true =>
   cases d' with
   | false => exact ⟨(zero, 1), rfl, rfl, .inr (.inl ⟨hm, fun h => by simpa using a6.2 h.2, rfl⟩)⟩
   | true =>
    have ho := a2.1 rfl
    refine ⟨(nxt m p x, 0), ?_, ?_, .inl ⟨hm, ho, a6.1 rfl, rfl⟩⟩
    ·simp only [Bool.not_true, fT9, if_false, bS9]
     rw [g5u hm ho]; rfl
    ·simp only [Bool.not_true, fT9, if_false, bS9]
     rw [d5u hm ho]; rfl
 ·exact absurd hm hm'
 ·exact absurd hm' hm
 ·exact ⟨(zero, 41), rfl, rfl, .inr (.inr ⟨hm, rfl⟩)⟩
theorem o8p {α : Type} {l : List α} {k : Nat} {x z : α} (h : l[k]? = some x) : l.getD k z = x := by
 rw [List.getD_eq_getElem?_getD, h]; rfl
section
variable [Bd]
end
end
end Go.Nw.KM
namespace Go.Nw.KM
noncomputable section
section
variable {m : Machine} {c : List (List Literal)} {hd : Nat -> Int}
end
end
end Go.Nw.KM
namespace Go.Nw.KM
noncomputable section
abbrev idn : Nat -> Int := fun x => (x : Int)
section
variable (m : Machine) (c : List (List Literal)) (P : List Place)
def hit (cur : List Bool) (i : Nat) : Bool := (List.range (2 ^ m.Inputs.length)).any fun j => b22 m (P.getD i zero) j c && cur.getD (P.idxOf (nxt m (P.getD i zero) (idn j))) false
end
section
variable {m : Machine} {c : List (List Literal)} {P : List Place}
end
def d17 (m : Machine) (c rest : List (List Literal)) (p : Place) : Prop := ∃ l q, o8f m c idn p l q /\ b46 m q 0 rest = true
structure Calm (m : Machine) (c rest : List (List Literal)) (P : List Place) (cur : List Bool) : Prop where
 n : cur.length = P.length
 s : ∀ i, i < P.length -> cur.getD i false = true -> d17 m c rest (P.getD i zero)
 r : ∀ i, i < P.length -> b46 m (P.getD i zero) 0 rest = true -> cur.getD i false = true
section
variable {m : Machine} {c rest : List (List Literal)} {P : List Place}
end
section
variable {m : Machine} {c rest : List (List Literal)} {K : Nat}
end
end
end Go.Nw.KM
namespace Go.Nw.KM
noncomputable section
def hs (i v : Nat) (x : Nat) : Int := (b6a x i v).getD 0
theorem d6y {m : Machine} {c n : List (List Literal)} (h : b7w m [c, n] 0) : OkM m /\ b2s m true c /\ b2s m true n := by
 rcases h with ⟨_, a, b⟩ | ⟨e, _⟩ | ⟨e, _⟩
 ·exact ⟨a, b c (by simp), b n (by simp)⟩
 ·cases e
 ·cases e
section
variable [Bd]
end
end
end Go.Nw.KM
namespace Go.Nw.KM
noncomputable section
theorem d9s (x : Nat) : b6a x (-1) 0 = some (idn x) := g5p x
section
variable {m : Machine} {c rest : List (List Literal)} {K : Nat}
end
section
variable [Bd]
end
end
end Go.Nw.KM
namespace Go.Nw.KM
noncomputable section
section
variable [Bd]
end
end
end Go.Nw.KM
namespace Go.Nw.KM
noncomputable section
def plc (m : Machine) (hd : Nat -> Int) (p : Place) (l : List Int) : Nat -> Place
 | 0 => p
 | k + 1 => nxt m (plc m hd p l k) (hd (l.getD k 0).toNat)
section
variable {m : Machine} {c never : List (List Literal)} {hd : Nat -> Int}
theorem p2n (hm : OkM m) {p : Place} (hp : OkP m p) (l : List Int) : ∀ k, OkP m (plc m hd p l k)
 | 0 => hp
 | k + 1 => l18 hm (p2n hm hp l k) _
def p2u (m : Machine) (c : List (List Literal)) (hd : Nat -> Int) (l : List Int) : Prop := ∀ (k : Nat) x, l[k]? = some x -> OkX m x /\ b22 m (plc m hd zero l k) x c = true
theorem p3e (l : List Int) (hf : p2u m c hd l) : ∀ k, k <= l.length -> ∃ P : List Nat, P.length = k /\ o8f m c hd zero P (plc m hd zero l k)
 | 0, _ => ⟨[], rfl, rfl⟩
 | k + 1, hk => by
  obtain ⟨P, h1, h2⟩ := p3e l hf k (by omega)
  obtain ⟨x, hx⟩ := b3b (l := l) (k := k) (by omega)
  obtain ⟨h3, h4⟩ := hf k x hx
  obtain ⟨h5, h6⟩ := h3
  refine ⟨P ++ [x.toNat], by simp [h1], ?_⟩
  have e : plc m hd zero l (k + 1) = nxt m (plc m hd zero l k) (hd x.toNat) := by conv => lhs; unfold plc; rw [o8p hx]
  rw [e]
  refine d8d h2 ?_ (by rw [Int.toNat_of_nonneg h5]; exact h4)
  have : ((2 ^ m.Inputs.length : Nat) : Int) = 2 ^ m.Inputs.length := by simp
  omega
theorem p3d (hf : ∀ n ∈ b3g m, n.size <= maxLen) (hm : OkM m) {ins : Bool} (hc : b2s m ins c) {inp val : Int} (hh : ∀ x : Nat, x < 2 ^ m.Inputs.length -> b6a x inp val = some (hd x) /\ OkX m (hd x)) {l : List Int} (hl : l.length <= 900) :
  (p2u m c hd l /\ p16 m l c inp val = some (tab (l.length + 1) (plc m hd zero l), true)) \/ (¬ p2u m c hd l /\ p16 m l c inp val = some ([], false)) := by
 have hi := hm.z.i
 have hpow : ((2 ^ m.Inputs.length : Nat) : Int) = 2 ^ m.Inputs.length := by simp
 have hw : IntKind.wrap .u64 ((m.Inputs.length : Nat) : Int) = (m.Inputs.length : Nat) := c9p (by omega) (by omega)
 have pre : ∀ (k : Nat) x, l[k]? = some x -> ∃ b, (if decide (x < 0) = true then some true else (shl .i64 1 (IntKind.wrap .u64 (List.length m.Inputs : Int))).bind fun q15 => some (decide (q15 <= x))) = some b /\ (b = true ↔ ¬ OkX m x) := fun k x hx => by
  unfold OkX In
  by_cases h : x < 0
  ·exact ⟨true, by simp [h], by simp; omega⟩
  ·rw [if_neg (by simpa using h), hw, c83 (by omega)]
   refine ⟨_, rfl, ?_⟩
   simp only [decide_eq_true_eq]
   omega
 have := g1j (f := p19 m l c inp val) l (fun (s : List Place) k => (s, k)) (fun k => tab (k + 1) (plc m hd zero l)) (fun k x => ¬ (OkX m x /\ b22 m (plc m hd zero l k) x c = true)) (.inr ([], false)) (.inl (tab (l.length + 1) (plc m hd zero l))) (fun k x _ hx hb => by
   have hk := b1k hx
   obtain ⟨b, b1, b2⟩ := pre k x hx
   unfold p19
   simp only [Int.ofNat_lt, hk, decide_true, if_true, c2y (show k < k + 1 by omega), b1h hx, bS9, c74]
   rw [b1, bS9]
   cases b with
   | true => rfl
   | false =>
    have hx' : OkX m x := Classical.byContradiction fun h => by simpa using b2.2 h
    have ha : b22 m (plc m hd zero l k) x c = false := c19 fun h => hb ⟨hx', h⟩
    rw [if_neg (by simp), d5o hm.z (p2n hm (o5b hm) l k).s hc, bS9, ha]
    rfl) (fun k x _ hx hb => by
   have hk := b1k hx
   have hb := Classical.not_not.1 hb
   obtain ⟨b, b1, b2⟩ := pre k x hx
   have hbf : b = false := c19 fun h => b2.1 h hb.1
   subst hbf
   obtain ⟨h0, h1⟩ := hb.1
   have hx' : x.toNat < 2 ^ m.Inputs.length := by omega
   have ex : ((x.toNat : Nat) : Int) = x := Int.toNat_of_nonneg h0
   obtain ⟨hd1, hd2⟩ := hh x.toNat hx'
   rw [ex] at hd1
   have hok := p2n (hd := hd) hm (o5b hm) l k
   unfold p19
   simp only [Int.ofNat_lt, hk, decide_true, if_true, c2y (show k < k + 1 by omega), b1h hx, bS9, c74]
   rw [b1, bS9, if_neg (by simp), d5o hm.z hok.s hc, bS9, hb.2, bS9, if_neg (by simp), hd1, bS9]
   obtain ⟨r, r1, _, r3⟩ := p3k hf (plc m hd zero l k) (hd x.toNat)
   have hr : r = (nxt m (plc m hd zero l k) (hd x.toNat), 0) := by
    rcases r3 with ⟨_, _, _, e⟩ | ⟨_, h, _⟩ | ⟨h, _⟩
    ·exact e
    ·exact absurd ⟨hok, hd2⟩ h
    ·exact absurd hm h
   subst hr
   obtain ⟨b', c1, c2⟩ := o83 hm (nxt m (plc m hd zero l k) (hd x.toNat))
   have hb' : b' = true := c2.2 (l18 hm hok _)
   subst hb'
   rw [r1, bS9]
   simp only [not_true_eq_false, decide_false, fT9, if_false, c74, c1, bS9, Bool.not_true]
   rw [b6d (by rw [b3y]; omega) (by simp) (by omega), bS9, b2r hk (b1o (by omega))]
   have e : plc m hd zero l (k + 1) = nxt m (plc m hd zero l k) (hd x.toNat) := by conv => lhs; unfold plc; rw [o8p hx]
   rw [<- e, <- l5w]) (by
   unfold p19
   simp only [Int.lt_irrefl, decide_false, fT9, if_false]) (s0 := [zero]) rfl
 unfold p16 p2l
 rw [show [Place.mk 0 (0, 0)] = [zero] from rfl]
 rcases this with ⟨h1, h2⟩ | ⟨⟨k, x, h1, h2⟩, h3⟩
 ·rw [h2]
  exact .inl ⟨fun k x hx => Classical.not_not.1 (h1 k x hx), rfl⟩
 ·rw [h3]
  exact .inr ⟨fun h => h2 (h k x h1), rfl⟩
theorem p2w {K : Nat} (hK : End m c hd K) : ∀ {P : List Nat} {p q : Place}, p ∈ (b0h m c hd K).1 -> o8f m c hd p P q -> q ∈ (b0h m c hd K).1
 | [], p, q, hp, h => by cases h; exact hp
 | x :: P, p, q, hp, ⟨h1, h2, h3⟩ => by
  obtain ⟨k, hk⟩ := b1d.1 hp
  exact p2w hK (closed hk (by have := b1k hk; have := hK.2.2; omega) h2 h1) h3
theorem p24 (k : Nat) : zero ∈ (b0h m c hd k).1 := (d4g (m := m) (c := c) (hd := hd) (Nat.zero_le k)).subset (by simp [b0h])
inductive Dp (s : S3) : Nat -> Nat -> Prop
 | z : Dp s 0 0
 | s {k b n : Nat} (hk : 1 <= k) (hb : s.2.1[k]? = some (b : Int)) (h : Dp s b n) : Dp s k (n + 1)
structure Bo (i : Int) (s : S3) : Prop where
 l : ∀ (j : Nat) b, s.2.1[j]? = some b -> b <= i
 m : ∀ (j j' : Nat) b b', j <= j' -> s.2.1[j]? = some b -> s.2.1[j']? = some b' -> b <= b'
theorem Bo.up {i i' : Int} {s : S3} (h : Bo i s) (hi : i <= i') : Bo i' s := ⟨fun j b hb => Int.le_trans (h.l j b hb) hi, h.m⟩
end
end
end Go.Nw.KM
namespace Go.Nw.KM
noncomputable section
theorem p3j {m : Machine} (hf : ∀ n ∈ b3g m, n.size <= maxLen) {c : List (List Literal)} (hm : OkM m) (hc : b2s m true c) : ∃ K, End m c idn K /\ p2e m c = some ((b0h m c idn K).1, 0) := by
 obtain ⟨e, h1, h2⟩ := d6t hf (l := [c]) (by simp)
 have he : e = 0 := d6z h2 (.inl ⟨rfl, hm, fun x hx => by simp at hx; subst hx; exact hc⟩)
 subst he
 obtain ⟨K, hK⟩ := g2u (c := c) (hd := idn) hm
 unfold p2e
 rw [h1, bS9, if_neg (by simp), show b3h m = ⟨⟨m⟩⟩ from rfl, d7u (hd := idn) hm hc (heard := fun z7 => some (b6f z7)) (fun x _ => rfl) hK]
 exact ⟨K, hK, rfl⟩
theorem p3c {m : Machine} (x : Nat) (hx : x < 2 ^ m.Inputs.length) : b6a x (-1) 0 = some (idn x) /\ OkX m (idn x) := ⟨d9s x, by
 have : ((2 ^ m.Inputs.length : Nat) : Int) = 2 ^ m.Inputs.length := by simp
 unfold OkX In; show 0 <= (x : Int) /\ (x : Int) < _; omega⟩
section
variable [Bd]
end
end
end Go.Nw.KM
namespace Go.Nw.KM
noncomputable section
theorem p68 {l : List Place} (hl : l.length <= maxLen) (q : Place) : p6s l q = some (decide (q ∈ l)) := by
 unfold p6s p61
 rw [c7s (f := p6t l q) (n := l.length) (p := fun k => decide (l[k]? = some q)) (e := fun _ => .inr true) (u := .inl ()) (fun k hk hp => by
   obtain ⟨x, hx⟩ := b3b hk
   have e : x = q := by simpa [hx] using hp
   unfold p6t
   simp only [Int.ofNat_lt, hk, decide_true, if_true, b1h hx, bS9, e]) (fun k hk hp => by
   obtain ⟨x, hx⟩ := b3b hk
   have e : ¬ x = q := by simpa [hx] using hp
   unfold p6t
   simp only [Int.ofNat_lt, hk, decide_true, if_true, b1h hx, bS9, e, decide_false, fT9, if_false, b2r hk hl]) (by
   unfold p6t
   simp only [Int.lt_irrefl, decide_false, fT9, if_false]), bS9]
 cases hf : b5q l.length (fun k => decide (l[k]? = some q)) with
 | none =>
  have : q ∉ l := fun h => by
   obtain ⟨k, hk⟩ := b1d.1 h
   have := d72.1 hf k (b1k hk)
   simp [hk] at this
  rw [decide_eq_false this]
 | some k =>
  obtain ⟨h1, h2, _⟩ := j00 hf
  have : q ∈ l := b1d.2 ⟨k, by simpa using h2⟩
  rw [decide_eq_true this]
structure Seen (m : Machine) (c : List (List Literal)) (L : List Place) (p : Place) (s : List Place) : Prop where
 n : s.Nodup
 l : ∀ q ∈ s, q ∈ L
 g : ∀ q ∈ s, ∃ P, o8f m c idn p P q
 p : p ∈ s
section
variable {m : Machine} {c rest : List (List Literal)} {K : Nat}
end
section
variable [Bd]
end
end
end Go.Nw.KM
namespace Go.Nw.KM
noncomputable section
theorem p9f {c : List (List Literal)} (h : d02 c) (hne : c ≠ []) : p8v c = some c := by
 have h1 := h.1
 unfold Few at h1
 unfold p8v p83
 have := b4h (f := p8w c) c.length (fun (s : List (List Literal)) k => (s, k)) (fun k => c.take k) c (s0 := []) rfl (fun k hk => by
   obtain ⟨x, hx⟩ := b3b hk
   have hf : x.length <= 1048576 := h.2 x (b1d.2 ⟨k, hx⟩)
   unfold p8w
   simp only [Int.ofNat_lt, hk, decide_true, if_true, b1h hx, bS9]
   rw [b6x (by simp) hf (by omega), bS9, List.nil_append, b6x (by rw [List.length_take]; omega) (by simp) (by omega), bS9, b2r hk (d7y h1), g3l hx]) (by
   unfold p8w
   simp only [Int.lt_irrefl, decide_false, fT9, if_false, List.take_length])
 rw [this, bS9]
 cases c with
 | nil => exact absurd rfl hne
 | cons x c => rfl
theorem p9w {m : Machine} {ins : Bool} {c : List (List Literal)} (h : b2s m ins c) : d02 c := ⟨by have := h.1; unfold Few; omega, fun t ht => by have := (h.2 t ht).1; unfold Few; omega⟩
section
variable {m : Machine} {c : List (List Literal)} {K : Nat}
def p82 (m : Machine) (c : List (List Literal)) (p q : Place) (x : Nat) : Bool := b22 m p x c && decide (nxt m p (idn x) = q)
def c36 (m : Machine) (c : List (List Literal)) (p q : Place) (n : Nat) : Bool := (List.range n).any (p82 m c p q)
def l29 (m : Machine) (c : List (List Literal)) (L : List Place) (q : Place) (k : Nat) : Bool := (List.range k).any fun j => c36 m c (L.getD j zero) q (2 ^ m.Inputs.length)
theorem p9i {p q : Place} {n : Nat} : c36 m c p q (n + 1) = (c36 m c p q n || p82 m c p q n) := by unfold c36; rw [List.range_succ, List.any_append]; simp
theorem p9h {L : List Place} {q : Place} {k : Nat} : l29 m c L q (k + 1) = (l29 m c L q k || c36 m c (L.getD k zero) q (2 ^ m.Inputs.length)) := by unfold l29; rw [List.range_succ, List.any_append]; simp
theorem p9g (hm : OkM m) : ∀ q ∈ (b0h m c idn K).1, ∃ P, o8f m c idn zero P q := fun q hq => by
 obtain ⟨k, hk⟩ := b1d.1 hq
 have hg := c49 (c := c) (hd := idn) hm K
 obtain ⟨P, _, _, _, q', h1, h2⟩ := g2z hg (d4h (c := c) (hd := idn) hm K) (c0q hm hg.n hg.o) (b4a m c idn K) ⟨(b0h m c idn K).1, (b0h m c idn K).2.1, (b0h m c idn K).2.2⟩ ⟨rfl, rfl⟩ ⟨rfl, rfl⟩ k (b1k hk)
 rw [hk] at h1; cases h1
 exact ⟨P, h2⟩
theorem p9o (hf : ∀ n ∈ b3g m, n.size <= maxLen) (hm : OkM m) {ins : Bool} {C : l04_Conds} (hC : C.Assume = c) (hc : b2s m ins c) (e : Int) {i : Nat} (hi : i < (b0h m c idn K).1.length) (h1 : 1 <= i) :
  b0w (l33 m C ((b0h m c idn K).1, e) i) (false, 0) = some true := by
 have hg := c49 (c := c) (hd := idn) hm K
 have hlen := c0q hm hg.n hg.o
 have hpow := p2a hm.z
 have hi4 := hm.z.i
 have hw : IntKind.wrap .u64 ((m.Inputs.length : Nat) : Int) = (m.Inputs.length : Nat) := c9p (by omega) (by omega)
 have hq16 : shl .i64 1 (IntKind.wrap .u64 (List.length m.Inputs : Int)) = some (((2 ^ m.Inputs.length : Nat) : Int)) := by
  rw [hw, c83 (by omega)]; simp
 obtain ⟨q, hq⟩ := b3b hi
 have inner : ∀ (k : Nat) (b : Bool), k < i -> b0w (p8p m C ((b0h m c idn K).1, e) i k) (b, 0) = some (b || c36 m c ((b0h m c idn K).1.getD k zero) q (2 ^ m.Inputs.length)) := fun k b hk => by
  obtain ⟨p, hp⟩ := b3b (l := (b0h m c idn K).1) (k := k) (by omega)
  have ho := hg.o p (b1d.2 ⟨k, hp⟩)
  rw [o8p hp]
  refine b4h (f := p8p m C ((b0h m c idn K).1, e) i k) (2 ^ m.Inputs.length) (fun (s : Bool) x => (s, x)) (fun x => b || c36 m c p q x) _ (by simp [c36]) (fun x hx => ?_) ?_
  ·obtain ⟨r, r1, _, r3⟩ := p3k hf p (idn x)
   have hxx : OkX m (idn x) := (p3c x hx).2
   have hre : r = (nxt m p (idn x), 0) := by
    rcases r3 with ⟨_, _, _, e⟩ | ⟨_, h, _⟩ | ⟨h, _⟩
    ·exact e
    ·exact absurd ⟨ho, hxx⟩ h
    ·exact absurd hm h
   subst hre
   unfold p8p p8u
   simp only [hq16, bS9, Int.ofNat_lt, hx, decide_true, if_true, b1h hp, hC, d5o hm.z ho.s hc, b2r hx (b1o (by omega))]
   rw [p9i]
   unfold p82
   cases ha : b22 m p x c with
   | false => simp
   | true =>
    simp only [Bool.not_true, fT9, if_false, Bool.true_and]
    rw [show p2f m p (x : Int) = some (nxt m p (idn x), 0) from r1, bS9]
    simp only [decide_true, if_true, b1h hq, bS9, c74]
    cases hb : (b || c36 m c p q x) with
    | true => simp only [if_true, bS9]; rw [show (b || (c36 m c p q x || decide (nxt m p (idn x) = q))) = true by rw [<- Bool.or_assoc, hb]; rfl]
    | false => simp only [fT9, if_false, bS9]; rw [<- Bool.or_assoc, hb]; rfl
  ·unfold p8p
   simp only [hq16, bS9, Int.lt_irrefl, decide_false, fT9, if_false]
 have key : ∀ d k : Nat, i - k = d -> k <= i -> b0w (l33 m C ((b0h m c idn K).1, e) i) (l29 m c (b0h m c idn K).1 q k, (k : Int)) = some (l29 m c (b0h m c idn K).1 q i) := by
  intro d
  induction d with
  | zero =>
   intro k h2 h3
   obtain rfl : k = i := by omega
   refine b3d ?_
   unfold l33
   simp only [Int.lt_irrefl, decide_false, Bool.false_and, fT9, if_false]
  | succ d ih =>
   intro k h2 h3
   cases hb : l29 m c (b0h m c idn K).1 q k with
   | true =>
    have hti : l29 m c (b0h m c idn K).1 q i = true := by
     obtain ⟨j, hj, hj2⟩ := List.any_eq_true.1 hb
     exact List.any_eq_true.2 ⟨j, List.mem_range.2 (by have := List.mem_range.1 hj; omega), hj2⟩
    rw [hti]
    refine b3d ?_
    unfold l33
    simp
   | false =>
    have := ih (k + 1) (by omega) (by omega)
    rw [<- this]
    refine b32 ?_
    have hlt : k < i := by omega
    unfold l33 p81
    simp only [Int.ofNat_lt, hlt, decide_true, Bool.not_false, Bool.and_self, if_true]
    rw [inner k false hlt, bS9, p9h, hb, b2r hlt (b1o (by omega))]
    rfl
 have h0 := key _ 0 rfl (by omega)
 rw [show l29 m c (b0h m c idn K).1 q 0 = false from rfl] at h0
 simp only [Int.natCast_zero] at h0
 rw [h0]
 obtain ⟨b, x, p, e1, e2, e3, e4, e5, e6, e7⟩ := (d4h (c := c) (hd := idn) hm K).t i q h1 hq
 congr 1
 refine List.any_eq_true.2 ⟨b, List.mem_range.2 e3, List.any_eq_true.2 ⟨x, List.mem_range.2 e4, ?_⟩⟩
 unfold p82
 rw [o8p e5, e6, e7]; simp
end
section
variable [Bd]
theorem p9p (m : Machine) (c : l04_Conds) (run : List Int) (hm0 : b9d m) (hc0 : c54 c) (hx0 : OkL b5k run) : p8r m c run = some true := by
 have hf := l5y hm0
 obtain ⟨b, hb⟩ := l7h hf
 obtain ⟨e, he1, he2⟩ := d5s hf (l := [c.Assume, c.Never]) (by simp)
 unfold p8r
 rw [hb, bS9, he1, bS9]
 cases b with
 | true => rfl
 | false =>
 simp only [fT9, if_false, bS9]
 by_cases he : e = 0
 case neg => rw [if_pos (by simp [he])]; rfl
 subst he
 obtain ⟨hm, hc, hn⟩ := d6y he2
 by_cases h60 : (60 : Int) < (run.length : Int)
 ·rw [if_pos (by simp [h60])]; rfl
 rw [if_neg (by simp only [Bool.or_eq_true, decide_eq_true_eq, not_or]; exact ⟨by simp, h60⟩)]
 obtain ⟨K, hK, hr⟩ := p3j hf hm hc
 have hgood := c49 (c := c.Assume) (hd := idn) hm K
 have hlen := c0q hm hgood.n hgood.o
 have ht := d4h (c := c.Assume) (hd := idn) hm K
 have hpos := b1k ht.z
 rw [hr, bS9]
 have hz := b1h ht.z
 simp only [Int.natCast_zero] at hz
 have hne : ¬ ((b0h m c.Assume idn K).1.length : Int) = 0 := by omega
 simp only [not_true_eq_false, decide_false, Bool.false_or, hne, fT9, if_false, hz, bS9, show (zero = Place.mk 0 (0, 0)) = True from eq_true rfl, decide_true, Bool.not_true]
 have l1 := p9u (f := p8q m c ((b0h m c.Assume idn K).1, 0)) (b0h m c.Assume idn K).1.length (fun (_ : Unit) k => k) (fun _ => ()) (.inl ()) (s0 := ()) 1 rfl (by omega) (fun i h1 hi => by
   obtain ⟨q, hq⟩ := b3b hi
   unfold p8q p80 p8z
   simp only [Int.ofNat_lt, hi, decide_true, if_true]
   rw [p9o hf hm rfl hc 0 hi h1, bS9]
   simp only [Bool.not_true, fT9, if_false, b1h hq, bS9]
   have hsub : sub (b0h m c.Assume idn K).1 0 (i : Int) = some ((b0h m c.Assume idn K).1.take i) := by
    unfold sub; rw [if_pos ⟨by omega, by omega, by omega⟩]; simp
   rw [hsub, bS9, p68 (by rw [List.length_take]; exact b1o (by omega)), bS9, bS9]
   have hno : q ∉ (b0h m c.Assume idn K).1.take i := fun h => by
    obtain ⟨j, hj⟩ := b1d.1 h
    have hji := b1k hj
    rw [List.length_take] at hji
    rw [List.getElem?_take, if_pos (by omega)] at hj
    have e1 := (gS9.1 hj)
    have e2 := (gS9.1 hq)
    obtain ⟨a1, a2⟩ := e1
    obtain ⟨b1, b2⟩ := e2
    have := (List.getElem_inj hgood.n).1 (a2.trans b2.symm)
    omega
   rw [decide_eq_false hno, if_neg (by simp), b2r hi (b1o (by omega))]) (by
   unfold p8q
   simp only [Int.lt_irrefl, decide_false, fT9, if_false])
 have l1' : b0w (p8q m c ((b0h m c.Assume idn K).1, 0)) 1 = some (.inl ()) := l1
 rw [l1', bS9]
 simp only
 -- the last part: a wider Assume
 have last : p8t m c ((b0h m c.Assume idn K).1, 0) = some true := by
  unfold p8t
  by_cases hA : (((decide ((List.length c.Assume : Int) = 0)) || (decide ((List.length c.Never : Int) = 0))) || (decide ((List.length c.Assume : Int) = 6))) = true
  ·rw [if_pos hA]; rfl
  rw [if_neg hA]
  simp only [Bool.or_eq_true, decide_eq_true_eq, not_or] at hA
  obtain ⟨⟨a1, a2⟩, a3⟩ := hA
  have hcl := hc.1
  obtain ⟨t, htn⟩ := b3b (l := c.Never) (k := 0) (by omega)
  have htg := b1h htn
  simp only [Int.natCast_zero] at htg
  have hw : b2s m true (c.Assume ++ [t]) := ⟨by simp; omega, fun u hu => by
   rcases List.mem_append.1 hu with hu | hu
   ·exact hc.2 u hu
   ·simp at hu; subst hu; exact hn.2 u (b1d.2 ⟨0, htn⟩)⟩
  obtain ⟨K', hK', hr'⟩ := p3j hf hm hw
  have hgood' := c49 (c := c.Assume ++ [t]) (hd := idn) hm K'
  have hlen' := c0q hm hgood'.n hgood'.o
  rw [p9f (p9w hc) (fun h => a1 (by rw [h]; rfl)), bS9, htg, bS9, b6d (by omega) (by simp) (by omega), bS9, hr', bS9, if_neg (by simp)]
  have wider : ∀ (p : Place) (x : Int), b22 m p x c.Assume = true -> b22 m p x (c.Assume ++ [t]) = true := fun p x h => by
   unfold b22 b46 at h ⊢
   rw [List.any_append]
   have : c.Assume.isEmpty = false := by cases hh : c.Assume with
                                         | nil => rw [hh] at a1; simp at a1
                                         | cons a b => rfl
   rw [this, Bool.false_or] at h
   rw [h]; simp
  have gw : ∀ {P : List Nat} {p q : Place}, o8f m c.Assume idn p P q -> o8f m (c.Assume ++ [t]) idn p P q := by
   intro P
   induction P with
   | nil => exact fun h => h
   | cons x P ih => exact fun ⟨h1, h2, h3⟩ => ⟨h1, wider _ _ h2, ih h3⟩
  have l3 := b4h (f := p8s ((b0h m c.Assume idn K).1, 0) ((b0h m (c.Assume ++ [t]) idn K').1, 0)) (b0h m c.Assume idn K).1.length (fun (_ : Unit) k => k) (fun _ => ()) (.inl ()) (s0 := ()) rfl (fun k hk => by
   obtain ⟨q, hq⟩ := b3b hk
   obtain ⟨P, hP⟩ := p9g hm q (b1d.2 ⟨k, hq⟩)
   have hin := p2w hK' (p24 K') (gw hP)
   unfold p8s
   simp only [Int.ofNat_lt, hk, decide_true, if_true, b1h hq, bS9, p68 (b1o (show (b0h m (c.Assume ++ [t]) idn K').1.length <= 1000 by omega)), decide_eq_true hin, Bool.not_true, fT9, if_false, b2r hk (b1o (by omega))]) (by
   unfold p8s
   simp only [Int.lt_irrefl, decide_false, fT9, if_false])
  rw [l3]; rfl
 unfold p8y
 rcases p3d hf hm hc (fun y hy => p3c y hy) (l := run) (by omega) with ⟨hfair, hp⟩ | ⟨_, hp⟩
 ·rw [hp, bS9]
  have l2 := b4h (f := p8m ((b0h m c.Assume idn K).1, 0) (tab (run.length + 1) (plc m idn zero run), true)) (run.length + 1) (fun (_ : Unit) k => k) (fun _ => ()) (.inl ()) (s0 := ()) rfl (fun k hk => by
   obtain ⟨P, g1, g2⟩ := p3e run hfair k (by omega)
   have hin := p2w hK (p24 K) g2
   unfold p8m
   simp only [b3y, Int.ofNat_lt, hk, decide_true, Bool.and_self, if_true, c2y hk, bS9, p68 (b1o (show (b0h m c.Assume idn K).1.length <= 1000 by omega)), decide_eq_true hin, Bool.not_true, fT9, if_false, b2r hk (b1o (by omega))]) (by
   unfold p8m
   simp only [b3y, Int.lt_irrefl, decide_false, Bool.and_false, fT9, if_false])
  rw [l2]; exact last
 ·rw [hp, bS9, b3d (f := p8m ((b0h m c.Assume idn K).1, 0) ([], false)) (s := 0) (b := .inl ()) (by unfold p8m; rfl)]
  exact last
end
end
end Go.Nw.KM
