/- Plain laws on the models. -/
import Derived.Test.YtinmifhfkkjccaaP5
import Derived.Test.YtinmifhfkkjccaaNwBfs
import Derived.Test.YtinmifhfkkjccaaP4
import Derived.KernelRfl
set_option linter.all false
namespace Go.Nw.XM.W
open Go.Nw.Tp3
noncomputable section
def l16 (out : Int) (help : Bool) (p : Passage) : Bool := (decide (p.Kind = 1) || (decide (p.Kind = 4) && decide (b6y ((shr .i64 out p.Machine).getD 0) 1 = 0))) || (decide (p.Kind = 5) && help)
def oth (out : Int) (help : Bool) (p : Passage) (fr : Int) : Int := if l16 out help p then (if p.A = fr then p.B else if p.B = fr then p.A else -1) else -1
section
variable {s : Station} (hs : OkSt s) {out : Int} {help : Bool}
include hs
theorem J04 {p : Passage} (hp : p ∈ s.Passages) (fr : Int) : x81 ⟨s, out, help⟩ p fr = some (oth out help p fr) := by
 have ok := hs.p p hp
 have hm := ok.m
 unfold x81 oth l16
 by_cases k1 : p.Kind = 1
 ·simp only [k1, decide_true, if_true, bS9, Bool.true_or, Bool.not_true, fT9, if_false]
  by_cases e1 : p.A = fr
  ·simp [e1]
  ·by_cases e2 : p.B = fr <;> simp [e1, e2]
 ·by_cases k4 : p.Kind = 4
  ·have : c47 p = true := by unfold c47; simp [k4]
   rw [this] at hm
   simp only [if_true] at hm
   rw [g29 hm.1]
   simp only [k4, Int.reduceEq, decide_false, fT9, if_false, decide_true, if_true, bS9, Option.getD_some, Bool.false_or, Bool.true_and, Bool.false_and, Bool.or_false]
   cases decide (b6y (d45 .i64 out p.Machine) 1 = 0)
   ·simp
   ·by_cases e1 : p.A = fr
    ·simp [e1]
    ·by_cases e2 : p.B = fr <;> simp [e1, e2]
  ·simp only [k1, k4, decide_false, fT9, if_false, bS9, Bool.false_or, Bool.false_and]
   cases (decide (p.Kind = 5) && help)
   ·simp
   ·by_cases e1 : p.A = fr
    ·simp [e1]
    ·by_cases e2 : p.B = fr <;> simp [e1, e2]
omit hs in
theorem J1y {p : Passage} {fr : Int} (h : 0 <= oth out help p fr) : l16 out help p = true /\ ((p.A = fr /\ oth out help p fr = p.B) \/ (p.A ≠ fr /\ p.B = fr /\ oth out help p fr = p.A)) := by
 unfold oth at h ⊢
 by_cases o : l16 out help p = true
 ·rw [if_pos o] at h ⊢
  refine ⟨o, ?_⟩
  by_cases e1 : p.A = fr
  ·exact .inl ⟨e1, by rw [if_pos e1]⟩
  ·rw [if_neg e1] at h ⊢
   by_cases e2 : p.B = fr
   ·exact .inr ⟨e1, e2, by rw [if_pos e2]⟩
   ·rw [if_neg e2] at h; omega
 ·rw [if_neg o] at h; omega
theorem J03 {p : Passage} (hp : p ∈ s.Passages) {fr : Int} (h : 0 <= oth out help p fr) : oth out help p fr < s.Places /\ oth out help p fr ≠ fr /\ 0 <= fr /\ fr < s.Places := by
 have ok := hs.p p hp
 have a0 := ok.a0; have a1 := ok.a1; have b0 := ok.b0; have b1 := ok.b1; have ne := ok.ne
 obtain ⟨_, ⟨e1, e2⟩ | ⟨e0, e1, e2⟩⟩ := J1y h
 ·rw [e2]; exact ⟨b1, by omega, by omega, by omega⟩
 ·rw [e2]; exact ⟨a1, by omega, by omega, by omega⟩
end
def J2i (s : Station) (out : Int) (help : Bool) (to : Nat) (t : List Int) : Prop := ∀ (fr : Nat) u, fr ≠ to -> t[fr]? = some u -> 0 <= u -> ∃ (k : Nat) (p : Passage) (y : Nat) (v : Int), s.Passages[k]? = some p /\ oth out help p fr = y /\ t[y]? = some v /\ 0 <= v /\ v + p.Ticks <= u
def H84 (s : Station) (out : Int) (help : Bool) (t : List Int) (fr k : Nat) : Prop := ∀ (p : Passage) (y : Nat) (v : Int), s.Passages[k]? = some p -> oth out help p fr = y -> t[y]? = some v -> 0 <= v -> ∃ u, t[fr]? = some u /\ 0 <= u /\ u <= v + p.Ticks
structure Inv (s : Station) (out : Int) (help : Bool) (N to : Nat) (t : List Int) : Prop where
 o : OkT N t
 z : t[to]? = some 0
 t : J2i s out help to t
def Bet (s : Station) (out : Int) (help : Bool) (N to : Nat) (t0 : List Int) (fr k : Nat) (x : List Int × Bool) : Prop := Inv s out help N to x.1 /\ ((x.2 = false /\ x.1 = t0 /\ ∀ fr' k', (fr' < fr \/ (fr' = fr /\ k' < k)) -> H84 s out help t0 fr' k') \/ (x.2 = true /\ c55 x.1 < c55 t0))
section
variable {s : Station} (hs : OkSt s) {out : Int} {help : Bool} {N to : Nat} (hN : s.Places = (N : Int))
include hs hN
theorem C2v {t0 t : List Int} {m : Bool} {fr : Nat} (hf : fr < N) (h : Bet s out help N to t0 fr 0 (t, m)) : ∃ b, b0w (x18 ⟨s, out, help⟩ (fr : Int)) (t, m, 0) = some b /\ Bet s out help N to t0 (fr + 1) 0 b := by
 have n1 := hs.n1
 have hlen := hs.len
 have hN10 : N <= 10 := by omega
 obtain ⟨b, e, hb⟩ := j7u (f := x18 ⟨s, out, help⟩ (fr : Int)) s.Passages.length (fun (x : List Int × Bool) k => (x.1, x.2, k)) (fun k x => Bet s out help N to t0 fr k x) (fun b => Bet s out help N to t0 fr s.Passages.length b) (fun x k hk hi => by
   obtain ⟨t, m⟩ := x
   obtain ⟨p, hp⟩ := b3b hk
   have hpm := mG9 hp
   have ok := hs.p p hpm
   have ek : wr ((k : Int) + 1) = (k : Int) + 1 := b3t (by omega) (by omega)
   obtain ⟨hI, hM⟩ := hi
   have hT1 : t.length = N := hI.o.len
   have hT2 : ∀ x ∈ t, -1 <= x /\ x <= 20 * (j36 t : Int) := hI.o.v
   have stay : x52 (k : Int) t m = some (.nx (t, m, (k : Int) + 1)) := by unfold x52; rw [ek]
   have fixed : H84 s out help t fr k -> Bet s out help N to t0 fr (k + 1) (t, m) := fun hfix => ⟨hI, by
    rcases hM with ⟨h1, h2, h3⟩ | h
    ·have h2' : t = t0 := h2
     refine .inl ⟨h1, h2, fun fr' k' hlt => ?_⟩
     by_cases e : fr' = fr /\ k' = k
     ·obtain ⟨rfl, rfl⟩ := e; rw [<- h2']; exact hfix
     ·exact h3 fr' k' (by omega)
    ·exact .inr h⟩
   unfold x18
   show (∃ s', (if decide ((k : Int) < (s.Passages.length : Int)) then _ else _) = _ /\ _) \/ ∃ b, (if decide ((k : Int) < (s.Passages.length : Int)) then _ else _) = _ /\ _
   simp only [show ((k : Int) < (s.Passages.length : Int)) by omega, decide_true, if_true, b1h hp, bS9, J04 hs hpm]
   by_cases g : oth out help p fr < 0
   ·simp only [g, decide_true, if_true, bS9]
    refine .inl ⟨(t, m), stay, fixed fun p' y v hp' hy => ?_⟩
    rw [hp] at hp'; cases hp'
    omega
   obtain ⟨yn, hyn⟩ : ∃ yn : Nat, oth out help p fr = yn := ⟨(oth out help p fr).toNat, by omega⟩
   have hyi := J03 hs hpm (fr := fr) (by omega : 0 <= oth out help p fr)
   rw [hyn] at hyi g ⊢
   obtain ⟨v, hv⟩ := b3b (show yn < t.length by omega)
   obtain ⟨u, hu⟩ := b3b (show fr < t.length by omega)
   have v1 := hT2 v (mG9 hv)
   have u1 := hT2 u (mG9 hu)
   have hc := C00 t
   simp only [g, decide_false, fT9, if_false, b1h hv, bS9, b1h hu]
   have uniq : ∀ {p' : Passage} {y : Nat} {w : Int}, s.Passages[k]? = some p' -> oth out help p' fr = y -> t[y]? = some w -> p' = p /\ w = v := fun {p' y w} h1 h2 h3 => by
    rw [hp] at h1; cases h1
    rw [hyn] at h2
    have : yn = y := by omega
    subst this
    rw [hv] at h3; cases h3
    exact ⟨rfl, rfl⟩
   by_cases g2 : v < 0
   ·simp only [g2, decide_true, if_true]
    refine .inl ⟨(t, m), stay, fixed fun p' y w h1 h2 h3 h4 => ?_⟩
    obtain ⟨_, rfl⟩ := uniq h1 h2 h3
    omega
   simp only [g2, decide_false, fT9, if_false]
   have t0' := ok.t0
   have t1' := ok.t1
   have ew : wr (v + p.Ticks) = v + p.Ticks := b3t (by omega) (by omega)
   rw [ew]
   by_cases g3 : (decide (u < 0) || decide (v + p.Ticks < u)) = true
   ·rw [if_pos g3]
    simp only [Bool.or_eq_true, decide_eq_true_eq] at g3
    have c1 := C0r (fun x => if 0 <= x then 1 else 0) t fr (v + p.Ticks) u hu
    have m1 := C0r (fun x => if 0 <= x then x.toNat else 1000) t fr (v + p.Ticks) u hu
    have hv0 : 0 <= v + p.Ticks := by omega
    simp only [hv0, if_true] at c1 m1
    have hcs : j36 (t.set fr (v + p.Ticks)) + (if 0 <= u then 1 else 0) = j36 t + 1 := c1
    have hms : c55 (t.set fr (v + p.Ticks)) + (if 0 <= u then u.toNat else 1000) = c55 t + (v + p.Ticks).toNat := m1
    have hcge : j36 t <= j36 (t.set fr (v + p.Ticks)) := by
     by_cases z : 0 <= u
     ·rw [if_pos z] at hcs; omega
     ·rw [if_neg z] at hcs; omega
    have hlt : c55 (t.set fr (v + p.Ticks)) < c55 t := by
     by_cases z : 0 <= u
     ·rw [if_pos z] at hms; omega
     ·rw [if_neg z] at hms; omega
    have hne : fr ≠ to := fun e => by
     have hz := hI.z
     rw [<- e] at hz
     have hz' : t[fr]? = some 0 := hz
     rw [hu] at hz'; cases hz'
     omega
    have hfl : fr < t.length := b1k hu
    have hyf : yn ≠ fr := fun e => hyi.2.1 (by rw [e])
    refine .inl ⟨(t.set fr (v + p.Ticks), true), ?_, ⟨⟨by rw [List.length_set]; exact hT1, fun x hx => ?_⟩, ?_, fun fr2 u2 h1 h2 h3 => ?_⟩, .inr ⟨rfl, ?_⟩⟩
    ·unfold x52
     rw [ek, Int.toNat_natCast]
    ·show -1 <= x /\ x <= 20 * (j36 (t.set fr (v + p.Ticks)) : Int)
     rcases List.mem_or_eq_of_mem_set hx with hx | hx
     ·have := hT2 x hx
      exact ⟨this.1, by omega⟩
     ·rw [hx]
      refine ⟨by omega, ?_⟩
      by_cases z : 0 <= u
      ·rcases g3 with g3 | g3
       ·omega
       ·have : v + p.Ticks <= 20 * (j36 t : Int) := by omega
        omega
      ·rw [if_neg z] at hcs; omega
    ·show (t.set fr (v + p.Ticks))[to]? = some 0
     rw [List.getElem?_set_ne hne]; exact hI.z
    ·have h2' : (t.set fr (v + p.Ticks))[fr2]? = some u2 := h2
     show ∃ (k : Nat) (p' : Passage) (y : Nat) (w : Int), s.Passages[k]? = some p' /\ oth out help p' fr2 = y /\ (t.set fr (v + p.Ticks))[y]? = some w /\ 0 <= w /\ w + p'.Ticks <= u2
     by_cases e : fr2 = fr
     ·subst e
      rw [List.getElem?_set_self hfl] at h2'; cases h2'
      exact ⟨k, p, yn, v, hp, hyn, by rw [List.getElem?_set_ne (fun e => hyf e.symm)]; exact hv, by omega, by omega⟩
     ·rw [List.getElem?_set_ne (fun e' => e e'.symm)] at h2'
      obtain ⟨k2, p2, y2, v2, q1, q2, q3, q4, q5⟩ := hI.t fr2 u2 h1 h2' h3
      by_cases e2 : y2 = fr
      ·subst e2
       have q3' : t[y2]? = some v2 := q3
       rw [hu] at q3'; cases q3'
       exact ⟨k2, p2, y2, v + p.Ticks, q1, q2, by rw [List.getElem?_set_self hfl], by omega, by omega⟩
      ·exact ⟨k2, p2, y2, v2, q1, q2, by rw [List.getElem?_set_ne (fun e' => e2 e'.symm)]; exact q3, q4, q5⟩
    ·show c55 (t.set fr (v + p.Ticks)) < c55 t0
     rcases hM with ⟨_, h, _⟩ | ⟨_, h⟩
     ·rw [show t = t0 from h] at hlt ⊢; exact hlt
     ·exact Nat.lt_trans hlt h
   ·rw [if_neg g3]
    simp only [Bool.or_eq_true, decide_eq_true_eq, not_or] at g3
    refine .inl ⟨(t, m), stay, fixed fun p' y w h1 h2 h3 h4 => ?_⟩
    obtain ⟨rfl, rfl⟩ := uniq h1 h2 h3
    exact ⟨u, hu, by omega, by omega⟩)
  (fun x hi => ⟨x, by unfold x18; simp, hi⟩) (s := (t, m)) 0 (Nat.zero_le _) h
 refine ⟨b, e, hb.1, ?_⟩
 rcases hb.2 with ⟨h1, h2, h3⟩ | h
 ·refine .inl ⟨h1, h2, fun fr' k' hlt p y v hp => ?_⟩
  by_cases e : fr' < fr
  ·exact h3 fr' k' (.inl e) p y v hp
  ·have : fr' = fr := by omega
   subst this
   exact h3 fr' k' (.inr ⟨rfl, b1k hp⟩) p y v hp
 ·exact .inr h
theorem C2p {t : List Int} (h : Inv s out help N to t) : ∃ b, b0w (H86 ⟨s, out, help⟩) (t, false, 0) = some b /\ Bet s out help N to t N 0 b := by
 have n1 := hs.n1
 obtain ⟨b, e, hb⟩ := j7u (f := H86 ⟨s, out, help⟩) N (fun (x : List Int × Bool) k => (x.1, x.2, k)) (fun k x => Bet s out help N to t k 0 x) (fun b => Bet s out help N to t N 0 b) (fun x k hk hi => by
   obtain ⟨t', m⟩ := x
   obtain ⟨b, e1, e2⟩ := C2v hs hN hk hi
   refine .inl ⟨b, ?_, e2⟩
   unfold H86
   show (if decide ((k : Int) < s.Places) then _ else _) = _
   rw [if_pos (by rw [hN]; simp; omega), e1, bS9]
   obtain ⟨b1, b2⟩ := b
   show B83 (k : Int) b1 b2 = _
   unfold B83
   rw [b3t (n := (k : Int) + 1) (by omega) (by omega)])
  (fun x hi => ⟨x, by
   unfold H86
   show (if decide ((N : Int) < s.Places) then _ else _) = _
   rw [if_neg (by rw [hN]; simp)], hi⟩) (s := (t, false)) 0 (Nat.zero_le _) ⟨h, .inl ⟨rfl, rfl, fun fr' k' hlt => by omega⟩⟩
 exact ⟨b, e, hb⟩
theorem J27 (h1 : to < N) : ∃ t : List Int, B8k ⟨s, out, help⟩ to = some t /\ Inv s out help N to t /\ ∀ fr k, fr < N -> H84 s out help t fr k := by
 have n0 := hs.n0
 have n1 := hs.n1
 unfold B8k
 show ∃ t, ((mks 8 s.Places (0 : Int)).bind fun l2 => _) = some t /\ _
 rw [hN, g1q (by omega) (by omega), bS9]
 have hfill : b0w (B8l (tab N fun _ => (0 : Int))) ((tab N fun _ => (0 : Int)), 0) = some (tab N fun _ => (-1 : Int)) := by
  have e0 : (tab N fun _ => (0 : Int)) = fill N (fun _ => (-1 : Int)) 0 0 := by unfold fill; exact c1m fun i hi => by rw [if_neg (by omega)]
  refine b4h (f := B8l (tab N fun _ => (0 : Int))) N (fun t k => (t, k)) (fun k => fill N (fun _ => (-1 : Int)) 0 k) _ e0 (fun k hk => ?_) ?_
  ·unfold B8l
   show (if decide ((k : Int) < (((tab N fun _ => (0 : Int)).length : Nat) : Int)) then _ else _) = _
   rw [if_pos (by rw [b3y]; simp; exact hk), d15 hk, bS9, Int.toNat_natCast, c2r rfl, b3t (n := (k : Int) + 1) (by omega) (by omega)]
  ·unfold B8l
   show (if decide ((N : Int) < (((tab N fun _ => (0 : Int)).length : Nat) : Int)) then _ else _) = _
   rw [if_neg (by rw [b3y]; simp), d1u (Nat.le_refl _)]
 rw [hfill, bS9]
 unfold B84
 rw [c2y h1, bS9, Int.toNat_natCast]
 have hlen : ((tab N fun _ => (-1 : Int)).set to 0).length = N := by rw [List.length_set, b3y]
 have hstart : Inv s out help N to ((tab N fun _ => (-1 : Int)).set to 0) := by
  refine ⟨⟨hlen, fun x hx => ?_⟩, ?_, fun fr u h2 h3 h4 => ?_⟩
  ·rcases List.mem_or_eq_of_mem_set hx with hx | hx
   ·obtain ⟨i, _, rfl⟩ := g3k hx; omega
   ·rw [hx]; omega
  ·rw [List.getElem?_set_self (by rw [b3y]; exact h1)]
  ·rw [List.getElem?_set_ne (fun e => h2 e.symm)] at h3
   obtain ⟨i, _, rfl⟩ := g3k (mG9 h3)
   omega
 obtain ⟨t, e, ht⟩ := C2i (f := x45 ⟨s, out, help⟩) (fun x => 2 * c55 x.1 + if x.2 then 1 else 0) (fun x => Inv s out help N to x.1 /\ (x.2 = false -> ∀ fr k, fr < N -> H84 s out help x.1 fr k)) (fun t => Inv s out help N to t /\ ∀ fr k, fr < N -> H84 s out help t fr k) (fun x hx => by
   obtain ⟨t, m⟩ := x
   cases m with
   | false => exact .inr ⟨t, by unfold x45; rfl, hx.1, hx.2 rfl⟩
   | true =>
    obtain ⟨⟨t', m'⟩, e1, e2, e3⟩ := C2p hs hN hx.1
    refine .inl ⟨(t', m'), ?_, ⟨e2, fun hm fr k hfr => ?_⟩, ?_⟩
    ·unfold x45
     show (b0w (H86 ⟨s, out, help⟩) (t, false, 0)).bind _ = _
     rw [e1]; rfl
    ·rcases e3 with ⟨h1, h2, h3⟩ | ⟨h1, _⟩
     ·have h2' : t' = t := h2
      show H84 s out help t' fr k
      rw [h2']; exact h3 fr k (.inl hfr)
     ·rw [show m' = true from h1] at hm; cases hm
    ·show 2 * c55 t' + (if m' = true then 1 else 0) < 2 * c55 t + 1
     rcases e3 with ⟨h1, h2, _⟩ | ⟨_, h⟩
     ·rw [show m' = false from h1, show t' = t from h2]; simp
     ·have : c55 t' < c55 t := h
      split <;> omega) _ ((tab N fun _ => (-1 : Int)).set to 0, true) (Nat.le_refl _) ⟨hstart, fun h => by cases h⟩
 rw [e]
 exact ⟨t, rfl, ht⟩
end
end
end Go.Nw.XM.W
namespace Go.Nw.XM.W
open Go.Nw.Tp3
noncomputable section
def stW (s : Station) (out : Int) (help : Bool) (p : Nat) (x : Nat) : Option Nat := (s.Passages[x]?).bind fun q => if 0 <= oth out help q p then some (oth out help q p).toNat else none
def H9c (t : List Int) (p : Nat) : Option Nat := (t[p]?).bind fun v => if 0 <= v then some v.toNat else none
theorem H87 {t : List Int} {p n : Nat} : H9c t p = some n ↔ t[p]? = some (n : Int) := by
 unfold H9c
 cases h : t[p]? with
 | none => simp
 | some v =>
  simp only [bS9, iE9]
  by_cases hv : 0 <= v
  ·rw [if_pos hv, iE9]; omega
  ·rw [if_neg hv]
   exact ⟨(fun h => by cases h), fun h => by omega⟩
theorem H9i {s : Station} {out : Int} {help : Bool} {p x q : Nat} : stW s out help p x = some q ↔ ∃ P, s.Passages[x]? = some P /\ oth out help P p = (q : Int) := by
 unfold stW
 cases h : s.Passages[x]? with
 | none => simp
 | some P =>
  simp only [bS9, iE9, exists_eq_left']
  by_cases hv : 0 <= oth out help P p
  ·rw [if_pos hv, iE9]; omega
  ·rw [if_neg hv]
   exact ⟨(fun h => by cases h), fun h => by omega⟩
section
variable {s : Station} (hs : OkSt s) {out : Int} {help : Bool} {N to : Nat} (hN : s.Places = (N : Int)) (hT : ∀ p ∈ s.Passages, p.Ticks = 1) {t : List Int} (hI : Inv s out help N to t) (hF : ∀ fr k, fr < N -> H84 s out help t fr k)
include hs hN hT hI hF
theorem J20 (p x q n : Nat) (h1 : stW s out help p x = some q) (h2 : H9c t q = some n) : ∃ m, H9c t p = some m /\ m <= n + 1 := by
 obtain ⟨P, hP, ho⟩ := H9i.1 h1
 have hm := mG9 hP
 obtain ⟨_, _, g1, g2⟩ := J03 hs hm (fr := p) (out := out) (help := help) (by omega)
 obtain ⟨u, h3, h4, h5⟩ := hF p x (by omega) P q n hP ho (H87.1 h2) (by omega)
 rw [hT P hm] at h5
 exact ⟨u.toNat, H87.2 (by rw [h3]; congr 1; omega), by omega⟩
omit hs hN hT hF in
theorem J1f : H9c t to = some 0 := H87.2 hI.z
theorem J3k : ∀ (n fr : Nat) (way : List Int), t[fr]? = some (n : Int) -> way.length + n <= 500 -> ∃ l, Greedy (stW s out help) (H9c t) to fr l /\ l.length = n /\ b0w (H9a s out help to t) (way, (fr : Int)) = some (way ++ c52 l) := by
 have hlen := hs.len
 intro n
 induction n with
 | zero =>
  intro fr way hfr hw
  have e : fr = to := Classical.byContradiction fun hne => by
   obtain ⟨k, p, y, v, h1, h2, h3, h4, h5⟩ := hI.t fr 0 hne hfr (by omega)
   have := (hs.p p (mG9 h1)).t0
   omega
  subst e
  refine ⟨[], .nil, rfl, b3d ?_⟩
  unfold H9a
  simp [c52]
 | succ n ih =>
  intro fr way hfr hw
  have hne : fr ≠ to := fun e => by
   subst e
   have := hI.z
   rw [hfr] at this
   have := Option.some.inj this
   omega
  have hfN : fr < N := by have := b1k hfr; rw [hI.o.len] at this; exact this
  -- which passages come nearer
  obtain ⟨near, hnear⟩ : ∃ near : Nat -> Bool, ∀ k, near k = true ↔ ∃ (p : Passage) (y : Nat), s.Passages[k]? = some p /\ oth out help p fr = (y : Int) /\ t[y]? = some (n : Int) := by
   classical exact ⟨fun k => decide (∃ (p : Passage) (y : Nat), s.Passages[k]? = some p /\ oth out help p fr = (y : Int) /\ t[y]? = some (n : Int)), fun k => by simp⟩
  obtain ⟨k0, p0, y0, v0, h1, h2, h3, h4, h5⟩ := hI.t fr _ hne hfr (by omega)
  have hp0 := mG9 h1
  obtain ⟨u, h6, h7, h8⟩ := hF fr k0 hfN p0 y0 v0 h1 h2 h3 h4
  rw [hfr] at h6; cases h6
  rw [hT p0 hp0] at h5 h8
  have ev : v0 = (n : Int) := by omega
  subst ev
  cases hk : b5q s.Passages.length near with
  | none =>
   have := d72.1 hk k0 (b1k h1)
   rw [(hnear k0).2 ⟨p0, y0, h1, h2, h3⟩] at this
   cases this
  | some k =>
   obtain ⟨g1, g2, g3⟩ := j00 hk
   obtain ⟨p, y, q1, q2, q3⟩ := (hnear k).1 g2
   have hpm := mG9 q1
   obtain ⟨l, i1, i2, i3⟩ := ih y (way ++ [(k : Int)]) q3 (by simp; omega)
   refine ⟨k :: l, .cons (H9i.2 ⟨p, q1, q2⟩) (H87.2 q3) (H87.2 hfr) (fun j q' hj hst hd => ?_) i1, by simp [i2], ?_⟩
   ·obtain ⟨P, hP, ho⟩ := H9i.1 hst
    have := g3 j hj
    rw [(hnear j).2 ⟨P, q', hP, ho, H87.1 hd⟩] at this
    cases this
   ·have inner : b0w (H9k s out help t way) ((fr : Int), 0) = some (way ++ [(k : Int)], (y : Int)) := by
     refine J1s (f := H9k s out help t way) (st := fun j => ((fr : Int), (j : Int))) k 0 (fun j _ hj => ?_) ?_
     ·have hjk : j < k := by omega
      obtain ⟨P, hP⟩ := b3b (show j < s.Passages.length by omega)
      have hPm := mG9 hP
      have hlt : (j : Int) < (s.Passages.length : Int) := by omega
      have ew : wr ((j : Int) + 1) = ((j + 1 : Nat) : Int) := by rw [b3t (by omega) (by omega)]; omega
      unfold H9k
      simp only [hlt, decide_true, if_true, b1h hP, bS9, J04 hs hPm]
      by_cases c1 : 0 <= oth out help P fr
      ·obtain ⟨yn, hyn⟩ : ∃ yn : Nat, oth out help P fr = yn := ⟨(oth out help P fr).toNat, by omega⟩
       have hyi := J03 hs hPm c1
       rw [hyn] at hyi ⊢
       obtain ⟨v, hv⟩ := b3b (show yn < t.length by rw [hI.o.len]; omega)
       simp only [Int.natCast_nonneg, decide_true, if_true, b1h hv, bS9]
       by_cases c2 : 0 <= v
       ·simp only [c2, decide_true, if_true, b1h hfr, bS9, hT P hPm]
        have hvb := (hI.o.v v (mG9 hv)).2
        have hcn := C00 t
        rw [hI.o.len] at hcn
        have n1 := hs.n1
        rw [b3t (n := v + 1) (by omega) (by omega)]
        have c3 : ¬ v + 1 = ((n + 1 : Nat) : Int) := fun e => by
         have := g3 j hjk
         rw [(hnear j).2 ⟨P, yn, hP, hyn, by rw [hv]; congr 1; omega⟩] at this
         cases this
        simp only [c3, decide_false, fT9, if_false, ew]
       ·simp only [c2, decide_false, fT9, if_false, bS9, ew]
      ·simp only [c1, decide_false, fT9, if_false, bS9, ew]
     ·have hlt : ((0 + k : Nat) : Int) < (s.Passages.length : Int) := by omega
      have hq1 : s.Passages[0 + k]? = some p := by rw [Nat.zero_add]; exact q1
      unfold H9k
      simp only [hlt, decide_true, if_true, b1h hq1, bS9, J04 hs hpm, q2, Int.natCast_nonneg, b1h q3, b1h hfr, hT p hpm]
      rw [b3t (n := (n : Int) + 1) (by omega) (by omega)]
      have c3 : (n : Int) + 1 = ((n + 1 : Nat) : Int) := by omega
      simp only [c3, decide_true, if_true]
      rw [b9k (by simp; omega), bS9, Nat.zero_add]
    have step : b0w (H9a s out help to t) (way, (fr : Int)) = b0w (H9a s out help to t) (way ++ [(k : Int)], (y : Int)) := w91 (by
     unfold H9a
     have : ¬ (fr : Int) = (to : Int) := by omega
     simp only [this, not_false_eq_true, decide_true, if_true, inner, bS9, J0f])
    rw [step, i3]
    simp [c52]
end
theorem J4h {s : Station} {N fr to : Nat} (hN : s.Places = (N : Int)) (hN2 : N <= 10) (hf : fr < N) (ht : to < N) : B9o s [(fr : Int), (to : Int)] = some true := by
 have wN : wr (s.Places - 1) = s.Places - 1 := b3t (by omega) (by omega)
 have w1 : b53 (fr : Int) 0 (s.Places - 1) = true := by rw [B9q]; exact decide_eq_true (by omega)
 have w2 : b53 (to : Int) 0 (s.Places - 1) = true := by rw [B9q]; exact decide_eq_true (by omega)
 unfold B9o
 have e1 : b0w (B9p s [(fr : Int), (to : Int)]) 0 = some (.inl ()) := by
  rw [w91 (s' := 1) (by
   unfold B9p
   simp only [get, wN]
   simp [w1]; decide), w91 (s' := 2) (by
   unfold B9p
   simp only [get, wN]
   simp [w2]; decide)]
  exact b3d (by unfold B9p; simp)
 rw [e1]; rfl
theorem J4w {s : Station} (hs : OkSt s) (hex : s.Exits.length <= maxLen) {out : Int} (ho : 0 <= out /\ out < 4096) {help : Bool} {N fr to : Nat} (hN : s.Places = (N : Int)) (hT : ∀ p ∈ s.Passages, p.Ticks = 1) (hf : fr < N) (ht : to < N) :
  ∃ r, H9j s out help fr to = some r /\ ((r = (0, [], 3) /\ ∀ l, gos (stW s out help) fr l ≠ some to) \/ ∃ l, r = ((l.length : Int), c52 l, 0) /\ l.length <= 200 /\ H85 (stW s out help) fr to l) := by
 have n1 := hs.n1
 have hask : B8z s out [(fr : Int), (to : Int)] = some 0 := by
  unfold B8z
  rw [C20 hs hex, bS9, if_neg (by simp), B9q, decide_eq_true (by omega), J4h hN (by omega) hf ht]
  rfl
 obtain ⟨t, h1, hI, hF⟩ := J27 hs hN (out := out) (help := help) ht
 obtain ⟨u, hu⟩ := b3b (show fr < t.length by rw [hI.o.len]; exact hf)
 have hub := hI.o.v u (mG9 hu)
 have hcn := C00 t
 rw [hI.o.len] at hcn
 unfold H9j
 rw [hask, bS9, if_neg (by simp), h1, bS9, b1h hu, bS9]
 have hstep := J20 hs hN hT hI hF
 by_cases c : u < 0
 ·rw [if_pos (by simpa using c)]
  refine ⟨_, rfl, .inl ⟨rfl, fun l hl => ?_⟩⟩
  obtain ⟨m, h2, _⟩ := J2z (J1f hI) hstep hl
  have := H87.1 h2
  rw [hu] at this
  have := Option.some.inj this
  omega
 ·rw [if_neg (by simpa using c)]
  obtain ⟨n, rfl⟩ : ∃ n : Nat, u = n := ⟨u.toNat, by omega⟩
  obtain ⟨l, g1, g2, g3⟩ := J3k hs hN hT hI hF n fr [] hu (by simp; omega)
  rw [g3, bS9, List.nil_append]
  unfold J0e
  rw [b1h hu, bS9]
  exact ⟨_, rfl, .inr ⟨l, by rw [g2], by omega, (J3j (J1f hI) hstep g1).2⟩⟩
end
end Go.Nw.XM.W
namespace Go.Nw.XM
noncomputable section
def stC (m : Machine) (c : List (List Literal)) (hd : Nat -> Int) (p : Place) (x : Nat) : Option Place := if x < 2 ^ m.Inputs.length /\ c25 m p x c = true then some (nxt m p (hd x)) else none
structure RunOf (s : S3) (l : List (Place × List Nat)) : Prop where
 p : s.1 = l.map (·.1)
 b : s.2.1.length = l.length
 i : s.2.2.length = l.length
 z : s.2.1[0]? = some (-1)
 t : ∀ (k : Nat) e, 1 <= k -> l[k]? = some e -> ∃ (b x : Nat) (d : Place × List Nat), b < k /\ s.2.1[k]? = some (b : Int) /\ s.2.2[k]? = some (x : Int) /\ l[b]? = some d /\ e.2 = d.2 ++ [x]
section
variable {m : Machine} {c : List (List Literal)} {hd : Nat -> Int}
theorem H9l {α : Type} {l : List α} {k : Nat} {x y : α} (h : l[k]? = some x) : (l ++ [y])[k]? = some x := by rw [List.getElem?_append_left (b1k h)]; exact h
theorem J0q {α : Type} {l : List α} {y : α} : (l ++ [y])[l.length]? = some y := by rw [List.getElem?_append_right (Nat.le_refl _)]; simp
theorem J38 {s : S3} {l : List (Place × List Nat)} (h : RunOf s l) {i x : Nat} {a : Place × List Nat} (ha : l[i]? = some a) : RunOf (if x < 2 ^ m.Inputs.length /\ c25 m a.1 x c = true then b5l s i x (nxt m a.1 (hd x)) else s) (look (stC m c hd) l a x) := by
 unfold look stC
 by_cases hc : x < 2 ^ m.Inputs.length /\ c25 m a.1 x c = true
 case neg => rw [if_neg hc, if_neg hc]; exact h
 rw [if_pos hc, if_pos hc]
 simp only
 unfold b5l
 have hm : (nxt m a.1 (hd x) ∈ s.1) ↔ (l.any fun e => decide (e.1 = nxt m a.1 (hd x))) = true := by
  rw [h.p, List.mem_map, List.any_eq_true]
  constructor
  ·rintro ⟨e, h1, h2⟩; exact ⟨e, h1, by simpa using h2⟩
  ·rintro ⟨e, h1, h2⟩; exact ⟨e, h1, by simpa using h2⟩
 by_cases hk : nxt m a.1 (hd x) ∈ s.1
 ·rw [if_pos hk, if_pos (hm.1 hk)]; exact h
 ·rw [if_neg hk, if_neg (fun hh => hk (hm.2 hh))]
  have el : s.2.1.length = l.length := h.b
  have ei : s.2.2.length = l.length := h.i
  refine ⟨by simp [h.p], by simp [h.b], by simp [h.i], H9l h.z, fun k e hk1 he => ?_⟩
  by_cases hlt : k < l.length
  ·rw [List.getElem?_append_left hlt] at he
   obtain ⟨b, x', d, h1, h2, h3, h4, h5⟩ := h.t k e hk1 he
   exact ⟨b, x', d, h1, H9l h2, H9l h3, H9l h4, h5⟩
  ·have hkl := b1k he
   simp only [List.length_append, List.length_cons, List.length_nil] at hkl
   have e1 : k = l.length := by omega
   subst e1
   rw [J0q] at he; cases he
   refine ⟨i, x, a, b1k ha, ?_, ?_, H9l ha, rfl⟩
   ·rw [<- el]; exact J0q
   ·rw [<- ei]; exact J0q
theorem J1q {i : Nat} {s : S3} {l : List (Place × List Nat)} (hF : Found (stC m c hd) zero i 0 l) (hR : RunOf s l) {a : Place × List Nat} (ha : l[i]? = some a) : ∀ x, x <= 2 ^ m.Inputs.length ->
  ∃ l', Found (stC m c hd) zero i x l' /\ RunOf (inn m c hd i a.1 x s) l' /\ l'[i]? = some a
 | 0, _ => ⟨l, hF, hR, ha⟩
 | x + 1, hx => by
  obtain ⟨l', h1, h2, h3⟩ := J1q hF hR ha x (by omega)
  obtain ⟨g1, g2⟩ := J3c h1 h3
  refine ⟨_, g1, ?_, c0r g2 h3⟩
  have := J38 (m := m) (c := c) (hd := hd) h2 (x := x) h3
  unfold inn
  have hlt : x < 2 ^ m.Inputs.length := by omega
  by_cases hal : c25 m a.1 x c = true
  ·rw [if_pos hal]; rw [if_pos ⟨hlt, hal⟩] at this; exact this
  ·rw [if_neg hal]; rw [if_neg fun h => hal h.2] at this; exact this
theorem J1z : ∀ k, ∃ l, Found (stC m c hd) zero k 0 l /\ RunOf (b0h m c hd k) l
 | 0 => ⟨[(zero, [])], J3e zero, ⟨rfl, rfl, rfl, rfl, fun k e hk he => by
   have := b1k he
   simp at this; omega⟩⟩
 | k + 1 => by
  obtain ⟨l, h1, h2⟩ := J1z k
  unfold b0h
  cases hp : (b0h m c hd k).1[k]? with
  | none =>
   have hl : l[k]? = none := by
    rw [h2.p, List.getElem?_map] at hp
    cases hh : l[k]? with
    | none => rfl
    | some e => rw [hh] at hp; cases hp
   refine ⟨l, ⟨h1.z0, h1.g, h1.s0, h1.n, fun j y a q hj ha hst => ?_, fun a ha => ?_⟩, h2⟩
   ·by_cases e : j = k
    ·subst e; rw [hl] at ha; cases ha
    ·exact h1.c j y a q (by omega) ha hst
   ·have := b1k ha
    rw [List.getElem?_eq_none_iff] at hl
    omega
  | some p =>
   rw [h2.p, List.getElem?_map] at hp
   cases hh : l[k]? with
   | none => rw [hh] at hp; cases hp
   | some e =>
    rw [hh] at hp
    simp only [Option.map_some, iE9] at hp
    subst hp
    obtain ⟨l', g1, g2, _⟩ := J1q h1 h2 hh (2 ^ m.Inputs.length) (Nat.le_refl _)
    exact ⟨l', J3d g1 fun p y hy => by unfold stC; rw [if_neg (by omega)], g2⟩
theorem J07 {s : S3} {l : List (Place × List Nat)} (h : RunOf s l) (hF : ∀ e, l[0]? = some e -> e.2 = []) : ∀ (d k : Nat) e, k <= d -> l[k]? = some e -> e.2.length <= k
 | 0, k, e, hk, he => by
  have : k = 0 := by omega
  subst this
  rw [hF e he]; exact Nat.le_refl _
 | d + 1, k, e, hk, he => by
  by_cases hz : k = 0
  ·subst hz; rw [hF e he]; exact Nat.le_refl _
  obtain ⟨b, x, d', h1, _, _, h4, h5⟩ := h.t k e (by omega) he
  have := J07 h hF d b d' (by omega) h4
  rw [h5]; simp; omega
theorem J4k {s : S3} {l : List (Place × List Nat)} (h : RunOf s l) (hF : ∀ e, l[0]? = some e -> e.2 = []) (hl : l.length <= 768) {w : control_walk} (hw : w.from_ = s.2.1 /\ w.by_ = s.2.2) {k : Nat} {e : Place × List Nat} (he : l[k]? = some e) : b71 w k = some (c52 e.2) := by
 have key : ∀ (d k : Nat) e, k <= d -> l[k]? = some e -> ∀ r : List Int, r.length + k <= 768 -> b0w (b72 w) ((k : Int), r) = some (r ++ (c52 e.2).reverse) := by
  intro d
  induction d with
  | zero =>
   intro k e hk he r hr
   have : k = 0 := by omega
   subst this
   rw [hF e he]
   refine b3d ?_
   unfold b72
   simp only [hw.1]
   have := b1h h.z
   simp only [Int.natCast_zero] at this ⊢
   rw [this]; simp [c52]
  | succ d ih =>
   intro k e hk he r hr
   by_cases hz : k = 0
   ·exact ih k e (by omega) he r hr
   obtain ⟨b, x, d', h1, h2, h3, h4, h5⟩ := h.t k e (by omega) he
   have : b0w (b72 w) ((k : Int), r) = b0w (b72 w) ((b : Int), r ++ [(x : Int)]) := w91 (by
    unfold b72
    simp only [hw.1, hw.2, b1h h2, b1h h3, bS9, Int.natCast_nonneg, decide_true, if_true]
    rw [b6d (by omega) (by simp) (by omega), bS9])
   rw [this, ih b d' (by omega) h4 _ (by simp; omega), h5, g0n, g0p]
   simp
 have hlen := J07 h hF k k e (Nat.le_refl _) he
 have hk := b1k he
 unfold b71 c57
 rw [key k k e (Nat.le_refl _) he [] (by simp; omega), bS9, List.nil_append, g5t (by rw [List.length_reverse, g0o]; exact b1o (by omega)), bS9, List.reverse_reverse]
theorem J2l (hm : OkM m) {ins ins' : Bool} (hc : b2s m ins c) {never : List (List Literal)} (hn : b2s m ins' never) {heard : Int -> Option Int} (hh : ∀ x : Nat, x < 2 ^ m.Inputs.length -> heard x = some (hd x)) :
  ∃ r, c1t ⟨⟨m⟩⟩ c never heard = some r /\
   ((r = ([], false) /\ ∀ q l, gos (stC m c hd) zero l = some q -> b46 m q 0 never = false) \/
    ∃ q l, r = (c52 l, true) /\ l.length <= 768 /\ H85 (stC m c hd) zero q l /\ b46 m q 0 never = true) := by
 obtain ⟨K, hK⟩ := g2u (c := c) (hd := hd) hm
 obtain ⟨L, hF, hR⟩ := J1z (m := m) (c := c) (hd := hd) K
 have hg := s3t (c := c) (hd := hd) hm K
 have hl := c0q hm hg.n hg.o
 have eL : (b0h m c hd K).1.length = L.length := by rw [hR.p, List.length_map]
 have hend : L.length <= K := by rw [<- eL]; exact hK.2.2
 have hz : ∀ e, L[0]? = some e -> e.2 = [] := fun e he => by rw [hF.z0] at he; cases he; rfl
 have hat : ∀ {k : Nat} {e}, L[k]? = some e -> (b0h m c hd K).1[k]? = some e.1 := fun {k e} he => by rw [hR.p, List.getElem?_map, he]; rfl
 have hwant : ∀ k : Nat, k < L.length -> b9g (k : Int) ⟨⟨m⟩⟩ never (b4a m c hd K) = some (b46 m (L.getD k (zero, [])).1 0 never) := fun k hk => by
  obtain ⟨e, he⟩ := b3b hk
  have ho := hg.o e.1 (b1d.2 ⟨k, hat he⟩)
  unfold b9g b4a
  simp only [b1h (hat he), bS9, c5w hm.z ho.s hn, List.getD_eq_getElem?_getD, he, Option.getD_some]
 have e1 := c7s (f := b9f (b4a m c hd K) fun z5 => b9g z5 ⟨⟨m⟩⟩ never (b4a m c hd K)) (n := L.length) (p := fun k => b46 m (L.getD k (zero, [])).1 0 never) (e := fun k => .inr (c52 (L.getD k (zero, [])).2, true)) (u := .inl ()) (fun t h hp => by
   obtain ⟨e, he⟩ := b3b h
   have hr := J4k hR hz (by omega) (w := b4a m c hd K) ⟨rfl, rfl⟩ he
   have hp' : b46 m e.1 0 never = true := by simpa only [List.getD_eq_getElem?_getD, he, Option.getD_some] using hp
   unfold b9f
   have h' : (t : Int) < ((b4a m c hd K).places.length : Int) := by show (t : Int) < ((b0h m c hd K).1.length : Int); omega
   simp only [h', decide_true, if_true, hwant t h, bS9, hp', hr, List.getD_eq_getElem?_getD, he, Option.getD_some]) (fun t h hp => by
   unfold b9f
   have h' : (t : Int) < ((b4a m c hd K).places.length : Int) := by show (t : Int) < ((b0h m c hd K).1.length : Int); omega
   simp only [h', decide_true, if_true, hwant t h, bS9, hp, fT9, if_false, b2r h (b1o (by omega))]) (by
   unfold b9f
   have h' : ¬ ((L.length : Nat) : Int) < ((b4a m c hd K).places.length : Int) := by show ¬ ((L.length : Nat) : Int) < ((b0h m c hd K).1.length : Int); omega
   simp only [h', decide_false, fT9, if_false])
 have hfirst : ∃ r, b9e (b4a m c hd K) (fun z5 => b9g z5 ⟨⟨m⟩⟩ never (b4a m c hd K)) = some r /\ ((r = ([], false) /\ ∀ k, k < L.length -> b46 m (L.getD k (zero, [])).1 0 never = false) \/ ∃ (k : Nat) (e : Place × List Nat), L[k]? = some e /\ r = (c52 e.2, true) /\ b46 m e.1 0 never = true) := by
  unfold b9e c56
  rw [e1, bS9]
  cases hf : b5q L.length (fun k => b46 m (L.getD k (zero, [])).1 0 never) with
  | none => exact ⟨_, rfl, .inl ⟨rfl, d72.1 hf⟩⟩
  | some k =>
   obtain ⟨h1, h2, h3⟩ := j00 hf
   obtain ⟨e, he⟩ := b3b h1
   refine ⟨_, rfl, .inr ⟨k, e, he, ?_, ?_⟩⟩
   ·simp only [List.getD_eq_getElem?_getD, he, Option.getD_some]
   ·simpa only [List.getD_eq_getElem?_getD, he, Option.getD_some] using h2
 obtain ⟨r, h1, h2⟩ := hfirst
 refine ⟨r, ?_, ?_⟩
 ·unfold c1t
  rw [d7u hm hc hh hK, bS9, h1]; rfl
 ·rcases h2 with ⟨rfl, h3⟩ | ⟨k, e, he, rfl, h3⟩
  ·refine .inl ⟨rfl, fun q l hq => ?_⟩
   obtain ⟨b, hb, rfl, _⟩ := J1j hF hend l q hq
   obtain ⟨k, hk⟩ := b1d.1 hb
   have := h3 k (b1k hk)
   simpa only [List.getD_eq_getElem?_getD, hk, Option.getD_some] using this
  ·have hlen := J07 hR hz k k e (Nat.le_refl _) he
   have hk := b1k he
   exact .inr ⟨e.1, e.2, rfl, by omega, J3b hF hend (b1d.2 ⟨k, he⟩), h3⟩
theorem J2g (hm : OkM m) (hf : ∀ n ∈ b3g m, n.size <= maxLen) {never : List (List Literal)} (hn : b2s m true never) :
  ∃ r, c2e m [] never = some r /\ r.2.2 = 0 /\
   ((r.1 = [] /\ r.2.1 = false /\ ∀ q l, gos (stC m [] fun x => x) zero l = some q -> b46 m q 0 never = false) \/
    ∃ q l, r.1 = c52 l /\ r.2.1 = true /\ l.length <= 768 /\ H85 (stC m [] fun x => x) zero q l /\ b46 m q 0 never = true) := by
 have h0 : b2s m true [] := ⟨by simp, fun t ht => by simp at ht⟩
 have hchk : b9x m [[], never] = some 0 := by
  unfold b9x c2f
  obtain ⟨e, h1, h2⟩ := g5l hf
  rcases h2 with ⟨rfl, _⟩ | ⟨_, h2⟩
  case inr => exact absurd hm h2
  rw [h1, bS9, bS9, if_neg (by simp)]
  rcases b4j (f := c2i m [[], never]) (l := [[], never]) (p := fun _ t => ¬ b2s m true t) (e := .inr 42) (u := .inl ()) (b1o (by simp)) (fun k x hx => by
    obtain ⟨b, h3, h4⟩ := d5p hm.z x
    refine ⟨!b, ?_, ?_⟩
    ·unfold c2i
     simp only [b1h hx, bS9, Int.ofNat_lt, b1k hx, decide_true, if_true, h3]
    ·rw [<- h4]; simp) (by unfold c2i; simp only [Int.lt_irrefl, decide_false, fT9, if_false]) with ⟨_, h2⟩ | ⟨⟨k, x, h3, h4⟩, _⟩
  ·rw [h2]; rfl
  ·exfalso
   match k, h3 with
   | 0, h3 => cases h3; exact h4 h0
   | 1, h3 => cases h3; exact h4 hn
   | k + 2, h3 => simp at h3
 obtain ⟨r, h1, h2⟩ := J2l (hd := fun x => x) hm h0 hn (heard := fun z7 => some (b6f z7)) (fun x _ => rfl)
 refine ⟨(r.1, r.2, 0), ?_, rfl, ?_⟩
 ·unfold c2e
  rw [hchk, bS9, if_neg (by simp), show b3h m = ⟨⟨m⟩⟩ from rfl, h1]; rfl
 ·rcases h2 with ⟨rfl, h3⟩ | ⟨q, l, rfl, h3⟩
  ·exact .inl ⟨rfl, rfl, h3⟩
  ·exact .inr ⟨q, l, rfl, rfl, h3⟩
end
end
end Go.Nw.XM
namespace Go.Nw.XM.W
open Go.Nw.Tp3
noncomputable section
def pn (i : Nat) : ByteArray := ByteArray.mk #[112, UInt8.ofNat (97 + i)]
theorem J37 : ∀ i : Nat, i < 10 -> x19 (ByteArray.mk #[112]) (i : Int) = some (pn i)
 | 0, _ => by unfold x19; kernel_rfl
 | 1, _ => by unfold x19; kernel_rfl
 | 2, _ => by unfold x19; kernel_rfl
 | 3, _ => by unfold x19; kernel_rfl
 | 4, _ => by unfold x19; kernel_rfl
 | 5, _ => by unfold x19; kernel_rfl
 | 6, _ => by unfold x19; kernel_rfl
 | 7, _ => by unfold x19; kernel_rfl
 | 8, _ => by unfold x19; kernel_rfl
 | 9, _ => by unfold x19; kernel_rfl
 | n + 10, h => by omega
def x42 (N : Nat) : List State := (List.range N).map fun i => State.mk (pn i) 0
theorem J4r (k : Nat) : x42 (k + 1) = x42 k ++ [State.mk (pn k) 0] := by unfold x42; rw [List.range_succ, List.map_append]; rfl
theorem J1b (N : Nat) : (x42 N).length = N := by unfold x42; simp
theorem J4s {s : Station} {N : Nat} (hN : s.Places = (N : Int)) (h10 : N <= 10) : b0w (H9f s) ([], 0) = some (x42 N) := by
 refine b4h (f := H9f s) N (fun (l : List State) k => (l, k)) x42 _ (s0 := []) rfl (fun k hk => ?_) ?_
 ·unfold H9f
  show (if decide ((k : Int) < s.Places) then _ else _) = _
  rw [if_pos (by rw [hN]; simpa using hk), J37 k (by omega), bS9, b9k (by rw [J1b]; simp; omega), bS9, b3t (by omega) (by omega), J4r]
 ·unfold H9f
  show (if decide ((N : Int) < s.Places) then _ else _) = _
  rw [if_neg (by rw [hN]; simp)]
def H9b (i j : Nat) : Literal := Literal.mk 1 j 0 (!(i.testBit j))
def x15 (i : Nat) : List (List Literal) := [(List.range 4).map (H9b i)]
theorem J2j {i : Nat} (hi : i < 16) : H9h (i : Int) = some (x15 i) := by
 unfold H9h H99
 have := b4h (f := H9q (i : Int)) 4 (fun (l : List Literal) k => (l, k)) (fun k => (List.range k).map (H9b i)) ((List.range 4).map (H9b i)) (s0 := []) rfl (fun k hk => by
  unfold H9q
  show (if decide ((k : Int) < 4) then _ else _) = _
  rw [if_pos (by simp; omega), c9p (by omega) (by omega), g29 (by omega), bS9, u6r (by omega) (by omega)]
  have e : decide ((if i.testBit k then (1 : Int) else 0) = 0) = !(i.testBit k) := by cases i.testBit k <;> rfl
  rw [e, b9k (by simp; omega), bS9, b3t (by omega) (by omega), List.range_succ, List.map_append]; rfl) (by
  unfold H9q
  show (if decide (((4 : Nat) : Int) < 4) then _ else _) = _
  rw [if_neg (by simp)])
 rw [this]; rfl
theorem J1r {m : Machine} {p : Place} {x i j : Nat} (hx : x < 16) (hj : j < 4) : lit m p (x : Int) (H9b i j) = (x.testBit j == i.testBit j) := by
 unfold lit b77 b6w H9b
 simp only [decide_true, if_true]
 rw [g29 (by omega), bS9, u6r (by omega) (by omega)]
 have e : decide ((if x.testBit j then (1 : Int) else 0) = 1) = x.testBit j := by cases x.testBit j <;> rfl
 rw [e]
 cases x.testBit j <;> cases i.testBit j <;> rfl
theorem H9n {m : Machine} {p : Place} {x i : Nat} (hx : x < 16) (hi : i < 16) : b46 m p (x : Int) (x15 i) = decide (x = i) := by
 unfold b46 x15
 simp only [List.any_cons, List.any_nil, Bool.or_false]
 rw [Bool.eq_iff_iff, List.all_eq_true]
 constructor
 ·intro h
  rw [decide_eq_true_eq]
  apply Nat.eq_of_testBit_eq
  intro j
  by_cases hj : j < 4
  ·have := h _ (List.mem_map.2 ⟨j, List.mem_range.2 hj, rfl⟩)
   rw [J1r hx hj] at this
   simpa using this
  ·have hp : 16 <= 2 ^ j := by
    have := Nat.pow_le_pow_right (n := 2) (by omega) (show 4 <= j by omega)
    simpa using this
   rw [Nat.testBit_lt_two_pow (by omega), Nat.testBit_lt_two_pow (by omega)]
 ·intro h l hl
  rw [decide_eq_true_eq] at h
  subst h
  obtain ⟨j, hj, rfl⟩ := List.mem_map.1 hl
  rw [J1r hx (List.mem_range.1 hj)]
  simp
theorem J1i (from_ a : Int) : c20 (c20 a from_) from_ = a := by
 unfold c20
 by_cases h1 : a = from_
 ·subst h1
  by_cases h0 : (0 : Int) = a
  ·simp [h0]
  ·simp [h0]
 ·by_cases h2 : a = 0
  ·subst h2
   simp [h1]
  ·simp [h1, h2]
theorem H88 {from_ a b : Int} (h : c20 a from_ = c20 b from_) : a = b := by rw [<- J1i from_ a, h, J1i]
theorem H9m {from_ a : Int} {N : Nat} (hf : 0 <= from_ /\ from_ < N) (ha : 0 <= a /\ a < N) : 0 <= c20 a from_ /\ c20 a from_ < N := by
 unfold c20
 split
 ·omega
 ·split <;> omega
theorem J29 (from_ : Int) : c20 from_ from_ = 0 := by unfold c20; simp
def two (from_ : Int) (k : Nat) (p : Passage) : List Rule := [Rule.mk (c20 p.A from_) (c20 p.B from_) (x15 k) [], Rule.mk (c20 p.B from_) (c20 p.A from_) (x15 k) []]
def H9w (P : List Passage) (out : Int) (help : Bool) (from_ : Int) (k : Nat) : List Rule := match P[k]? with
 | some p => if l16 out help p then two from_ k p else []
 | none => []
def c29 (P : List Passage) (out : Int) (help : Bool) (from_ : Int) : Nat -> List Rule
 | 0 => []
 | k + 1 => c29 P out help from_ k ++ H9w P out help from_ k
theorem J06 {P : List Passage} {out : Int} {help : Bool} {from_ : Int} {n : Nat} {r : Rule} : r ∈ c29 P out help from_ n ↔ ∃ k p, k < n /\ P[k]? = some p /\ l16 out help p = true /\ r ∈ two from_ k p := by
 induction n with
 | zero => simp [c29]
 | succ n ih =>
  unfold c29
  rw [List.mem_append, ih]
  constructor
  ·rintro (⟨k, p, h1, h2, h3, h4⟩ | h)
   ·exact ⟨k, p, by omega, h2, h3, h4⟩
   ·unfold H9w at h
    cases hp : P[n]? with
    | none => rw [hp] at h; simp at h
    | some p =>
     rw [hp] at h
     simp only at h
     split at h
     ·exact ⟨n, p, by omega, hp, by assumption, h⟩
     ·simp at h
  ·rintro ⟨k, p, h1, h2, h3, h4⟩
   by_cases e : k = n
   ·subst e
    refine .inr ?_
    unfold H9w
    rw [h2]
    simp only
    rw [if_pos h3]; exact h4
   ·exact .inl ⟨k, p, by omega, h2, h3, h4⟩
theorem J05 {P : List Passage} {out : Int} {help : Bool} {from_ : Int} : ∀ n, (c29 P out help from_ n).length <= 2 * n
 | 0 => by simp [c29]
 | n + 1 => by
  have := J05 (P := P) (out := out) (help := help) (from_ := from_) n
  unfold c29 H9w
  rw [List.length_append]
  cases P[n]? with
  | none => simp; omega
  | some p =>
   simp only
   split
   ·simp [two]; omega
   ·simp; omega
def one (p : Passage) : Passage := Passage.mk p.A p.B p.Kind 1 p.Wide p.Machine p.Still
def l15 (P : List Passage) (k : Nat) : List Passage := (P.take k).map one ++ P.drop k
theorem J4e {P : List Passage} {k : Nat} {p : Passage} (h : P[k]? = some p) : (l15 P k)[k]? = some p := by
 have hk := b1k h
 unfold l15
 rw [List.getElem?_append_right (by simp; omega)]
 simp only [List.length_map, List.length_take]
 rw [show k - min k P.length = 0 by omega, List.getElem?_drop, Nat.add_zero, h]
theorem J02 {P : List Passage} {k : Nat} {p : Passage} (h : P[k]? = some p) : (l15 P k).set k (one p) = l15 P (k + 1) := by
 have hk := b1k h
 unfold l15
 rw [List.set_append_right _ _ (by simp; omega)]
 simp only [List.length_map, List.length_take]
 have e : P.drop k = p :: P.drop (k + 1) := by
  rw [List.drop_eq_getElem_cons hk]
  congr 1
  rw [gG9 hk] at h; exact Option.some.inj h
 rw [show k - min k P.length = 0 by omega, List.take_add_one, h, e, List.set_cons_zero]
 simp
theorem H9r (P : List Passage) (k : Nat) : (l15 P k).length = P.length := by unfold l15; simp; omega
theorem J4d (P : List Passage) : l15 P P.length = P.map one := by unfold l15; simp
theorem J4f (P : List Passage) : l15 P 0 = P := by unfold l15; simp
theorem J0a {out : Int} {help : Bool} {p : Passage} : l16 out help (one p) = l16 out help p := rfl
theorem J3f {n : Int} {p : Passage} (ok : OkP n p) {out : Nat} (ho : out < 4096) {help : Bool} : H9v p (out : Int) help = some (l16 (out : Int) help p) := by
 have hm := ok.m
 unfold H9v l16 J0c
 by_cases k1 : p.Kind = 1
 ·simp [k1]
 ·by_cases k4 : p.Kind = 4
  ·have hl : c47 p = true := by unfold c47; simp [k4]
   rw [hl] at hm
   simp only [if_true] at hm
   obtain ⟨M, hM⟩ : ∃ M : Nat, p.Machine = M := ⟨p.Machine.toNat, by omega⟩
   rw [hM, c9p (by omega) (by omega), g29 (by omega)]
   simp only [k4, Int.reduceEq, decide_false, fT9, if_false, decide_true, if_true, bS9, Option.getD_some, Bool.false_or, Bool.true_and, Bool.false_and, Bool.or_false]
   simp only [u6r (show out < 9223372036854775808 by omega) (show M <= 64 by omega)]
   cases out.testBit M <;> rfl
  ·simp [k1, k4]
theorem OkSt.one {s : Station} (hs : OkSt s) : OkSt ⟨s.Places, s.Passages.map W.one, s.Exits⟩ := by
 have hmach : c23 (s.Passages.map W.one) = c23 s.Passages := by
  unfold c23
  induction s.Passages with
  | nil => rfl
  | cons p l ih =>
   simp only [List.map_cons, List.filter_cons]
   rw [show c47 (W.one p) = c47 p from rfl]
   split
   ·simp only [List.map_cons]; rw [ih]; rfl
   ·exact ih
 refine ⟨hs.n0, hs.n1, by rw [List.length_map]; exact hs.len, fun p hp => ?_, by rw [hmach]; exact hs.nd, hs.e⟩
 obtain ⟨q, hq, rfl⟩ := List.mem_map.1 hp
 have ok := hs.p q hq
 exact ⟨ok.a0, ok.a1, ok.b0, ok.b1, ok.ne, by show (1 : Int) <= 1; omega, by show (1 : Int) <= 20; omega, ok.w0, ok.w1, ok.k0, ok.k1, ok.m, ok.s⟩
theorem J2h {s : Station} (hs : OkSt s) {out : Nat} (ho : out < 4096) {help : Bool} {k : Nat} {p : Passage} (hp : s.Passages[k]? = some p) :
  ∃ n, H9t ⟨s.Places, l15 s.Passages (k + 1), s.Exits⟩ (out : Int) help p.A p.B [(k : Int)] = some (n, l16 (out : Int) help p) := by
 have hk := b1k hp
 have hlen := hs.len
 have ok := hs.p p (mG9 hp)
 have b0 := ok.b0
 have hpk : (l15 s.Passages (k + 1))[k]? = some (one p) := by
  rw [<- J02 hp, List.getElem?_set_self (by rw [H9r]; exact hk)]
 have ok1 : OkP s.Places (one p) := ⟨ok.a0, ok.a1, ok.b0, ok.b1, ok.ne, by show (1 : Int) <= 1; omega, by show (1 : Int) <= 20; omega, ok.w0, ok.w1, ok.k0, ok.k1, ok.m, ok.s⟩
 have hoth : H83 (one p) p.A = p.B := by unfold H83 one; simp
 have wl : wr (((l15 s.Passages (k + 1)).length : Int) - 1) = (s.Passages.length : Int) - 1 := by rw [H9r, b3t (by omega) (by omega)]
 have hfrom : b40 (k : Int) 0 ((s.Passages.length : Int) - 1) = true := by rw [B8q]; exact decide_eq_true (by omega)
 have first : H9u ⟨s.Places, l15 s.Passages (k + 1), s.Exits⟩ (out : Int) help [(k : Int)] (p.A, 0, 0) = if l16 (out : Int) help p then some (.nx (p.B, wr (0 + 1), wr (0 + 1))) else some (.br (.inr (0, false))) := by
  unfold H9u
  have hb : ¬ p.B < 0 := by omega
  simp only [get, List.length_cons, List.length_nil, Nat.zero_add, Int.natCast_one, Int.zero_lt_one, decide_true, if_true, Int.le_refl, Int.toNat_zero, List.getElem?_cons_zero, bS9, wl, hfrom, Bool.not_true, fT9, if_false, Int.natCast_nonneg, Int.toNat_natCast, hpk, hoth, hb, decide_false, J3f ok1 ho, J0a]
  cases l16 (out : Int) help p <;> rfl
 unfold H9t
 cases ho : l16 (out : Int) help p with
 | false =>
  rw [ho] at first
  simp only [fT9, if_false] at first
  rw [b3d first]
  exact ⟨0, rfl⟩
 | true =>
  rw [ho] at first
  simp only [if_true] at first
  rw [w91 first, b3d (b := .inl (p.B, wr (0 + 1))) (by
   rw [show wr (0 + 1) = 1 by decide]
   unfold H9u
   simp)]
  exact ⟨wr (0 + 1), by simp [J0b]⟩
theorem J4j {s : Station} (hs : OkSt s) (h16 : s.Passages.length <= 16) {x : l08_Trip} {out : Nat} (hox : x.Out = (out : Int)) (ho : out < 4096) :
  b0w (H9d x s) (s.Passages, [], 0) = some (s.Passages.map one, c29 s.Passages x.Out x.Help x.From s.Passages.length) := by
 have hmain := b4h (f := H9d x s) s.Passages.length (fun (l : List Passage × List Rule) k => (l.1, l.2, k)) (fun k => (l15 s.Passages k, c29 s.Passages x.Out x.Help x.From k)) (s.Passages.map one, c29 s.Passages x.Out x.Help x.From s.Passages.length) (s0 := (s.Passages, [])) (by rw [J4f]; rfl) (fun k hk => by
  obtain ⟨p, hp⟩ := b3b hk
  have hok := J4e hp
  have hpk : (l15 s.Passages (k + 1))[k]? = some (one p) := by
   rw [<- J02 hp, List.getElem?_set_self (by rw [H9r]; exact hk)]
  obtain ⟨n, hn⟩ := J2h hs ho (help := x.Help) hp
  have ew : wr ((k : Int) + 1) = (k : Int) + 1 := b3t (by omega) (by omega)
  have hrl := J05 (P := s.Passages) (out := x.Out) (help := x.Help) (from_ := x.From) k
  unfold H9d
  show (if decide ((k : Int) < (((l15 s.Passages k).length : Nat) : Int)) then _ else _) = _
  rw [H9r, if_pos (by simpa using hk)]
  simp only [b1h hok, bS9, Int.toNat_natCast]
  rw [show (Passage.mk p.A p.B p.Kind 1 p.Wide p.Machine p.Still) = one p from rfl, J02 hp, b1h hpk, bS9]
  rw [show (one p).A = p.A from rfl, show (one p).B = p.B from rfl, hox, hn, bS9]
  have er : c29 s.Passages (out : Int) x.Help x.From (k + 1) = c29 s.Passages (out : Int) x.Help x.From k ++ (if l16 (out : Int) x.Help p then two x.From k p else []) := by
   conv => lhs; unfold c29 H9w
   rw [hp]
  rw [er]
  cases hopen : l16 (out : Int) x.Help p with
  | false =>
   simp only [Bool.not_false, if_true, fT9, if_false, List.append_nil]
   unfold H9g
   rw [ew]
  | true =>
   simp only [Bool.not_true, fT9, if_false, if_true]
   rw [J2j (by omega), bS9, bS9]
   rw [hox] at hrl
   rw [b9k (by simp; omega), bS9]
   unfold H9g
   rw [ew]
   rfl) (by
  unfold H9d
  show (if decide ((s.Passages.length : Int) < (((l15 s.Passages s.Passages.length).length : Nat) : Int)) then _ else _) = _
  rw [H9r, if_neg (by simp), J4d])
 exact hmain
end
end Go.Nw.XM.W
namespace Go.Nw.XM.W
open Go.Nw.Tp3
noncomputable section
def okB (s : ByteArray) : Bool := decide (s.size <= 8) && ((wl_0.all fun w => !decide (w.data.toList = s.data.toList)) && ((b3q s).all (fun b => decide (97 <= b) && decide (b <= 122)) && decide (0 < s.size)))
def full : List ByteArray := l57 ++ (List.range 10).map pn
theorem J1l : full.all okB = true := by kernel_rfl
theorem J3g : decide (full.map fun s => s.data.toList).Nodup = true := by kernel_rfl
theorem J3h : full.Nodup := by
 have := of_decide_eq_true J3g
 unfold List.Nodup at this ⊢
 rw [List.pairwise_map] at this
 exact this.imp fun h e => h (by rw [e])
theorem J1x {s : ByteArray} (h : okB s = true) : c3w s := by
 unfold okB at h
 simp only [Bool.and_eq_true, decide_eq_true_eq, List.all_eq_true] at h
 refine ⟨h.1, fun hm => ?_, fun b hb => h.2.2.1 b hb, h.2.2.2⟩
 have := h.2.1 s hm
 simp at this
section
variable (s : Station) (N : Nat) (out : Int) (help : Bool) (from_ : Int)
def mW : Machine := Machine.mk l57 [] [] (x42 N) (c29 s.Passages out help from_ s.Passages.length)
end
variable {s : Station} {N : Nat} {out : Int} {help : Bool} {from_ : Int}
theorem J39 : b3g (mW s N out help from_) = l57 ++ (List.range N).map pn := by
 unfold b3g mW x42
 simp [Function.comp_def]
theorem J00 (h10 : N <= 10) : (b3g (mW s N out help from_)).Sublist full := by
 rw [J39]
 unfold full
 exact (List.Sublist.refl _).append ((List.range_sublist.2 h10).map _)
theorem J4a (h10 : N <= 10) : ¬ c5c (b3g (mW s N out help from_)) := by
 rintro ⟨k, x, hx, hb | hb⟩
 ·have hm := (J00 (s := s) (out := out) (help := help) (from_ := from_) h10).subset (mG9 hx)
  exact hb (J1x (List.all_eq_true.1 J1l x hm))
 ·have hn := J3h.sublist (J00 (s := s) (out := out) (help := help) (from_ := from_) h10)
  obtain ⟨j, hj⟩ := b1d.1 hb
  rw [List.getElem?_take] at hj
  split at hj
  ·rename_i hlt
   have h1 := b1k hx; have h2 := b1k hj
   have := List.pairwise_iff_getElem.1 hn j k h2 h1 hlt
   rw [gG9 h1] at hx
   rw [gG9 h2] at hj
   exact this ((Option.some.inj hj).trans (Option.some.inj hx).symm)
  ·cases hj
theorem J4b (h10 : N <= 10) : ∀ n ∈ b3g (mW s N out help from_), n.size <= maxLen := fun n hn => by
 have hm := (J00 (s := s) (out := out) (help := help) (from_ := from_) h10).subset hn
 have := (J1x (List.all_eq_true.1 J1l n hm)).1
 simp only [maxLen]; omega
theorem J0d (hs : OkSt s) (hN : s.Places = (N : Int)) (hf : 0 <= from_ /\ from_ < N) {r : Rule} (hr : r ∈ c29 s.Passages out help from_ s.Passages.length) : ∃ (k : Nat) (p : Passage), s.Passages[k]? = some p /\ l16 out help p = true /\ OkP s.Places p /\ r.When = x15 k /\ r.Sets = [] /\
  ((r.From = c20 p.A from_ /\ r.To = c20 p.B from_) \/ (r.From = c20 p.B from_ /\ r.To = c20 p.A from_)) := by
 obtain ⟨k, p, h1, h2, h3, h4⟩ := J06.1 hr
 refine ⟨k, p, h2, h3, hs.p p (mG9 h2), ?_⟩
 unfold two at h4
 simp only [List.mem_cons, List.not_mem_nil, or_false] at h4
 rcases h4 with rfl | rfl
 ·exact ⟨rfl, rfl, .inl ⟨rfl, rfl⟩⟩
 ·exact ⟨rfl, rfl, .inr ⟨rfl, rfl⟩⟩
theorem J4c (hs : OkSt s) (h16 : s.Passages.length <= 16) (hN : s.Places = (N : Int)) (hf : 0 <= from_ /\ from_ < N) : OkM (mW s N out help from_) := by
 have n0 := hs.n0; have n1 := hs.n1
 have hrl := J05 (P := s.Passages) (out := out) (help := help) (from_ := from_) s.Passages.length
 have hsl : (mW s N out help from_).States.length = N := J1b N
 have hil : (mW s N out help from_).Inputs.length = 4 := rfl
 refine ⟨⟨by rw [hil]; omega, by show 0 <= 6; omega, by show 0 <= 2; omega, by rw [hsl]; omega, by show (c29 _ _ _ _ _).length <= 40; omega⟩, J4a (by omega), (fun c hc => by cases hc), fun x hx => ?_, fun r hr => ?_⟩
 ·have hx : x ∈ x42 N := hx
  unfold x42 at hx
  obtain ⟨i, _, rfl⟩ := List.mem_map.1 hx
  show (0 : Int) <= 0 /\ (0 : Int) < 2 ^ 0
  decide
 ·obtain ⟨k, p, h1, h2, ok, h4, h5, h6⟩ := J0d hs hN hf hr
  have a0 := ok.a0; have a1 := ok.a1; have b0 := ok.b0; have b1 := ok.b1
  have ha := H9m hf (a := p.A) (by omega)
  have hb := H9m hf (a := p.B) (by omega)
  refine ⟨by rw [hsl]; omega, by rw [hsl]; unfold In; omega, ?_, by rw [h5]; simp, fun s hs => by rw [h5] at hs; simp at hs⟩
  rw [h4]
  unfold x15
  refine ⟨by simp, fun t ht => ?_⟩
  simp only [List.mem_singleton] at ht
  subst ht
  refine ⟨by simp, fun l hl => ?_⟩
  obtain ⟨j, hj, rfl⟩ := List.mem_map.1 hl
  rw [List.mem_range] at hj
  exact .inl ⟨rfl, by rw [hil]; unfold In H9b; simp; omega, rfl⟩
def fW (from_ : Int) (p : Nat) : Place := ⟨c20 p from_, (0, 0)⟩
theorem J26 {p q : Nat} (h : fW from_ p = fW from_ q) : p = q := by
 unfold fW at h
 have := H88 (Place.mk.inj h).1
 omega
theorem H95 (hs : OkSt s) (h16 : s.Passages.length <= 16) (hN : s.Places = (N : Int)) (hf : 0 <= from_ /\ from_ < N) {p x : Nat} (hx : x < 16) {r : Rule} (hr : r ∈ c29 s.Passages out help from_ s.Passages.length) :
  b7e (mW s N out help from_) (fW from_ p) (x : Int) r = true ↔ r.When = x15 x /\ r.From = c20 p from_ := by
 obtain ⟨k, P, h1, h2, ok, h4, h5, h6⟩ := J0d hs hN hf hr
 have hk := b1k h1
 have a0 := ok.a0; have a1 := ok.a1; have b0 := ok.b0; have b1 := ok.b1
 have ha := H9m hf (a := P.A) (by omega)
 have hb := H9m hf (a := P.B) (by omega)
 have hne : ¬ r.From = -1 := by omega
 unfold b7e
 rw [h4, H9n hx (by omega)]
 have hst : (fW from_ p).State = c20 p from_ := rfl
 rw [hst]
 simp only [hne, decide_false, Bool.false_or, Bool.and_eq_true, decide_eq_true_eq]
 constructor
 ·rintro ⟨h7, rfl⟩; exact ⟨rfl, h7⟩
 ·rintro ⟨h7, h8⟩
  refine ⟨h8, Classical.byContradiction fun hne2 => ?_⟩
  have e1 : b46 (mW s N out help from_) (fW from_ p) (x : Int) (x15 k) = true := by rw [h7, H9n hx hx]; simp
  rw [H9n hx (by omega)] at e1
  exact hne2 (of_decide_eq_true e1)
theorem D20 {m : Machine} {p : Place} {i k : Nat} (hi : i < 16) (hk : k < 16) (h : x15 i = x15 k) : i = k := by
 have e1 : b46 m p (i : Int) (x15 i) = true := by rw [H9n hi hi]; simp
 rw [h, H9n hi hk] at e1
 exact of_decide_eq_true e1
def y16 (s : Station) : Station := ⟨s.Places, s.Passages.map one, s.Exits⟩
theorem J4u (hs : OkSt s) (h16 : s.Passages.length <= 16) (hN : s.Places = (N : Int)) (hf : 0 <= from_ /\ from_ < N) (p x q : Nat) (h : stW (y16 s) out help p x = some q) : stC (mW s N out help from_) [] (fun x => x) (fW from_ p) x = some (fW from_ q) := by
 obtain ⟨P1, hP1, ho⟩ := H9i.1 h
 rw [show (y16 s).Passages = s.Passages.map one from rfl, List.getElem?_map] at hP1
 obtain ⟨P, hP, rfl⟩ := mE9.1 hP1
 have hx := b1k hP
 have ok := hs.p P (mG9 hP)
 obtain ⟨hop, hcase⟩ := J1y (out := out) (help := help) (p := one P) (fr := (p : Int)) (by omega)
 rw [J0a] at hop
 have hx2 : x < 2 ^ (mW s N out help from_).Inputs.length := by show x < 2 ^ 4; omega
 unfold stC
 rw [if_pos ⟨hx2, rfl⟩]
 congr 1
 -- the rule that takes it
 have hex : ∃ r ∈ c29 s.Passages out help from_ s.Passages.length, b7e (mW s N out help from_) (fW from_ p) (x : Int) r = true := by
  rcases hcase with ⟨e1, e2⟩ | ⟨_, e1, e2⟩
  ·have hr : Rule.mk (c20 P.A from_) (c20 P.B from_) (x15 x) [] ∈ c29 s.Passages out help from_ s.Passages.length := J06.2 ⟨x, P, hx, hP, hop, by simp [two]⟩
   exact ⟨_, hr, (H95 hs h16 hN hf (by omega) hr).2 ⟨rfl, by rw [<- e1]; rfl⟩⟩
  ·have hr : Rule.mk (c20 P.B from_) (c20 P.A from_) (x15 x) [] ∈ c29 s.Passages out help from_ s.Passages.length := J06.2 ⟨x, P, hx, hP, hop, by simp [two]⟩
   exact ⟨_, hr, (H95 hs h16 hN hf (by omega) hr).2 ⟨rfl, by rw [<- e1]; rfl⟩⟩
 unfold nxt
 rw [show (mW s N out help from_).Rules = c29 s.Passages out help from_ s.Passages.length from rfl]
 cases hfind : (c29 s.Passages out help from_ s.Passages.length).find? (b7e (mW s N out help from_) (fW from_ p) (x : Int)) with
 | none =>
  obtain ⟨r, h1, h2⟩ := hex
  have := List.find?_eq_none.1 hfind r h1
  exact absurd h2 this
 | some r =>
  have hr := List.mem_of_find?_eq_some hfind
  have hm := (H95 hs h16 hN hf (by omega) hr).1 (List.find?_some hfind)
  obtain ⟨k, P', h1, _, ok', h4, h5, h6⟩ := J0d hs hN hf hr
  have hk := b1k h1
  have ek : x = k := D20 (m := mW s N out help from_) (p := zero) (by omega) (by omega) (hm.1.symm.trans h4)
  subst ek
  rw [hP] at h1; cases h1
  simp only [h5, List.foldl_nil]
  have hne := ok.ne
  have et : r.To = c20 q from_ := by
   rcases h6 with ⟨g1, g2⟩ | ⟨g1, g2⟩
   ·have e := H88 (g1.symm.trans hm.2)
    rcases hcase with ⟨e1, e2⟩ | ⟨e0, _, _⟩
    ·rw [ho] at e2
     rw [g2, e2]; rfl
    ·exact absurd e e0
   ·have e := H88 (g1.symm.trans hm.2)
    rcases hcase with ⟨e1, e2⟩ | ⟨_, e1, e2⟩
    ·have e1 : P.A = (p : Int) := e1
     omega
    ·rw [ho] at e2
     rw [g2, e2]; rfl
  rw [et]; rfl
theorem J4t (hs : OkSt s) (h16 : s.Passages.length <= 16) (hN : s.Places = (N : Int)) (hf : 0 <= from_ /\ from_ < N) (p x : Nat) (r : Place) (h : stC (mW s N out help from_) [] (fun x => x) (fW from_ p) x = some r) : r = fW from_ p \/ ∃ q, r = fW from_ q /\ stW (y16 s) out help p x = some q := by
 unfold stC at h
 split at h
 case isFalse => cases h
 rename_i hx
 have hx : x < 16 := hx.1
 cases h
 unfold nxt
 rw [show (mW s N out help from_).Rules = c29 s.Passages out help from_ s.Passages.length from rfl]
 cases hfind : (c29 s.Passages out help from_ s.Passages.length).find? (b7e (mW s N out help from_) (fW from_ p) (x : Int)) with
 | none => exact .inl rfl
 | some r =>
  have hr := List.mem_of_find?_eq_some hfind
  have hm := (H95 hs h16 hN hf hx hr).1 (List.find?_some hfind)
  obtain ⟨k, P, h1, hop, ok, h4, h5, h6⟩ := J0d hs hN hf hr
  have hk := b1k h1
  have ek : x = k := D20 (m := mW s N out help from_) (p := zero) (by omega) (by omega) (hm.1.symm.trans h4)
  subst ek
  simp only [h5, List.foldl_nil]
  have hP1 : (y16 s).Passages[x]? = some (one P) := by rw [show (y16 s).Passages = s.Passages.map one from rfl, List.getElem?_map, h1]; rfl
  have a0 := ok.a0; have b0 := ok.b0; have hne := ok.ne
  refine .inr ?_
  rcases h6 with ⟨g1, g2⟩ | ⟨g1, g2⟩
  ·have e := H88 (g1.symm.trans hm.2)
   refine ⟨P.B.toNat, ?_, H9i.2 ⟨one P, hP1, ?_⟩⟩
   ·unfold fW; rw [g2, show ((P.B.toNat : Nat) : Int) = P.B by omega]
   ·unfold oth
    rw [if_pos (by rw [J0a]; exact hop), show (one P).A = P.A from rfl, if_pos e]
    show P.B = _; omega
  ·have e := H88 (g1.symm.trans hm.2)
   refine ⟨P.A.toNat, ?_, H9i.2 ⟨one P, hP1, ?_⟩⟩
   ·unfold fW; rw [g2, show ((P.A.toNat : Nat) : Int) = P.A by omega]
   ·unfold oth
    rw [if_pos (by rw [J0a]; exact hop), show (one P).A = P.A from rfl, if_neg (by omega), show (one P).B = P.B from rfl, if_pos e]
    show P.A = _; omega
def H89 (from_ to : Int) : List (List Literal) := [[Literal.mk 3 (c20 to from_) 0 false]]
theorem J01 {m : Machine} {q : Place} {to : Int} : b46 m q 0 (H89 from_ to) = decide (q.State = c20 to from_) := by
 unfold b46 H89 lit b77 b6w
 simp only [Int.reduceEq, decide_false, fT9, if_false, decide_true, if_true, List.any_cons, List.any_nil, List.all_cons, List.all_nil, Bool.or_false, Bool.and_true, Option.getD_some]
 cases decide (q.State = c20 to from_) <;> rfl
theorem J1h (hs : OkSt s) : s.Exits.length <= 10 := by
 have n1 := hs.n1
 have key : ∀ (k : Nat) x, s.Exits[k]? = some x -> (k : Int) <= x := by
  intro k
  induction k with
  | zero => intro x hx; exact (hs.e 0 x hx).1
  | succ k ih =>
   intro x hx
   obtain ⟨y, hy⟩ := b3b (l := s.Exits) (k := k) (by have := b1k hx; omega)
   have h1 := ih y hy
   have h2 := (hs.e (k + 1) x hx).2.2 y (by omega) hy
   omega
 refine Classical.byContradiction fun h => ?_
 obtain ⟨x, hx⟩ := b3b (l := s.Exits) (k := 10) (by omega)
 have h1 := key 10 x hx
 have h2 := (hs.e 10 x hx).2.1
 omega
theorem J2x (hs : OkSt s) : H9s s = some s := by
 have h1 := J1h hs
 have h2 := hs.len
 unfold H9s
 rw [b9k (by simp; omega), bS9, b9k (by simp; omega), bS9]
 simp
theorem J2k (hs : OkSt s) (h16 : s.Passages.length <= 16) (hN : s.Places = (N : Int)) {fr to : Nat} (hf : fr < N) (ht : to < N) (ho : 0 <= out /\ out < 4096) :
  ∃ (a : Int × List Int × Int) (b : List Int × Bool × Int), b.1.length <= 768 /\ H9j (y16 s) out help fr to = some a /\ c2e (mW s N out help fr) [] (H89 fr to) = some b /\ b.2.2 = 0 /\ (a.2.2 = 0 \/ a.2.2 = 3) /\ b.2.1 = decide (a.2.2 = 0) /\ b.1 = a.2.1 /\ a.1 = (a.2.1.length : Int) := by
 have hs1 : OkSt (y16 s) := OkSt.one hs
 have hex := J1h hs
 have hfi : (0 : Int) <= (fr : Int) /\ (fr : Int) < (N : Int) := by omega
 have n1 := hs.n1
 have hT : ∀ p ∈ (y16 s).Passages, p.Ticks = 1 := fun p hp => by
  obtain ⟨q, _, rfl⟩ := List.mem_map.1 hp
  rfl
 have hm := J4c (out := out) (help := help) hs h16 hN hfi
 have hti := H9m hfi (a := (to : Int)) (by omega)
 obtain ⟨a, ha, hA⟩ := J4w hs1 (show (y16 s).Exits.length <= maxLen from b1o (by show s.Exits.length <= _; omega)) (help := help) ho hN hT hf ht
 obtain ⟨b, hb, hb0, hB⟩ := J2g hm (J4b (by omega)) (never := H89 fr to) ⟨by simp [H89], fun t ht => by
  simp only [H89, List.mem_singleton] at ht
  subst ht
  refine ⟨by simp, fun l hl => ?_⟩
  simp only [List.mem_singleton] at hl
  subst hl
  exact .inr (.inr (.inl ⟨rfl, rfl, by show In (c20 (to : Int) (fr : Int)) (x42 N).length; rw [J1b]; unfold In; omega, rfl⟩))⟩
 have hz : zero = fW (fr : Int) fr := by unfold zero fW; rw [J29]
 have up := J4u (out := out) (help := help) hs h16 hN hfi
 have down := J4t (out := out) (help := help) hs h16 hN hfi
 refine ⟨a, b, ?_, ha, hb, hb0, ?_⟩
 ·rcases hB with ⟨h1, _⟩ | ⟨q, r, h1, _, h3, _⟩
  ·rw [h1]; simp
  ·rw [h1, g0o]; exact h3
 rcases hA with ⟨rfl, hno⟩ | ⟨l, rfl, hll, hl⟩
 ·rcases hB with ⟨h1, h2, _⟩ | ⟨q, r, h1, h2, _, hr, hq⟩
  ·exact ⟨.inr rfl, by rw [h2]; rfl, h1, rfl⟩
  ·exfalso
   rw [J01] at hq
   have hq := of_decide_eq_true hq
   rw [hz] at hr
   obtain ⟨q', l', rfl, h3, _⟩ := J1c (fW (fr : Int)) down hr.1
   have e : (q' : Int) = to := H88 hq
   have e : q' = to := by omega
   subst e
   exact hno l' h3
 ·rcases hB with ⟨h1, h2, hno⟩ | ⟨q, r, h1, h2, _, hr, hq⟩
  ·exfalso
   have h3 := J1d (fW (fr : Int)) up hl.1
   rw [<- hz] at h3
   have := hno _ _ h3
   rw [J01, decide_eq_false_iff_not] at this
   exact this rfl
  ·rw [J01] at hq
   have hq := of_decide_eq_true hq
   have hr1 := hr.1
   rw [hz] at hr1 hr
   obtain ⟨q', l', rfl, h3, _⟩ := J1c (fW (fr : Int)) down hr1
   have e : (q' : Int) = to := H88 hq
   have e : q' = to := by omega
   subst e
   have e := J36 (fW (fr : Int)) (fun p q => J26) up down hl hr
   subst e
   exact ⟨.inl rfl, by rw [h2]; rfl, h1, by rw [g0o]⟩
theorem J33 {a : Int × List Int × Int} {b : List Int × Bool × Int} (e : b.1 = a.2.1) (hl : b.1.length <= maxLen) : b0w (H9e a b) 0 = some (.inl ()) := by
 have := b4h (f := H9e a b) b.1.length (fun (_ : Unit) k => k) (fun _ => ()) (Sum.inl ()) (s0 := ()) rfl (fun k hk => by
  obtain ⟨x, hx⟩ := b3b hk
  unfold H9e
  have h' : (k : Int) < (b.1.length : Int) := by omega
  simp only [h', decide_true, if_true, b1h hx, <- e, bS9, not_true_eq_false, decide_false, fT9, if_false]
  rw [b2r hk hl]) (by
  unfold H9e
  simp)
 exact this
theorem walks_plain [Bd] (hme : x28 = some true) (s : Station) (x : l08_Trip) (hos : H9z s) (_ : H90 x) : H9p s x = some true := by
 have hex : s.Exits.length <= maxLen := Nat.le_trans hos.2.2.1 Bd.le
 unfold H9p
 obtain ⟨r, hr, hR⟩ := C2q hex
 rw [hr, bS9]
 by_cases c : ((((((((decide (¬r = 0)) || (decide (16 < (List.length s.Passages : Int)))) || (decide (x.Out < 0))) || (decide (4096 <= x.Out))) || (decide (x.From < 0))) || (decide (s.Places <= x.From))) || (decide (x.To < 0))) || (decide (s.Places <= x.To))) = true
 ·rw [if_pos c, hme]; rfl
 rw [if_neg c]
 simp only [Bool.or_eq_true, decide_eq_true_eq, not_or, Int.not_lt, Int.not_le] at c
 obtain ⟨⟨⟨⟨⟨⟨⟨c1, c2⟩, c3⟩, c4⟩, c5⟩, c6⟩, c7⟩, c8⟩ := c
 have hs := hR (Classical.not_not.1 c1)
 have n0 := hs.n0; have n1 := hs.n1
 have h16 : s.Passages.length <= 16 := by omega
 obtain ⟨N, hN⟩ : ∃ N : Nat, s.Places = (N : Int) := ⟨s.Places.toNat, by omega⟩
 obtain ⟨o, ho⟩ : ∃ o : Nat, x.Out = (o : Int) := ⟨x.Out.toNat, by omega⟩
 obtain ⟨fr, hf⟩ : ∃ fr : Nat, x.From = (fr : Int) := ⟨x.From.toNat, by omega⟩
 obtain ⟨to, ht⟩ : ∃ to : Nat, x.To = (to : Int) := ⟨x.To.toNat, by omega⟩
 rw [J2x hs, bS9, J4s hN (by omega), bS9]
 unfold H96
 rw [J4j hs h16 ho (by omega), bS9]
 unfold H97
 obtain ⟨a, b, h0, h1, h2, h3, h4, h5, h6, h7⟩ := J2k (out := x.Out) (help := x.Help) hs h16 hN (fr := fr) (to := to) (by omega) (by omega) (by omega)
 rw [<- hf, <- ht] at h1
 rw [<- hf] at h2
 unfold y16 at h1
 unfold mW H89 at h2
 rw [<- ht] at h2
 simp only [h1, h2, bS9]
 have hlen : b.1.length <= maxLen := b1o (by omega)
 have cond : (((((decide (¬b.2.2 = 0)) || ((decide (¬a.2.2 = 0)) && (decide (¬a.2.2 = 3)))) || (!(b5c b.2.1 (decide (a.2.2 = 0))))) || (decide (¬(List.length b.1 : Int) = (List.length a.2.1 : Int)))) || (decide (¬a.1 = (List.length a.2.1 : Int)))) = false := by
  rw [h3, h5, h6, <- h7]
  rcases h4 with h4 | h4 <;> simp [h4, b5c]
 rw [cond]
 simp only [fT9, if_false]
 rw [J33 h6 hlen, bS9]
 unfold H98
 rw [hme]; rfl
end
end Go.Nw.XM.W
