/- ControlTwin: machines that are not the same show it, by a run shorter than there are situations. -/
import Derived.Test.YtfahaljhgfjooaaDoorP6
import Derived.Test.YtfahaljhgfjooaaDoorNwMoore
set_option linter.all false
namespace Go.Nw.KM
noncomputable section
theorem mix {B x x' y y' : Int} (hy : 0 <= y) (hy2 : y < B) (hy' : 0 <= y') (hy2' : y' < B) (h : x * B + y = x' * B + y') : x = x' /\ y = y' := by
 have hB : 0 <= B := by omega
 have key : ∀ {u v : Int}, u < v -> u * B + B <= v * B := fun {u v} huv => by
  have := Int.mul_le_mul_of_nonneg_right (show u + 1 <= v by omega) hB
  rw [Int.add_mul, Int.one_mul] at this; exact this
 by_cases h1 : x < x'
 ·have := key h1; omega
 ·by_cases h2 : x' < x
  ·have := key h2; omega
  ·have : x = x' := by omega
   subst this; exact ⟨rfl, by omega⟩
theorem r2z {B S x y : Int} (hx : x < S) (hy : 0 <= y) (hy2 : y < B) : x * B + y < S * B := by
 have hB : 0 <= B := by omega
 have := Int.mul_le_mul_of_nonneg_right (show x + 1 <= S by omega) hB
 rw [Int.add_mul, Int.one_mul] at this; omega
def c10 (m : Machine) (p : Place) : Int := (p.State * (b56 m 0 + 1) + p.Values.1) * (b56 m 1 + 1) + p.Values.2
theorem r3s {m : Machine} (hm : OkM m) : count m m.Counters.length = (m.States.length : Int) * (b56 m 0 + 1) * (b56 m 1 + 1) := by
 have hc := hm.z.c
 have h0 : count m 0 = (m.States.length : Int) := rfl
 match hC : m.Counters, hc with
 | [], _ =>
  have e0 : b56 m 0 = 0 := by unfold b56; rw [hC]; rfl
  have e1 : b56 m 1 = 0 := by unfold b56; rw [hC]; rfl
  rw [e0, e1]; show count m 0 = _; rw [h0]; simp
 | [x], _ =>
  have e0 : b56 m 0 = x.Max := by unfold b56; rw [hC]; rfl
  have e1 : b56 m 1 = 0 := by unfold b56; rw [hC]; rfl
  have e2 : count m 1 = count m 0 * (x.Max + 1) := by (conv => lhs; unfold count; rw [hC]); rfl
  rw [e0, e1]; show count m 1 = _; rw [e2, h0]; simp
 | [x, y], _ =>
  have e0 : b56 m 0 = x.Max := by unfold b56; rw [hC]; rfl
  have e1 : b56 m 1 = y.Max := by unfold b56; rw [hC]; rfl
  have e2 : count m 1 = count m 0 * (x.Max + 1) := by (conv => lhs; unfold count; rw [hC]); rfl
  have e3 : count m 2 = count m 1 * (y.Max + 1) := by (conv => lhs; unfold count; rw [hC]); rfl
  rw [e0, e1]; show count m 2 = _; rw [e3, e2, h0]
 | x :: y :: z :: l, hc => simp only [List.length_cons] at hc; omega
theorem l35 {m : Machine} (hm : OkM m) {p : Place} (hp : OkP m p) : 0 <= c10 m p /\ c10 m p < count m m.Counters.length := by
 obtain ⟨hs1, hs2⟩ := hp.s
 have ha := hp.a; have hb := hp.b
 rw [r3s hm]
 unfold c10
 refine ⟨?_, r2z (r2z hs2 ha.1 (by omega)) hb.1 (by omega)⟩
 have h1 : 0 <= p.State * (b56 m 0 + 1) := Int.mul_nonneg hs1 (by omega)
 have h2 : 0 <= (p.State * (b56 m 0 + 1) + p.Values.1) * (b56 m 1 + 1) := Int.mul_nonneg (by omega) (by omega)
 omega
theorem r2n {m : Machine} {p q : Place} (hp : OkP m p) (hq : OkP m q) (h : c10 m p = c10 m q) : p = q := by
 unfold c10 at h
 have a1 := hp.a; have a2 := hp.b; have b1 := hq.a; have b2 := hq.b
 obtain ⟨h1, h2⟩ := mix a2.1 (by omega) b2.1 (by omega) h
 obtain ⟨h3, h4⟩ := mix a1.1 (by omega) b1.1 (by omega) h1
 obtain ⟨s, v, w⟩ := p; obtain ⟨s', v', w'⟩ := q
 simp only at *
 subst h2; subst h3; subst h4; rfl
section
variable {a b : Machine}
abbrev TP := Bool × Place
def shT (a b : Machine) (u : TP) : Int := if u.1 = true then sh a u.2 else sh b u.2
def stT (a b : Machine) (u : TP) (x : Nat) : TP := (u.1, if u.1 = true then nxt a u.2 (idn x) else nxt b u.2 (idn x))
def UT (a b : Machine) (u : TP) : Prop := if u.1 = true then OkP a u.2 else OkP b u.2
theorem r19 (t : Bool) : ∀ (l : List Nat) (p : Place), goW (stT a b) (t, p) l = (t, plc (if t = true then a else b) idn p (b27 l) l.length)
 | [], p => rfl
 | x :: l, p => by
  show goW (stT a b) (stT a b (t, p) x) l = _
  have e : b27 (x :: l) = (x : Int) :: b27 l := rfl
  rw [e, List.length_cons, p22]
  cases t with
  | true => exact r19 true l _
  | false => exact r19 false l _
theorem r3w (ha : OkM a) (hb : OkM b) {R : List TP} (hn : R.Nodup) (hR : ∀ r ∈ R, UT a b r) : R.length <= (count a a.Counters.length).toNat + (count b b.Counters.length).toNat := by
 have h0a := (d62 ha a.Counters.length).1
 have h0b := (d62 hb b.Counters.length).1
 have h1 := d4k ((count a a.Counters.length).toNat + (count b b.Counters.length).toNat) (R.map fun u => if u.1 = true then (c10 a u.2).toNat else (count a a.Counters.length).toNat + (c10 b u.2).toNat) (l1z hn fun u hu v hv e => by
   have h1 := hR u hu; have h2 := hR v hv
   obtain ⟨t, p⟩ := u; obtain ⟨t', q⟩ := v
   cases t <;> cases t' <;> simp only [UT, Bool.false_eq_true, if_false, if_true] at h1 h2 e
   ·have k1 := l35 hb h1; have k2 := l35 hb h2
    rw [r2n h1 h2 (by omega)]
   ·have k1 := l35 hb h1; have k2 := l35 ha h2; omega
   ·have k1 := l35 ha h1; have k2 := l35 hb h2; omega
   ·have k1 := l35 ha h1; have k2 := l35 ha h2
    rw [r2n h1 h2 (by omega)]) (fun x hx => by
   obtain ⟨u, hu, rfl⟩ := List.mem_map.1 hx
   have h1 := hR u hu
   obtain ⟨t, p⟩ := u
   cases t <;> simp only [UT, Bool.false_eq_true, if_false, if_true] at h1 ⊢
   ·have k1 := l35 hb h1; omega
   ·have k1 := l35 ha h1; omega)
 simpa using h1
theorem r4h (ha : OkM a) (hb : OkM b) (hi : a.Inputs = b.Inputs) {l : List Int} (hl : ∀ x ∈ l, OkX a x) (h : b70 a l ≠ b70 b l) :
  ∃ w : List Int, w.length <= (count a a.Counters.length).toNat + (count b b.Counters.length).toNat /\ (∀ x ∈ w, OkX a x) /\ b70 a w ≠ b70 b w := by
 have hpow : ((2 ^ a.Inputs.length : Nat) : Int) = 2 ^ a.Inputs.length := by simp
 have el : b27 (l.map Int.toNat) = l := by
  unfold b27
  rw [List.map_map]
  conv => rhs; rw [<- List.map_id l]
  exact List.map_congr_left fun x hx => Int.toNat_of_nonneg (hl x hx).1
 have sw : ∀ (w : List Nat) (t : Bool), shT a b (goW (stT a b) (t, zero) w) = if t = true then b70 a (b27 w) else b70 b (b27 w) := fun w t => by
  rw [r19]
  cases t <;> simp only [shT, b70, g0o, Bool.false_eq_true, if_false, if_true]
 obtain ⟨w, h1, h2, h3⟩ := r4g (sh := shT a b) (st := stT a b) (N := 2 ^ a.Inputs.length) (U := UT a b) (fun u hu x hx => by
   obtain ⟨t, p⟩ := u
   cases t <;> simp only [UT, stT, Bool.false_eq_true, if_false, if_true] at hu ⊢
   ·exact l18 hb hu _
   ·exact l18 ha hu _) (fun R hn hR => r3w ha hb hn hR) (u := (true, zero)) (v := (false, zero)) (o5b ha) (o5b hb) (l := l.map Int.toNat) (fun x hx => by
   obtain ⟨y, hy, rfl⟩ := List.mem_map.1 hx
   obtain ⟨h1, h2⟩ := hl y hy
   omega) (by rw [sw, sw, el]; exact h)
 rw [sw, sw] at h3
 refine ⟨b27 w, by rw [g0o]; exact h1, fun x hx => ?_, h3⟩
 obtain ⟨y, hy, rfl⟩ := List.mem_map.1 hx
 have := h2 y hy
 unfold OkX In
 show 0 <= (y : Int) /\ (y : Int) < _
 omega
end
theorem r29 {m : Machine} {l : List Int} (hl : ∀ x ∈ l, OkX m x) : ∀ k, k <= l.length -> b87 m l k = plc m idn zero l k
 | 0, _ => rfl
 | k + 1, h => by
  obtain ⟨x, hx⟩ := b3b (l := l) (k := k) (by omega)
  unfold b87 plc
  rw [r29 hl k (by omega), o8p hx]
  show nxt m _ x = nxt m _ ((x.toNat : Nat) : Int)
  rw [Int.toNat_of_nonneg (hl x (b1d.2 ⟨k, hx⟩)).1]
theorem l41 {m : Machine} (hf : ∀ n ∈ b3g m, n.size <= maxLen) (hm : OkM m) (l : List Int) :
  ((l.length <= 200 /\ ∀ x ∈ l, OkX m x) /\ b93 m l = some (b70 m l, true)) \/ (¬ (l.length <= 200 /\ ∀ x ∈ l, OkX m x) /\ b93 m l = some (0, false)) := by
 obtain ⟨r, r1, _, _, r4⟩ := r3h hf l
 have j7 : ∀ {p : Place}, OkP m p -> r07 m p.State p.Values.1 p.Values.2 = some (sh m p, true) := fun {p} hp => by
  unfold r07
  obtain ⟨b, b1, b2⟩ := o83 hm p
  have hb := b2.2 hp
  subst hb
  obtain ⟨s, g1, g2⟩ := r2i hp
  rw [c74, b1, Option.bind_some, if_neg (by simp), g1, Option.bind_some, g2]
 by_cases hok : l.length <= 200 /\ ∀ x ∈ l, OkX m x
 ·refine .inl ⟨hok, ?_⟩
  rcases r4 with ⟨_, _, _, rfl⟩ | ⟨_, _, h3⟩
  ·unfold b93
   rw [r1, Option.bind_some, if_neg (by simp [b3y])]
   have hlast : ∀ k : Nat, l.length = k + 1 -> get (tab l.length fun k => b87 m l (k + 1)) (wr ((List.length (tab l.length fun k => b87 m l (k + 1)) : Int) - 1)) = some (plc m idn zero l l.length) := fun k hk => by
    rw [c1n (by rw [b3y]; exact b1o (by omega)), b3y]
    have : ((l.length : Nat) : Int) - 1 = (k : Nat) := by omega
    rw [this, c2y (by omega), r29 hok.2 (k + 1) (by omega), hk]
   cases hlen : l.length with
   | zero =>
    rw [if_neg (by simp [b3y])]
    have := j7 (o5b hm)
    unfold b70
    rw [hlen]
    exact this
   | succ k =>
    rw [if_pos (by simp [b3y, hlen]), <- hlen, hlast k hlen, Option.bind_some]
    exact j7 (p2n hm (o5b hm) l l.length)
  ·exact absurd ⟨hm, hok⟩ h3
 ·refine .inr ⟨hok, ?_⟩
  rcases r4 with ⟨_, h1, h2, _⟩ | ⟨h1, h2⟩
  ·exact absurd ⟨h1, h2⟩ hok
  ·have h2 := h2.1
   unfold b93
   rw [r1, Option.bind_some, if_pos (by simp [h2])]
end
end Go.Nw.KM
