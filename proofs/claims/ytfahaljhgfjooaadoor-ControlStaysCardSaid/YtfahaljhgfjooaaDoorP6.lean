/- ControlStays: no single input that is stuck leads there. -/
import Derived.Test.YtfahaljhgfjooaaDoorP5
set_option linter.all false
namespace Go.Nw.KM
noncomputable section
theorem p53 : ((List.range 5).all fun n => (List.range (2 ^ n)).all fun x => (List.range n).all fun i => (List.range 2).all fun v => decide (0 <= (b6a (x : Int) (i : Int) (v : Int)).getD 0) && decide ((b6a (x : Int) (i : Int) (v : Int)).getD 0 < ((2 ^ n : Nat) : Int))) = true := by decide +kernel
theorem p5y {m : Machine} (hm : OkM m) {i v : Nat} (hi : i < m.Inputs.length) (hv : v < 2) (x : Nat) (hx : x < 2 ^ m.Inputs.length) : b6a x i v = some (hs i v x) /\ OkX m (hs i v x) := by
 have hn := hm.z.i;have hp := o6j hn;refine ⟨(o54 vf9 vf9 hv).1, ?_⟩;have h := List.all_eq_true.1 p53 m.Inputs.length (List.mem_range.2 vf9);have h := List.all_eq_true.1 h x (List.mem_range.2 hx);have h := List.all_eq_true.1 h i (List.mem_range.2 hi);have h := List.all_eq_true.1 h v (List.mem_range.2 hv);simp only [Bool.and_eq_true, decide_eq_true_eq] at h;have e : ((2 ^ m.Inputs.length : Nat) : Int) = 2 ^ m.Inputs.length := by simp
 unfold OkX In;show 0 <= (b6a x i v).getD 0 /\ (b6a x i v).getD 0 < _
 exact h
section
variable [Bd]
theorem p56 (m : Machine) (c : l04_Conds) (x : l04_Pinned) (hm0 : b9d m) (hc0 : c54 c) (hx0 : p5u x) : l12 m c x = some true := by
 have hf := l5y hm0;obtain ⟨b, hb⟩ := l7h hf;obtain ⟨e, he1, he2⟩ := d5s hf (l := [c.Assume, c.Never]) vh9;unfold l12;rw [hb, bS9, he1, bS9]
 cases b with
 | true => rfl
 | false =>
 simp only [fT9, if_false, bS9];by_cases he : e = 0
 case neg => rw [if_pos (by simp [he])]; rfl
 subst he;obtain ⟨hm, hc, hn⟩ := d6y he2;by_cases h60 : (60 : Int) < (x.Run.length : Int)
 ·rw [if_pos (by simp [h60])]; rfl
 rw [if_neg (by simp only [Bool.or_eq_true, decide_eq_true_eq, not_or]; exact ⟨by simp, h60⟩)];obtain ⟨r, r1, _, r3, r4, r5⟩ := o59 hf c.Assume c.Never;have hr0 : r.2.2.2.2 = 0 := d6z r4 he2;rw [r1, bS9, if_neg (by simp [hr0])];rcases r5 hr0 with ⟨rfl, hno⟩ | ⟨i, v, bb, hi, hv, hs0, hb2, rfl⟩
 ·simp only [fT9, if_false];by_cases hpin : ((((decide (x.Input < 0)) || (decide ((List.length m.Inputs : Int) <= x.Input))) || (decide (x.Value < 0))) || (decide (1 < x.Value))) = true
  ·rw [if_pos hpin]; rfl
  rw [if_neg hpin];simp only [Bool.or_eq_true, decide_eq_true_eq, not_or] at hpin;obtain ⟨⟨⟨p1, p2⟩, p3⟩, p4⟩ := hpin;obtain ⟨i, hi⟩ := Int.eq_ofNat_of_zero_le (show 0 <= x.Input by omega);obtain ⟨v, hv⟩ := Int.eq_ofNat_of_zero_le (show 0 <= x.Value by omega);have hi' : i < m.Inputs.length := by omega
  have hv' : v < 2 := by omega
  obtain ⟨bb, s1, s2⟩ := hno i v hi' hv';rw [hi, hv];rcases p3d hf hm hc (fun y hy => p5y hm hi' hv' y hy) (l := x.Run) vf9 with ⟨hfair, hp⟩ | ⟨_, hp⟩
  ·rw [hp, bS9]
   have := b4h (f := l11 m c (tab (x.Run.length + 1) (plc m (hs i v) zero x.Run), true)) (x.Run.length + 1) (fun (_ : Unit) k => k) (fun _ => ()) (.inl ()) (s0 := ()) rfl (fun k hk => by
    unfold l11;simp only [b3y, Int.ofNat_lt, hk, decide_true, Bool.and_self, if_true, c2y hk, bS9, c5x hm.z (p2n (hd := hs i v) hm (o5b hm) x.Run k).s hn, b2r hk (b1o vf9)];rw [if_neg];intro h;obtain ⟨P, g1, g2⟩ := p3e x.Run hfair k vf9;have := (p39 hm s1 g2 h).1
    rw [s2] at this; cases this) (by
    unfold l11
    simp only [b3y, Int.lt_irrefl, decide_false, Bool.and_false, fT9, if_false])
   rw [this]; rfl
  ·rw [hp, bS9];rw [b3d (f := l11 m c ([], false)) (s := 0) (b := .inl ()) (by unfold l11; rfl)];rfl
 ·simp only [if_true]
  have hpin : ¬ (((((decide (((i : Nat) : Int) < 0)) || (decide ((List.length m.Inputs : Int) <= ((i : Nat) : Int)))) || (decide (((v : Nat) : Int) < 0))) || (decide (1 < ((v : Nat) : Int)))) = true) := by
   simp only [Bool.or_eq_true, decide_eq_true_eq, not_or]; omega
  rw [if_neg hpin];obtain ⟨K', hK', h | ⟨k, q, P, e1, e2, e3, _, e5, e6, _⟩⟩ := hs0
  ·have := congrArg Prod.snd h.1
   rw [hb2] at this; cases this
  ·have er : bb.1 = b27 P := congrArg Prod.fst e1
   have hgood' := s3t (c := c.Assume) (hd := hs i v) hm K';have hlen' := c0q hm hgood'.n hgood'.o;have hlt := b1k e2;obtain ⟨f1, f2⟩ := p3b e5;rw [er];rcases p3d hf hm hc (fun y hy => p5y hm hi hv y hy) (l := b27 P) (by rw [g0o]; omega) with ⟨hfair, hp⟩ | ⟨hno, _⟩
   case inr => exact absurd f1 hno
   rw [hp, bS9];simp only [if_true];rw [p32 (by rw [g0o]; omega), bS9, g0o, f2, c5x hm.z (hgood'.o q (b1d.2 ⟨k, e2⟩)).s hn, bS9, bS9, e3];rfl
end
end
end Go.Nw.KM
