/- ControlAlike: the law. -/
import Derived.Test.YtfahaljhgfjooaaDoorP5
set_option linter.all false
namespace Go.Nw.KM
noncomputable section
def s0g (m : Machine) (K T : Nat) (r : List Int) : Prop :=
 r = tab (pl m K).length (s8j (2 ^ m.Inputs.length) (s8f m K) (fun i => shw m ((pl m K).getD i zero)) (T + 2)) /\
 s8l (pl m K).length (2 ^ m.Inputs.length) (s8f m K) (s8j (2 ^ m.Inputs.length) (s8f m K) (fun i => shw m ((pl m K).getD i zero)) T) =
 s8l (pl m K).length (2 ^ m.Inputs.length) (s8f m K) (s8j (2 ^ m.Inputs.length) (s8f m K) (fun i => shw m ((pl m K).getD i zero)) (T + 1))
theorem s1p {m : Machine} {K : Nat} (hK : End m [] idn K) : (b4a m [] idn K).next = tab (pl m K).length fun i => tab (2 ^ m.Inputs.length) fun x => (s8f m K i x : Int) := by
 have hl : (pl m K).length = K := d1q hK;rw [hl];show tab K _ = _
 refine c1m fun i _ => c1m fun x _ => ?_;unfold rv;rw [if_pos (r9n _ _)]; rfl
theorem s0f {m : Machine} (hm : OkM m) (hf : ∀ n ∈ b3g m, n.size <= maxLen) {K : Nat} (hK : End m [] idn K) : ∃ r T, r8c m = some (r, 0) /\ r9z m = some (r, 0) /\ s0g m K T r := by
 obtain ⟨e1, h1, h1'⟩ := g5k hf;obtain ⟨e2, h2, h2'⟩ := d5t hf;have z1 : e1 = 0 := by rcases h1' with ⟨h, _⟩ | ⟨_, h⟩; exact h; exact absurd hm h
 have z2 : e2 = 0 := by rcases h2' with ⟨h, _⟩ | ⟨_, h⟩; exact h; exact absurd hm h
 subst z1 z2;have hfew := r7p (m := m) (K := K) hm hK;have hpos := s1i (m := m) (K := K) hm hK;have hpow := p2a hm.z
 have hcn : b2s m true [] := by
  refine ⟨by simp, fun t ht => by simp at ht⟩
 obtain ⟨T, hT, hT2⟩ := s1a (n := (pl m K).length) (N := 2 ^ m.Inputs.length) (fol := s8f m K) (fun i => shw m ((pl m K).getD i zero));refine ⟨_, T, ?_, ?_, rfl, hT2⟩
 ·unfold r8c;rw [h1, bS9, if_neg vk9, show b3h m = ⟨⟨m⟩⟩ from rfl, d7u (hd := idn) hm hcn (heard := fun z7 => some (b6f z7)) (fun x _ => rfl) hK, bS9];rw [show (b4a m [] idn K).places = pl m K from rfl, g1q vg9 vg9, bS9]
  have first : b0w (r7z m (b4a m [] idn K)) (tab (pl m K).length (fun _ => 0), 0) = some (tab (pl m K).length fun i => shw m ((pl m K).getD i zero)) := by
   refine b4h (f := r7z m (b4a m [] idn K)) (pl m K).length (fun (s : List Int) k => (s, k)) (fun k => fill (pl m K).length (fun i => shw m ((pl m K).getD i zero)) 0 k) _ (by rw [<- p6y]; exact d1w) (fun k hk => ?_) ?_
   ·obtain ⟨q1, q2⟩ := r7m hm hK hk;obtain ⟨s, g1, g2⟩ := r87 q2;unfold r7z;simp only [show (b4a m [] idn K).places = pl m K from rfl, Int.ofNat_lt, hk, decide_true, if_true, q1, g1, d15 hk, bS9, Int.toNat_natCast, b2r hk (b1o vg9)];rw [c2r g2]
   ·unfold r7z;simp only [show (b4a m [] idn K).places = pl m K from rfl, Int.lt_irrefl, decide_false, fT9, if_false, d1u (Nat.le_refl _)]
  rw [first, bS9];unfold r8p;rw [r95 (f := r8d (b4a m [] idn K)) hpos (fun c count => s1m hfew hpow (r8w hm hK) (b4a m [] idn K) (s1p hK)) (Int.le_refl 0) hT hT2]; rfl
 ·unfold r9z;rw [h2, bS9, if_neg vk9, d7v hm hcn (inp := -1) (val := 0) (fun x _ => d9s x) hK, bS9];simp only [show (b0h m [] idn K).1 = pl m K from rfl];rw [g1q vg9 vg9, bS9]
  have first : b0w (r8h m ⟨pl m K, (b0h m [] idn K).2.1, (b0h m [] idn K).2.2⟩) (tab (pl m K).length (fun _ => 0), 0) = some (tab (pl m K).length fun i => shw m ((pl m K).getD i zero)) := by
   refine b4h (f := r8h m ⟨pl m K, (b0h m [] idn K).2.1, (b0h m [] idn K).2.2⟩) (pl m K).length (fun (s : List Int) k => (s, k)) (fun k => fill (pl m K).length (fun i => shw m ((pl m K).getD i zero)) 0 k) _ (by rw [<- p6y]; exact d1w) (fun k hk => ?_) ?_
   ·obtain ⟨q1, q2⟩ := r7m hm hK hk;obtain ⟨s, g1, g2⟩ := r87 q2;unfold r8h;simp only [Int.ofNat_lt, hk, decide_true, if_true, q1, g1, d15 hk, bS9, Int.toNat_natCast, b2r hk (b1o vg9)];rw [c2r g2]
   ·unfold r8h;simp only [Int.lt_irrefl, decide_false, fT9, if_false, d1u (Nat.le_refl _)]
  rw [first, bS9];unfold r90;rw [r95 (f := r84 m ⟨pl m K, (b0h m [] idn K).2.1, (b0h m [] idn K).2.2⟩) hpos (fun c count => s1n hm hK rfl) (by decide) hT hT2]; rfl
theorem s1w {l r : List Int} (hl : l.length <= maxLen) : ∃ b : Bool, c0j l r = some b /\ (b = true ↔ l = r) := by
 unfold c0j c7m;by_cases h : (l.length : Int) = (r.length : Int)
 case neg => exact ⟨false, by rw [if_pos (by simpa using h)], by simp; intro e; rw [e] at h; exact h rfl⟩
 rw [if_neg (by simpa using h)];have hlr : l.length = r.length := by omega
 rcases b4j (f := c3t l r) (l := l) (p := fun k x => ¬ r[k]? = some x) (e := .inr false) (u := .inl ()) hl (fun k x hx => by
   have hk := b1k hx;obtain ⟨y, hy⟩ := b3b (l := r) (k := k) vg9;refine ⟨!(decide (x = y)), ?_, by rw [hy, iE9, Bool.not_eq_true', decide_eq_false_iff_not]; exact ⟨fun h e => h e.symm, fun h e => h e.symm⟩⟩;unfold c3t;simp only [Int.ofNat_lt, hk, decide_true, if_true, b1h hx, b1h hy, bS9];by_cases e : x = y <;> simp [e]) (by unfold c3t; simp only [Int.lt_irrefl, decide_false, fT9, if_false]) with ⟨h1, h2⟩ | ⟨⟨k, x, h1, h2⟩, h3⟩
 ·rw [h2];refine ⟨true, rfl, ?_⟩;simp only [true_iff];apply List.ext_getElem?;intro k;by_cases hk : k < l.length
  ·obtain ⟨x, hx⟩ := b3b hk;rw [hx]; exact (Classical.not_not.1 (h1 k x hx)).symm
  ·rw [List.getElem?_eq_none vg9, List.getElem?_eq_none vg9]
 ·rw [h3];refine ⟨false, rfl, ?_⟩;simp only [fT9, false_iff];intro e; subst e; exact h2 h1
section
variable {m : Machine} {K T : Nat} (hm : OkM m) (hf : ∀ n ∈ b3g m, n.size <= maxLen) (hK : End m [] idn K)
include hm hf hK
theorem s0h : p2e m [] = some (pl m K, 0) := by
 obtain ⟨e, h1, h2⟩ := d6t hf (l := [[]]) vk9;have hcn : b2s m true [] := ⟨by simp, fun t ht => by simp at ht⟩
 have he : e = 0 := by
  rcases h2 with ⟨h, _⟩ | ⟨_, h⟩ | ⟨_, _, h⟩
  ·exact h
  ·exact absurd hm h
  ·obtain ⟨c, hc, hn⟩ := h;rw [List.mem_singleton] at hc; subst hc; exact absurd hcn hn
 subst he;unfold p2e;rw [h1, bS9, if_neg vk9, show b3h m = ⟨⟨m⟩⟩ from rfl, d7u (hd := idn) hm hcn (heard := fun z7 => some (b6f z7)) (fun x _ => rfl) hK]; rfl
theorem r98 : shl .i64 1 (IntKind.wrap .u64 (m.Inputs.length : Int)) = some ((2 ^ m.Inputs.length : Nat) : Int) := by
 have := b9j hm.z;unfold c03 at this;simpa using this
variable {C : Nat -> Int} (hC : ∀ i, 0 <= C i)
include hC
theorem s1y {y15 : Int} {q : Place} (hq : q ∈ pl m K) (z : Int) :
  b0w (r7t (pl m K, z) (tab (pl m K).length C, y15) (q, 0)) (-1, 0) = some (C ((pl m K).idxOf q)) := by
 have hfew := r7p (m := m) (K := K) hm hK;have hlt := List.idxOf_lt_length_iff.2 hq
 have key : ∀ d k : Nat, (pl m K).idxOf q - k = d -> k <= (pl m K).idxOf q ->
   b0w (r7t (pl m K, z) (tab (pl m K).length C, y15) (q, 0)) (-1, (k : Int)) = some (C ((pl m K).idxOf q)) := by
  intro d;induction d with
  | zero =>
   intro k h1 h2;have : k = (pl m K).idxOf q := by omega
   rw [b32 (s' := (C ((pl m K).idxOf q), ((k + 1 : Nat) : Int))) (by
    unfold r7t r79;subst this;simp only [Int.ofNat_lt, hlt, decide_true, show ((-1 : Int) < 0) by decide, Bool.and_self, if_true, b1h (d2b hq), bS9, c74, c2y hlt, b2r hlt (b1o vg9)]; rfl)]
   refine b3d ?_;unfold r7t;have : ¬ C ((pl m K).idxOf q) < 0 := by have := hC ((pl m K).idxOf q); omega
   simp only [this, decide_false, Bool.and_false, fT9, if_false]
  | succ d ih =>
   intro k h1 h2;have hk : k < (pl m K).idxOf q := by omega
   obtain ⟨x, hx⟩ := b3b (l := pl m K) (k := k) vg9
   have hne : ¬ x = q := by
    intro e;have h3 := List.not_of_lt_findIdx (p := (· == q)) (xs := pl m K) (i := k) hk;have h4 := (gS9.1 hx).2;rw [h4, e] at h3;simp at h3
   rw [b32 (s' := (-1, ((k + 1 : Nat) : Int))) (by
    unfold r7t r79;simp only [Int.ofNat_lt, b1k hx, decide_true, show ((-1 : Int) < 0) by decide, Bool.and_self, if_true, b1h hx, bS9, c74, hne, decide_false, fT9, if_false, b2r (b1k hx) (b1o vg9)]; rfl)]
   exact ih (k + 1) vg9 vg9
 have := key _ 0 rfl (Nat.zero_le _);rw [Int.natCast_zero] at this;exact this
theorem s1o {y15 z : Int} {i : Nat} (hi : i < (pl m K).length) :
  b0w (r75 m (pl m K, z) (tab (pl m K).length C, y15) (i : Int)) ([], 0) = some (.inl (tab (2 ^ m.Inputs.length) fun x => C (s8f m K i x))) := by
 have hfew := r7p (m := m) (K := K) hm hK;have hpow := p2a hm.z;refine b4h (f := r75 m (pl m K, z) (tab (pl m K).length C, y15) (i : Int)) (2 ^ m.Inputs.length) (fun (s : List Int) k => (s, k)) (fun k => tab k fun x => C (s8f m K i x)) _ (s0 := []) rfl (fun x hx => ?_) ?_
 ·obtain ⟨q1, q2⟩ := r7m hm hK hi;obtain ⟨r, a1, _, a3⟩ := p3k hf ((pl m K).getD i zero) (x : Int);have hX : OkX m (x : Int) := by unfold OkX In; omega
  have hr : r = (nxt m ((pl m K).getD i zero) (x : Int), 0) := by
   rcases a3 with ⟨_, _, _, h⟩ | ⟨_, h, _⟩ | ⟨h, _⟩
   ·exact h
   ·exact absurd ⟨q2, hX⟩ h
   ·exact absurd hm h
  subst hr;unfold r75 r83 r82;have hs := s1y hm hf hK hC (y15 := y15) (z := z) (r9f hm hK hi hx);have hnn : ¬ C (s8f m K i x) < 0 := by have := hC (s8f m K i x); omega
  simp only [r98 hm hf hK, bS9, Int.ofNat_lt, hx, decide_true, if_true, q1, a1];rw [show (x : Int) = idn x from rfl, hs, bS9, show C ((pl m K).idxOf (nxt m ((pl m K).getD i zero) (idn x))) = C (s8f m K i x) from rfl];rw [if_neg (by simpa using hC (s8f m K i x)), b6d (by rw [b3y]; omega) vk9 vg9, bS9, show idn x = (x : Int) from rfl, b2r hx (b1o vg9), <- l5w]
 ·unfold r75;simp only [r98 hm hf hK, bS9, Int.lt_irrefl, decide_false, fT9, if_false]
end
section
variable [Bd]
theorem s0j (m : Machine) (hm0 : b9d m) : r8f m = some true := by
 have hf := l5y hm0;obtain ⟨b, hb⟩ := l7h hf;obtain ⟨e, h1, h1'⟩ := d5t hf;unfold r8f;rw [hb, bS9]
 cases b with
 | true => rfl
 | false =>
  simp only [fT9, if_false, h1, bS9];by_cases z : e = 0
  case neg =>
   rw [if_pos (by simpa using z)]; rfl
  subst z;have hm : OkM m := by rcases h1' with ⟨_, h⟩ | ⟨h, _⟩; exact h; cases h
  rw [if_neg vk9];obtain ⟨K, hK⟩ := g2u (c := []) (hd := idn) hm;obtain ⟨r, T, c1, _, rfl, c3⟩ := s0f hm hf hK;rw [s0h hm hf hK, c1, bS9, bS9];have hfew := r7p (m := m) (K := K) hm hK;have hpow := p2a hm.z;simp only [b3y, not_true_eq_false, decide_false, Bool.or_self, fT9, if_false];generalize hc0 : (fun i => shw m ((pl m K).getD i zero)) = c0 at c3 ⊢
  have hCC : s8j (2 ^ m.Inputs.length) (s8f m K) c0 (T + 2) = c30 (2 ^ m.Inputs.length) (s8f m K) (s8j (2 ^ m.Inputs.length) (s8f m K) c0 (T + 1)) := rfl;have hC : ∀ i, 0 <= s8j (2 ^ m.Inputs.length) (s8f m K) c0 (T + 2) i := fun i => by rw [hCC]; unfold c30; omega
  have hal := fun {i j : Nat} hi hj => s1z (n := (pl m K).length) (r8w hm hK) c3 (i := i) (j := j) hi hj
  have step1 : b0w (r76 m (pl m K, 0) (tab (pl m K).length (s8j (2 ^ m.Inputs.length) (s8f m K) c0 (T + 2)), 0)) (0, [], 0) = some (.inl (tab (pl m K).length fun i => tab (2 ^ m.Inputs.length) fun x => s8j (2 ^ m.Inputs.length) (s8f m K) c0 (T + 2) (s8f m K i x))) := by
   refine b4h (f := r76 m (pl m K, 0) (tab (pl m K).length (s8j (2 ^ m.Inputs.length) (s8f m K) c0 (T + 2)), 0)) (pl m K).length (fun (s : Int × List (List Int)) k => (s.1, s.2, k)) (fun k => (((s8h (s8g (2 ^ m.Inputs.length) (s8f m K) (s8j (2 ^ m.Inputs.length) (s8f m K) c0 (T + 1))) k).length : Int), tab k fun i => tab (2 ^ m.Inputs.length) fun x => s8j (2 ^ m.Inputs.length) (s8f m K) c0 (T + 2) (s8f m K i x))) _ (s0 := (0, [])) rfl (fun i hi => ?_) ?_
   ·obtain ⟨q1, q2⟩ := r7m hm hK hi;obtain ⟨b, p1, p2⟩ := o83 hm ((pl m K).getD i zero);have hb : b = true := p2.2 q2;subst hb;unfold r76 r81 r80;have hcl : s8j (2 ^ m.Inputs.length) (s8f m K) c0 (T + 2) i = (cl (s8g (2 ^ m.Inputs.length) (s8f m K) (s8j (2 ^ m.Inputs.length) (s8f m K) c0 (T + 1))) i : Int) := by rw [hCC]; rfl
    have hle : cl (s8g (2 ^ m.Inputs.length) (s8f m K) (s8j (2 ^ m.Inputs.length) (s8f m K) c0 (T + 1))) i <= (s8h (s8g (2 ^ m.Inputs.length) (s8f m K) (s8j (2 ^ m.Inputs.length) (s8f m K) c0 (T + 1))) i).length := List.findIdx_le_length;have hfl := r8u (key := s8g (2 ^ m.Inputs.length) (s8f m K) (s8j (2 ^ m.Inputs.length) (s8f m K) c0 (T + 1))) i;have hst := s0t (key := s8g (2 ^ m.Inputs.length) (s8f m K) (s8j (2 ^ m.Inputs.length) (s8f m K) c0 (T + 1))) i;simp only [Int.ofNat_lt, hi, decide_true, if_true, c2y hi, bS9];have g1 : ¬ s8j (2 ^ m.Inputs.length) (s8f m K) c0 (T + 2) i < 0 := by have := hC i; omega
    have g2 : ¬ ((s8h (s8g (2 ^ m.Inputs.length) (s8f m K) (s8j (2 ^ m.Inputs.length) (s8f m K) c0 (T + 1))) i).length : Int) < s8j (2 ^ m.Inputs.length) (s8f m K) c0 (T + 2) i := by rw [hcl]; omega
    simp only [g1, g2, decide_false, Bool.or_self, fT9, if_false, q1, p1, bS9, Bool.not_true];rw [s1o hm hf hK hC hi, bS9];simp only;rw [b6d (by rw [b3y]; omega) vk9 vg9, bS9, b2r hi (b1o vg9), <- l5w];rw [hcl, b3t vg9 vg9];congr 4;rw [hst];rw [g10];omega
   ·unfold r76;simp only [Int.lt_irrefl, decide_false, fT9, if_false]
  rw [step1, bS9];simp only;unfold r8y
  have inner : ∀ i : Nat, i < (pl m K).length -> b0w (r77 m (pl m K, 0) (tab (pl m K).length (s8j (2 ^ m.Inputs.length) (s8f m K) c0 (T + 2)), 0) (tab (pl m K).length fun i => tab (2 ^ m.Inputs.length) fun x => s8j (2 ^ m.Inputs.length) (s8f m K) c0 (T + 2) (s8f m K i x)) (i : Int)) 0 = some (.inl ()) := fun i hi => by
   refine b4h (f := r77 m (pl m K, 0) (tab (pl m K).length (s8j (2 ^ m.Inputs.length) (s8f m K) c0 (T + 2)), 0) (tab (pl m K).length fun i => tab (2 ^ m.Inputs.length) fun x => s8j (2 ^ m.Inputs.length) (s8f m K) c0 (T + 2) (s8f m K i x)) (i : Int)) i (fun (_ : Unit) k => k) (fun _ => ()) (.inl ()) (s0 := ()) rfl (fun k hk => ?_) ?_
   ·have hk' : k < (pl m K).length := by omega
    obtain ⟨a1, a2⟩ := r7m hm hK hi;obtain ⟨b1, b2⟩ := r7m hm hK hk';obtain ⟨s, s1, s2⟩ := r87 a2;obtain ⟨u, u1, u2⟩ := r87 b2;obtain ⟨w, w1, w2⟩ := s1w (l := tab (2 ^ m.Inputs.length) fun x => s8j (2 ^ m.Inputs.length) (s8f m K) c0 (T + 2) (s8f m K i x)) (r := tab (2 ^ m.Inputs.length) fun x => s8j (2 ^ m.Inputs.length) (s8f m K) c0 (T + 2) (s8f m K k x)) (b1o (by rw [b3y]; omega));have hc0i : ∀ j, c0 j = shw m ((pl m K).getD j zero) := fun j => by rw [<- hc0]
    have hrow : w = true ↔ ∀ x, x < 2 ^ m.Inputs.length -> s8j (2 ^ m.Inputs.length) (s8f m K) c0 (T + 2) (s8f m K i x) = s8j (2 ^ m.Inputs.length) (s8f m K) c0 (T + 2) (s8f m K k x) := w2.trans ⟨fun h x hx => by
     have h1 := c1l (f := fun x => s8j (2 ^ m.Inputs.length) (s8f m K) c0 (T + 2) (s8f m K i x)) hx;rw [h, c1l hx] at h1;exact (Option.some.inj h1).symm, c1m⟩
    have hall := hal hi hk';rw [hc0i, hc0i, <- s2, <- u2, <- hrow] at hall;unfold r77;simp only [Int.ofNat_lt, hk, decide_true, if_true, a1, s1, b1, u1, c2y hi, c2y hk', bS9, w1];by_cases e : s.Shows = u.Shows
    ·rw [if_pos (by simpa using e), bS9]
     have : w = decide (s8j (2 ^ m.Inputs.length) (s8f m K) c0 (T + 2) i = s8j (2 ^ m.Inputs.length) (s8f m K) c0 (T + 2) k) := by
      rw [Bool.eq_iff_iff, decide_eq_true_eq, hall]; simp [e]
     rw [<- this, d50, if_neg vk9, b2r hk (b1o vg9)]
    ·rw [if_neg (by simpa using e), bS9];have : decide (s8j (2 ^ m.Inputs.length) (s8f m K) c0 (T + 2) i = s8j (2 ^ m.Inputs.length) (s8f m K) c0 (T + 2) k) = false := decide_eq_false fun h => e (hall.1 h).1;rw [this, d50, if_neg vk9, b2r hk (b1o vg9)]
   ·unfold r77;simp only [Int.lt_irrefl, decide_false, fT9, if_false]
  have outer : b0w (r78 m (pl m K, 0) (tab (pl m K).length (s8j (2 ^ m.Inputs.length) (s8f m K) c0 (T + 2)), 0) (tab (pl m K).length fun i => tab (2 ^ m.Inputs.length) fun x => s8j (2 ^ m.Inputs.length) (s8f m K) c0 (T + 2) (s8f m K i x))) 0 = some (.inl ()) := by
   refine b4h (f := r78 m (pl m K, 0) (tab (pl m K).length (s8j (2 ^ m.Inputs.length) (s8f m K) c0 (T + 2)), 0) (tab (pl m K).length fun i => tab (2 ^ m.Inputs.length) fun x => s8j (2 ^ m.Inputs.length) (s8f m K) c0 (T + 2) (s8f m K i x))) (pl m K).length (fun (_ : Unit) k => k) (fun _ => ()) (.inl ()) (s0 := ()) rfl (fun i hi => ?_) ?_
   ·unfold r78 r8z;simp only [Int.ofNat_lt, hi, decide_true, if_true];rw [inner i hi, bS9, b2r hi (b1o vg9)]
   ·unfold r78;simp only [Int.lt_irrefl, decide_false, fT9, if_false]
  rw [outer]; rfl
end
end
end Go.Nw.KM
