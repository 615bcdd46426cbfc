/- Plain laws, turned to this seat. -/
import Derived.Test.YtinmifhfkkjccaaP3
import Derived.Test.YtinmifhfkkjccaaP2
import Derived.Test.YtinmifhfkkjccaaNwPop
import Derived.Test.YtinmifhfkkjccaaP4
set_option linter.all false
namespace Go.Nw.XM.W
open Go.Nw.Tp3
noncomputable section
end
open Go.Nw.Tp3
noncomputable section
def c47 (p : Passage) : Bool := decide (p.Kind = 3) || decide (p.Kind = 4)
structure OkP (n : Int) (p : Passage) : Prop where
 a0 : 0 <= p.A
 a1 : p.A < n
 b0 : 0 <= p.B
 b1 : p.B < n
 ne : p.A ≠ p.B
 t0 : 1 <= p.Ticks
 t1 : p.Ticks <= 20
 w0 : 1 <= p.Wide
 w1 : p.Wide <= 50
 k0 : 1 <= p.Kind
 k1 : p.Kind <= 5
 m : if c47 p then 0 <= p.Machine /\ p.Machine <= 11 else p.Machine = -1
 s : if p.Kind = 3 then 1 <= p.Still /\ p.Still <= 20 else p.Still = 0
def c23 (l : List Passage) : List Int := (l.filter c47).map (·.Machine)
structure OkSt (s : Station) : Prop where
 n0 : 1 <= s.Places
 n1 : s.Places <= 10
 len : s.Passages.length <= 24
 p : ∀ p ∈ s.Passages, OkP s.Places p
 nd : (c23 s.Passages).Nodup
 e : ∀ (k : Nat) x, s.Exits[k]? = some x -> 0 <= x /\ x < s.Places /\ ∀ y, 0 < k -> s.Exits[k - 1]? = some y -> y < x
theorem B8q {n a b : Int} : b40 n a b = decide (a <= n /\ n <= b) := by unfold b40; simp
theorem B9q {n a b : Int} : b53 n a b = decide (a <= n /\ n <= b) := by unfold b53; simp
theorem p68 {l : List Int} (hl : l.length <= 100) (n : Int) : B9g l n = some (decide (n ∈ l)) := by
 unfold B9g
 rcases c3v (f := B8w l n) l (fun _ x => x = n) (Sum.inr true : Unit ⊕ Bool) (Sum.inl ())
  (fun k x hx hb => by
   unfold B8w
   rw [if_pos (by have := b1k hx; simp; omega), b1h hx, bS9, if_pos (by simpa using hb)])
  (fun k x hx hb => by
   unfold B8w
   have hk := b1k hx
   rw [if_pos (by simp; omega), b1h hx, bS9, if_neg (by simpa using hb), b3t (by omega) (by omega)])
  (by unfold B8w; simp) with ⟨h1, h2⟩ | ⟨⟨k, x, h1, h3⟩, h2⟩
 ·rw [h2]
  have : ¬ n ∈ l := fun hm => by
   obtain ⟨k, hk, e⟩ := List.getElem_of_mem hm
   exact h1 k n (by rw [gG9 hk, e]) rfl
  rw [decide_eq_false this]; rfl
 ·rw [h2]
  have : n ∈ l := h3 ▸ mG9 h1
  rw [decide_eq_true this]; rfl
theorem B9x {l : List Passage} {p : Passage} : c23 (l ++ [p]) = if c47 p then c23 l ++ [p.Machine] else c23 l := by
 unfold c23
 rw [List.filter_append]
 cases h : c47 p <;> simp [h]
theorem C2j (l : List Passage) : (c23 l).length <= l.length := by unfold c23; rw [List.length_map]; exact List.length_filter_le _ _
theorem B8y {α : Type} {l : List α} {k : Nat} {x : α} (h : l[k]? = some x) : l.take (k + 1) = l.take k ++ [x] := by rw [List.take_succ, h]; rfl
theorem C2q {s : Station} (hex : s.Exits.length <= maxLen) : ∃ r, B9c s = some r /\ (r = 0 -> OkSt s) := by
 unfold B9c
 by_cases c : ((!(b40 s.Places 1 10)) || (decide (24 < (List.length s.Passages : Int)))) = true
 ·rw [if_pos c]; exact ⟨80, rfl, fun h => by cases h⟩
 rw [if_neg c]
 simp only [B8q, Bool.or_eq_true, Bool.not_eq_true', decide_eq_false_iff_not, decide_eq_true_eq] at c
 have n0 : 1 <= s.Places := by omega
 have n1 : s.Places <= 10 := by omega
 have hlen : s.Passages.length <= 24 := by omega
 have wN : wr (s.Places - 1) = s.Places - 1 := b3t (by omega) (by omega)
 obtain ⟨b, hb, hP⟩ := j7u (f := B9d s) s.Passages.length (fun m k => (m, k)) (fun k m => m = c23 (s.Passages.take k) /\ (c23 (s.Passages.take k)).Nodup /\ ∀ p ∈ s.Passages.take k, OkP s.Places p) (fun b => b = Sum.inr 80 \/ (b = Sum.inl () /\ (c23 s.Passages).Nodup /\ ∀ p ∈ s.Passages, OkP s.Places p)) (fun m k hk hi => by
   obtain ⟨rfl, hnd, hall⟩ := hi
   obtain ⟨p, hp⟩ := b3b hk
   have hml : (c23 (s.Passages.take k)).length <= 24 := by have := C2j (s.Passages.take k); simp at this; omega
   unfold B9d
   show (∃ s', (if decide ((k : Int) < (s.Passages.length : Int)) then _ else _) = _ /\ _) \/ ∃ b, (if decide ((k : Int) < (s.Passages.length : Int)) then _ else _) = _ /\ _
   simp only [show ((k : Int) < (s.Passages.length : Int)) by omega, decide_true, if_true, b1h hp, bS9, wN]
   by_cases c1 : (((((!(b40 p.A 0 (s.Places - 1))) || (!(b40 p.B 0 (s.Places - 1)))) || (decide (p.A = p.B))) || (!(b40 p.Ticks 1 20))) || (!(b40 p.Wide 1 50)) || (!(b40 p.Kind 1 5))) = true
   ·rw [if_pos c1]; exact .inr ⟨_, rfl, .inl rfl⟩
   rw [if_neg c1]
   simp only [B8q, Bool.or_eq_true, Bool.not_eq_true', decide_eq_false_iff_not, decide_eq_true_eq] at c1
   have ek : wr ((k : Int) + 1) = (k : Int) + 1 := b3t (by omega) (by omega)
   have fin : ∀ m' : List Int, (hm' : (if c47 p then 0 <= p.Machine /\ p.Machine <= 11 else p.Machine = -1)) -> (c23 (s.Passages.take (k + 1))).Nodup -> m' = c23 (s.Passages.take (k + 1)) ->
     (∃ s', B8f (k : Int) p m' = some (.nx (s', (k : Int) + 1)) /\ (s' = c23 (s.Passages.take (k + 1)) /\ (c23 (s.Passages.take (k + 1))).Nodup /\ ∀ p ∈ s.Passages.take (k + 1), OkP s.Places p)) \/ ∃ b, B8f (k : Int) p m' = some (.br b) /\ (b = Sum.inr 80 \/ (b = Sum.inl () /\ (c23 s.Passages).Nodup /\ ∀ p ∈ s.Passages, OkP s.Places p)) := by
    intro m' hm' hn' e
    unfold B8f B9e
    have good : (if p.Kind = 3 then 1 <= p.Still /\ p.Still <= 20 else p.Still = 0) -> ∀ q ∈ s.Passages.take (k + 1), OkP s.Places q := fun hs q hq => by
     rw [B8y hp, List.mem_append] at hq
     rcases hq with hq | hq
     ·exact hall q hq
     ·rw [List.mem_singleton.1 hq]
      exact ⟨by omega, by omega, by omega, by omega, by omega, by omega, by omega, by omega, by omega, by omega, by omega, hm', hs⟩
    by_cases k3 : p.Kind = 3
    ·simp only [k3, decide_true, if_true, B8q]
     by_cases g : 1 <= p.Still /\ p.Still <= 20
     ·simp only [g, and_self, decide_true, Bool.not_true, fT9, if_false, ek]
      exact .inl ⟨_, rfl, e, hn', good (by rw [if_pos k3]; exact g)⟩
     ·rw [decide_eq_false g]
      exact .inr ⟨_, rfl, .inl rfl⟩
    ·simp only [k3, decide_false, fT9, if_false]
     by_cases g : p.Still = 0
     ·simp only [g, not_true_eq_false, decide_false, fT9, if_false, ek]
      exact .inl ⟨_, rfl, e, hn', good (by rw [if_neg k3]; exact g)⟩
     ·simp only [g, not_false_eq_true, decide_true, if_true]
      exact .inr ⟨_, rfl, .inl rfl⟩
   have el : (decide (p.Kind = 3) || decide (p.Kind = 4)) = c47 p := rfl
   rw [el]
   cases hL : c47 p with
   | true =>
    simp only [if_true, B8q, p68 (show (c23 (s.Passages.take k)).length <= 100 by omega), bS9]
    by_cases g : 0 <= p.Machine /\ p.Machine <= 11
    ·rw [decide_eq_true g]
     simp only [Bool.not_true, fT9, if_false, bS9]
     by_cases g2 : p.Machine ∈ c23 (s.Passages.take k)
     ·rw [decide_eq_true g2]; exact .inr ⟨_, rfl, .inl rfl⟩
     ·rw [decide_eq_false g2]
      simp only [fT9, if_false]
      rw [b9k (by simp only [List.length_cons, List.length_nil]; omega), bS9]
      have em : c23 (s.Passages.take (k + 1)) = c23 (s.Passages.take k) ++ [p.Machine] := by rw [B8y hp, B9x, hL]; rfl
      refine fin _ (by rw [hL]; exact g) ?_ em.symm
      rw [em, List.nodup_append]
      exact ⟨hnd, List.nodup_cons.2 ⟨(by simp), List.nodup_nil⟩, fun x hx y hy e => by rw [List.mem_singleton.1 hy] at e; exact g2 (e ▸ hx)⟩
    ·rw [decide_eq_false g]; exact .inr ⟨_, rfl, .inl rfl⟩
   | false =>
    simp only [fT9, if_false]
    by_cases g : p.Machine = -1
    ·simp only [g, not_true_eq_false, decide_false, fT9, if_false]
     have em : c23 (s.Passages.take (k + 1)) = c23 (s.Passages.take k) := by rw [B8y hp, B9x, hL]; rfl
     exact fin _ (by rw [hL]; exact g) (by rw [em]; exact hnd) em.symm
    ·simp only [g, not_false_eq_true, decide_true, if_true]
     exact .inr ⟨_, rfl, .inl rfl⟩)
  (fun m hi => by
   obtain ⟨rfl, h1, h2⟩ := hi
   rw [List.take_of_length_le (Nat.le_refl _)] at h1 h2
   exact ⟨_, by unfold B9d; simp, .inr ⟨rfl, h1, h2⟩⟩) (s := []) 0 (Nat.zero_le _) ⟨by simp [c23], by simp [c23], fun p hp => by simp at hp⟩
 rw [show ((0 : Nat) : Int) = 0 from rfl] at hb
 rw [hb, bS9]
 rcases hP with rfl | ⟨rfl, hnd, hall⟩
 ·exact ⟨80, rfl, fun h => by cases h⟩
 show ∃ r, B9f s = some r /\ _
 unfold B9f
 have em : (10 : Nat) <= maxLen := by decide
 rcases c3v (f := B8v s) s.Exits (fun k x => ¬ (0 <= x /\ x <= s.Places - 1) \/ ∃ y, 0 < k /\ s.Exits[k - 1]? = some y /\ x <= y) (Sum.inr 80 : Unit ⊕ Int) (Sum.inl ())
  (fun k x hx hb => by
   have hk := b1k hx
   unfold B8v
   rw [if_pos (by simp; omega), b1h hx, bS9, wN, B8q]
   by_cases g : 0 <= x /\ x <= s.Places - 1
   ·obtain ⟨y, h0, h1, h2⟩ := hb.resolve_left fun h => h g
    have e1 : wr ((k : Int) - 1) = ((k - 1 : Nat) : Int) := by rw [b3t (by omega) (by simp only [maxLen] at hex; omega)]; omega
    have e2 : (0 : Int) < (k : Int) := by omega
    simp only [g, and_self, decide_true, Bool.not_true, fT9, if_false, e2, if_true, e1, b1h h1, bS9, h2]
   ·rw [decide_eq_false g]; rfl)
  (fun k x hx hb => by
   have hk := b1k hx
   have g : 0 <= x /\ x <= s.Places - 1 := Classical.byContradiction fun h => hb (.inl h)
   unfold B8v
   rw [if_pos (by simp; omega), b1h hx, bS9, wN, B8q]
   simp only [g, and_self, decide_true, Bool.not_true, fT9, if_false]
   rw [b2r hk hex]
   by_cases e2 : (0 : Int) < (k : Int)
   ·obtain ⟨y, hy⟩ := b3b (show k - 1 < s.Exits.length by omega)
    have e1 : wr ((k : Int) - 1) = ((k - 1 : Nat) : Int) := by rw [b3t (by omega) (by simp only [maxLen] at hex; omega)]; omega
    have h2 : ¬ x <= y := fun h => hb (.inr ⟨y, by omega, hy, h⟩)
    simp only [e2, decide_true, if_true, e1, b1h hy, bS9, h2, decide_false, fT9, if_false]
   ·simp only [e2, decide_false, fT9, if_false, bS9])
  (by unfold B8v; simp) with ⟨h1, h2⟩ | ⟨_, h2⟩
 ·rw [h2]
  refine ⟨0, rfl, fun _ => ⟨n0, n1, hlen, hall, hnd, fun k x hx => ?_⟩⟩
  have := h1 k x hx
  have g : 0 <= x /\ x <= s.Places - 1 := Classical.byContradiction fun h => this (.inl h)
  exact ⟨g.1, by omega, fun y h0 hy => Classical.byContradiction fun h => this (.inr ⟨y, h0, hy, by omega⟩)⟩
 ·rw [h2]; exact ⟨80, rfl, fun h => by cases h⟩
theorem o9k {l : List (Int × Int)} {k v x : Int} (h : x ∈ (b3w l k v).map (·.1)) : x ∈ l.map (·.1) \/ x = k := by
 unfold b3w at h
 split at h
 ·obtain ⟨p, hp, rfl⟩ := List.mem_map.1 h
  rcases List.mem_or_eq_of_mem_set hp with h | h
  ·exact .inl (List.mem_map.2 ⟨p, h, rfl⟩)
  ·exact .inr (by rw [h])
 ·rw [List.map_append, List.mem_append] at h
  rcases h with h | h
  ·exact .inl h
  ·exact .inr (by simpa using h)
theorem C20 {s : Station} (hs : OkSt s) (hex : s.Exits.length <= maxLen) : B9i s = some 0 := by
 have n0 := hs.n0
 have n1 := hs.n1
 have hlen := hs.len
 have wN : wr (s.Places - 1) = s.Places - 1 := b3t (by omega) (by omega)
 unfold B9i
 have c : ((!(b53 s.Places 1 10)) || (decide (24 < (List.length s.Passages : Int)))) = false := by
  rw [B9q, decide_eq_true (by omega), decide_eq_false (by omega)]; rfl
 rw [c]
 simp only [fT9, if_false]
 obtain ⟨b, hb, rfl⟩ := j7u (f := B9j s) s.Passages.length (fun m k => (m, k)) (fun k m => ∀ x ∈ m.map (·.1), x ∈ c23 (s.Passages.take k) \/ x = -1) (fun b => b = Sum.inl ()) (fun m k hk hi => by
   obtain ⟨p, hp⟩ := b3b hk
   have ok := hs.p p (mG9 hp)
   obtain ⟨a0, a1, b0, b1, ne, t0, t1, w0, w1, k0, k1, hm, hst⟩ := ok
   have hpass : B80 p s.Places = true := by
    unfold B80 B81
    simp only [B9q, wN]
    have c1 : ((((!(decide (0 <= p.A /\ p.A <= s.Places - 1))) || (!(decide (0 <= p.B /\ p.B <= s.Places - 1)))) || (decide (p.A = p.B))) || (!(decide (1 <= p.Ticks /\ p.Ticks <= 20))) || (!(decide (1 <= p.Wide /\ p.Wide <= 50)))) = false := by
     rw [decide_eq_true (by omega), decide_eq_true (by omega), decide_eq_false ne, decide_eq_true (by omega), decide_eq_true (by omega)]; rfl
    rw [c1]
    simp only [fT9, if_false]
    unfold c47 at hm
    have hk : p.Kind = 1 \/ p.Kind = 2 \/ p.Kind = 3 \/ p.Kind = 4 \/ p.Kind = 5 := by omega
    rcases hk with e | e | e | e | e <;> rw [e] at hm hst ⊢ <;> simp at hm hst ⊢ <;> (try omega)
   have keep : ∀ v, ∀ x ∈ (b3w m p.Machine v).map (·.1), x ∈ c23 (s.Passages.take (k + 1)) \/ x = -1 := by
    intro v x hx
    rw [B8y hp, B9x]
    rcases o9k hx with h | h
    ·rcases hi x h with h | h
     ·left; cases c47 p <;> simp [h]
     ·exact .inr h
    ·cases hL : c47 p with
     | true => left; simp [h]
     | false => right; rw [hL] at hm; simp at hm; omega
   refine .inl ⟨b3w m p.Machine (wr ((b2w m p.Machine 0) + 1)), ?_, keep _⟩
   unfold B9j
   show (if decide ((k : Int) < (s.Passages.length : Int)) then _ else _) = _
   rw [if_pos (by simp; omega), b1h hp, bS9, hpass]
   simp only [Bool.not_true, fT9, if_false]
   have hcond : ((decide (0 <= p.Machine)) && (decide (1 < (b2w (b3w m p.Machine (wr ((b2w m p.Machine 0) + 1))) p.Machine 0)))) = false := by
    rw [j77]
    by_cases g : 0 <= p.Machine
    ·have hL : c47 p = true := by cases h : c47 p with
      | true => rfl
      | false => rw [h] at hm; simp at hm; omega
     have hnd := hs.nd
     have hnk : p.Machine ∉ m.map (·.1) := fun h => by
      rcases hi _ h with h | h
      ·have : (c23 (s.Passages.take (k + 1))).Nodup := by
        have e : s.Passages = s.Passages.take (k + 1) ++ s.Passages.drop (k + 1) := (List.take_append_drop _ _).symm
        have e2 : c23 s.Passages = c23 (s.Passages.take (k + 1)) ++ c23 (s.Passages.drop (k + 1)) := by
         conv => lhs; rw [e]
         unfold c23; rw [List.filter_append, List.map_append]
        rw [e2] at hnd
        exact (List.nodup_append.1 hnd).1
       rw [B8y hp, B9x, hL] at this
       have := (List.nodup_append.1 this).2.2 _ h p.Machine (by simp)
       exact this rfl
      ·omega
     rw [g1o hnk, show wr (0 + 1) = 1 from rfl]; simp
    ·rw [decide_eq_false g]; rfl
   rw [hcond]
   simp only [fT9, if_false]
   rw [b3t (n := (k : Int) + 1) (by omega) (by omega)])
  (fun m _ => ⟨_, by unfold B9j; simp, rfl⟩) (s := []) 0 (Nat.zero_le _) (fun x hx => by simp at hx)
 rw [show ((0 : Nat) : Int) = 0 from rfl] at hb
 rw [hb, bS9]
 show B9l s = some 0
 unfold B9l
 obtain ⟨b, hb, rfl⟩ := j7u (f := B9k s) s.Exits.length (fun m k => (m, k)) (fun k m => (k = 0 /\ m = -1) \/ (0 < k /\ s.Exits[k - 1]? = some m)) (fun b => b = Sum.inl ()) (fun m k hk hi => by
   obtain ⟨x, hx⟩ := b3b hk
   obtain ⟨h1, h2, h3⟩ := hs.e k x hx
   have hlow : -1 <= m /\ m + 1 <= x := by
    rcases hi with ⟨rfl, rfl⟩ | ⟨h0, hy⟩
    ·omega
    ·have := h3 m h0 hy
     have := (hs.e (k - 1) m hy).1
     omega
   refine .inl ⟨x, ?_, .inr ⟨by omega, by simpa using hx⟩⟩
   unfold B9k
   show (if decide ((k : Int) < (s.Exits.length : Int)) then _ else _) = _
   rw [if_pos (by simp; omega), b1h hx, bS9, wN, b3t (n := m + 1) (by omega) (by omega), B9q, decide_eq_true (by omega)]
   simp only [Bool.not_true, fT9, if_false]
   rw [b2r hk hex])
  (fun m _ => ⟨_, by unfold B9k; simp, rfl⟩) (s := -1) 0 (Nat.zero_le _) (.inl ⟨rfl, rfl⟩)
 rw [show ((0 : Nat) : Int) = 0 from rfl] at hb
 rw [hb]; rfl
end
open Go.Nw.Tp3
noncomputable section
theorem C2i {σ β : Type} {f : σ -> Option (Out σ β)} (μ : σ -> Nat) (J : σ -> Prop) (P : β -> Prop)
  (step : ∀ s, J s -> (∃ s', f s = some (.nx s') /\ J s' /\ μ s' < μ s) \/ ∃ b, f s = some (.br b) /\ P b) : ∀ (n : Nat) (s : σ), μ s <= n -> J s -> ∃ b, b0w f s = some b /\ P b := by
 intro n
 induction n with
 | zero =>
  intro s hn hs
  rcases step s hs with ⟨s', _, _, h⟩ | ⟨b, h1, h2⟩
  ·omega
  ·exact ⟨b, b3d h1, h2⟩
 | succ n ih =>
  intro s hn hs
  rcases step s hs with ⟨s', h1, h2, h3⟩ | ⟨b, h1, h2⟩
  ·rw [w91 h1]; exact ih s' (by omega) h2
  ·exact ⟨b, b3d h1, h2⟩
theorem C0r (g : Int -> Nat) : ∀ (l : List Int) (i : Nat) (a x : Int), l[i]? = some x -> ((l.set i a).map g).sum + g x = (l.map g).sum + g a
 | [], i, a, x, h => by simp at h
 | y :: l, 0, a, x, h => by
  simp only [List.getElem?_cons_zero, iE9] at h
  subst h
  simp only [List.set_cons_zero, List.map_cons, List.sum_cons]; omega
 | y :: l, i + 1, a, x, h => by
  simp only [List.getElem?_cons_succ] at h
  have := C0r g l i a x h
  simp only [List.set_cons_succ, List.map_cons, List.sum_cons]; omega
def j36 (l : List Int) : Nat := (l.map fun x => if 0 <= x then 1 else 0).sum
def c55 (l : List Int) : Nat := (l.map fun x => if 0 <= x then x.toNat else 1000).sum
theorem C00 : ∀ l : List Int, j36 l <= l.length
 | [] => by simp [j36]
 | x :: l => by
  have := C00 l
  unfold j36 at this ⊢
  simp only [List.map_cons, List.sum_cons, List.length_cons]
  split <;> omega
structure OkT (n : Nat) (t : List Int) : Prop where
 len : t.length = n
 v : ∀ x ∈ t, -1 <= x /\ x <= 20 * (j36 t : Int)
section
variable {s : Station} (hs : OkSt s) {out : Nat} (ho : out < 4096) {help : Bool}
include hs ho
end
end
end Go.Nw.XM.W
