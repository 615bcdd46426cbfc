/- Plain laws on the models. -/
import Derived.Test.YtinmifhfkkjccaaP4
import Derived.Test.YtinmifhfkkjccaaNwBfs
import Derived.KernelRfl
set_option linter.all false
namespace Go.Nw.XM
noncomputable section
def stC (m : Machine) (c : List (List Literal)) (hd : Nat -> Int) (p : Place) (x : Nat) : Option Place := if x < 2 ^ m.Inputs.length /\ c25 m p x c = true then some (nxt m p (hd x)) else none
structure RunOf (s : S3) (l : List (Place × List Nat)) : Prop where
 p : s.1 = l.map (·.1)
 b : s.2.1.length = l.length
 i : s.2.2.length = l.length
 z : s.2.1[0]? = some (-1)
 t : ∀ (k : Nat) e, 1 <= k -> l[k]? = some e -> ∃ (b x : Nat) (d : Place × List Nat), b < k /\ s.2.1[k]? = some (b : Int) /\ s.2.2[k]? = some (x : Int) /\ l[b]? = some d /\ e.2 = d.2 ++ [x]
section
variable {m : Machine} {c : List (List Literal)} {hd : Nat -> Int}
theorem H9l {α : Type} {l : List α} {k : Nat} {x y : α} (h : l[k]? = some x) : (l ++ [y])[k]? = some x := by rw [List.getElem?_append_left (b1k h)]; exact h
theorem J0q {α : Type} {l : List α} {y : α} : (l ++ [y])[l.length]? = some y := by rw [List.getElem?_append_right (Nat.le_refl _)]; simp
theorem J38 {s : S3} {l : List (Place × List Nat)} (h : RunOf s l) {i x : Nat} {a : Place × List Nat} (ha : l[i]? = some a) : RunOf (if x < 2 ^ m.Inputs.length /\ c25 m a.1 x c = true then b5l s i x (nxt m a.1 (hd x)) else s) (look (stC m c hd) l a x) := by
 unfold look stC
 by_cases hc : x < 2 ^ m.Inputs.length /\ c25 m a.1 x c = true
 case neg => rw [if_neg hc, if_neg hc]; exact h
 rw [if_pos hc, if_pos hc]
 simp only
 unfold b5l
 have hm : (nxt m a.1 (hd x) ∈ s.1) ↔ (l.any fun e => decide (e.1 = nxt m a.1 (hd x))) = true := by
  rw [h.p, List.mem_map, List.any_eq_true]
  constructor
  ·rintro ⟨e, h1, h2⟩; exact ⟨e, h1, by simpa using h2⟩
  ·rintro ⟨e, h1, h2⟩; exact ⟨e, h1, by simpa using h2⟩
 by_cases hk : nxt m a.1 (hd x) ∈ s.1
 ·rw [if_pos hk, if_pos (hm.1 hk)]; exact h
 ·rw [if_neg hk, if_neg (fun hh => hk (hm.2 hh))]
  have el : s.2.1.length = l.length := h.b
  have ei : s.2.2.length = l.length := h.i
  refine ⟨by simp [h.p], by simp [h.b], by simp [h.i], H9l h.z, fun k e hk1 he => ?_⟩
  by_cases hlt : k < l.length
  ·rw [List.getElem?_append_left hlt] at he
   obtain ⟨b, x', d, h1, h2, h3, h4, h5⟩ := h.t k e hk1 he
   exact ⟨b, x', d, h1, H9l h2, H9l h3, H9l h4, h5⟩
  ·have hkl := b1k he
   simp only [List.length_append, List.length_cons, List.length_nil] at hkl
   have e1 : k = l.length := by omega
   subst e1
   rw [J0q] at he; cases he
   refine ⟨i, x, a, b1k ha, ?_, ?_, H9l ha, rfl⟩
   ·rw [<- el]; exact J0q
   ·rw [<- ei]; exact J0q
theorem J1q {i : Nat} {s : S3} {l : List (Place × List Nat)} (hF : Found (stC m c hd) zero i 0 l) (hR : RunOf s l) {a : Place × List Nat} (ha : l[i]? = some a) : ∀ x, x <= 2 ^ m.Inputs.length ->
  ∃ l', Found (stC m c hd) zero i x l' /\ RunOf (inn m c hd i a.1 x s) l' /\ l'[i]? = some a
 | 0, _ => ⟨l, hF, hR, ha⟩
 | x + 1, hx => by
  obtain ⟨l', h1, h2, h3⟩ := J1q hF hR ha x (by omega)
  obtain ⟨g1, g2⟩ := J3c h1 h3
  refine ⟨_, g1, ?_, c0r g2 h3⟩
  have := J38 (m := m) (c := c) (hd := hd) h2 (x := x) h3
  unfold inn
  have hlt : x < 2 ^ m.Inputs.length := by omega
  by_cases hal : c25 m a.1 x c = true
  ·rw [if_pos hal]; rw [if_pos ⟨hlt, hal⟩] at this; exact this
  ·rw [if_neg hal]; rw [if_neg fun h => hal h.2] at this; exact this
theorem J1z : ∀ k, ∃ l, Found (stC m c hd) zero k 0 l /\ RunOf (b0h m c hd k) l
 | 0 => ⟨[(zero, [])], J3e zero, ⟨rfl, rfl, rfl, rfl, fun k e hk he => by
   have := b1k he
   simp at this; omega⟩⟩
 | k + 1 => by
  obtain ⟨l, h1, h2⟩ := J1z k
  unfold b0h
  cases hp : (b0h m c hd k).1[k]? with
  | none =>
   have hl : l[k]? = none := by
    rw [h2.p, List.getElem?_map] at hp
    cases hh : l[k]? with
    | none => rfl
    | some e => rw [hh] at hp; cases hp
   refine ⟨l, ⟨h1.z0, h1.g, h1.s0, h1.n, fun j y a q hj ha hst => ?_, fun a ha => ?_⟩, h2⟩
   ·by_cases e : j = k
    ·subst e; rw [hl] at ha; cases ha
    ·exact h1.c j y a q (by omega) ha hst
   ·have := b1k ha
    rw [List.getElem?_eq_none_iff] at hl
    omega
  | some p =>
   rw [h2.p, List.getElem?_map] at hp
   cases hh : l[k]? with
   | none => rw [hh] at hp; cases hp
   | some e =>
    rw [hh] at hp
    simp only [Option.map_some, iE9] at hp
    subst hp
    obtain ⟨l', g1, g2, _⟩ := J1q h1 h2 hh (2 ^ m.Inputs.length) (Nat.le_refl _)
    exact ⟨l', J3d g1 fun p y hy => by unfold stC; rw [if_neg (by omega)], g2⟩
theorem J07 {s : S3} {l : List (Place × List Nat)} (h : RunOf s l) (hF : ∀ e, l[0]? = some e -> e.2 = []) : ∀ (d k : Nat) e, k <= d -> l[k]? = some e -> e.2.length <= k
 | 0, k, e, hk, he => by
  have : k = 0 := by omega
  subst this
  rw [hF e he]; exact Nat.le_refl _
 | d + 1, k, e, hk, he => by
  by_cases hz : k = 0
  ·subst hz; rw [hF e he]; exact Nat.le_refl _
  obtain ⟨b, x, d', h1, _, _, h4, h5⟩ := h.t k e (by omega) he
  have := J07 h hF d b d' (by omega) h4
  rw [h5]; simp; omega
theorem J4k {s : S3} {l : List (Place × List Nat)} (h : RunOf s l) (hF : ∀ e, l[0]? = some e -> e.2 = []) (hl : l.length <= 768) {w : control_walk} (hw : w.from_ = s.2.1 /\ w.by_ = s.2.2) {k : Nat} {e : Place × List Nat} (he : l[k]? = some e) : b71 w k = some (c52 e.2) := by
 have key : ∀ (d k : Nat) e, k <= d -> l[k]? = some e -> ∀ r : List Int, r.length + k <= 768 -> b0w (b72 w) ((k : Int), r) = some (r ++ (c52 e.2).reverse) := by
  intro d
  induction d with
  | zero =>
   intro k e hk he r hr
   have : k = 0 := by omega
   subst this
   rw [hF e he]
   refine b3d ?_
   unfold b72
   simp only [hw.1]
   have := b1h h.z
   simp only [Int.natCast_zero] at this ⊢
   rw [this]; simp [c52]
  | succ d ih =>
   intro k e hk he r hr
   by_cases hz : k = 0
   ·exact ih k e (by omega) he r hr
   obtain ⟨b, x, d', h1, h2, h3, h4, h5⟩ := h.t k e (by omega) he
   have : b0w (b72 w) ((k : Int), r) = b0w (b72 w) ((b : Int), r ++ [(x : Int)]) := w91 (by
    unfold b72
    simp only [hw.1, hw.2, b1h h2, b1h h3, bS9, Int.natCast_nonneg, decide_true, if_true]
    rw [b6d (by omega) (by simp) (by omega), bS9])
   rw [this, ih b d' (by omega) h4 _ (by simp; omega), h5, g0n, g0p]
   simp
 have hlen := J07 h hF k k e (Nat.le_refl _) he
 have hk := b1k he
 unfold b71 c57
 rw [key k k e (Nat.le_refl _) he [] (by simp; omega), bS9, List.nil_append, g5t (by rw [List.length_reverse, g0o]; exact b1o (by omega)), bS9, List.reverse_reverse]
theorem J2l (hm : OkM m) {ins ins' : Bool} (hc : b2s m ins c) {never : List (List Literal)} (hn : b2s m ins' never) {heard : Int -> Option Int} (hh : ∀ x : Nat, x < 2 ^ m.Inputs.length -> heard x = some (hd x)) :
  ∃ r, c1t ⟨⟨m⟩⟩ c never heard = some r /\
   ((r = ([], false) /\ ∀ q l, gos (stC m c hd) zero l = some q -> b46 m q 0 never = false) \/
    ∃ q l, r = (c52 l, true) /\ l.length <= 768 /\ H85 (stC m c hd) zero q l /\ b46 m q 0 never = true) := by
 obtain ⟨K, hK⟩ := g2u (c := c) (hd := hd) hm
 obtain ⟨L, hF, hR⟩ := J1z (m := m) (c := c) (hd := hd) K
 have hg := s3t (c := c) (hd := hd) hm K
 have hl := c0q hm hg.n hg.o
 have eL : (b0h m c hd K).1.length = L.length := by rw [hR.p, List.length_map]
 have hend : L.length <= K := by rw [<- eL]; exact hK.2.2
 have hz : ∀ e, L[0]? = some e -> e.2 = [] := fun e he => by rw [hF.z0] at he; cases he; rfl
 have hat : ∀ {k : Nat} {e}, L[k]? = some e -> (b0h m c hd K).1[k]? = some e.1 := fun {k e} he => by rw [hR.p, List.getElem?_map, he]; rfl
 have hwant : ∀ k : Nat, k < L.length -> b9g (k : Int) ⟨⟨m⟩⟩ never (b4a m c hd K) = some (b46 m (L.getD k (zero, [])).1 0 never) := fun k hk => by
  obtain ⟨e, he⟩ := b3b hk
  have ho := hg.o e.1 (b1d.2 ⟨k, hat he⟩)
  unfold b9g b4a
  simp only [b1h (hat he), bS9, c5w hm.z ho.s hn, List.getD_eq_getElem?_getD, he, Option.getD_some]
 have e1 := c7s (f := b9f (b4a m c hd K) fun z5 => b9g z5 ⟨⟨m⟩⟩ never (b4a m c hd K)) (n := L.length) (p := fun k => b46 m (L.getD k (zero, [])).1 0 never) (e := fun k => .inr (c52 (L.getD k (zero, [])).2, true)) (u := .inl ()) (fun t h hp => by
   obtain ⟨e, he⟩ := b3b h
   have hr := J4k hR hz (by omega) (w := b4a m c hd K) ⟨rfl, rfl⟩ he
   have hp' : b46 m e.1 0 never = true := by simpa only [List.getD_eq_getElem?_getD, he, Option.getD_some] using hp
   unfold b9f
   have h' : (t : Int) < ((b4a m c hd K).places.length : Int) := by show (t : Int) < ((b0h m c hd K).1.length : Int); omega
   simp only [h', decide_true, if_true, hwant t h, bS9, hp', hr, List.getD_eq_getElem?_getD, he, Option.getD_some]) (fun t h hp => by
   unfold b9f
   have h' : (t : Int) < ((b4a m c hd K).places.length : Int) := by show (t : Int) < ((b0h m c hd K).1.length : Int); omega
   simp only [h', decide_true, if_true, hwant t h, bS9, hp, fT9, if_false, b2r h (b1o (by omega))]) (by
   unfold b9f
   have h' : ¬ ((L.length : Nat) : Int) < ((b4a m c hd K).places.length : Int) := by show ¬ ((L.length : Nat) : Int) < ((b0h m c hd K).1.length : Int); omega
   simp only [h', decide_false, fT9, if_false])
 have hfirst : ∃ r, b9e (b4a m c hd K) (fun z5 => b9g z5 ⟨⟨m⟩⟩ never (b4a m c hd K)) = some r /\ ((r = ([], false) /\ ∀ k, k < L.length -> b46 m (L.getD k (zero, [])).1 0 never = false) \/ ∃ (k : Nat) (e : Place × List Nat), L[k]? = some e /\ r = (c52 e.2, true) /\ b46 m e.1 0 never = true) := by
  unfold b9e c56
  rw [e1, bS9]
  cases hf : b5q L.length (fun k => b46 m (L.getD k (zero, [])).1 0 never) with
  | none => exact ⟨_, rfl, .inl ⟨rfl, d72.1 hf⟩⟩
  | some k =>
   obtain ⟨h1, h2, h3⟩ := j00 hf
   obtain ⟨e, he⟩ := b3b h1
   refine ⟨_, rfl, .inr ⟨k, e, he, ?_, ?_⟩⟩
   ·simp only [List.getD_eq_getElem?_getD, he, Option.getD_some]
   ·simpa only [List.getD_eq_getElem?_getD, he, Option.getD_some] using h2
 obtain ⟨r, h1, h2⟩ := hfirst
 refine ⟨r, ?_, ?_⟩
 ·unfold c1t
  rw [d7u hm hc hh hK, bS9, h1]; rfl
 ·rcases h2 with ⟨rfl, h3⟩ | ⟨k, e, he, rfl, h3⟩
  ·refine .inl ⟨rfl, fun q l hq => ?_⟩
   obtain ⟨b, hb, rfl, _⟩ := J1j hF hend l q hq
   obtain ⟨k, hk⟩ := b1d.1 hb
   have := h3 k (b1k hk)
   simpa only [List.getD_eq_getElem?_getD, hk, Option.getD_some] using this
  ·have hlen := J07 hR hz k k e (Nat.le_refl _) he
   have hk := b1k he
   exact .inr ⟨e.1, e.2, rfl, by omega, J3b hF hend (b1d.2 ⟨k, he⟩), h3⟩
theorem J2g (hm : OkM m) (hf : ∀ n ∈ b3g m, n.size <= maxLen) {never : List (List Literal)} (hn : b2s m true never) :
  ∃ r, c2e m [] never = some r /\ r.2.2 = 0 /\
   ((r.1 = [] /\ r.2.1 = false /\ ∀ q l, gos (stC m [] fun x => x) zero l = some q -> b46 m q 0 never = false) \/
    ∃ q l, r.1 = c52 l /\ r.2.1 = true /\ l.length <= 768 /\ H85 (stC m [] fun x => x) zero q l /\ b46 m q 0 never = true) := by
 have h0 : b2s m true [] := ⟨by simp, fun t ht => by simp at ht⟩
 have hchk : b9x m [[], never] = some 0 := by
  unfold b9x c2f
  obtain ⟨e, h1, h2⟩ := g5l hf
  rcases h2 with ⟨rfl, _⟩ | ⟨_, h2⟩
  case inr => exact absurd hm h2
  rw [h1, bS9, bS9, if_neg (by simp)]
  rcases b4j (f := c2i m [[], never]) (l := [[], never]) (p := fun _ t => ¬ b2s m true t) (e := .inr 42) (u := .inl ()) (b1o (by simp)) (fun k x hx => by
    obtain ⟨b, h3, h4⟩ := d5p hm.z x
    refine ⟨!b, ?_, ?_⟩
    ·unfold c2i
     simp only [b1h hx, bS9, Int.ofNat_lt, b1k hx, decide_true, if_true, h3]
    ·rw [<- h4]; simp) (by unfold c2i; simp only [Int.lt_irrefl, decide_false, fT9, if_false]) with ⟨_, h2⟩ | ⟨⟨k, x, h3, h4⟩, _⟩
  ·rw [h2]; rfl
  ·exfalso
   match k, h3 with
   | 0, h3 => cases h3; exact h4 h0
   | 1, h3 => cases h3; exact h4 hn
   | k + 2, h3 => simp at h3
 obtain ⟨r, h1, h2⟩ := J2l (hd := fun x => x) hm h0 hn (heard := fun z7 => some (b6f z7)) (fun x _ => rfl)
 refine ⟨(r.1, r.2, 0), ?_, rfl, ?_⟩
 ·unfold c2e
  rw [hchk, bS9, if_neg (by simp), show b3h m = ⟨⟨m⟩⟩ from rfl, h1]; rfl
 ·rcases h2 with ⟨rfl, h3⟩ | ⟨q, l, rfl, h3⟩
  ·exact .inl ⟨rfl, rfl, h3⟩
  ·exact .inr ⟨q, l, rfl, rfl, h3⟩
end
end
end Go.Nw.XM
namespace Go.Nw.XM
open Go.Nw.Tp3
noncomputable section
def OkX (m : Machine) (x : Int) : Prop := In x (2 ^ m.Inputs.length)
theorem o82 {m : Machine} (hs : SizesOk m) : c1y ⟨m⟩ = some (((2 ^ m.Inputs.length : Nat) : Int)) := by
 unfold c1y
 have := hs.i
 simp only
 rw [c83 (by omega)]; simp
theorem p3i {m : Machine} (hm : OkM m) (x : Int) : ∃ b, p2c ⟨m⟩ x = some b /\ (b = true ↔ OkX m x) := by
 unfold p2c
 have := p2a hm.z
 rw [o82 hm.z, bS9, c1n (b1o (by omega))]
 refine ⟨_, rfl, ?_⟩
 rw [b6t]
 unfold OkX In
 omega
def b87 (m : Machine) (l : List Int) : Nat -> Place
 | 0 => zero
 | k + 1 => nxt m (b87 m l k) (l.getD k 0)
theorem r2j {m : Machine} (hm : OkM m) (l : List Int) : ∀ k, OkP m (b87 m l k)
 | 0 => o5b hm
 | k + 1 => s1f hm (r2j hm l k) _
theorem o8p {α : Type} {l : List α} {k : Nat} {x z : α} (h : l[k]? = some x) : l.getD k z = x := by
 rw [List.getD_eq_getElem?_getD, h]; rfl
theorem K0s {m : Machine} (hm : OkM m) (hf : ∀ n ∈ b3g m, n.size <= maxLen) {l : List Int} (hl : l.length <= 200) (hx : ∀ x ∈ l, OkX m x) : r1c m l = some (tab l.length fun k => b87 m l (k + 1), 0) := by
 unfold r1c c2f
 obtain ⟨e, h1, h2⟩ := g5l hf
 rcases h2 with ⟨rfl, _⟩ | ⟨_, h2⟩
 case inr => exact absurd hm h2
 rw [h1, bS9, bS9, if_neg (by simp), if_neg (by simp; omega)]
 have := b4h (f := l40 m l) l.length (fun (s : Place × List Place) k => (s.1.State, s.1.Values.1, s.1.Values.2, s.2, k)) (fun k => (b87 m l k, tab k fun i => b87 m l (i + 1))) (.inl (tab l.length fun k => b87 m l (k + 1))) (s0 := (zero, [])) rfl (fun k hk => by
   obtain ⟨x, h3⟩ := b3b hk
   obtain ⟨b, a1, a2⟩ := p3i hm x
   have : b = true := a2.2 (hx x (mG9 h3))
   subst this
   unfold l40
   simp only [Int.ofNat_lt, hk, decide_true, if_true, b1h h3, bS9, show b3h m = ⟨⟨m⟩⟩ from rfl, a1, Bool.not_true, fT9, if_false, c74]
   rw [g5u hm (r2j hm l k), bS9, b6d (by rw [b3y]; omega) (by simp) (by omega), bS9, b2r hk (b1o (by omega)), l5w, show b87 m l (k + 1) = nxt m (b87 m l k) x from by conv => lhs; unfold b87; rw [o8p h3]]) (by
   unfold l40
   simp only [Int.lt_irrefl, decide_false, fT9, if_false])
 have h0 : b0w (l40 m l) (0, 0, 0, [], 0) = some (.inl (tab l.length fun k => b87 m l (k + 1))) := this
 rw [h0]; rfl
def okB (s : ByteArray) : Bool := decide (s.size <= 8) && ((wl_0.all fun w => !decide (w.data.toList = s.data.toList)) && ((b3q s).all (fun b => decide (97 <= b) && decide (b <= 122)) && decide (0 < s.size)))
theorem J1x {s : ByteArray} (h : okB s = true) : c3w s := by
 unfold okB at h
 simp only [Bool.and_eq_true, decide_eq_true_eq, List.all_eq_true] at h
 refine ⟨h.1, fun hm => ?_, fun b hb => h.2.2.1 b hb, h.2.2.2⟩
 have := h.2.1 s hm
 simp at this
section
variable {K : Nat}
abbrev W (K : Nat) : Machine := J18 (K : Int)
def five : List ByteArray := [ByteArray.mk #[109, 111, 118, 101, 115], ByteArray.mk #[97, 108, 97, 114, 109], ByteArray.mk #[110], ByteArray.mk #[119, 97, 116, 99, 104], ByteArray.mk #[108, 97, 116, 101]]
theorem K0b : five.all okB = true := by kernel_rfl
theorem K1k : decide (five.map fun s => s.data.toList).Nodup = true := by kernel_rfl
theorem K1l : five.Nodup := by
 have := of_decide_eq_true K1k
 unfold List.Nodup at this ⊢
 rw [List.pairwise_map] at this
 exact this.imp fun h e => h (by rw [e])
theorem K0h : b3g (W K) = five := rfl
theorem J4a : ¬ c5c (b3g (W K)) := by
 rw [K0h]
 rintro ⟨k, x, hx, hb | hb⟩
 ·exact hb (J1x (List.all_eq_true.1 K0b x (mG9 hx)))
 ·obtain ⟨j, hj⟩ := b1d.1 hb
  rw [List.getElem?_take] at hj
  split at hj
  ·rename_i hlt
   have h1 := b1k hx; have h2 := b1k hj
   have := List.pairwise_iff_getElem.1 K1l j k h2 h1 hlt
   rw [gG9 h1] at hx
   rw [gG9 h2] at hj
   exact this ((Option.some.inj hj).trans (Option.some.inj hx).symm)
  ·cases hj
theorem J4b : ∀ n ∈ b3g (W K), n.size <= maxLen := fun n hn => by
 rw [K0h] at hn
 have := (J1x (List.all_eq_true.1 K0b n hn)).1
 simp only [maxLen]; omega
theorem K0j (h1 : 1 <= K) (h7 : K <= 7) : OkM (W K) := by
 have hi : (W K).Inputs.length = 1 := rfl
 have hc : (W K).Counters = [Counter.mk (ByteArray.mk #[110]) 7] := rfl
 have l1 : ∀ n, b5a (W K) false (Literal.mk 1 0 0 n) := fun n => .inl ⟨rfl, by rw [hi]; unfold In; simp, rfl⟩
 have l2 : b5a (W K) false (Literal.mk 2 0 K false) := .inr (.inl ⟨rfl, 0, Counter.mk (ByteArray.mk #[110]) 7, rfl, by rw [hc]; rfl, by show (0 : Int) <= (K : Int); omega, by show (K : Int) <= 7; omega⟩)
 refine ⟨⟨by rw [hi]; omega, by show 1 <= 6; omega, by show 1 <= 2; omega, by show 1 <= 2 /\ 2 <= 12; omega, by show 3 <= 40; omega⟩, J4a, fun c hcm => ?_, fun x hx => ?_, fun r hr => ?_⟩
 ·rw [hc] at hcm
  simp only [List.mem_singleton] at hcm
  subst hcm
  show (1 : Int) <= 7 /\ (7 : Int) <= 7
  omega
 ·have hx : x ∈ [State.mk (ByteArray.mk #[119, 97, 116, 99, 104]) 0, State.mk (ByteArray.mk #[108, 97, 116, 101]) 1] := hx
  simp only [List.mem_cons, List.not_mem_nil, or_false] at hx
  rcases hx with rfl | rfl
  ·show (0 : Int) <= 0 /\ (0 : Int) < 2 ^ 1
   decide
  ·show (0 : Int) <= 1 /\ (1 : Int) < 2 ^ 1
   decide
 ·have hr : r ∈ [Rule.mk 0 1 [[Literal.mk 1 0 0 false, Literal.mk 2 0 (K : Int) false]] [], Rule.mk 0 0 [[Literal.mk 1 0 0 false]] [Set.mk 2 0], Rule.mk 0 0 [[Literal.mk 1 0 0 true]] [Set.mk 1 0]] := hr
  have one : ∀ k : Int, (k = 1 \/ k = 2) -> ∀ s ∈ [Set.mk k 0], (1 <= s.Kind /\ s.Kind <= 3) /\ In s.Counter (W K).Counters.length := fun k hk s hs => by
   simp only [List.mem_singleton] at hs
   subst hs
   exact ⟨by show (1 : Int) <= k /\ k <= 3; omega, by rw [hc]; unfold In; simp⟩
  simp only [List.mem_cons, List.not_mem_nil, or_false] at hr
  rcases hr with rfl | rfl | rfl
  ·refine ⟨by show (-1 : Int) <= 0 /\ (0 : Int) < 2; omega, by show (0 : Int) <= 1 /\ (1 : Int) < 2; omega, ⟨by simp, fun t ht => ?_⟩, by simp, fun s hs => by simp at hs⟩
   simp only [List.mem_singleton] at ht
   subst ht
   refine ⟨by simp, fun l hl => ?_⟩
   simp only [List.mem_cons, List.not_mem_nil, or_false] at hl
   rcases hl with rfl | rfl
   ·exact l1 _
   ·exact l2
  ·refine ⟨by show (-1 : Int) <= 0 /\ (0 : Int) < 2; omega, by show (0 : Int) <= 0 /\ (0 : Int) < 2; omega, ⟨by simp, fun t ht => ?_⟩, by simp, one 2 (.inr rfl)⟩
   simp only [List.mem_singleton] at ht
   subst ht
   refine ⟨by simp, fun l hl => ?_⟩
   simp only [List.mem_singleton] at hl
   subst hl
   exact l1 _
  ·refine ⟨by show (-1 : Int) <= 0 /\ (0 : Int) < 2; omega, by show (0 : Int) <= 0 /\ (0 : Int) < 2; omega, ⟨by simp, fun t ht => ?_⟩, by simp, one 1 (.inl rfl)⟩
   simp only [List.mem_singleton] at ht
   subst ht
   refine ⟨by simp, fun l hl => ?_⟩
   simp only [List.mem_singleton] at hl
   subst hl
   exact l1 _
theorem K0d {m : Machine} {p : Place} {n : Bool} : lit m p 1 (Literal.mk 1 0 0 n) = !n := by
 unfold lit b77 b6w
 simp only [decide_true, if_true]
 rw [g29 (by omega), bS9]
 have := u6r (a := 1) (y := 0) (by omega) (by omega)
 simp only [Int.natCast_one, Int.natCast_zero] at this
 rw [this]
 cases n <;> rfl
theorem J9y {m : Machine} {p : Place} {n : Bool} : lit m p 0 (Literal.mk 1 0 0 n) = n := by
 unfold lit b77 b6w
 simp only [decide_true, if_true]
 rw [g29 (by omega), bS9]
 have := u6r (a := 0) (y := 0) (by omega) (by omega)
 simp only [Int.natCast_zero] at this
 rw [this]
 cases n <;> rfl
theorem K2n {m : Machine} {s a b x k : Int} : lit m ⟨s, (a, b)⟩ x (Literal.mk 2 0 k false) = decide (k <= a) := by
 unfold lit b77 b6w
 simp only [Int.reduceEq, decide_false, fT9, if_false, decide_true, if_true]
 rw [show get [a, b] 0 = some a from rfl, bS9]
 cases decide (k <= a) <;> rfl
def r1 (K : Nat) : Rule := Rule.mk 0 1 [[Literal.mk 1 0 0 false, Literal.mk 2 0 (K : Int) false]] []
def r2 : Rule := Rule.mk 0 0 [[Literal.mk 1 0 0 false]] [Set.mk 2 0]
def r3 : Rule := Rule.mk 0 0 [[Literal.mk 1 0 0 true]] [Set.mk 1 0]
theorem J8y : (W K).Rules = [r1 K, r2, r3] := rfl
theorem K1j {v : Int × Int} {x : Int} : [r1 K, r2, r3].find? (b7e (W K) ⟨1, v⟩ x) = none := by
 have h : ∀ r : Rule, r.From = 0 -> b7e (W K) ⟨1, v⟩ x r = false := fun r hr => by unfold b7e; rw [hr]; rfl
 simp only [List.find?, h (r1 K) rfl, h r2 rfl, h r3 rfl]
theorem K2s {v : Int × Int} {x : Int} : nxt (W K) ⟨1, v⟩ x = ⟨1, v⟩ := by
 unfold nxt
 rw [J8y, K1j]
theorem m1 {a b : Int} : b7e (W K) ⟨0, (a, b)⟩ 1 (r1 K) = decide ((K : Int) <= a) := by
 unfold b7e b46 r1
 simp only [List.any_cons, List.any_nil, List.all_cons, List.all_nil, K0d, K2n, Bool.or_false, Bool.and_true, Bool.not_false, Bool.true_and, decide_true, Bool.or_true]
theorem m2 {a b : Int} : b7e (W K) ⟨0, (a, b)⟩ 1 r2 = true := by
 unfold b7e b46 r2
 simp only [List.any_cons, List.any_nil, List.all_cons, List.all_nil, K0d, Bool.or_false, Bool.and_true, Bool.not_false, decide_true, Bool.or_true]
theorem m3 {a b : Int} : b7e (W K) ⟨0, (a, b)⟩ 0 (r1 K) = false := by
 unfold b7e b46 r1
 simp only [List.any_cons, List.any_nil, List.all_cons, List.all_nil, J9y, Bool.false_and, Bool.or_false, Bool.and_false]
theorem m4 {a b : Int} : b7e (W K) ⟨0, (a, b)⟩ 0 r2 = false := by
 unfold b7e b46 r2
 simp only [List.any_cons, List.any_nil, List.all_cons, List.all_nil, J9y, Bool.false_and, Bool.or_false, Bool.and_false]
theorem m5 {a b : Int} : b7e (W K) ⟨0, (a, b)⟩ 0 r3 = true := by
 unfold b7e b46 r3
 simp only [List.any_cons, List.any_nil, List.all_cons, List.all_nil, J9y, Bool.or_false, Bool.and_true, decide_true, Bool.or_true]
theorem K2t {a b : Int} : nxt (W K) ⟨0, (a, b)⟩ 0 = ⟨0, (0, b)⟩ := by
 unfold nxt
 rw [J8y]
 simp only [List.find?, m3, m4, m5]
 rfl
theorem K0i {a b : Int} (h : (K : Int) <= a) : nxt (W K) ⟨0, (a, b)⟩ 1 = ⟨1, (a, b)⟩ := by
 unfold nxt
 rw [J8y]
 simp only [List.find?, m1, h, decide_true]
 rfl
theorem K2o : b56 (W K) 0 = 7 := rfl
theorem J9z {a b : Int} (h : a < (K : Int)) (h7 : K <= 7) : nxt (W K) ⟨0, (a, b)⟩ 1 = ⟨0, (a + 1, b)⟩ := by
 unfold nxt
 rw [J8y]
 have h' : ¬ (K : Int) <= a := by omega
 simp only [List.find?, m1, h', decide_false, m2]
 show (⟨0, s18 (W K) (a, b) ⟨2, 0⟩⟩ : Place) = _
 unfold s18 b5v
 simp only [if_true, Int.reduceEq, if_false, Int.toNat_zero, K2o, g1r]
 rw [Int.min_eq_left (by omega)]
def J51 : List (List Literal) := [[Literal.mk 4 0 0 false]]
theorem K2q {v : Int × Int} {x : Int} : b46 (W K) ⟨0, v⟩ x J51 = false := by
 unfold b46 J51 lit
 rfl
theorem K2r {v : Int × Int} {x : Int} : b46 (W K) ⟨1, v⟩ x J51 = true := by
 unfold b46 J51 lit
 rfl
def Iv (K n : Nat) (p : Place) : Prop := (∃ a : Nat, p = ⟨0, ((a : Int), 0)⟩ /\ a <= K /\ a <= n) \/ (p = ⟨1, ((K : Int), 0)⟩ /\ K + 1 <= n)
theorem K25 (h7 : K <= 7) {n : Nat} {p q : Place} {x : Nat} (h : Iv K n p) (hs : stC (W K) [] (fun x => x) p x = some q) : Iv K (n + 1) q := by
 unfold stC at hs
 split at hs
 case isFalse => cases hs
 rename_i hx
 cases hs
 have hx2 : x < 2 ^ 1 := hx.1
 rcases h with ⟨a, rfl, h1, h2⟩ | ⟨rfl, h1⟩
 ·have : x = 0 \/ x = 1 := by omega
  rcases this with rfl | rfl
  ·simp only [Int.natCast_zero]
   rw [K2t]
   exact .inl ⟨0, rfl, by omega, by omega⟩
  ·simp only [Int.natCast_one]
   by_cases hk : a < K
   ·rw [J9z (by omega) h7]
    exact .inl ⟨a + 1, by simp, by omega, by omega⟩
   ·have e : a = K := by omega
    subst e
    rw [K0i (by omega)]
    exact .inr ⟨rfl, by omega⟩
 ·simp only
  rw [K2s]
  exact .inr ⟨rfl, by omega⟩
theorem K1n (h7 : K <= 7) : ∀ {l : List Nat} {n : Nat} {p q : Place}, Iv K n p -> gos (stC (W K) [] fun x => x) p l = some q -> Iv K (n + l.length) q := by
 intro l
 induction l with
 | nil => intro n p q h hg; cases hg; exact h
 | cons x l ih =>
  intro n p q h hg
  simp only [gos] at hg
  obtain ⟨p', h1, h2⟩ := bE9.1 hg
  have := ih (K25 h7 h h1) h2
  rw [show n + (x :: l).length = n + 1 + l.length by simp; omega]
  exact this
theorem K2u (h7 : K <= 7) : ∀ (d a : Nat), a + d = K -> gos (stC (W K) [] fun x => x) ⟨0, ((a : Int), 0)⟩ (List.replicate (d + 1) 1) = some ⟨1, ((K : Int), 0)⟩ := by
 have st1 : ∀ p, stC (W K) [] (fun x => x) p 1 = some (nxt (W K) p 1) := fun p => by
  unfold stC
  rw [if_pos ⟨by show 1 < 2 ^ 1; omega, rfl⟩]; rfl
 intro d
 induction d with
 | zero =>
  intro a h
  have e : a = K := by omega
  subst e
  simp only [Nat.zero_add, List.replicate, gos, st1, bS9]
  rw [K0i (by omega)]
 | succ d ih =>
  intro a h
  rw [List.replicate_succ]
  simp only [gos, st1, bS9]
  rw [J9z (by omega) h7]
  have := ih (a + 1) (by omega)
  rw [show ((a + 1 : Nat) : Int) = (a : Int) + 1 by omega] at this
  exact this
theorem K0u (h1 : 1 <= K) (h7 : K <= 7) : ∃ r, c2e (W K) [] J51 = some r /\ r.2.2 = 0 /\ r.2.1 = true /\ r.1.length = K + 1 := by
 have hm := K0j h1 h7
 obtain ⟨r, h2, h3, h4⟩ := J2g hm J4b (never := J51) ⟨by simp [J51], fun t ht => by
  simp only [J51, List.mem_singleton] at ht
  subst ht
  refine ⟨by simp, fun l hl => ?_⟩
  simp only [List.mem_singleton] at hl
  subst hl
  exact .inr (.inr (.inr ⟨rfl, by show In 0 1; unfold In; simp, rfl⟩))⟩
 have hrun := K2u h7 K 0 (by omega)
 have hz : (⟨0, (((0 : Nat) : Int), 0)⟩ : Place) = zero := rfl
 rw [hz] at hrun
 have iv0 : Iv K 0 zero := .inl ⟨0, rfl, by omega, by omega⟩
 refine ⟨r, h2, h3, ?_⟩
 rcases h4 with ⟨_, _, hno⟩ | ⟨q, l, e1, e2, _, hl, hq⟩
 ·have := hno _ _ hrun
  rw [K2r] at this
  cases this
 ·refine ⟨e2, ?_⟩
  rw [e1, g0o]
  rcases K1n h7 iv0 hl.1 with ⟨a, rfl, _, _⟩ | ⟨rfl, hlen⟩
  ·rw [K2q] at hq; cases hq
  ·have := J09 (hl.2 _ hrun)
   rw [List.length_replicate] at this
   omega
theorem K0g (h7 : K <= 7) {l : List Int} : ∀ k : Nat, k <= K -> (∀ i, i < k -> l.getD i 0 = 1) -> b87 (W K) l k = ⟨0, ((k : Int), 0)⟩
 | 0, _, _ => rfl
 | k + 1, hk, h => by
  unfold b87
  rw [K0g h7 k (by omega) (fun i hi => h i (by omega)), h k (by omega), J9z (by omega) h7]
  simp
end
end
end Go.Nw.XM
namespace Go.Nw.XM.D
open Go.Nw.Tp3
noncomputable section
structure OkE (e : Escalator) : Prop where
 em : 1 <= e.Empty /\ e.Empty <= 100000
 pu : 0 <= e.Pull /\ e.Pull <= 100
 dr : 0 <= e.Drag /\ e.Drag <= 10000000
 mo : 0 <= e.Motor /\ e.Motor <= 10000000
 bl : e.Brakes.length <= 3
 br : ∀ b ∈ e.Brakes, (0 <= b.Force /\ b.Force <= 10000000) /\ (0 <= b.Delay /\ b.Delay <= 20)
structure OkS (e : Escalator) (s : Stop) : Prop where
 sp : 0 <= s.Speed /\ s.Speed <= 1000
 l0 : 0 <= s.Loads.Low
 lh : s.Loads.Low <= s.Loads.High
 h1 : s.Loads.High <= 100000
 f : 0 <= s.Fail /\ s.Fail < 2 ^ e.Brakes.length
theorem B9q {n a b : Int} : c48 n a b = decide (a <= n /\ n <= b) := by unfold c48; simp
theorem K0c {n : Int} {b : Int} : l74 n (b47 b) = decide (0 <= n /\ n <= b) := by unfold l74 b47; simp
theorem K2x (e : Escalator) : ∃ r, J79 e = some r /\ (r = 0 -> OkE e) := by
 unfold J79
 simp only [B9q]
 by_cases c : (((((!(decide (1 <= e.Empty /\ e.Empty <= 100000))) || (!(decide (0 <= e.Pull /\ e.Pull <= 100)))) || (!(decide (0 <= e.Drag /\ e.Drag <= 10000000)))) || (!(decide (0 <= e.Motor /\ e.Motor <= 10000000)))) || (decide (3 < (List.length e.Brakes : Int)))) = true
 ·rw [if_pos c]; exact ⟨10, rfl, fun h => by cases h⟩
 rw [if_neg c]
 simp only [Bool.or_eq_true, Bool.not_eq_true', decide_eq_false_iff_not, decide_eq_true_eq, not_or, Classical.not_not] at c
 obtain ⟨⟨⟨⟨c1, c2⟩, c3⟩, c4⟩, c5⟩ := c
 have hl : e.Brakes.length <= 3 := by omega
 rcases b4j (f := J8b e) (l := e.Brakes) (p := fun _ b => ¬ ((0 <= b.Force /\ b.Force <= 10000000) /\ (0 <= b.Delay /\ b.Delay <= 20))) (e := .inr 10) (u := .inl ()) (b1o (by omega)) (fun k x hx => by
   refine ⟨(!(c48 x.Force 0 10000000)) || (!(c48 x.Delay 0 20)), ?_, ?_⟩
   ·unfold J8b
    simp only [b1h hx, bS9, Int.ofNat_lt, b1k hx, decide_true, if_true]
   ·simp only [B9q, Bool.or_eq_true, Bool.not_eq_true', decide_eq_false_iff_not]
    constructor
    ·rintro (h | h) hh
     ·exact h hh.1
     ·exact h hh.2
    ·intro h
     by_cases h1 : 0 <= x.Force /\ x.Force <= 10000000
     ·exact .inr fun h2 => h ⟨h1, h2⟩
     ·exact .inl h1) (by unfold J8b; simp only [Int.lt_irrefl, decide_false, fT9, if_false]) with ⟨h1, h2⟩ | ⟨_, h2⟩
 ·rw [h2]
  refine ⟨0, rfl, fun _ => ⟨c1, c2, c3, c4, hl, fun b hb => ?_⟩⟩
  obtain ⟨k, hk⟩ := b1d.1 hb
  exact Classical.not_not.1 (h1 k b hk)
 ·rw [h2]; exact ⟨10, rfl, fun h => by cases h⟩
theorem K0l {n : Nat} (h : n <= 3) : shl .i64 1 (n : Int) = some (2 ^ n) := by rw [l5j (by omega) (by omega)]; simp
theorem K2w {n : Nat} (h : n <= 3) : (1 : Int) <= 2 ^ n /\ (2 : Int) ^ n <= 8 := by
 have : n = 0 \/ n = 1 \/ n = 2 \/ n = 3 := by omega
 rcases this with rfl | rfl | rfl | rfl <;> decide
theorem K2y (e : Escalator) (s : Stop) : ∃ r, J8a e s = some r /\ (r = 0 -> OkE e /\ OkS e s) := by
 unfold J8a
 obtain ⟨r, h1, h2⟩ := K2x e
 rw [h1, bS9]
 by_cases c : r = 0
 case neg => rw [if_pos (by simpa using c)]; exact ⟨10, rfl, fun h => by cases h⟩
 have he := h2 c
 rw [if_neg (by simpa using c)]
 have hl := he.bl
 have hp := K2w hl
 rw [c9p (by omega) (by omega), K0l hl]
 simp only [B9q, bS9]
 by_cases d : ((((!(decide (0 <= s.Speed /\ s.Speed <= 1000))) || (decide (s.Loads.Low < 0))) || (decide (s.Loads.High < s.Loads.Low))) || (decide (100000 < s.Loads.High))) = true
 ·rw [if_pos d, bS9, if_pos rfl]; exact ⟨11, rfl, fun h => by cases h⟩
 rw [if_neg d, bS9]
 simp only [Bool.or_eq_true, Bool.not_eq_true', decide_eq_false_iff_not, decide_eq_true_eq, not_or, Classical.not_not] at d
 obtain ⟨⟨⟨d1, d2⟩, d3⟩, d4⟩ := d
 rw [b3t (n := (2 : Int) ^ e.Brakes.length - 1) (by omega) (by omega)]
 by_cases g : 0 <= s.Fail /\ s.Fail <= (2 : Int) ^ e.Brakes.length - 1
 ·simp only [g, and_self, decide_true, Bool.not_true, fT9, if_false]
  exact ⟨0, rfl, fun _ => ⟨he, ⟨d1, by omega, by omega, by omega, by omega, by omega⟩⟩⟩
 ·simp only [g, decide_false, Bool.not_false, if_true]
  exact ⟨11, rfl, fun h => by cases h⟩
theorem K0m {e : Escalator} {s : Stop} (he : OkE e) (hs : OkS e s) : J7s e s = some 0 := by
 have hl := he.bl
 unfold J7s J8n
 simp only [K0c]
 have c : ((((((decide (e.Empty < 1)) || (decide (100000 < e.Empty))) || (!(decide (0 <= e.Pull /\ e.Pull <= 100)))) || (!(decide (0 <= e.Drag /\ e.Drag <= 10000000)))) || (!(decide (0 <= e.Motor /\ e.Motor <= 10000000)))) || (decide (3 < (List.length e.Brakes : Int)))) = false := by
  have a := he.em
  rw [decide_eq_false (by omega), decide_eq_false (by omega), decide_eq_true he.pu, decide_eq_true he.dr, decide_eq_true he.mo, decide_eq_false (by omega)]
  rfl
 rw [c]
 simp only [fT9, if_false]
 rcases b4j (f := J71 e) (l := e.Brakes) (p := fun _ b => ¬ ((0 <= b.Force /\ b.Force <= 10000000) /\ (0 <= b.Delay /\ b.Delay <= 20))) (e := .inr 10) (u := .inl ()) (b1o (by omega)) (fun k x hx => by
   refine ⟨!(J7p x), ?_, ?_⟩
   ·unfold J71
    simp only [b1h hx, bS9, Int.ofNat_lt, b1k hx, decide_true, if_true]
   ·unfold J7p
    simp only [K0c, Bool.not_eq_true', Bool.and_eq_false_iff, decide_eq_false_iff_not]
    constructor
    ·rintro (h | h) hh
     ·exact h hh.1
     ·exact h hh.2
    ·intro h
     by_cases h1 : 0 <= x.Force /\ x.Force <= 10000000
     ·exact .inr fun h2 => h ⟨h1, h2⟩
     ·exact .inl h1) (by unfold J71; simp only [Int.lt_irrefl, decide_false, fT9, if_false]) with ⟨_, h2⟩ | ⟨⟨k, x, h3, h4⟩, _⟩
 case inr => exact absurd (he.br x (mG9 h3)) h4
 rw [h2]
 simp only [bS9, J8o, not_true_eq_false, decide_false, fT9, if_false]
 have d : (((((!(decide (0 <= s.Speed /\ s.Speed <= 1000))) || (decide (s.Loads.Low < 0))) || (decide (s.Loads.High < s.Loads.Low))) || (decide (100000 < s.Loads.High))) || (decide (s.Fail < 0))) = false := by
  have := hs.l0; have := hs.lh; have := hs.h1; have := hs.f
  rw [decide_eq_true hs.sp, decide_eq_false (by omega), decide_eq_false (by omega), decide_eq_false (by omega), decide_eq_false (by omega)]
  rfl
 rw [d]
 simp only [fT9, if_false]
 rw [K0l hl, bS9, bS9, if_neg (by have := hs.f; simp; omega)]
theorem K1m {a b : Int} (hb : 0 < b) (h1 : -(2 ^ 40) <= a) (h2 : a <= 2 ^ 40) : J74 a b = some (a / b) := by
 unfold J74
 rw [D1n (by omega), K2z (by omega), bS9, bS9]
 have e1 := Int.mul_tdiv_add_tmod a b
 have e2 := Int.tmod_lt_of_pos a hb
 have e3 := Int.lt_tmod_of_pos a hb
 have lo : -(2 ^ 40) <= a / b := (Int.le_ediv_iff_mul_le hb).2 (by
  have : (-(2 ^ 40) : Int) * b <= -(2 ^ 40) * 1 := Int.mul_le_mul_of_nonpos_left (by omega) (by omega)
  omega)
 have hi : a / b <= 2 ^ 40 := by
  have : a / b < 2 ^ 40 + 1 := (Int.ediv_lt_iff_lt_mul hb).2 (by
   have : (2 ^ 40 + 1 : Int) * 1 <= (2 ^ 40 + 1) * b := Int.mul_le_mul_of_nonneg_left (by omega) (by omega)
   omega)
  omega
 have sq : ∀ q : Int, q * b <= a -> a < (q + 1) * b -> a / b = q := fun q g1 g2 => by
  have := (Int.le_ediv_iff_mul_le hb).2 g1
  have := (Int.ediv_lt_iff_lt_mul hb).2 g2
  omega
 generalize hq : a.tdiv b = q at *
 generalize hr : a.tmod b = r at *
 have e4 : b * q = q * b := Int.mul_comm _ _
 by_cases c : r < 0
 ·rw [if_pos (by simpa using c)]
  have e5 : (q - 1) * b = q * b - b := by rw [Int.sub_mul, Int.one_mul]
  have e6 : (q - 1 + 1) * b = q * b := by rw [show q - 1 + 1 = q by omega]
  have := sq (q - 1) (by omega) (by omega)
  have hw : IntKind.wrap .i64 q = q := b3t (by omega) (by omega)
  rw [hw, b3t (by omega) (by omega), this]; rfl
 ·rw [if_neg (by simpa using c)]
  have e6 : (q + 1) * b = q * b + b := by rw [Int.add_mul, Int.one_mul]
  have := sq q (by omega) (by omega)
  have hw : IntKind.wrap .i64 q = q := b3t (by omega) (by omega)
  rw [hw, this]; rfl
def pl (e : Escalator) (load : Int) : Int := (if e.Up then -e.Pull else e.Pull) * load
def T (e : Escalator) (v load br : Int) : Int :=
 if v < 0 \/ (v = 0 /\ pl e load < 0) then -(max 0 (-v + (-(pl e load) - (e.Drag + br)) / (e.Empty + load))) else max 0 (v + (pl e load - (e.Drag + br)) / (e.Empty + load))
theorem K0k {e : Escalator} (he : OkE e) {load : Int} (h0 : 0 <= load) (h1 : load <= 100000) : -10000000 <= pl e load /\ pl e load <= 10000000 := by
 have p0 := he.pu.1; have p1 := he.pu.2
 have a := Int.mul_nonneg p0 h0
 have b : e.Pull * load <= 100 * 100000 := Int.mul_le_mul p1 h1 h0 (by omega)
 unfold pl
 cases e.Up
 ·simp only [fT9, if_false]; omega
 ·simp only [if_true, Int.neg_mul]; omega
theorem J8w {a m : Int} (hm : 1 <= m) (h1 : -50000000 <= a) (h2 : a <= 50000000) : -50000000 <= a / m /\ a / m <= 50000000 := by
 have hb : 0 < m := by omega
 refine ⟨(Int.le_ediv_iff_mul_le hb).2 ?_, ?_⟩
 ·have : (-50000000 : Int) * m <= -50000000 * 1 := Int.mul_le_mul_of_nonpos_left (by omega) (by omega)
  omega
 ·have : a / m < 50000000 + 1 := (Int.ediv_lt_iff_lt_mul hb).2 (by
   have : (50000000 + 1 : Int) * 1 <= (50000000 + 1) * m := Int.mul_le_mul_of_nonneg_left (by omega) (by omega)
   omega)
  omega
theorem J97 {v g f m : Int} (hv : -(2 ^ 40) <= v /\ v <= 2 ^ 40) (hg : -10000000 <= g /\ g <= 10000000) (hf : 0 <= f /\ f <= 40000000) (hm : 1 <= m) : J7r v g f m = some (max 0 (v + (g - f) / m)) := by
 unfold J7r
 have hq := J8w (a := g - f) hm (by omega) (by omega)
 rw [b3t (n := g - f) (by omega) (by omega), K1m (by omega) (by omega) (by omega), bS9, b3t (n := v + (g - f) / m) (by omega) (by omega), g10]
theorem K28 {e : Escalator} (he : OkE e) {v load br : Int} (hv : -(2 ^ 40) <= v /\ v <= 2 ^ 40) (h0 : 0 <= load) (h1 : load <= 100000) (hb : 0 <= br /\ br <= 30000000) : J75 e v load br = some (T e v load br) := by
 have hp := K0k he h0 h1
 have p0 := he.pu.1; have p1 := he.pu.2
 have a := Int.mul_nonneg p0 h0
 have b : e.Pull * load <= 100 * 100000 := Int.mul_le_mul p1 h1 h0 (by omega)
 have hd := he.dr; have hm := he.em
 have key : J7u e v load br (pl e load) = some (T e v load br) := by
  unfold J7u T
  rw [b3t (n := e.Drag + br) (by omega) (by omega), b3t (n := e.Empty + load) (by omega) (by omega), b3t (n := 0 - v) (by omega) (by omega), b3t (n := 0 - pl e load) (by omega) (by omega), show 0 - v = -v by omega, show 0 - pl e load = -(pl e load) by omega]
  by_cases c : v < 0 \/ (v = 0 /\ pl e load < 0)
  ·rw [if_pos c, if_pos (by simpa using c), J97 (by omega) (by omega) (by omega) (by omega), bS9]
   have hq := J8w (a := -(pl e load) - (e.Drag + br)) (m := e.Empty + load) (by omega) (by omega) (by omega)
   rw [b3t (by omega) (by omega)]; congr 1; omega
  ·rw [if_neg c, if_neg (by simpa using c), J97 (by omega) (by omega) (by omega) (by omega), bS9]
 unfold J75
 have hw : wr (e.Pull * load) = e.Pull * load := b3t (by omega) (by omega)
 rw [hw]
 unfold pl at key
 cases hu : e.Up
 ·rw [hu] at key
  simp only [fT9, if_false] at key ⊢
  exact key
 ·rw [hu] at key
  simp only [if_true] at key ⊢
  rw [b3t (n := 0 - e.Pull * load) (by omega) (by omega), show 0 - e.Pull * load = -e.Pull * load by rw [Int.neg_mul]; omega]
  exact key
theorem E7p {e : Escalator} (he : OkE e) {v load br : Int} (h0 : 0 <= load) (h1 : load <= 100000) (hb : 0 <= br /\ br <= 30000000) {B : Int} (hB : 0 <= B) (hv : -B <= v /\ v <= B) : -(B + 50000000) <= T e v load br /\ T e v load br <= B + 50000000 := by
 have hp := K0k he h0 h1
 have hd := he.dr; have hm := he.em
 unfold T
 split
 ·have hq := J8w (a := -(pl e load) - (e.Drag + br)) (m := e.Empty + load) (by omega) (by omega) (by omega)
  omega
 ·have hq := J8w (a := pl e load - (e.Drag + br)) (m := e.Empty + load) (by omega) (by omega) (by omega)
  omega
theorem J8k {e : Escalator} {v load br : Int} (hv : 1 <= v) : T e v load br = max 0 (v + (pl e load - (e.Drag + br)) / (e.Empty + load)) := by
 unfold T
 rw [if_neg (by omega)]
theorem K0t {e : Escalator} (he : OkE e) {lo hi load br v v' : Int} (h0 : 0 <= lo) (h1 : lo <= load) (h2 : load <= hi) (hv : 1 <= v) (hvv : v <= v') : T e v load br <= T e v' lo br \/ T e v load br <= T e v' hi br := by
 rw [J8k hv, J8k (by omega), J8k (by omega)]
 have hm := he.em
 generalize hc : (if e.Up then -e.Pull else e.Pull) = c
 have hpl : ∀ l, pl e l = c * l := fun l => by unfold pl; rw [hc]
 rw [hpl, hpl, hpl]
 generalize hf : e.Drag + br = f
 generalize hq : (c * load - f) / (e.Empty + load) = q
 have hq1 : q * (e.Empty + load) <= c * load - f := (Int.le_ediv_iff_mul_le (by omega)).1 (by omega)
 rw [Int.mul_add] at hq1
 by_cases s : q <= c
 ·right
  have g : (c - q) * load <= (c - q) * hi := Int.mul_le_mul_of_nonneg_left h2 (by omega)
  rw [Int.sub_mul, Int.sub_mul] at g
  have : q <= (c * hi - f) / (e.Empty + hi) := (Int.le_ediv_iff_mul_le (by omega)).2 (by rw [Int.mul_add]; omega)
  omega
 ·left
  have g : (q - c) * lo <= (q - c) * load := Int.mul_le_mul_of_nonneg_left h1 (by omega)
  rw [Int.sub_mul, Int.sub_mul] at g
  have : q <= (c * lo - f) / (e.Empty + lo) := (Int.le_ediv_iff_mul_le (by omega)).2 (by rw [Int.mul_add]; omega)
  omega
def gr (e : Escalator) (s : Stop) (k : Int) : Int := (J40 ⟨e, s, 0, k⟩).getD 0
theorem J9j {e : Escalator} {s : Stop} (he : OkE e) (v k : Int) : J40 ⟨e, s, v, k⟩ = some (gr e s k) /\ 0 <= gr e s k /\ gr e s k <= 30000000 := by
 have hl := he.bl
 have h0 : J40 ⟨e, s, v, k⟩ = J40 ⟨e, s, 0, k⟩ := rfl
 have key : ∃ b, J40 ⟨e, s, 0, k⟩ = some b /\ 0 <= b /\ b <= 30000000 := by
  obtain ⟨b, h1, h2⟩ := j7u (f := J7n ⟨e, s, 0, k⟩) e.Brakes.length (fun (f : Int) x => (f, x)) (fun k f => 0 <= f /\ f <= k * 10000000) (fun b => 0 <= b /\ b <= 30000000) (fun f k hk hf => by
    obtain ⟨x, hx⟩ := b3b hk
    have hb := (he.br x (mG9 hx)).1
    left
    unfold J7n J70
    simp only [b1h hx, bS9, Int.ofNat_lt, hk, decide_true, if_true, g29 (Int.natCast_nonneg k), b2r hk (b1o (by omega))]
    split
    ·exact ⟨_, rfl, by rw [b3t (by omega) (by omega)]; omega, by rw [b3t (by omega) (by omega)]; omega⟩
    ·exact ⟨_, rfl, by omega, by omega⟩) (fun f hf => by
    unfold J7n
    simp only [Int.lt_irrefl, decide_false, fT9, if_false]
    exact ⟨_, rfl, by omega, by omega⟩) (s := 0) 0 (Nat.zero_le _) ⟨by omega, by omega⟩
  exact ⟨b, by unfold J40 J8l; rw [show b0w (J7n ⟨e, s, 0, k⟩) (0, 0) = some b from h1]; rfl, h2⟩
 obtain ⟨b, h1, h2⟩ := key
 have hg : gr e s k = b := by unfold gr; rw [h1]; rfl
 rw [h0, hg]
 exact ⟨h1, h2⟩
theorem x3z {e : Escalator} {s : Stop} (he : OkE e) {v load : Int} {k : Nat} (hv : -(2 ^ 40) <= v /\ v <= 2 ^ 40) (h0 : 0 <= load) (h1 : load <= 100000) (hk : k <= 1000) : J7j ⟨e, s, v, (k : Int)⟩ load = some (T e v load (gr e s k), ⟨e, s, T e v load (gr e s k), (k : Int) + 1⟩) := by
 obtain ⟨g1, g2⟩ := J9j (s := s) he v (k : Int)
 unfold J7j
 rw [g1, bS9]
 simp only
 rw [K28 he hv h0 h1 g2, bS9, b3t (by omega) (by omega)]
end
end Go.Nw.XM.D
namespace Go.Nw.XM.D
open Go.Nw.Tp3
noncomputable section
variable {e : Escalator} {s : Stop} (he : OkE e) (hs : OkS e s)
include he hs
theorem K1i {v : Int} {k : Nat} (hv : -(2 ^ 40) <= v /\ v <= 2 ^ 40) (hk : k <= 1000) (b56 : Bool) : ∃ l v', J7z ⟨e, s, v, (k : Int)⟩ b56 = some (l, ⟨e, s, v', (k : Int) + 1⟩) /\
  (v' = T e v s.Loads.Low (gr e s k) \/ v' = T e v s.Loads.High (gr e s k)) /\ (b56 = true -> T e v s.Loads.Low (gr e s k) <= v' /\ T e v s.Loads.High (gr e s k) <= v') := by
 have l0 := hs.l0; have lh := hs.lh; have h1 := hs.h1
 unfold J7z
 rw [x3z he hv l0 (by omega) hk, bS9, x3z he hv (by omega) h1 hk, bS9]
 simp only
 split
 ·rename_i c
  refine ⟨_, _, rfl, .inr rfl, fun hm => ?_⟩
  subst hm
  simp only [Bool.true_and, Bool.not_true, Bool.false_and, Bool.or_false, decide_eq_true_eq] at c
  omega
 ·rename_i c
  refine ⟨_, _, rfl, .inl rfl, fun hm => ?_⟩
  subst hm
  simp only [Bool.true_and, Bool.not_true, Bool.false_and, Bool.or_false, decide_eq_true_eq] at c
  omega
def Hs (e : Escalator) (s : Stop) (H : Nat -> Int) (K : Nat) : Prop := ∀ j, j < K -> 1 <= H j /\ T e (H j) s.Loads.Low (gr e s j) <= H (j + 1) /\ T e (H j) s.Loads.High (gr e s j) <= H (j + 1)
theorem J95 {v load br : Int} (hv : 1 <= v) : 0 <= T e v load br := by rw [J8k hv]; omega
theorem J4k (b56 : Bool) : ∃ r, J7t e s b56 = some r /\ r.loads.length <= 100 /\ (b56 = true -> r.rests = true -> ∃ H : Nat -> Int, H 0 = s.Speed /\ H r.loads.length = 0 /\ Hs e s H r.loads.length) := by
 have l0 := hs.l0; have lh := hs.lh; have h1 := hs.h1; have sp := hs.sp
 obtain ⟨b, h2, h3⟩ := j7u (f := J7k b56) 100 (fun (σ : Int × Int × List Int × Bool) k => (e.Up, e.Empty, e.Pull, e.Drag, e.Motor, e.Brakes, s.Speed, s.Loads.Low, s.Loads.High, s.Fail, σ.1, k, σ.2.1, σ.2.2.1, σ.2.2.2))
  (fun k σ => σ.2.2.1.length = k /\ σ.2.2.2 = decide (σ.1 = 0) /\ 0 <= σ.1 /\ σ.1 <= 1000 + 50000000 * k /\ (b56 = true -> ∃ H : Nat -> Int, H 0 = s.Speed /\ H k = σ.1 /\ Hs e s H k))
  (fun b => b.2.1.length <= 100 /\ (b56 = true -> b.2.2 = true -> ∃ H : Nat -> Int, H 0 = s.Speed /\ H b.2.1.length = 0 /\ Hs e s H b.2.1.length)) (fun σ k hk hi => by
   obtain ⟨v, way, loads, rests⟩ := σ
   obtain ⟨i1, i2, i3, i4, i5⟩ := hi
   simp only at i1 i2 i3 i4 i5
   by_cases hz : v = 0
   ·right
    have hr : rests = true := by rw [i2]; simp [hz]
    subst hr
    refine ⟨(way, loads, true), ?_, by simp only; omega, fun hm _ => ?_⟩
    ·unfold J7k
     simp only [Bool.not_true, Bool.false_and, fT9, if_false]
    ·obtain ⟨H, g1, g2, g3⟩ := i5 hm
     refine ⟨H, g1, ?_, ?_⟩
     ·simp only [i1]; rw [g2, hz]
     ·simp only [i1]; exact g3
   ·left
    have hr : rests = false := by rw [i2]; simp [hz]
    subst hr
    obtain ⟨l, v', a1, a2, a3⟩ := K1i he hs (v := v) (k := k) (by omega) (by omega) b56
    have hgr := (J9j (s := s) he 0 (k : Int)).2
    have b1 := E7p he l0 (by omega) hgr (B := 1000 + 50000000 * k) (by omega) (v := v) (by omega)
    have b2 := E7p he (load := s.Loads.High) (by omega) h1 hgr (B := 1000 + 50000000 * k) (by omega) (v := v) (by omega)
    have b3 := J95 he hs (v := v) (load := s.Loads.Low) (br := gr e s k) (by omega)
    have b4 := J95 he hs (v := v) (load := s.Loads.High) (br := gr e s k) (by omega)
    refine ⟨(v', wr (way + v'), loads ++ [l], decide (v' = 0)), ?_, by simp [i1], rfl, ?_, ?_, fun hm => ?_⟩
    ·unfold J7k
     have hlt : (k : Int) < 100 := by omega
     simp only [Bool.not_false, Bool.true_and, hlt, decide_true, if_true]
     rw [show (drive_motion.mk (Escalator.mk e.Up e.Empty e.Pull e.Drag e.Motor e.Brakes) (Stop.mk s.Speed (Span.mk s.Loads.Low s.Loads.High) s.Fail) v (k : Int)) = ⟨e, s, v, (k : Int)⟩ from rfl, a1, bS9, b6d (by omega) (by simp) (by omega), bS9]
    ·simp only; rcases a2 with rfl | rfl <;> assumption
    ·simp only; rcases a2 with rfl | rfl <;> omega
    ·obtain ⟨H, g1, g2, g3⟩ := i5 hm
     refine ⟨fun j => if j <= k then H j else v', by simp [g1], by simp only [show ¬ k + 1 <= k by omega, if_false], fun j hj => ?_⟩
     by_cases hjk : j < k
     ·have := g3 j hjk
      simp only [show j <= k by omega, show j + 1 <= k by omega, if_true]
      exact this
     ·have e1 : j = k := by omega
      subst e1
      simp only [Nat.le_refl, if_true, show ¬ j + 1 <= j by omega, if_false, g2]
      exact ⟨by omega, a3 hm⟩) (fun σ hi => by
   obtain ⟨v, way, loads, rests⟩ := σ
   obtain ⟨i1, i2, i3, i4, i5⟩ := hi
   simp only at i1 i2 i3 i4 i5
   refine ⟨(way, loads, rests), ?_, by simp only; omega, fun hm hr => ?_⟩
   ·unfold J7k
    simp
   ·obtain ⟨H, g1, g2, g3⟩ := i5 hm
    simp only at hr
    rw [hr] at i2
    have hz : v = 0 := of_decide_eq_true i2.symm
    refine ⟨H, g1, ?_, ?_⟩
    ·simp only [i1]; rw [g2, hz]
    ·simp only [i1]; exact g3) (s := (s.Speed, 0, [], decide (s.Speed = 0))) 0 (Nat.zero_le _) ⟨rfl, rfl, by simp only; omega, by simp only; omega, fun _ => ⟨fun _ => s.Speed, rfl, rfl, fun j hj => absurd hj (Nat.not_lt_zero _)⟩⟩
 refine ⟨⟨b.1, b.2.1, b.2.2⟩, ?_, h3⟩
 unfold J7t J8r
 rw [show b0w (J7k b56) (e.Up, e.Empty, e.Pull, e.Drag, e.Motor, e.Brakes, s.Speed, s.Loads.Low, s.Loads.High, s.Fail, s.Speed, 0, 0, [], decide (s.Speed = 0)) = some b from h2]
 rfl
omit he hs in
def V (e : Escalator) (s : Stop) (loads : List Int) : Nat -> Int
 | 0 => s.Speed
 | k + 1 => T e (V e s loads k) (loads.getD k 0) (gr e s k)
theorem J96 {loads : List Int} (hin : ∀ x ∈ loads, s.Loads.Low <= x /\ x <= s.Loads.High) : ∀ k, k <= loads.length -> -(1000 + 50000000 * (k : Int)) <= V e s loads k /\ V e s loads k <= 1000 + 50000000 * (k : Int)
 | 0, _ => by have := hs.sp; unfold V; omega
 | k + 1, hk => by
  have l0 := hs.l0; have lh := hs.lh; have h1 := hs.h1
  have ih := J96 hin k (by omega)
  obtain ⟨x, hx⟩ := b3b (l := loads) (k := k) (by omega)
  have hxi := hin x (mG9 hx)
  have hgr := (J9j (s := s) he 0 (k : Int)).2
  have := E7p he (load := x) (by omega) (by omega) hgr (B := 1000 + 50000000 * k) (by omega) ih
  unfold V
  rw [o8p hx]
  omega
theorem K1c {loads : List Int} (hl : loads.length <= 100) (hin : ∀ x ∈ loads, s.Loads.Low <= x /\ x <= s.Loads.High) : J8e loads (fun z8 => some (J23 z8 s)) = some false := by
 unfold J8e d5a
 have := b4h (f := g3c loads (fun z8 => some (J23 z8 s))) loads.length (fun (_ : Unit) k => k) (fun _ => ()) (.inl ()) (s0 := ()) rfl (fun k hk => by
  obtain ⟨x, hx⟩ := b3b hk
  have hxi := hin x (mG9 hx)
  have hd : J23 x s = false := by unfold J23 l74; simp; omega
  unfold g3c
  simp only [b1h hx, bS9, Int.ofNat_lt, hk, decide_true, if_true, hd, fT9, if_false, b2r hk (b1o (by omega))]) (by
  unfold g3c
  simp only [Int.lt_irrefl, decide_false, fT9, if_false])
 have h0 : b0w (g3c loads (fun z8 => some (J23 z8 s))) 0 = some (.inl ()) := this
 rw [h0]; rfl
theorem K2v {loads : List Int} (hl : loads.length <= 100) (hin : ∀ x ∈ loads, s.Loads.Low <= x /\ x <= s.Loads.High) : J73 e s loads = some (tab loads.length fun i => V e s loads (i + 1), 0) := by
 have l0 := hs.l0; have lh := hs.lh; have h1 := hs.h1
 unfold J73 J8p
 rw [K0m he hs, bS9, if_neg (by simp), if_neg (by simp; omega), K1c he hs hl hin, bS9, bS9, if_neg (by simp)]
 have := b4h (f := J7q loads) loads.length (fun (σ : Int × List Int) k => (e.Up, e.Empty, e.Pull, e.Drag, e.Motor, e.Brakes, s.Speed, s.Loads.Low, s.Loads.High, s.Fail, σ.1, k, σ.2, k)) (fun k => (V e s loads k, tab k fun i => V e s loads (i + 1))) (tab loads.length fun i => V e s loads (i + 1)) (s0 := (s.Speed, [])) rfl (fun k hk => by
  obtain ⟨x, hx⟩ := b3b hk
  have hxi := hin x (mG9 hx)
  have hv := J96 he hs hin k (by omega)
  unfold J7q
  simp only [b1h hx, bS9, Int.ofNat_lt, hk, decide_true, if_true]
  rw [show (drive_motion.mk (Escalator.mk e.Up e.Empty e.Pull e.Drag e.Motor e.Brakes) (Stop.mk s.Speed (Span.mk s.Loads.Low s.Loads.High) s.Fail) (V e s loads k) (k : Int)) = ⟨e, s, V e s loads k, (k : Int)⟩ from rfl, x3z he (by omega) (by omega) (by omega) (by omega), bS9]
  simp only
  rw [b6d (by rw [b3y]; omega) (by simp) (by omega), bS9, b2r hk (b1o (by omega)), l5w]
  have e1 : V e s loads (k + 1) = T e (V e s loads k) x (gr e s k) := by conv => lhs; unfold V; rw [o8p hx]
  rw [e1]) (by
  unfold J7q
  simp only [Int.lt_irrefl, decide_false, fT9, if_false])
 have h0 : b0w (J7q loads) (e.Up, e.Empty, e.Pull, e.Drag, e.Motor, e.Brakes, s.Speed, s.Loads.Low, s.Loads.High, s.Fail, s.Speed, 0, [], 0) = some (tab loads.length fun i => V e s loads (i + 1)) := this
 rw [h0]; rfl
theorem below {loads : List Int} (hin : ∀ x ∈ loads, s.Loads.Low <= x /\ x <= s.Loads.High) {H : Nat -> Int} {K : Nat} (h0 : H 0 = s.Speed) (hH : Hs e s H K) : ∀ j, j <= K -> j <= loads.length -> (∀ i, 1 <= i -> i < j -> 1 <= V e s loads i) -> V e s loads j <= H j
 | 0, _, _, _ => by unfold V; omega
 | j + 1, hj, hn, hm => by
  have ih := below hin h0 hH j (by omega) (by omega) fun i h1 h2 => hm i h1 (by omega)
  obtain ⟨g1, g2, g3⟩ := hH j (by omega)
  obtain ⟨x, hx⟩ := b3b (l := loads) (k := j) (by omega)
  have hxi := hin x (mG9 hx)
  have hv : 1 <= V e s loads j := by
   by_cases hz : j = 0
   ·subst hz; unfold V; omega
   ·exact hm j (by omega) (by omega)
  have := K0t he (br := gr e s j) hs.l0 hxi.1 hxi.2 hv ih
  conv => lhs; unfold V
  rw [o8p hx]
  omega
theorem rests {loads : List Int} (hin : ∀ x ∈ loads, s.Loads.Low <= x /\ x <= s.Loads.High) {H : Nat -> Int} {K : Nat} (h0 : H 0 = s.Speed) (hK : H K = 0) (hH : Hs e s H K) (h1 : 1 <= K) {j : Nat} (hj : j <= loads.length) (hm : ∀ i, 1 <= i -> i <= j -> 1 <= V e s loads i) : j < K := by
 refine Classical.byContradiction fun hk => ?_
 have := below he hs hin h0 hH K (Nat.le_refl _) (by omega) fun i a b => hm i a (by omega)
 have := hm K h1 (by omega)
 omega
end
end Go.Nw.XM.D
namespace Go.Nw.XM.D
open Go.Nw.Tp3
noncomputable section
theorem K2j {s : Stop} {loads : List Int} (hl : loads.length <= 100) : ∃ b, J8c s loads = some b /\ (b = true -> ∀ x ∈ loads, s.Loads.Low <= x /\ x <= s.Loads.High) := by
 unfold J8c J8x
 rcases b4j (f := J8d s loads) (l := loads) (p := fun _ x => ¬ (s.Loads.Low <= x /\ x <= s.Loads.High)) (e := .inr false) (u := .inl ()) (b1o (by omega)) (fun k x hx => by
   refine ⟨!(c48 x s.Loads.Low s.Loads.High), ?_, ?_⟩
   ·unfold J8d
    simp only [b1h hx, bS9, Int.ofNat_lt, b1k hx, decide_true, if_true]
   ·simp only [B9q, Bool.not_eq_true', decide_eq_false_iff_not]) (by unfold J8d; simp only [Int.lt_irrefl, decide_false, fT9, if_false]) with ⟨h1, h2⟩ | ⟨_, h2⟩
 ·rw [h2]
  refine ⟨_, rfl, fun _ x hx => ?_⟩
  obtain ⟨k, hk⟩ := b1d.1 hx
  exact Classical.not_not.1 (h1 k x hk)
 ·rw [h2]; exact ⟨false, rfl, fun h => by cases h⟩
section
variable {e : Escalator} {s : Stop} (he : OkE e) (hs : OkS e s)
include he hs
theorem K1f : ∃ r, J72 e s = some r /\ ((r.2.2 = 12) \/ (r.2.2 = 0 /\ ∃ K : Nat, r.2.1.High = (K : Int) /\ ∃ H : Nat -> Int, H 0 = s.Speed /\ H K = 0 /\ Hs e s H K)) := by
 obtain ⟨a, h1, h2, h3⟩ := J4k he hs true
 obtain ⟨b, h4, h5, _⟩ := J4k he hs false
 unfold J72
 rw [K0m he hs, bS9, if_neg (by simp), h1, bS9, h4, bS9]
 cases hr : a.rests with
 | false => exact ⟨_, rfl, .inl rfl⟩
 | true => exact ⟨_, rfl, .inr ⟨rfl, a.loads.length, rfl, h3 rfl hr⟩⟩
end
theorem K2l (v : Nat -> Int) (n : Nat) (hn : n <= 100) (u : Int) : ∃ k, k <= n /\ (∀ i, i < k -> 0 <= v i) /\ b0w (J7l (tab n v, u)) ([], 0) = some (tab k fun i => mn 1 (v i)) := by
 obtain ⟨b, h1, k, h2, h3, rfl⟩ := j7u (f := J7l (tab n v, u)) n (fun (l : List Int) k => (l, k)) (fun k l => l = (tab k fun i => mn 1 (v i)) /\ ∀ i, i < k -> 0 <= v i)
  (fun b => ∃ k, k <= n /\ (∀ i, i < k -> 0 <= v i) /\ b = tab k fun i => mn 1 (v i)) (fun l k hk hi => by
   obtain ⟨rfl, hi⟩ := hi
   have hlt : (k : Int) < ((tab n v).length : Int) := by rw [b3y]; omega
   by_cases hv : 0 <= v k
   ·left
    refine ⟨tab (k + 1) fun i => mn 1 (v i), ?_, rfl, fun i h => ?_⟩
    ·unfold J7l
     simp only [hlt, decide_true, if_true, c2y hk, bS9, hv]
     rw [b6d (by rw [b3y]; omega) (by simp) (by omega), bS9, b2r hk (b1o (by omega)), l5w]
    ·by_cases e : i = k
     ·subst e; exact hv
     ·exact hi i (by omega)
   ·right
    refine ⟨_, ?_, k, by omega, hi, rfl⟩
    unfold J7l
    simp only [hlt, decide_true, if_true, c2y hk, bS9, hv, decide_false, fT9, if_false]) (fun l hi => by
   obtain ⟨rfl, hi⟩ := hi
   refine ⟨_, ?_, n, Nat.le_refl _, hi, rfl⟩
   unfold J7l
   have hlt : ¬ (n : Int) < ((tab n v).length : Int) := by rw [b3y]; omega
   simp only [hlt, decide_false, fT9, if_false, bS9]) (s := []) 0 (Nat.zero_le _) ⟨rfl, fun i h => absurd h (Nat.not_lt_zero _)⟩
 exact ⟨k, h2, h3, h1⟩
theorem K0f {v : Int} (h : 0 <= v) : (mn 1 v = 0 /\ v = 0) \/ (mn 1 v = 1 /\ 1 <= v) := by rw [g1r]; omega
theorem quiet {K k : Nat} {f : Nat -> Int} {g : Nat -> Place} {u : Int} (hk : k <= 1000) (hg : ∀ i, i < k -> (∀ j, j <= i -> f j ≠ 0) -> (g i).State = 0) : b0w (J7w (tab k f) (tab k g, u)) (false, 0) = some (.inl ()) := by
 obtain ⟨b, h1, rfl⟩ := j7u (f := J7w (tab k f) (tab k g, u)) k (fun (r : Bool) i => (r, i)) (fun i r => r = false -> ∀ j, j < i -> f j ≠ 0) (fun b => b = .inl ()) (fun r i hi hr => by
   have hlt : (i : Int) < ((tab k g).length : Int) := by rw [b3y]; omega
   left
   refine ⟨r || decide (f i = 0), ?_, fun h j hj => ?_⟩
   ·unfold J7w
    cases r with
    | true =>
     simp only [hlt, decide_true, if_true, bS9, Bool.not_true, fT9, if_false, Bool.true_or, b2r hi (b1o hk)]
    | false =>
     simp only [hlt, decide_true, if_true, bS9, fT9, if_false, Bool.false_or, c2y hi]
     by_cases hz : f i = 0
     ·simp only [hz, decide_true, Bool.not_true, fT9, if_false, bS9, b2r hi (b1o hk)]
     ·have hs := hg i hi fun j hj => by
       by_cases e : j = i
       ·subst e; exact hz
       ·exact hr rfl j (by omega)
      simp only [hz, hs, decide_false, Bool.not_false, if_true, bS9, not_true_eq_false, fT9, if_false, b2r hi (b1o hk)]
   ·simp only [Bool.or_eq_false_iff, decide_eq_false_iff_not] at h
    by_cases e : j = i
    ·subst e; exact h.2
    ·exact hr h.1 j (by omega)) (fun r hr => by
   refine ⟨_, ?_, rfl⟩
   unfold J7w
   have hlt : ¬ (k : Int) < ((tab k g).length : Int) := by rw [b3y]; omega
   simp only [hlt, decide_false, fT9, if_false]) (s := false) 0 (Nat.zero_le _) (fun _ j h => absurd h (Nat.not_lt_zero _))
 exact h1
theorem watched_plain [Bd] (hme : x28 = some true) (m : Escalator) (s : Stop) (loads : List Int) (_ : J8i m) (_ : J8j s) (_ : OkL b5k loads) : J78 m s loads = some true := by
 unfold J78
 have hmm : ((x28).bind fun y => some y) = some true := by rw [hme]; rfl
 by_cases c1 : ((J77 m) || (decide (100 < (List.length loads : Int)))) = true
 ·rw [if_pos c1]
  simp only [bS9, if_true]
  exact hmm
 rw [if_neg c1]
 simp only [Bool.or_eq_true, decide_eq_true_eq, not_or] at c1
 have hl : loads.length <= 100 := by omega
 obtain ⟨r, h1, h2⟩ := K2y m s
 rw [h1, bS9, bS9]
 by_cases c2 : r = 0
 case neg =>
  rw [decide_eq_true c2]
  simp only [if_true, bS9]
  exact hmm
 obtain ⟨he, hs⟩ := h2 c2
 obtain ⟨b, h3, h4⟩ := K2j (s := s) hl
 simp only [c2, not_true_eq_false, decide_false, fT9, if_false, h3, bS9]
 cases b with
 | false => simp only [Bool.not_false, if_true]; exact hmm
 | true =>
 simp only [Bool.not_true, fT9, if_false]
 have hin := h4 rfl
 obtain ⟨d, h5, h6⟩ := K1f he hs
 rw [h5, bS9]
 rcases h6 with h6 | ⟨h6, K, h7, H, g1, g2, g3⟩
 ·simp only [h6, Int.reduceEq, not_false_eq_true, decide_true, if_true, hme, bS9]
 simp only [h6, not_true_eq_false, decide_false, fT9, if_false]
 by_cases c3 : ((decide (d.2.1.High < 1)) || (decide (7 < d.2.1.High))) = true
 ·rw [if_pos c3]; exact hmm
 rw [if_neg c3]
 simp only [Bool.or_eq_true, decide_eq_true_eq, not_or] at c3
 have k1 : 1 <= K := by omega
 have k7 : K <= 7 := by omega
 rw [K2v he hs hl hin, bS9]
 simp only [not_true_eq_false, decide_false, Bool.false_or, b3y, fT9, if_false]
 obtain ⟨k, hk, hpos, hi⟩ := K2l (fun i => V m s loads (i + 1)) loads.length hl 0
 rw [hi, bS9]
 unfold J8u
 rw [h7]
 have hm := K0j k1 k7
 have hx : ∀ x ∈ (tab k fun i => mn 1 (V m s loads (i + 1))), OkX (W K) x := fun x hx => by
  unfold tab at hx
  obtain ⟨i, hir, rfl⟩ := List.mem_map.1 hx
  have hv := hpos i (List.mem_range.1 hir)
  show In _ 2
  unfold In
  rcases K0f hv with ⟨h, _⟩ | ⟨h, _⟩ <;> rw [h] <;> omega
 have hrun := K0s hm J4b (l := tab k fun i => mn 1 (V m s loads (i + 1))) (by rw [b3y]; omega) hx
 rw [b3y] at hrun
 obtain ⟨br, h8, h9, h10, h11⟩ := K0u k1 k7
 unfold J51 at h8
 rw [hrun, bS9, h8, bS9]
 have hK : wr ((K : Int) + 1) = (K : Int) + 1 := b3t (by omega) (by omega)
 simp only [h9, h10, h11, hK, b3y, Bool.not_true, not_true_eq_false, decide_false, Bool.or_false, Bool.false_or, show ((K + 1 : Nat) : Int) = (K : Int) + 1 by omega, fT9, if_false]
 rw [quiet (K := K) (by omega) (fun i hi hne => by
  have mv : ∀ j, j <= i -> 1 <= V m s loads (j + 1) /\ mn 1 (V m s loads (j + 1)) = 1 := fun j hj => by
   rcases K0f (hpos j (by omega)) with ⟨h, _⟩ | ⟨h, h'⟩
   ·exact absurd h (hne j hj)
   ·exact ⟨h', h⟩
  have hlt := rests he hs hin g1 g2 g3 k1 (j := i + 1) (by omega) (fun q q1 q2 => by
   have := (mv (q - 1) (by omega)).1
   rw [show q - 1 + 1 = q by omega] at this
   exact this)
  rw [K0g k7 (i + 1) (by omega) (fun j hj => by
   rw [o8p (c1l (show j < k by omega))]
   exact (mv j (by omega)).2)]), bS9]
 unfold J8v
 exact hmm
end
end Go.Nw.XM.D
