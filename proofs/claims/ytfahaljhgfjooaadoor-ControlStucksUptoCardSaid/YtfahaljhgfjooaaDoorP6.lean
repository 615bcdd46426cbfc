/- Plain laws on the models. -/
import Derived.Test.YtfahaljhgfjooaaDoorP5
import Derived.Test.YtfahaljhgfjooaaDoorNwFirst
set_option linter.all false
namespace Go.Nw.KM
noncomputable section
section
variable {m : Machine} {c : List (List Literal)} {hd : Nat -> Int}
theorem g83 {s : S3} (hg : Good m s) (ht : Tr m c hd s) (hl : s.1.length <= 768) {w : control_walk} {g : r04_graph} (hw : w.from_ = s.2.1 /\ w.by_ = s.2.2) (hwp : w.places = s.1) (hgr : g.back = s.2.1 /\ g.input = s.2.2) (hgp : g.places = s.1)
  {wanted : Int -> Option Bool} {p : Nat -> Bool} (hwant : ∀ k : Nat, k < s.1.length -> wanted k = some (p k)) :
  ∃ r, c05 w wanted = some r /\ r.1.length <= 768 /\
   (∀ (f : Int -> Option (Out Int (Unit ⊕ ((List Int) × Bool)))), (∀ k : Nat, k < s.1.length -> f k = (if p k = true then (b5c g k).bind fun y => some (.br (.inr (y, true))) else some (.nx ((k : Int) + 1)))) -> f (s.1.length : Int) = some (.br (.inl ())) ->
    (b0w f 0).bind (fun | (.inl ()) => some ([], false) | (.inr r') => some r') = some r) /\
   ((r = ([], false) /\ ∀ k, k < s.1.length -> p k = false) \/ ∃ (k : Nat) (q : Place) (P : List Nat), r = (b23 P, true) /\ s.1[k]? = some q /\ p k = true /\ (∀ j, j < k -> p j = false) /\ b5v m c hd zero P q /\ P.length <= k /\ b5c g k = some (b23 P)) := by
 have hrun := l2w hg ht hl w g hw hgr
 have run2 : ∀ k : Nat, k < s.1.length -> ∃ P : List Nat, b7s w k = some (b23 P) /\ b5c g k = some (b23 P) /\ P.length <= k /\ ∃ q, s.1[k]? = some q /\ b5v m c hd zero P q := hrun
 obtain ⟨R, hR⟩ : ∃ R : Nat -> List Nat, ∀ k : Nat, k < s.1.length -> b7s w k = some (b23 (R k)) /\ b5c g k = some (b23 (R k)) /\ (R k).length <= k /\ ∃ q, s.1[k]? = some q /\ b5v m c hd zero (R k) q :=
  ⟨fun k => if h : k < s.1.length then (run2 k h).choose else [], fun k h => by dsimp only; rw [dif_pos h]; exact (run2 k h).choose_spec⟩
 have e1 := b93 (f := b89 w wanted) (n := s.1.length) (p := p) (e := fun k => .inr (b23 (R k), true)) (u := .inl ()) (fun t h hp => by
   unfold b89
   simp only [hwp, Int.ofNat_lt, h, decide_true, if_true, hwant t h, Option.bind_some, hp, (hR t h).1]) (fun t h hp => by
   unfold b89
   simp only [hwp, Int.ofNat_lt, h, decide_true, if_true, hwant t h, Option.bind_some, hp, Bool.false_eq_true, if_false, b2t h (b1p (by omega))]) (by
   unfold b89
   simp only [hwp, Int.lt_irrefl, decide_false, Bool.false_eq_true, if_false])
 have e2 : ∀ (f : Int -> Option (Out Int (Unit ⊕ ((List Int) × Bool)))), (∀ k : Nat, k < s.1.length -> f k = (if p k = true then (b5c g k).bind fun y => some (.br (.inr (y, true))) else some (.nx ((k : Int) + 1)))) -> f (s.1.length : Int) = some (.br (.inl ())) ->
   b0w f 0 = some (match b28 s.1.length p with | some t => .inr (b23 (R t), true) | none => .inl ()) := fun f hf hfin => b93 (p := p) (fun t h hp => by
   rw [hf t h, if_pos hp, (hR t h).2.1]; rfl) (fun t h hp => by rw [hf t h, if_neg (by rw [hp]; simp)]) hfin
 unfold c05 c4h
 rw [e1, Option.bind_some]
 cases hf : b28 s.1.length p with
 | none =>
  refine ⟨([], false), rfl, by simp, fun f h1 h2 => by rw [e2 f h1 h2, hf]; rfl, .inl ⟨rfl, c5a.1 hf⟩⟩
 | some k =>
  obtain ⟨h1, h2, h3⟩ := d0l hf
  obtain ⟨_, r2, r3, q, r4, r5⟩ := hR k h1
  exact ⟨(b23 (R k), true), rfl, by rw [d8o]; omega, fun f h1 h2 => by rw [e2 f h1 h2, hf]; rfl, .inr ⟨k, q, R k, rfl, r4, h2, h3, r5, r3, r2⟩⟩
def c04 (m : Machine) (c never : List (List Literal)) (hd : Nat -> Int) (r : List Int × Bool) : Prop :=
 ∃ K, End m c hd K /\ ((r = ([], false) /\ ∀ q ∈ (b05 m c hd K).1, b32 m q 0 never = false) \/
  ∃ (k : Nat) (q : Place) (P : List Nat), r = (b23 P, true) /\ (b05 m c hd K).1[k]? = some q /\ b32 m q 0 never = true /\ (∀ (j : Nat) q', j < k -> (b05 m c hd K).1[j]? = some q' -> b32 m q' 0 never = false) /\ b5v m c hd zero P q /\ P.length <= k /\ b5c ⟨(b05 m c hd K).1, (b05 m c hd K).2.1, (b05 m c hd K).2.2⟩ k = some (b23 P))
theorem g4l (hm : OkM m) {ins ins' : Bool} (hc : b2w m ins c) {never : List (List Literal)} (hn : b2w m ins' never) {heard : Int -> Option Int} (hh : ∀ x : Nat, x < 2 ^ m.Inputs.length -> heard x = some (hd x)) {inp val : Int} (hh' : ∀ x : Nat, x < 2 ^ m.Inputs.length -> b49 x inp val = some (hd x)) :
  ∃ r g, b7u ⟨⟨m⟩⟩ c never heard = some r /\ b7h m c inp val = some g /\ b7v g m never = some r /\ r.1.length <= 768 /\ c04 m c never hd r := by
 obtain ⟨K, hK⟩ := l2c (c := c) (hd := hd) hm
 have hg := b7a (c := c) (hd := hd) hm K
 have ht := g0d (c := c) (hd := hd) hm K
 have hl := c6g hm hg.n hg.o
 have hp : ∀ k : Nat, k < (b05 m c hd K).1.length -> ∃ q, (b05 m c hd K).1[k]? = some q /\ OkP m q := fun k hk => by
  obtain ⟨q, hq⟩ := b3m hk
  exact ⟨q, hq, hg.o q (b1c.2 ⟨k, hq⟩)⟩
 obtain ⟨r, h1, h2, h3, h4⟩ := g83 (w := c74 m c hd K) (g := ⟨(b05 m c hd K).1, (b05 m c hd K).2.1, (b05 m c hd K).2.2⟩) hg ht hl ⟨rfl, rfl⟩ rfl ⟨rfl, rfl⟩ rfl
  (wanted := fun z5 => b9a z5 ⟨⟨m⟩⟩ never (c74 m c hd K)) (p := fun k => b32 m ((b05 m c hd K).1.getD k zero) 0 never) (fun k hk => by
   obtain ⟨q, hq, ho⟩ := hp k hk
   unfold b9a c74
   simp only [b1g hq, Option.bind_some, c9n hm.z ho.s hn, List.getD_eq_getElem?_getD, hq, Option.getD_some])
 refine ⟨r, _, ?_, g8v hm hc hh' hK, ?_, h2, K, hK, ?_⟩
 ·unfold b7u
  rw [g8u hm hc hh hK, Option.bind_some, h1]; rfl
 ·unfold b7v c4n
  refine h3 _ (fun k hk => ?_) ?_
  ·obtain ⟨q, hq, ho⟩ := hp k hk
   unfold c4m
   simp only [Int.ofNat_lt, hk, decide_true, if_true, b1g hq, Option.bind_some, c9o hm.z ho.s hn, List.getD_eq_getElem?_getD, hq, Option.getD_some, b2t hk (b1p (by omega))]
  ·unfold c4m
   simp only [Int.lt_irrefl, decide_false, Bool.false_eq_true, if_false]
 ·rcases h4 with ⟨rfl, h5⟩ | ⟨k, q, P, rfl, h6, h7, h8, h9, h10, h11⟩
  ·refine .inl ⟨rfl, fun q hq => ?_⟩
   obtain ⟨k, hk⟩ := b1c.1 hq
   have := h5 k (b1m hk)
   simpa only [List.getD_eq_getElem?_getD, hk, Option.getD_some] using this
  ·refine .inr ⟨k, q, P, rfl, h6, ?_, fun j q' hj hq' => ?_, h9, h10, h11⟩
   ·simpa only [List.getD_eq_getElem?_getD, h6, Option.getD_some] using h7
   ·have := h8 j hj
    simpa only [List.getD_eq_getElem?_getD, hq', Option.getD_some] using this
end
end
end Go.Nw.KM
namespace Go.Nw.KM
noncomputable section
theorem l3u : ((List.range 16).all fun x => (List.range 4).all fun i => (List.range 2).all fun v => decide (b5s (x : Int) (i : Int) (v : Int) = b49 (x : Int) (i : Int) (v : Int)) && (b49 (x : Int) (i : Int) (v : Int)).isSome) = true := by decide +kernel
theorem l3v {x i v : Nat} (hx : x < 16) (hi : i < 4) (hv : v < 2) : b5s x i v = b49 x i v /\ ∃ y, b49 x i v = some y := by
 have h := List.all_eq_true.1 l3u x (List.mem_range.2 hx)
 have h := List.all_eq_true.1 h i (List.mem_range.2 hi)
 have h := List.all_eq_true.1 h v (List.mem_range.2 hv)
 simp only [Bool.and_eq_true, decide_eq_true_eq] at h
 exact ⟨h.1, Option.isSome_iff_exists.1 h.2⟩
def hs (i v : Nat) (x : Nat) : Int := (b49 x i v).getD 0
theorem d6i {x i v : Nat} (hx : x < 16) (hi : i < 4) (hv : v < 2) : b49 x i v = some (hs i v x) /\ b5s x i v = some (hs i v x) := by
 obtain ⟨h1, y, h2⟩ := l3v hx hi hv
 unfold hs
 rw [h1, h2]; exact ⟨rfl, rfl⟩
theorem l1j {n : Nat} (h : n <= 4) : 2 ^ n <= 16 := by
 have : n = 0 \/ n = 1 \/ n = 2 \/ n = 3 \/ n = 4 := by omega
 rcases this with rfl | rfl | rfl | rfl | rfl <;> decide
theorem g69 {m : Machine} {c n : List (List Literal)} (h : b85 m [c, n] 0) : OkM m /\ b2w m true c /\ b2w m true n := by
 rcases h with ⟨_, a, b⟩ | ⟨e, _⟩ | ⟨e, _⟩
 ·exact ⟨a, b c (by simp), b n (by simp)⟩
 ·cases e
 ·cases e
theorem g3m {m : Machine} (hf : ∀ n ∈ b29 m, n.size <= maxLen) (c never : List (List Literal)) : ∃ r, c1n m c never = some r /\ c23 m c never = some r /\ r.2.2.1.length <= 768 /\
  b85 m [c, never] r.2.2.2.2 /\ (r.2.2.2.2 = 0 ->
   (r = (0, 0, [], false, 0) /\ ∀ i v, i < m.Inputs.length -> v < 2 -> ∃ b, c04 m c never (hs i v) b /\ b.2 = false) \/
   ∃ (i v : Nat) (b : List Int × Bool), i < m.Inputs.length /\ v < 2 /\ c04 m c never (hs i v) b /\ b.2 = true /\ r = ((i : Int), (v : Int), b.1, true, 0)) := by
 obtain ⟨e, h1, h2⟩ := g65 hf (l := [c, never]) (by simp)
 obtain ⟨e', h3, h4⟩ := g3a hf (l := [c, never]) (by simp)
 obtain rfl := g7a h2 h4
 unfold c1n c23 c41 c6x
 rw [h1, h3, Option.bind_some, Option.bind_some]
 by_cases he : e = 0
 case neg =>
  refine ⟨(0, 0, [], false, e), ?_, ?_, by simp, h2, fun h => absurd h he⟩ <;> rw [if_pos (by simpa using he)]
 subst he
 obtain ⟨hm, hc, hn⟩ := g69 h2
 have hi4 : m.Inputs.length <= 4 := hm.z.i
 have hp16 := l1j hi4
 rw [if_neg (by simp), if_neg (by simp)]
 have ex : ∀ i v : Nat, i < m.Inputs.length /\ v < 2 -> ∃ b : (List Int × Bool) × r04_graph, b7u ⟨⟨m⟩⟩ c never (fun z18 => b5s z18 i v) = some b.1 /\ b7h m c i v = some b.2 /\ b7v b.2 m never = some b.1 /\ b.1.1.length <= 768 /\ c04 m c never (hs i v) b.1 := fun i v ⟨hi, hv⟩ => by
  obtain ⟨r, g, a1, a2, a3, a4, a5⟩ := g4l (hd := hs i v) hm hc hn (heard := fun z18 => b5s z18 i v) (fun x hx => (d6i (by omega) (by omega) hv).2) (inp := i) (val := v) (fun x hx => (d6i (by omega) (by omega) hv).1)
  exact ⟨(r, g), a1, a2, a3, a4, a5⟩
 obtain ⟨Bf, hB⟩ : ∃ Bf : Nat -> Nat -> (List Int × Bool) × r04_graph, ∀ i v : Nat, i < m.Inputs.length -> v < 2 -> b7u ⟨⟨m⟩⟩ c never (fun z18 => b5s z18 i v) = some (Bf i v).1 /\ b7h m c i v = some (Bf i v).2 /\ b7v (Bf i v).2 m never = some (Bf i v).1 /\ (Bf i v).1.1.length <= 768 /\ c04 m c never (hs i v) (Bf i v).1 :=
  ⟨fun i v => if h : i < m.Inputs.length /\ v < 2 then (ex i v h).choose else default, fun i v hi hv => by dsimp only; rw [dif_pos ⟨hi, hv⟩]; exact (ex i v ⟨hi, hv⟩).choose_spec⟩
 have inner1 : ∀ i : Nat, i < m.Inputs.length -> b0w (b79 m c never i) 0 = some (match b28 2 (fun v => (Bf i v).1.2) with | some v => .inr ((i : Int), (v : Int), (Bf i v).1.1, true, 0) | none => .inl ()) := fun i hi =>
  b93 (f := b79 m c never i) (n := 2) (p := fun v => (Bf i v).1.2) (e := fun v => .inr ((i : Int), (v : Int), (Bf i v).1.1, true, 0)) (fun v hv hp => by
   unfold b79
   have : (v : Int) < 2 := by omega
   simp only [this, decide_true, if_true, show b5g m = ⟨⟨m⟩⟩ from rfl, (hB i v hi hv).1, Option.bind_some]
   rw [if_pos hp]) (fun v hv hp => by
   unfold b79
   have : (v : Int) < 2 := by omega
   simp only [this, decide_true, if_true, show b5g m = ⟨⟨m⟩⟩ from rfl, (hB i v hi hv).1, Option.bind_some]
   rw [if_neg (by rw [hp]; simp), b2t hv (by decide)]) (by
   unfold b79; rfl)
 have inner2 : ∀ i : Nat, i < m.Inputs.length -> b0w (b8u m c never i) 0 = some (match b28 2 (fun v => (Bf i v).1.2) with | some v => .inr ((i : Int), (v : Int), (Bf i v).1.1, true, 0) | none => .inl ()) := fun i hi =>
  b93 (f := b8u m c never i) (n := 2) (p := fun v => (Bf i v).1.2) (e := fun v => .inr ((i : Int), (v : Int), (Bf i v).1.1, true, 0)) (fun v hv hp => by
   unfold b8u
   have : (v : Int) < 2 := by omega
   simp only [this, decide_true, if_true, (hB i v hi hv).2.1, (hB i v hi hv).2.2.1, Option.bind_some]
   rw [if_pos hp]) (fun v hv hp => by
   unfold b8u
   have : (v : Int) < 2 := by omega
   simp only [this, decide_true, if_true, (hB i v hi hv).2.1, (hB i v hi hv).2.2.1, Option.bind_some]
   rw [if_neg (by rw [hp]; simp), b2t hv (by decide)]) (by
   unfold b8u; rfl)
 have hp2 : ∀ i, (b28 2 (fun v => (Bf i v).1.2)).isSome = false ↔ ∀ v, v < 2 -> (Bf i v).1.2 = false := fun i => by
  rw [Option.isSome_eq_false_iff, Option.isNone_iff_eq_none, c5a]
 have outer1 := b93 (f := b9i m c never) (n := m.Inputs.length) (p := fun i => (b28 2 (fun v => (Bf i v).1.2)).isSome) (e := fun i => .inr ((i : Int), (((b28 2 (fun v => (Bf i v).1.2)).getD 0 : Nat) : Int), (Bf i ((b28 2 (fun v => (Bf i v).1.2)).getD 0)).1.1, true, 0)) (u := .inl ()) (fun i hi hp => by
   obtain ⟨v, hv⟩ := Option.isSome_iff_exists.1 hp
   unfold b9i
   simp only [Int.ofNat_lt, hi, decide_true, if_true, inner1 i hi, Option.bind_some]
   rw [hv]; rfl) (fun i hi hp => by
   have := Option.isNone_iff_eq_none.1 (Option.isSome_eq_false_iff.1 hp)
   unfold b9i c40
   simp only [Int.ofNat_lt, hi, decide_true, if_true, inner1 i hi, Option.bind_some]
   rw [this]; simp only; rw [b2t hi (b1p (by omega))]) (by
   unfold b9i
   simp only [Int.lt_irrefl, decide_false, Bool.false_eq_true, if_false])
 have outer2 := b93 (f := c0c m c never) (n := m.Inputs.length) (p := fun i => (b28 2 (fun v => (Bf i v).1.2)).isSome) (e := fun i => .inr ((i : Int), (((b28 2 (fun v => (Bf i v).1.2)).getD 0 : Nat) : Int), (Bf i ((b28 2 (fun v => (Bf i v).1.2)).getD 0)).1.1, true, 0)) (u := .inl ()) (fun i hi hp => by
   obtain ⟨v, hv⟩ := Option.isSome_iff_exists.1 hp
   unfold c0c
   simp only [Int.ofNat_lt, hi, decide_true, if_true, inner2 i hi, Option.bind_some]
   rw [hv]; rfl) (fun i hi hp => by
   have := Option.isNone_iff_eq_none.1 (Option.isSome_eq_false_iff.1 hp)
   unfold c0c c6w
   simp only [Int.ofNat_lt, hi, decide_true, if_true, inner2 i hi, Option.bind_some]
   rw [this]; simp only; rw [b2t hi (b1p (by omega))]) (by
   unfold c0c
   simp only [Int.lt_irrefl, decide_false, Bool.false_eq_true, if_false])
 rw [outer1, outer2, Option.bind_some]
 cases hfi : b28 m.Inputs.length (fun i => (b28 2 (fun v => (Bf i v).1.2)).isSome) with
 | none =>
  refine ⟨(0, 0, [], false, 0), rfl, rfl, by simp, h2, fun _ => .inl ⟨rfl, fun i v hi hv => ?_⟩⟩
  exact ⟨_, (hB i v hi hv).2.2.2.2, (hp2 i).1 (c5a.1 hfi i hi) v hv⟩
 | some i =>
  obtain ⟨hi, hp, _⟩ := d0l hfi
  obtain ⟨v, hv⟩ := Option.isSome_iff_exists.1 hp
  obtain ⟨hv2, hvp, _⟩ := d0l hv
  refine ⟨((i : Int), (v : Int), (Bf i v).1.1, true, 0), by simp only [hv]; rfl, by simp only [hv]; rfl, (hB i v hi hv2).2.2.2.1, h2, fun _ => .inr ⟨i, v, (Bf i v).1, hi, hv2, (hB i v hi hv2).2.2.2.2, hvp, rfl⟩⟩
theorem g30 (b : Bool) : b5r b b = true := by cases b <;> rfl
section
variable [Bd]
theorem l3w (hB : Bd.B <= 1048576) (m : Machine) (c : l04_Conds) (hm : b88 m) (hc : c4f c) : c2f m c = some true := by
 have hf := tdm hB hm
 obtain ⟨b, hb⟩ := l5n hf.n
 unfold c2f
 rw [hb, Option.bind_some]
 cases b with
 | true => rfl
 | false =>
  obtain ⟨r, h1, h2, h3, _⟩ := g3m hf.n c.Assume c.Never
  simp only [Bool.false_eq_true, if_false]
  rw [g3d hf, Option.bind_some, c9l (d34 hB hc.1), Option.bind_some, c9l (d34 hB hc.2), Option.bind_some, h1, h2, Option.bind_some, Option.bind_some]
  simp only [decide_true, Bool.and_self, if_true, l3b (b1p (show r.2.2.1.length <= 1000 by omega)), Option.bind_some, g30, c51]
end
end
end Go.Nw.KM
