/- That the texts make what their models say: printed by a program. -/
import Derived.Test.YtkoonfmgmgfmdaaDoorTM
set_option linter.all false
set_option linter.unusedVariables false
set_option linter.unusedSimpArgs false
set_option linter.unusedSectionVars false
namespace Go.Nw.TM
open Go.Nw.Top
set_option linter.unusedSimpArgs false
set_option linter.unusedVariables false
set_option maxHeartbeats 4000000
variable {O : Orac}
theorem d0b (hf : Has O "newel/halls.bounds" x_halls_bounds) (d0c : c7v O) (c94 : c7k O) : c7u O := by
 intro h_ open_ v_1 hs_1 h0 rr_p1 r hm0
 unfold b8h at hm0
 refine d4x hf rfl ?_
 refine b1s (fun t h => t 0 = .agg [.fs 5 (List.map b0u h_.Combs), .fs 3 (List.map b0r h_.Trains), .fs 3 (List.map b0v h_.Shifts), I h_.Until] ∧ t 1 = v_1 ∧ RR h v_1 hs_1 1 eI open_ ∧ (∀ j, j < h0.nx → h.ob j = h0.ob j) ∧ h0.nx ≤ h.nx) ⟨rfl, rfl, rr_p1, fun _ _ => rfl, Nat.le_refl _⟩ fun t h ⟨s0, s1, rr_p1, fr, fx⟩ => ?_
 simp only [x_halls_bounds]
 refine b0b fun K hK => ?_
 simp only [go_sem, s0]
 refine hK _ _ ?_
 clear hK K
 refine b0b fun K hK => ?_
 simp only [go_sem]
 refine hK _ _ ?_
 clear hK K
 refine b05 ?_
 refine b0b fun K hK => ?_
 simp only [go_sem]
 refine hK _ _ ?_
 clear hK K
 refine b0o fun K1 hK1 => ?_
 have J2 : ∀ (all_5 : List halls_bound) (v5 : AV) (t : Slots) (h : Heap), t 5 = v5 → b1k h v5 1 (List.map b23 all_5) → (∀ j, j < h0.nx → h.ob j = h0.ob j) → h0.nx ≤ h.nx → (∀ j, ¬b0c v5 j → h0.nx ≤ j) → c9p all_5 = some r → K1 t h := by
  intro all_5 v5 t h s5 Qd fr fx Qo hm0
  refine hK1 _ _ ?_
  unfold c9p at hm0
  refine b05 ?_
  refine c8w (s := 5) (v := v5) (f := b23) (l := all_5) (by simp only [go_sem, s5, b1i Qd, lA9, mA9]) (b25 Qd (by intro j hj hl; first | rfl | simp only [go_sem, hl]) (by first | omega | exact Nat.le_refl _ | (simp only [go_sem, nxs] <;> omega))) g6n j12 ?_
  skip
  refine b0b fun K hK => ?_
  simp only [go_sem, s5, b0a v5]
  refine hK _ _ ?_
  clear hK K
  simp only [b01, b03, b02, b04]
  obtain rfl := sI9 hm0
  exact d8w (Post := fun v h => v = .fs 1 (List.map b23 all_5) ∧ (∀ j, j < h0.nx → h.ob j = h0.ob j) ∧ h0.nx ≤ h.nx) (v := .fs 1 (List.map b23 all_5)) (by simp only [go_sem, b1i Qd, lA9, mA9]) ⟨rfl, (by intro j hj; first | exact fr j hj | (refine Eq.trans ?_ (fr j hj); first | rfl | simp only [go_sem, Nat.lt_of_lt_of_le hj fx, b5f Qo hj, b2k Qd (b5f Qo hj), c9i Qd (b5f Qo hj)])), (by first | exact fx | omega | (simp only [go_sem, nxs] <;> omega))⟩
 simp only [b1c]
 obtain ⟨b3, hl3, hm0⟩ := b0h hm0
 refine b1z hl3 (fun | (all_5, x_19), t, h => ∃ v1 : AV, ∃ v5 : AV, t 1 = v1 ∧ t 2 = .fp [.fs 5 (List.map b0u h_.Combs), .fs 3 (List.map b0r h_.Trains), .fs 3 (List.map b0v h_.Shifts), I h_.Until] 0 ∧ t 5 = v5 ∧ t 18 = I (List.length h_.Combs : Int) ∧ t 19 = I x_19 ∧ RR h v1 hs_1 1 eI open_ ∧ b1k h v5 1 (List.map b23 all_5) ∧ (∀ j, ¬b0c v5 j → b0n v1 hs_1 j) ∧ (∀ j, j < h0.nx → h.ob j = h0.ob j) ∧ h0.nx ≤ h.nx ∧ (∀ j, ¬b0c v5 j → h0.nx ≤ j)) ?_ ?_
 ·exact ⟨v_1, (.v (.slice none 0 0)), s1, (by first | (simp only [go_sem, lA9, mA9]; done) | rfl), (by first | (simp only [go_sem, lA9, mA9]; done) | rfl), (by first | (simp only [go_sem, lA9, mA9]; done) | rfl), (by first | (simp only [go_sem, lA9, mA9]; done) | rfl), rr_p1, c6m, b9l, fr, fx, b9l⟩
 ·rintro ⟨all_5, x_19⟩ o t h ⟨v1, v5, s1, s2, s5, s18, s19, Q8, Qd, Qg, fr, fx, Qo⟩ hm1 hb3
  simp only [c2f] at hm1
  rw [g0d]
  refine b0b fun K hK => ?_
  simp only [go_sem, s18, s19, b0a v1, b0a v5]
  refine hK _ _ ?_
  clear hK K
  refine b0o fun K4 hK4 => ?_
  simp only [go_sem]
  refine b0k (fun hc5 => ?_) (fun hc5 => ?_)
  ·rw [b00 hc5] at hm1
   simp only [b0y, b0i, b0j]
   refine hK4 _ _ ?_
   refine b0o fun K6 hK6 => ?_
   have J7 : ∀ (all_5_1 : List halls_bound) (v1_1 : AV) (i5 : Nat) (t : Slots) (h : Heap), t 1 = v1_1 → t 2 = .fp [.fs 5 (List.map b0u h_.Combs), .fs 3 (List.map b0r h_.Trains), .fs 3 (List.map b0v h_.Shifts), I h_.Until] 0 → t 5 = .rs i5 0 (List.length all_5_1) → t 18 = I (List.length h_.Combs : Int) → t 19 = I x_19 → RR h v1_1 hs_1 1 eI open_ → h.ob i5 = some (1, List.map b23 all_5_1) → i5 < h.nx → b0n v1_1 hs_1 i5 → (∀ j, j < h0.nx → h.ob j = h0.ob j) → h0.nx ≤ h.nx → h0.nx ≤ i5 → c5h x_19 all_5_1 = some o → K6 t h := by
    try clear s1 s2 s5 s18 s19 Q8 Qd Qg fr fx Qo
    intro all_5_1 v1_1 i5 t h s1 s2 s5 s18 s19 Q8 Q1i Q1e Q1q fr fx Qo hm1
    refine hK6 _ _ ?_
    unfold c5h at hm1
    refine b1m fun K hK => ?_
    simp only [go_sem, s19, Q1e, b0a v1, b0a v5, b0a v1_1]
    refine hK _ _ ?_
    clear hK K
    simp only [b0i, b0j]
    obtain rfl := sI9 hm1
    refine ⟨_, rfl, ?_⟩
    exact ⟨v1_1, (.rs i5 0 (List.length all_5_1)), s1, s2, (by first | exact s5 | simp only [go_sem, s5, lA9, mA9]), s18, (by first | (simp only [go_sem, s19, lA9, mA9]; done) | rfl), Q8, (b4f (by simp only [go_sem, Q1i, Q1e, lA9, mA9]) (by first | rfl | simp only [go_sem, lA9, mA9]) (by simp only [go_sem, Q1e])), (b9m Q1q), fr, fx, (c41 Qo)⟩
   simp only [b1c]
   refine b0b fun K hK => ?_
   simp only [go_sem, s19, b0a v1, b0a v5]
   refine hK _ _ ?_
   clear hK K
   refine b0b fun K hK => ?_
   simp only [go_sem, b0a v1, b0a v5]
   refine hK _ _ ?_
   clear hK K
   refine b05 ?_
   refine b0b fun K hK => ?_
   simp only [go_sem, s2, b0a v1, b0a v5]
   refine hK _ _ ?_
   clear hK K
   refine b0o fun K8 hK8 => ?_
   have J9 : ∀ (b_7_0 : List Int) (b_7_3 : List (List Int)) (v1_1 : AV) (v5_1 : AV) (i7 : Nat) (i7_1 : Nat) (i7_2 : Nat) (v7 : AV) (t : Slots) (h : Heap), t 1 = v1_1 → t 2 = .fp [.fs 5 (List.map b0u h_.Combs), .fs 3 (List.map b0r h_.Trains), .fs 3 (List.map b0v h_.Shifts), I h_.Until] 0 → t 5 = v5_1 → t 6 = I x_19 → t 7 = .rp i7 0 0 → t 18 = I (List.length h_.Combs : Int) → t 19 = I x_19 → RR h v1_1 hs_1 1 eI open_ → b1k h v5_1 1 (List.map b23 all_5) → h.ob i7 = some (4, [[.rs i7_1 0 (List.length b_7_0), .rs i7_2 0 (List.length ([0])), .v (.slice none 0 0), v7]]) → i7 < h.nx → h.ob i7_1 = some (1, List.map eI b_7_0) → i7_1 < h.nx → h.ob i7_2 = some (1, List.map eI ([0])) → i7_2 < h.nx → b1k h v7 1 (List.map b0s b_7_3) → (∀ j, ¬b0c v5_1 j → b0n v1_1 hs_1 j) → b0n v1_1 hs_1 i7 → b0n v1_1 hs_1 i7_1 → b0n v1_1 hs_1 i7_2 → (∀ j, ¬b0c v7 j → b0n v1_1 hs_1 j) → b0c v5_1 i7 → b0c v5_1 i7_1 → b0c v5_1 i7_2 → (∀ j, ¬b0c v5_1 j → b0c v7 j) → ¬i7 = i7_1 → ¬i7 = i7_2 → b0c v7 i7 → ¬i7_1 = i7_2 → b0c v7 i7_1 → b0c v7 i7_2 → (∀ j, j < h0.nx → h.ob j = h0.ob j) → h0.nx ≤ h.nx → (∀ j, ¬b0c v5_1 j → h0.nx ≤ j) → h0.nx ≤ i7 → h0.nx ≤ i7_1 → h0.nx ≤ i7_2 → (∀ j, ¬b0c v7 j → h0.nx ≤ j) → c5j h_ open_ all_5 x_19 b_7_0 b_7_3 = some o → K8 t h := by
    try clear s1 s2 s5 s18 s19 Q8 Qd Qg fr fx Qo
    intro b_7_0 b_7_3 v1_1 v5_1 i7 i7_1 i7_2 v7 t h s1 s2 s5 s6 s7 s18 s19 Q8 Qd Qa Q0 Qh Q2 Qi Q1 Qb Qg Q3 Q4 Q5 Qm Qc Qe Qf Qy Q6 Q7 Qj Q9 Qk Ql fr fx Qo Qt Qv Qw Qu hm1
    refine hK8 _ _ ?_
    unfold c5j at hm1
    refine b05 ?_
    refine b0b fun K hK => ?_
    simp only [go_sem, s2, Q0, Q2, Q1, b0a v1, b0a v5, b0a v1_1, b0a v5_1, b0a v7]
    refine hK _ _ ?_
    clear hK K
    refine b0o fun K10 hK10 => ?_
    have J11 : ∀ (b_7_1 : List Int) (b_7_2 : List Int) (v1_2 : AV) (i7_3 : Nat) (v7_1 : AV) (v7_2 : AV) (t : Slots) (h : Heap), t 1 = v1_2 → t 2 = .fp [.fs 5 (List.map b0u h_.Combs), .fs 3 (List.map b0r h_.Trains), .fs 3 (List.map b0v h_.Shifts), I h_.Until] 0 → t 5 = v5_1 → t 7 = .rp i7 0 0 → t 18 = I (List.length h_.Combs : Int) → t 19 = I x_19 → RR h v1_2 hs_1 1 eI open_ → b1k h v5_1 1 (List.map b23 all_5) → h.ob i7 = some (4, [[.rs i7_1 0 (List.length b_7_0), .rs i7_3 0 (List.length b_7_1), v7_1, v7_2]]) → i7 < h.nx → h.ob i7_1 = some (1, List.map eI b_7_0) → i7_1 < h.nx → h.ob i7_3 = some (1, List.map eI b_7_1) → i7_3 < h.nx → b1k h v7_1 1 (List.map eI b_7_2) → b1k h v7_2 1 (List.map b0s b_7_3) → (∀ j, ¬b0c v5_1 j → b0n v1_2 hs_1 j) → b0n v1_2 hs_1 i7 → b0n v1_2 hs_1 i7_1 → b0n v1_2 hs_1 i7_3 → (∀ j, ¬b0c v7_1 j → b0n v1_2 hs_1 j) → (∀ j, ¬b0c v7_2 j → b0n v1_2 hs_1 j) → b0c v5_1 i7 → b0c v5_1 i7_1 → b0c v5_1 i7_3 → (∀ j, ¬b0c v5_1 j → b0c v7_1 j) → (∀ j, ¬b0c v5_1 j → b0c v7_2 j) → ¬i7 = i7_1 → ¬i7 = i7_3 → b0c v7_1 i7 → b0c v7_2 i7 → ¬i7_1 = i7_3 → b0c v7_1 i7_1 → b0c v7_2 i7_1 → b0c v7_1 i7_3 → b0c v7_2 i7_3 → (∀ j, ¬b0c v7_1 j → b0c v7_2 j) → (∀ j, j < h0.nx → h.ob j = h0.ob j) → h0.nx ≤ h.nx → (∀ j, ¬b0c v5_1 j → h0.nx ≤ j) → h0.nx ≤ i7 → h0.nx ≤ i7_1 → h0.nx ≤ i7_3 → (∀ j, ¬b0c v7_1 j → h0.nx ≤ j) → (∀ j, ¬b0c v7_2 j → h0.nx ≤ j) → c5c all_5 x_19 b_7_0 b_7_3 b_7_1 b_7_2 = some o → K10 t h := by
     try clear s1 s2 s5 s6 s7 s18 s19 Q8 Qd Qa Q0 Qh Q2 Qi Q1 Qb Qg Q3 Q4 Q5 Qm Qc Qe Qf Qy Q6 Q7 Qj Q9 Qk Ql fr fx Qo Qt Qv Qw Qu
     intro b_7_1 b_7_2 v1_2 i7_3 v7_1 v7_2 t h s1 s2 s5 s7 s18 s19 Q8 Qd Qa Q0 Qh Q2 Qi Q1 Qb Qx Qg Q3 Q4 Q5 Qm Q14 Qc Qe Qf Qy Q16 Q6 Q7 Qj Qz Q9 Qk Q10 Ql Q11 Q1a fr fx Qo Qt Qv Qw Qu Q17 hm1
     refine hK10 _ _ ?_
     unfold c5c at hm1
     refine g4u (s := 7) (v := .rp i7 0 0) (y := .fp [.fs 1 (List.map eI b_7_0), .fs 1 (List.map eI b_7_1), .fs 1 (List.map eI b_7_2), .fs 1 (List.map b0s b_7_3)] 0) (fun j => j == i7 || j == i7_1 || j == i7_3 || b7w v7_1 j || b7w v7_2 j) (by simp only [go_sem, s7, b2e Q8, b1i Qd, Qa, Q0, Qh, Q2, Qi, Q1, b1i Qb, b1i Qx, b1f Q3, b1f Q4, b1f Q5, Qc, Qe, Qf, Q6, b0f Q6, Q7, b0f Q7, Qj, Qz, Q9, b0f Q9, Qk, Q10, Ql, Q11, lA9, mA9]) (d4r (id := i7) (sz := 4) (xs := [.rs i7_1 0 (List.length b_7_0), .rs i7_3 0 (List.length b_7_1), v7_1, v7_2]) (by rw [c3c (by simp)]; simp only [go_sem, b2e Q8, b1i Qd, Qa, Q0, Qh, Q2, Qi, Q1, b1i Qb, b1i Qx, b1f Q3, b1f Q4, b1f Q5, Qc, Qe, Qf, Q6, b0f Q6, Q7, b0f Q7, Qj, Qz, Q9, b0f Q9, Qk, Q10, Ql, Q11, lA9, mA9]) (.cons (c40 (f := eI) (l := b_7_0) (id := i7_1) (by rw [c3c (by simp)]; simp only [go_sem, b2e Q8, b1i Qd, Qa, Q0, Qh, Q2, Qi, Q1, b1i Qb, b1i Qx, b1f Q3, b1f Q4, b1f Q5, Qc, Qe, Qf, Q6, b0f Q6, Q7, b0f Q7, Qj, Qz, Q9, b0f Q9, Qk, Q10, Ql, Q11, lA9, mA9]) (by first | rfl | simp only [go_sem, lA9, mA9]) b2n c0n) (.cons (c40 (f := eI) (l := b_7_1) (id := i7_3) (by rw [c3c (by simp)]; simp only [go_sem, b2e Q8, b1i Qd, Qa, Q0, Qh, Q2, Qi, Q1, b1i Qb, b1i Qx, b1f Q3, b1f Q4, b1f Q5, Qc, Qe, Qf, Q6, b0f Q6, Q7, b0f Q7, Qj, Qz, Q9, b0f Q9, Qk, Q10, Ql, Q11, lA9, mA9]) (by first | rfl | simp only [go_sem, lA9, mA9]) b2n c0n) (.cons (c4z (f := eI) (l := b_7_2) (d8h (b25 Qb (by intro j hj hl; first | rfl | simp only [go_sem, hl, b1f (Qm j hj), b9h Qy j hj, b21 hj Qj, b21 hj Qk, b21 hj Ql, Q1a j hj]) (by first | omega | exact Nat.le_refl _ | (simp only [go_sem, nxs] <;> omega))) (by intro j hj; simp [c7e hj])) b2n c0n) (.cons (c4z (f := b0s) (l := b_7_3) (d8h (b25 Qx (by intro j hj hl; first | rfl | simp only [go_sem, hl, b1f (Q14 j hj), b9h Q16 j hj, b21 hj Qz, b21 hj Q10, b21 hj Q11, b9h Q1a j hj]) (by first | omega | exact Nat.le_refl _ | (simp only [go_sem, nxs] <;> omega))) (by intro j hj; simp [c7e hj])) b41 j11) (.nil)))))) (.fp _ _ (b0e (b0w fun a _ => b2n a) (b0e (b0w fun a _ => b2n a) (b0e (b0w fun a _ => b2n a) (b0e (b0w fun a _ => b41 a) b0x))))) ?_
     obtain ⟨l13, h_l13, hm1⟩ := b0h hm1
     refine b1m fun K hK => ?_
     simp only [go_sem, s5, s7, Q0, Q2, Q1, Qc, Qe, Qf, oF9, bF9, ne_eq, nF9, and_self, b2k Qb Qj, b2k Qx Qz, b2k Qb Qk, b2k Qx Q10, b2k Qb Ql, b2k Qx Q11, b0a v1, b0a v5, b0a v1_1, b0a v5_1, b0a v7, b0a v1_2, b0a v7_1, b0a v7_2]
     refine b7d (f := b23) (l := all_5) (m := ([(halls_bound.mk b_7_0 b_7_1 b_7_2 b_7_3)])) ?_ ?_ ?_ ?_ h_l13 ?_
     ·exact (b25 Qd (by intro j hj hl; first | rfl | simp only [go_sem, hl, b1f (Qg j hj), b21 hj Qc, b21 hj Qe, b21 hj Qf, Qy j hj, b2k Qb (Qy j hj), Q16 j hj, b2k Qx (Q16 j hj), oF9, bF9, ne_eq, nF9, and_self]) (by first | omega | exact Nat.le_refl _ | (simp only [go_sem, nxs] <;> omega)))
     ·exact (b8r (by simp only [go_sem, oF9, bF9, ne_eq, nF9, and_self, b2k Qb Qj, b2k Qx Qz, b2k Qb Qk, b2k Qx Q10, b2k Qb Ql, b2k Qx Q11, b2e Q8, b1i Qd, Qa, Q0, Qh, Q2, Qi, Q1, b1i Qb, b1i Qx, b1f Q3, b1f Q4, b1f Q5, Qc, Qe, Qf, Q6, b0f Q6, Q7, b0f Q7, Qj, Qz, Q9, b0f Q9, Qk, Q10, Ql, Q11, lA9, mA9]) (by simp only [go_sem, oF9, bF9, ne_eq, nF9, and_self, b2k Qb Qj, b2k Qx Qz, b2k Qb Qk, b2k Qx Q10, b2k Qb Ql, b2k Qx Q11, b2e Q8, b1i Qd, Qa, Q0, Qh, Q2, Qi, Q1, b1i Qb, b1i Qx, b1f Q3, b1f Q4, b1f Q5, Qc, Qe, Qf, Q6, b0f Q6, Q7, b0f Q7, Qj, Qz, Q9, b0f Q9, Qk, Q10, Ql, Q11, lA9, mA9]))
     ·exact (b45 (by first | exact b2i | exact b2j (by first | omega | (simp only [nxs] <;> omega)) | assumption | exact b1x (by assumption) (by first | omega | (simp only [go_sem, nxs] <;> omega))))
     ·exact (fun _ => by simp)
     simp only [go_sem, s5, s7, Q0, Q2, Q1, Qc, Qe, Qf, oF9, bF9, ne_eq, nF9, and_self, b2k Qb Qj, b2k Qx Qz, b2k Qb Qk, b2k Qx Q10, b2k Qb Ql, b2k Qx Q11, b0a v1, b0a v5, b0a v1_1, b0a v5_1, b0a v7, b0a v1_2, b0a v7_1, b0a v7_2]
     refine hK _ _ ?_
     clear hK K
     simp only [b0i, b0j]
     exact J7 l13 v1_2 (nxs h.nx) _ _ s1 s2 (by first | (simp only [go_sem, s5, lA9, mA9]; done) | rfl) s18 s19 (b3d Q8 (by intro j hj  hl; first | rfl | simp only [go_sem, hl, b7q Qg j hj, b5n hj Q3, b5n hj Q4, b5n hj Q5, b7q Qm j hj, b2k Qb (b7q Qm j hj), b7q Q14 j hj, b2k Qx (b7q Q14 j hj), oF9, bF9, ne_eq, nF9, and_self, Q0, Q2, Q1]) (by first | omega | exact Nat.le_refl _ | (simp only [go_sem, nxs] <;> omega))) (by simp only [go_sem, oF9, bF9, ne_eq, nF9, and_self, b1i Qd, Q0, Q2, Q1, b1i Qb, b1i Qx, lA9, mA9]) (by simp only [go_sem]) (by first | assumption | exact b3z Q8 (by first | assumption | omega | (simp only [nxs] <;> omega))) (by intro j hj; first | exact fr j hj | (refine Eq.trans ?_ (fr j hj); first | rfl | simp only [go_sem, Nat.lt_of_lt_of_le hj fx, b5f Qo hj, b56 Qt hj, b56 Qv hj, b56 Qw hj, b5f Qu hj, b2k Qb (b5f Qu hj), c9i Qb (b5f Qu hj), b5f Q17 hj, b2k Qx (b5f Q17 hj), c9i Qx (b5f Q17 hj), oF9, bF9, ne_eq, nF9, and_self])) (by first | exact fx | omega | (simp only [go_sem, nxs] <;> omega)) (by first | assumption | omega | (simp only [nxs] <;> omega)) hm1
    simp only [b1c]
    obtain ⟨b14, hl14, hm1⟩ := b0h hm1
    refine b1z hl14 (fun | (b_7_1, b_7_2, x_122), t, h => ∃ v1_2 : AV, ∃ i7_3 : Nat, ∃ v7_1 : AV, ∃ v7_2 : AV, t 1 = v1_2 ∧ t 2 = .fp [.fs 5 (List.map b0u h_.Combs), .fs 3 (List.map b0r h_.Trains), .fs 3 (List.map b0v h_.Shifts), I h_.Until] 0 ∧ t 5 = v5_1 ∧ t 6 = I x_19 ∧ t 7 = .rp i7 0 0 ∧ t 18 = I (List.length h_.Combs : Int) ∧ t 19 = I x_19 ∧ t 121 = I h_.Until ∧ t 122 = I x_122 ∧ RR h v1_2 hs_1 1 eI open_ ∧ b1k h v5_1 1 (List.map b23 all_5) ∧ h.ob i7 = some (4, [[.rs i7_1 0 (List.length b_7_0), .rs i7_3 0 (List.length b_7_1), v7_1, v7_2]]) ∧ i7 < h.nx ∧ h.ob i7_1 = some (1, List.map eI b_7_0) ∧ i7_1 < h.nx ∧ h.ob i7_3 = some (1, List.map eI b_7_1) ∧ i7_3 < h.nx ∧ b1k h v7_1 1 (List.map eI b_7_2) ∧ b1k h v7_2 1 (List.map b0s b_7_3) ∧ (∀ j, ¬b0c v5_1 j → b0n v1_2 hs_1 j) ∧ b0n v1_2 hs_1 i7 ∧ b0n v1_2 hs_1 i7_1 ∧ b0n v1_2 hs_1 i7_3 ∧ (∀ j, ¬b0c v7_1 j → b0n v1_2 hs_1 j) ∧ (∀ j, ¬b0c v7_2 j → b0n v1_2 hs_1 j) ∧ b0c v5_1 i7 ∧ b0c v5_1 i7_1 ∧ b0c v5_1 i7_3 ∧ (∀ j, ¬b0c v5_1 j → b0c v7_1 j) ∧ (∀ j, ¬b0c v5_1 j → b0c v7_2 j) ∧ ¬i7 = i7_1 ∧ ¬i7 = i7_3 ∧ b0c v7_1 i7 ∧ b0c v7_2 i7 ∧ ¬i7_1 = i7_3 ∧ b0c v7_1 i7_1 ∧ b0c v7_2 i7_1 ∧ b0c v7_1 i7_3 ∧ b0c v7_2 i7_3 ∧ (∀ j, ¬b0c v7_1 j → b0c v7_2 j) ∧ (∀ j, j < h0.nx → h.ob j = h0.ob j) ∧ h0.nx ≤ h.nx ∧ (∀ j, ¬b0c v5_1 j → h0.nx ≤ j) ∧ h0.nx ≤ i7 ∧ h0.nx ≤ i7_1 ∧ h0.nx ≤ i7_3 ∧ (∀ j, ¬b0c v7_1 j → h0.nx ≤ j) ∧ (∀ j, ¬b0c v7_2 j → h0.nx ≤ j)) ?_ ?_
    ·exact ⟨v1_1, i7_2, (.v (.slice none 0 0)), v7, s1, s2, s5, s6, s7, s18, s19, (by first | (simp only [go_sem, lA9, mA9]; done) | rfl), (by first | (simp only [go_sem, lA9, mA9]; done) | rfl), Q8, Qd, Qa, Q0, Qh, Q2, Qi, Q1, c6m, Qb, Qg, Q3, Q4, Q5, b9l, Qm, Qc, Qe, Qf, (by first | exact b9i | exact b9j | assumption | (refine b9k ?_; first | assumption | exact b1x (by assumption) (by first | assumption | omega | (simp only [nxs] <;> omega))) | (refine b45 ?_; first | assumption | exact b1x (by assumption) (by first | assumption | omega | (simp only [nxs] <;> omega)))), Qy, Q6, Q7, (by first | exact b2i | exact b2j (by first | assumption | omega | (simp only [nxs] <;> omega)) | assumption | exact b1x (by assumption) (by first | assumption | omega | (simp only [nxs] <;> omega))), Qj, Q9, (by first | exact b2i | exact b2j (by first | assumption | omega | (simp only [nxs] <;> omega)) | assumption | exact b1x (by assumption) (by first | assumption | omega | (simp only [nxs] <;> omega))), Qk, (by first | exact b2i | exact b2j (by first | assumption | omega | (simp only [nxs] <;> omega)) | assumption | exact b1x (by assumption) (by first | assumption | omega | (simp only [nxs] <;> omega))), Ql, (by first | exact b9i | exact b9j | assumption | (refine b9k ?_; first | assumption | exact b1x (by assumption) (by first | assumption | omega | (simp only [nxs] <;> omega))) | (refine b45 ?_; first | assumption | exact b1x (by assumption) (by first | assumption | omega | (simp only [nxs] <;> omega)))), fr, fx, Qo, Qt, Qv, Qw, b9l, Qu⟩
    ·try clear s1 s2 s5 s6 s7 s18 s19 Q8 Qd Qa Q0 Qh Q2 Qi Q1 Qb Qg Q3 Q4 Q5 Qm Qc Qe Qf Qy Q6 Q7 Qj Q9 Qk Ql fr fx Qo Qt Qv Qw Qu
     rintro ⟨b_7_1, b_7_2, x_122⟩ o t h ⟨v1_2, i7_3, v7_1, v7_2, s1, s2, s5, s6, s7, s18, s19, s121, s122, Q8, Qd, Qa, Q0, Qh, Q2, Qi, Q1, Qb, Qx, Qg, Q3, Q4, Q5, Qm, Q14, Qc, Qe, Qf, Qy, Q16, Q6, Q7, Qj, Qz, Q9, Qk, Q10, Ql, Q11, Q1a, fr, fx, Qo, Qt, Qv, Qw, Qu, Q17⟩ hm2 hb14
     simp only [b93] at hm2
     rw [g0c]
     refine b0b fun K hK => ?_
     simp only [go_sem, s121, s122, Q0, Q2, Q1, b0a v1, b0a v5, b0a v1_1, b0a v5_1, b0a v7, b0a v1_2, b0a v7_1, b0a v7_2]
     refine hK _ _ ?_
     clear hK K
     refine b0o fun K15 hK15 => ?_
     simp only [go_sem]
     refine b0k (fun hc16 => ?_) (fun hc16 => ?_)
     ·rw [b00 hc16] at hm2
      simp only [b0y, b0i, b0j]
      refine hK15 _ _ ?_
      refine b0o fun K17 hK17 => ?_
      have J18 : ∀ (b_7_1_1 : List Int) (b_7_2_1 : List Int) (v1_3 : AV) (i7_4 : Nat) (i7_5 : Nat) (v7_3 : AV) (t : Slots) (h : Heap), t 1 = v1_3 → t 2 = .fp [.fs 5 (List.map b0u h_.Combs), .fs 3 (List.map b0r h_.Trains), .fs 3 (List.map b0v h_.Shifts), I h_.Until] 0 → t 5 = v5_1 → t 6 = I x_19 → t 7 = .rp i7 0 0 → t 18 = I (List.length h_.Combs : Int) → t 19 = I x_19 → t 121 = I h_.Until → t 122 = I x_122 → RR h v1_3 hs_1 1 eI open_ → b1k h v5_1 1 (List.map b23 all_5) → h.ob i7 = some (4, [[.rs i7_1 0 (List.length b_7_0), .rs i7_4 0 (List.length b_7_1_1), .rs i7_5 0 (List.length b_7_2_1), v7_3]]) → i7 < h.nx → h.ob i7_1 = some (1, List.map eI b_7_0) → i7_1 < h.nx → h.ob i7_4 = some (1, List.map eI b_7_1_1) → i7_4 < h.nx → h.ob i7_5 = some (1, List.map eI b_7_2_1) → i7_5 < h.nx → b1k h v7_3 1 (List.map b0s b_7_3) → (∀ j, ¬b0c v5_1 j → b0n v1_3 hs_1 j) → b0n v1_3 hs_1 i7 → b0n v1_3 hs_1 i7_1 → b0n v1_3 hs_1 i7_4 → b0n v1_3 hs_1 i7_5 → (∀ j, ¬b0c v7_3 j → b0n v1_3 hs_1 j) → b0c v5_1 i7 → b0c v5_1 i7_1 → b0c v5_1 i7_4 → b0c v5_1 i7_5 → (∀ j, ¬b0c v5_1 j → b0c v7_3 j) → ¬i7 = i7_1 → ¬i7 = i7_4 → ¬i7 = i7_5 → b0c v7_3 i7 → ¬i7_1 = i7_4 → ¬i7_1 = i7_5 → b0c v7_3 i7_1 → ¬i7_4 = i7_5 → b0c v7_3 i7_4 → b0c v7_3 i7_5 → (∀ j, j < h0.nx → h.ob j = h0.ob j) → h0.nx ≤ h.nx → (∀ j, ¬b0c v5_1 j → h0.nx ≤ j) → h0.nx ≤ i7 → h0.nx ≤ i7_1 → h0.nx ≤ i7_4 → h0.nx ≤ i7_5 → (∀ j, ¬b0c v7_3 j → h0.nx ≤ j) → c5d x_122 b_7_1_1 b_7_2_1 = some o → K17 t h := by
       try clear s1 s2 s5 s6 s7 s18 s19 s121 s122 Q8 Qd Qa Q0 Qh Q2 Qi Q1 Qb Qx Qg Q3 Q4 Q5 Qm Q14 Qc Qe Qf Qy Q16 Q6 Q7 Qj Qz Q9 Qk Q10 Ql Q11 Q1a fr fx Qo Qt Qv Qw Qu Q17
       intro b_7_1_1 b_7_2_1 v1_3 i7_4 i7_5 v7_3 t h s1 s2 s5 s6 s7 s18 s19 s121 s122 Q8 Qd Qa Q0 Qh Q2 Qi Q1 Q1g Q1d Qx Qg Q3 Q4 Q5 Q1h Q14 Qc Qe Qf Q1j Q16 Q6 Q7 Q1k Qz Q9 Q1l Q10 Q1m Q11 Q1o fr fx Qo Qt Qv Qw Qu Q17 hm2
       refine hK17 _ _ ?_
       unfold c5d at hm2
       refine b1m fun K hK => ?_
       simp only [go_sem, s122, Q0, Q2, Q1, Q1d, b0a v1, b0a v5, b0a v1_1, b0a v5_1, b0a v7, b0a v1_2, b0a v7_1, b0a v7_2, b0a v1_3, b0a v7_3]
       refine hK _ _ ?_
       clear hK K
       simp only [b0i, b0j]
       obtain rfl := sI9 hm2
       refine ⟨_, rfl, ?_⟩
       exact ⟨v1_3, i7_4, (.rs i7_5 0 (List.length b_7_2_1)), v7_3, s1, s2, s5, s6, s7, s18, s19, s121, (by first | (simp only [go_sem, s122, lA9, mA9]; done) | rfl), Q8, Qd, Qa, Q0, Qh, Q2, Qi, Q1, (b4f (by simp only [go_sem, Q1g, Q1d, lA9, mA9]) (by first | rfl | simp only [go_sem, lA9, mA9]) (by simp only [go_sem, Q1d])), Qx, Qg, Q3, Q4, Q5, (b9m Q1h), Q14, Qc, Qe, Qf, (by first | exact b9i | exact b9j | assumption | (refine b9k ?_; first | assumption | exact b1x (by assumption) (by first | assumption | omega | (simp only [nxs] <;> omega))) | (refine b45 ?_; first | assumption | exact b1x (by assumption) (by first | assumption | omega | (simp only [nxs] <;> omega)))), Q16, Q6, Q7, (by first | exact b2i | exact b2j (by first | assumption | omega | (simp only [nxs] <;> omega)) | assumption | exact b1x (by assumption) (by first | assumption | omega | (simp only [nxs] <;> omega))), Qz, Q9, (by first | exact b2i | exact b2j (by first | assumption | omega | (simp only [nxs] <;> omega)) | assumption | exact b1x (by assumption) (by first | assumption | omega | (simp only [nxs] <;> omega))), Q10, (by first | exact b2i | exact b2j (by first | assumption | omega | (simp only [nxs] <;> omega)) | assumption | exact b1x (by assumption) (by first | assumption | omega | (simp only [nxs] <;> omega))), Q11, (by first | exact b9i | exact b9j | assumption | (refine b9k ?_; first | assumption | exact b1x (by assumption) (by first | assumption | omega | (simp only [nxs] <;> omega))) | (refine b45 ?_; first | assumption | exact b1x (by assumption) (by first | assumption | omega | (simp only [nxs] <;> omega)))), fr, fx, Qo, Qt, Qv, Qw, (c41 Qu), Q17⟩
      simp only [b1c]
      refine b0b fun K hK => ?_
      simp only [go_sem, s122, Q0, Q2, Q1, b0a v1, b0a v5, b0a v1_1, b0a v5_1, b0a v7, b0a v1_2, b0a v7_1, b0a v7_2]
      refine hK _ _ ?_
      clear hK K
      refine b0b fun K hK => ?_
      simp only [go_sem, Q0, Q2, Q1, b0a v1, b0a v5, b0a v1_1, b0a v5_1, b0a v7, b0a v1_2, b0a v7_1, b0a v7_2]
      refine hK _ _ ?_
      clear hK K
      refine b05 ?_
      refine b0b fun K hK => ?_
      simp only [go_sem, Q0, Q2, Q1, b0a v1, b0a v5, b0a v1_1, b0a v5_1, b0a v7, b0a v1_2, b0a v7_1, b0a v7_2]
      refine hK _ _ ?_
      clear hK K
      refine b0o fun K19 hK19 => ?_
      have J20 : ∀ (most_14 : Int) (v7_3 : AV) (t : Slots) (h : Heap), t 1 = v1_2 → t 2 = .fp [.fs 5 (List.map b0u h_.Combs), .fs 3 (List.map b0r h_.Trains), .fs 3 (List.map b0v h_.Shifts), I h_.Until] 0 → t 5 = v5_1 → t 6 = I x_19 → t 7 = .rp i7 0 0 → t 13 = I x_122 → t 14 = I most_14 → t 18 = I (List.length h_.Combs : Int) → t 19 = I x_19 → t 121 = I h_.Until → t 122 = I x_122 → RR h v1_2 hs_1 1 eI open_ → b1k h v5_1 1 (List.map b23 all_5) → h.ob i7 = some (4, [[.rs i7_1 0 (List.length b_7_0), .rs i7_3 0 (List.length b_7_1), v7_1, v7_3]]) → i7 < h.nx → h.ob i7_1 = some (1, List.map eI b_7_0) → i7_1 < h.nx → h.ob i7_3 = some (1, List.map eI b_7_1) → i7_3 < h.nx → b1k h v7_1 1 (List.map eI b_7_2) → b1k h v7_3 1 (List.map b0s b_7_3) → (∀ j, ¬b0c v5_1 j → b0n v1_2 hs_1 j) → b0n v1_2 hs_1 i7 → b0n v1_2 hs_1 i7_1 → b0n v1_2 hs_1 i7_3 → (∀ j, ¬b0c v7_1 j → b0n v1_2 hs_1 j) → (∀ j, ¬b0c v7_3 j → b0n v1_2 hs_1 j) → b0c v5_1 i7 → b0c v5_1 i7_1 → b0c v5_1 i7_3 → (∀ j, ¬b0c v5_1 j → b0c v7_1 j) → (∀ j, ¬b0c v5_1 j → b0c v7_3 j) → ¬i7 = i7_1 → ¬i7 = i7_3 → b0c v7_1 i7 → b0c v7_3 i7 → ¬i7_1 = i7_3 → b0c v7_1 i7_1 → b0c v7_3 i7_1 → b0c v7_1 i7_3 → b0c v7_3 i7_3 → (∀ j, ¬b0c v7_1 j → b0c v7_3 j) → (∀ j, j < h0.nx → h.ob j = h0.ob j) → h0.nx ≤ h.nx → (∀ j, ¬b0c v5_1 j → h0.nx ≤ j) → h0.nx ≤ i7 → h0.nx ≤ i7_1 → h0.nx ≤ i7_3 → (∀ j, ¬b0c v7_1 j → h0.nx ≤ j) → (∀ j, ¬b0c v7_3 j → h0.nx ≤ j) → c5e open_ x_19 b_7_1 b_7_2 x_122 most_14 = some o → K19 t h := by
       try clear s1 s2 s5 s6 s7 s18 s19 s121 s122 Q8 Qd Qa Q0 Qh Q2 Qi Q1 Qb Qx Qg Q3 Q4 Q5 Qm Q14 Qc Qe Qf Qy Q16 Q6 Q7 Qj Qz Q9 Qk Q10 Ql Q11 Q1a fr fx Qo Qt Qv Qw Qu Q17
       intro most_14 v7_3 t h s1 s2 s5 s6 s7 s13 s14 s18 s19 s121 s122 Q8 Qd Qa Q0 Qh Q2 Qi Q1 Qb Qx Qg Q3 Q4 Q5 Qm Q14 Qc Qe Qf Qy Q16 Q6 Q7 Qj Qz Q9 Qk Q10 Ql Q11 Q1a fr fx Qo Qt Qv Qw Qu Q17 hm2
       refine hK19 _ _ ?_
       unfold c5e at hm2
       obtain ⟨l22, h_l22, hm2⟩ := b0h hm2
       refine b0b fun K hK => ?_
       simp only [go_sem, s7, s14, Qa, Q0, Qh, Q2, Qi, Q1, Qc, Qe, Qf, Q6, b0f Q6, Q7, b0f Q7, Qj, Qz, Q9, b0f Q9, Qk, Q10, Ql, Q11, b0a v1, b0a v5, b0a v1_1, b0a v5_1, b0a v7, b0a v1_2, b0a v7_1, b0a v7_2, b0a v7_3]
       refine b7d (f := eI) (l := b_7_2) (m := ([most_14])) ?_ ?_ ?_ ?_ h_l22 ?_
       ·exact (b25 Qb (by intro j hj hl; first | rfl | simp only [go_sem, hl, b1f (Qm j hj), b9h Qy j hj, b21 hj Qj, b21 hj Qk, b21 hj Ql, Q1a j hj]) (by first | omega | exact Nat.le_refl _ | (simp only [go_sem, nxs] <;> omega)))
       ·exact (b8r (by simp only [go_sem, b2e Q8, b1i Qd, Qa, Q0, Qh, Q2, Qi, Q1, b1i Qb, b1i Qx, b1f Q3, b1f Q4, b1f Q5, Qc, Qe, Qf, Q6, b0f Q6, Q7, b0f Q7, Qj, Qz, Q9, b0f Q9, Qk, Q10, Ql, Q11, lA9, mA9]) (by simp only [go_sem, b2e Q8, b1i Qd, Qa, Q0, Qh, Q2, Qi, Q1, b1i Qb, b1i Qx, b1f Q3, b1f Q4, b1f Q5, Qc, Qe, Qf, Q6, b0f Q6, Q7, b0f Q7, Qj, Qz, Q9, b0f Q9, Qk, Q10, Ql, Q11, lA9, mA9]))
       ·exact (b45 (by first | exact b2i | exact b2j (by first | omega | (simp only [nxs] <;> omega)) | assumption | exact b1x (by assumption) (by first | omega | (simp only [go_sem, nxs] <;> omega))))
       ·exact (fun _ => by simp)
       simp only [go_sem, s7, s14, Qa, Q0, Qh, Q2, Qi, Q1, Qc, Qe, Qf, Q6, b0f Q6, Q7, b0f Q7, Qj, Qz, Q9, b0f Q9, Qk, Q10, Ql, Q11, b0a v1, b0a v5, b0a v1_1, b0a v5_1, b0a v7, b0a v1_2, b0a v7_1, b0a v7_2, b0a v7_3]
       refine hK _ _ ?_
       clear hK K
       obtain ⟨x27, h_x27, hm2⟩ := b0h hm2
       have h_x270 := b06 h_x27
       have h_x271 := b08 h_x27
       obtain ⟨x28, h_x28, hm2⟩ := b0h hm2
       have h_x280 := b06 h_x28
       have h_x281 := b08 h_x28
       obtain ⟨iqp946, rfl, Q1b, Q19⟩ := b7t Q8 h_x28
       obtain ⟨wp947, hw_wp947, os_wp947⟩ := b7s Q8 h_x28
       obtain ⟨x29, h_x29, hm2⟩ := b0h hm2
       have h_x290 := b06 h_x29
       have h_x291 := b08 h_x29
       obtain ⟨irp948, rfl, obr_irp948, ltr_irp948⟩ := b6r os_wp947 h_x29
       obtain ⟨l30, h_l30, hm2⟩ := b0h hm2
       refine b76 (fun t h => ∃ v1_3 : AV, ∃ i7_4 : Nat, ∃ i7_5 : Nat, t 1 = v1_3 ∧ t 2 = .fp [.fs 5 (List.map b0u h_.Combs), .fs 3 (List.map b0r h_.Trains), .fs 3 (List.map b0v h_.Shifts), I h_.Until] 0 ∧ t 5 = v5_1 ∧ t 6 = I x_19 ∧ t 7 = .rp i7 0 0 ∧ t 18 = I (List.length h_.Combs : Int) ∧ t 19 = I x_19 ∧ t 121 = I h_.Until ∧ t 122 = I x_122 ∧ RR h v1_3 hs_1 1 eI open_ ∧ b1k h v5_1 1 (List.map b23 all_5) ∧ h.ob i7 = some (4, [[.rs i7_1 0 (List.length b_7_0), .rs i7_4 0 (List.length l30), .rs i7_5 0 (List.length l22), v7_3]]) ∧ i7 < h.nx ∧ h.ob i7_1 = some (1, List.map eI b_7_0) ∧ i7_1 < h.nx ∧ h.ob i7_4 = some (1, List.map eI l30) ∧ i7_4 < h.nx ∧ h.ob i7_5 = some (1, List.map eI l22) ∧ i7_5 < h.nx ∧ b1k h v7_3 1 (List.map b0s b_7_3) ∧ (∀ j, ¬b0c v5_1 j → b0n v1_3 hs_1 j) ∧ b0n v1_3 hs_1 i7 ∧ b0n v1_3 hs_1 i7_1 ∧ b0n v1_3 hs_1 i7_4 ∧ b0n v1_3 hs_1 i7_5 ∧ (∀ j, ¬b0c v7_3 j → b0n v1_3 hs_1 j) ∧ b0c v5_1 i7 ∧ b0c v5_1 i7_1 ∧ b0c v5_1 i7_4 ∧ b0c v5_1 i7_5 ∧ (∀ j, ¬b0c v5_1 j → b0c v7_3 j) ∧ ¬i7 = i7_1 ∧ ¬i7 = i7_4 ∧ ¬i7 = i7_5 ∧ b0c v7_3 i7 ∧ ¬i7_1 = i7_4 ∧ ¬i7_1 = i7_5 ∧ b0c v7_3 i7_1 ∧ ¬i7_4 = i7_5 ∧ b0c v7_3 i7_4 ∧ b0c v7_3 i7_5 ∧ (∀ j, j < h0.nx → h.ob j = h0.ob j) ∧ h0.nx ≤ h.nx ∧ (∀ j, ¬b0c v5_1 j → h0.nx ≤ j) ∧ h0.nx ≤ i7 ∧ h0.nx ≤ i7_1 ∧ h0.nx ≤ i7_4 ∧ h0.nx ≤ i7_5 ∧ (∀ j, ¬b0c v7_3 j → h0.nx ≤ j)) (fun K hK => ?_) ?_
       ·simp only [go_sem, s1, b3e Q8, s6, s7, s13, s14, Q1b, Q19, Qa, Q0, Qh, Q2, Qi, Q1, b2q Qg, b2p Qg hw_wp947, b09 (Q3), b0f (b09 (Q3)), b1a (Q3) hw_wp947, b0f (b1a (Q3) hw_wp947), b09 (Q4), b0f (b09 (Q4)), b1a (Q4) hw_wp947, b0f (b1a (Q4) hw_wp947), b09 (Q5), b0f (b09 (Q5)), b1a (Q5) hw_wp947, b0f (b1a (Q5) hw_wp947), b2q Qm, b2p Qm hw_wp947, b2q Q14, b2p Q14 hw_wp947, Qc, Qe, Qf, Q6, b0f Q6, Q7, b0f Q7, Qj, Qz, Q9, b0f Q9, Qk, Q10, Ql, Q11, b0p h_x27, b0q h_x27, h_x270, h_x271, b0p h_x28, b0q h_x28, h_x280, h_x281, b0p hw_wp947, b0q hw_wp947, b48 os_wp947, b0p h_x29, b0q h_x29, h_x290, h_x291, obr_irp948, ltr_irp948, b0a v1, b0a v5, b0a v1_1, b0a v5_1, b0a v7, b0a v7_1, b0a v7_2, b0a v7_3]
        refine b7d (f := eI) (l := b_7_1) (m := ([wr (x27 + (mn most_14 x29))])) ?_ ?_ ?_ ?_ h_l30 ?_
        ·exact (b4f (by simp only [go_sem, b2e Q8, b1i Qd, Qa, Q0, Qh, Q2, Qi, Q1, b1i Qb, b1i Qx, b2q Qg, b2p Qg hw_wp947, b1f Q3, b09 (Q3), b0f (b09 (Q3)), b1a (Q3) hw_wp947, b0f (b1a (Q3) hw_wp947), b1f Q4, b09 (Q4), b0f (b09 (Q4)), b1a (Q4) hw_wp947, b0f (b1a (Q4) hw_wp947), b1f Q5, b09 (Q5), b0f (b09 (Q5)), b1a (Q5) hw_wp947, b0f (b1a (Q5) hw_wp947), b2q Qm, b2p Qm hw_wp947, b2q Q14, b2p Q14 hw_wp947, Qc, Qe, Qf, Q6, b0f Q6, Q7, b0f Q7, Qj, Qz, Q9, b0f Q9, Qk, Q10, Ql, Q11, Q1b, Q19, b3f Q8 hw_wp947, b0f (b3f Q8 hw_wp947), lA9, mA9]) (by simp only [go_sem, b2e Q8, b1i Qd, Qa, Q0, Qh, Q2, Qi, Q1, b1i Qb, b1i Qx, b2q Qg, b2p Qg hw_wp947, b1f Q3, b09 (Q3), b0f (b09 (Q3)), b1a (Q3) hw_wp947, b0f (b1a (Q3) hw_wp947), b1f Q4, b09 (Q4), b0f (b09 (Q4)), b1a (Q4) hw_wp947, b0f (b1a (Q4) hw_wp947), b1f Q5, b09 (Q5), b0f (b09 (Q5)), b1a (Q5) hw_wp947, b0f (b1a (Q5) hw_wp947), b2q Qm, b2p Qm hw_wp947, b2q Q14, b2p Q14 hw_wp947, Qc, Qe, Qf, Q6, b0f Q6, Q7, b0f Q7, Qj, Qz, Q9, b0f Q9, Qk, Q10, Ql, Q11, Q1b, Q19, b3f Q8 hw_wp947, b0f (b3f Q8 hw_wp947), lA9, mA9]) (by simp only [go_sem, Q0, Q2, Q1, Q19]))
        ·exact (b8r (by simp only [go_sem, b2e Q8, b1i Qd, Qa, Q0, Qh, Q2, Qi, Q1, b1i Qb, b1i Qx, b2q Qg, b2p Qg hw_wp947, b1f Q3, b09 (Q3), b0f (b09 (Q3)), b1a (Q3) hw_wp947, b0f (b1a (Q3) hw_wp947), b1f Q4, b09 (Q4), b0f (b09 (Q4)), b1a (Q4) hw_wp947, b0f (b1a (Q4) hw_wp947), b1f Q5, b09 (Q5), b0f (b09 (Q5)), b1a (Q5) hw_wp947, b0f (b1a (Q5) hw_wp947), b2q Qm, b2p Qm hw_wp947, b2q Q14, b2p Q14 hw_wp947, Qc, Qe, Qf, Q6, b0f Q6, Q7, b0f Q7, Qj, Qz, Q9, b0f Q9, Qk, Q10, Ql, Q11, Q1b, Q19, b3f Q8 hw_wp947, b0f (b3f Q8 hw_wp947), lA9, mA9]) (by simp only [go_sem, b2e Q8, b1i Qd, Qa, Q0, Qh, Q2, Qi, Q1, b1i Qb, b1i Qx, b2q Qg, b2p Qg hw_wp947, b1f Q3, b09 (Q3), b0f (b09 (Q3)), b1a (Q3) hw_wp947, b0f (b1a (Q3) hw_wp947), b1f Q4, b09 (Q4), b0f (b09 (Q4)), b1a (Q4) hw_wp947, b0f (b1a (Q4) hw_wp947), b1f Q5, b09 (Q5), b0f (b09 (Q5)), b1a (Q5) hw_wp947, b0f (b1a (Q5) hw_wp947), b2q Qm, b2p Qm hw_wp947, b2q Q14, b2p Q14 hw_wp947, Qc, Qe, Qf, Q6, b0f Q6, Q7, b0f Q7, Qj, Qz, Q9, b0f Q9, Qk, Q10, Ql, Q11, Q1b, Q19, b3f Q8 hw_wp947, b0f (b3f Q8 hw_wp947), lA9, mA9]))
        ·exact (b45 (by first | exact b2i | exact b2j (by first | omega | (simp only [nxs] <;> omega)) | assumption | exact b1x (by assumption) (by first | omega | (simp only [go_sem, nxs] <;> omega))))
        ·exact (fun _ => by simp)
        simp only [go_sem, s1, b3e Q8, s6, s7, s13, s14, Q1b, Q19, Qa, Q0, Qh, Q2, Qi, Q1, b2q Qg, b2p Qg hw_wp947, b09 (Q3), b0f (b09 (Q3)), b1a (Q3) hw_wp947, b0f (b1a (Q3) hw_wp947), b09 (Q4), b0f (b09 (Q4)), b1a (Q4) hw_wp947, b0f (b1a (Q4) hw_wp947), b09 (Q5), b0f (b09 (Q5)), b1a (Q5) hw_wp947, b0f (b1a (Q5) hw_wp947), b2q Qm, b2p Qm hw_wp947, b2q Q14, b2p Q14 hw_wp947, Qc, Qe, Qf, Q6, b0f Q6, Q7, b0f Q7, Qj, Qz, Q9, b0f Q9, Qk, Q10, Ql, Q11, b0p h_x27, b0q h_x27, h_x270, h_x271, b0p h_x28, b0q h_x28, h_x280, h_x281, b0p hw_wp947, b0q hw_wp947, b48 os_wp947, b0p h_x29, b0q h_x29, h_x290, h_x291, obr_irp948, ltr_irp948, b0a v1, b0a v5, b0a v1_1, b0a v5_1, b0a v7, b0a v7_1, b0a v7_2, b0a v7_3]
        exact hK _ _ ⟨(.rs iqp946 0 (List.length open_)), (nxs (nxs (nxs h.nx))), (nxs h.nx), (by first | (simp only [go_sem, s1, lA9, mA9]; done) | rfl), s2, s5, s6, s7, s18, s19, s121, s122, (b3d Q8 (by intro j hj  hl; first | rfl | simp only [go_sem, hl, b5n hj Q3, b5n hj Q5, b7q Qm j hj, Q0, Q1]) (by first | omega | exact Nat.le_refl _ | (simp only [go_sem, nxs] <;> omega))), (b25 Qd (by intro j hj hl; first | rfl | simp only [go_sem, hl, Q0, Q1, b21 hj Qc, b21 hj Qf, Qy j hj]) (by first | omega | exact Nat.le_refl _ | (simp only [go_sem, nxs] <;> omega))), (by simp only [go_sem, Qa, Q0, Q1, b1i Qb, Q7, b0f Q7, Qj, lA9, mA9]), (by simp only [go_sem, Q0]), (by simp only [go_sem, Q0, Qh, Q2, Q1, b1i Qb, Q6, b0f Q6, Q9, b0f Q9, Qk, lA9, mA9]), (by simp only [go_sem, Q2]), (by simp only [go_sem, Q0, Q1, b1i Qb, lA9, mA9]), (by simp only [go_sem]), (by simp only [go_sem, Q0, Q1, b1i Qb, lA9, mA9]), (by simp only [go_sem]), (b25 Qx (by intro j hj hl; first | rfl | simp only [go_sem, hl, Q0, Q1, b21 hj Qz, b21 hj Q11, b9h Q1a j hj]) (by first | omega | exact Nat.le_refl _ | (simp only [go_sem, nxs] <;> omega))), Qg, Q3, Q4, (by first | assumption | exact b3z Q8 (by first | assumption | omega | (simp only [nxs] <;> omega))), (by first | assumption | exact b3z Q8 (by first | assumption | omega | (simp only [nxs] <;> omega))), Q14, Qc, Qe, (by first | exact b2i | exact b2j (by first | assumption | omega | (simp only [nxs] <;> omega)) | assumption | exact b1x (by assumption) (by first | assumption | omega | (simp only [nxs] <;> omega))), (by first | exact b2i | exact b2j (by first | assumption | omega | (simp only [nxs] <;> omega)) | assumption | exact b1x (by assumption) (by first | assumption | omega | (simp only [nxs] <;> omega))), Q16, Q6, (by first | first | assumption | omega | (simp only [nxs] <;> omega)), (by first | first | assumption | omega | (simp only [nxs] <;> omega)), Qz, (by first | first | assumption | omega | (simp only [nxs] <;> omega)), (by first | first | assumption | omega | (simp only [nxs] <;> omega)), Q10, (by first | first | assumption | omega | (simp only [nxs] <;> omega)), (by first | exact b2i | exact b2j (by first | assumption | omega | (simp only [nxs] <;> omega)) | assumption | exact b1x (by assumption) (by first | assumption | omega | (simp only [nxs] <;> omega))), (by first | exact b2i | exact b2j (by first | assumption | omega | (simp only [nxs] <;> omega)) | assumption | exact b1x (by assumption) (by first | assumption | omega | (simp only [nxs] <;> omega))), (by intro j hj; first | exact fr j hj | (refine Eq.trans ?_ (fr j hj); first | rfl | simp only [go_sem, Nat.lt_of_lt_of_le hj fx, b56 Qt hj, b56 Qw hj, b5f Qu hj])), (by first | exact fx | omega | (simp only [go_sem, nxs] <;> omega)), Qo, Qt, Qv, (by first | assumption | omega | (simp only [nxs] <;> omega)), (by first | assumption | omega | (simp only [nxs] <;> omega)), Q17⟩
       ·try clear s1 s2 s5 s6 s7 s13 s14 s18 s19 s121 s122 Q8 Qd Qa Q0 Qh Q2 Qi Q1 Qb Qx Qg Q3 Q4 Q5 Qm Q14 Qc Qe Qf Qy Q16 Q6 Q7 Qj Qz Q9 Qk Q10 Ql Q11 Q1a fr fx Qo Qt Qv Qw Qu Q17 Q1b Q19
        rintro t h ⟨v1_3, i7_4, i7_5, s1, s2, s5, s6, s7, s18, s19, s121, s122, Q8, Qd, Qa, Q0, Qh, Q2, Qi, Q1, Q1g, Q1d, Qx, Qg, Q3, Q4, Q5, Q1h, Q14, Qc, Qe, Qf, Q1j, Q16, Q6, Q7, Q1k, Qz, Q9, Q1l, Q10, Q1m, Q11, Q1o, fr, fx, Qo, Qt, Qv, Qw, Qu, Q17⟩
        simp only [b0i, b0j]
        exact J18 l30 l22 v1_3 i7_4 i7_5 v7_3 _ _ s1 s2 s5 s6 s7 s18 s19 s121 s122 Q8 Qd Qa Q0 Qh Q2 Qi Q1 Q1g Q1d Qx Qg Q3 Q4 Q5 Q1h Q14 Qc Qe Qf Q1j Q16 Q6 Q7 Q1k Qz Q9 Q1l Q10 Q1m Q11 Q1o fr fx Qo Qt Qv Qw Qu Q17 hm2
      simp only [b1c]
      obtain ⟨b31, hl31, hm2⟩ := b0h hm2
      refine b1z hl31 (fun | (most_14, x_127), t, h => ∃ v7_3 : AV, t 1 = v1_2 ∧ t 2 = .fp [.fs 5 (List.map b0u h_.Combs), .fs 3 (List.map b0r h_.Trains), .fs 3 (List.map b0v h_.Shifts), I h_.Until] 0 ∧ t 5 = v5_1 ∧ t 6 = I x_19 ∧ t 7 = .rp i7 0 0 ∧ t 13 = I x_122 ∧ t 14 = I most_14 ∧ t 18 = I (List.length h_.Combs : Int) ∧ t 19 = I x_19 ∧ t 121 = I h_.Until ∧ t 122 = I x_122 ∧ t 126 = I (wr (x_122 + 1)) ∧ t 127 = I x_127 ∧ RR h v1_2 hs_1 1 eI open_ ∧ b1k h v5_1 1 (List.map b23 all_5) ∧ h.ob i7 = some (4, [[.rs i7_1 0 (List.length b_7_0), .rs i7_3 0 (List.length b_7_1), v7_1, v7_3]]) ∧ i7 < h.nx ∧ h.ob i7_1 = some (1, List.map eI b_7_0) ∧ i7_1 < h.nx ∧ h.ob i7_3 = some (1, List.map eI b_7_1) ∧ i7_3 < h.nx ∧ b1k h v7_1 1 (List.map eI b_7_2) ∧ b1k h v7_3 1 (List.map b0s b_7_3) ∧ (∀ j, ¬b0c v5_1 j → b0n v1_2 hs_1 j) ∧ b0n v1_2 hs_1 i7 ∧ b0n v1_2 hs_1 i7_1 ∧ b0n v1_2 hs_1 i7_3 ∧ (∀ j, ¬b0c v7_1 j → b0n v1_2 hs_1 j) ∧ (∀ j, ¬b0c v7_3 j → b0n v1_2 hs_1 j) ∧ b0c v5_1 i7 ∧ b0c v5_1 i7_1 ∧ b0c v5_1 i7_3 ∧ (∀ j, ¬b0c v5_1 j → b0c v7_1 j) ∧ (∀ j, ¬b0c v5_1 j → b0c v7_3 j) ∧ ¬i7 = i7_1 ∧ ¬i7 = i7_3 ∧ b0c v7_1 i7 ∧ b0c v7_3 i7 ∧ ¬i7_1 = i7_3 ∧ b0c v7_1 i7_1 ∧ b0c v7_3 i7_1 ∧ b0c v7_1 i7_3 ∧ b0c v7_3 i7_3 ∧ (∀ j, ¬b0c v7_1 j → b0c v7_3 j) ∧ (∀ j, j < h0.nx → h.ob j = h0.ob j) ∧ h0.nx ≤ h.nx ∧ (∀ j, ¬b0c v5_1 j → h0.nx ≤ j) ∧ h0.nx ≤ i7 ∧ h0.nx ≤ i7_1 ∧ h0.nx ≤ i7_3 ∧ (∀ j, ¬b0c v7_1 j → h0.nx ≤ j) ∧ (∀ j, ¬b0c v7_3 j → h0.nx ≤ j)) ?_ ?_
      ·exact ⟨v7_2, s1, s2, s5, s6, s7, (by first | (simp only [go_sem, lA9, mA9]; done) | rfl), (by first | (simp only [go_sem, lA9, mA9]; done) | rfl), s18, s19, s121, s122, (by first | (simp only [go_sem, lA9, mA9]; done) | rfl), (by first | (simp only [go_sem, lA9, mA9]; done) | rfl), Q8, Qd, Qa, Q0, Qh, Q2, Qi, Q1, Qb, Qx, Qg, Q3, Q4, Q5, Qm, Q14, Qc, Qe, Qf, Qy, Q16, Q6, Q7, Qj, Qz, Q9, Qk, Q10, Ql, Q11, Q1a, fr, fx, Qo, Qt, Qv, Qw, Qu, Q17⟩
      ·try clear s1 s2 s5 s6 s7 s18 s19 s121 s122 Q8 Qd Qa Q0 Qh Q2 Qi Q1 Qb Qx Qg Q3 Q4 Q5 Qm Q14 Qc Qe Qf Qy Q16 Q6 Q7 Qj Qz Q9 Qk Q10 Ql Q11 Q1a fr fx Qo Qt Qv Qw Qu Q17
       rintro ⟨most_14, x_127⟩ o t h ⟨v7_3, s1, s2, s5, s6, s7, s13, s14, s18, s19, s121, s122, s126, s127, Q8, Qd, Qa, Q0, Qh, Q2, Qi, Q1, Qb, Qx, Qg, Q3, Q4, Q5, Qm, Q14, Qc, Qe, Qf, Qy, Q16, Q6, Q7, Qj, Qz, Q9, Qk, Q10, Ql, Q11, Q1a, fr, fx, Qo, Qt, Qv, Qw, Qu, Q17⟩ hm3 hb31
       simp only [b92] at hm3
       rw [g0b]
       refine b0b fun K hK => ?_
       simp only [go_sem, s126, s127, Q0, Q2, Q1, b0a v1, b0a v5, b0a v1_1, b0a v5_1, b0a v7, b0a v1_2, b0a v7_1, b0a v7_2, b0a v7_3]
       refine hK _ _ ?_
       clear hK K
       refine b0o fun K32 hK32 => ?_
       simp only [go_sem]
       refine b0k (fun hc33 => ?_) (fun hc33 => ?_)
       ·rw [b00 hc33] at hm3
        simp only [b0y, b0i, b0j]
        refine hK32 _ _ ?_
        refine b0o fun K34 hK34 => ?_
        simp only [b1c]
        refine b0b fun K hK => ?_
        simp only [go_sem, s127, Q0, Q2, Q1, b0a v1, b0a v5, b0a v1_1, b0a v5_1, b0a v7, b0a v1_2, b0a v7_1, b0a v7_2, b0a v7_3]
        refine hK _ _ ?_
        clear hK K
        obtain ⟨x40, h_x40, hm3⟩ := b0h hm3
        have h_x400 := b06 h_x40
        have h_x401 := b08 h_x40
        obtain ⟨iq41, rfl, Q1p, Q1n⟩ := b6r Qx h_x40
        obtain ⟨x42, h_x42, hm3⟩ := b0h hm3
        have h_x420 := b06 h_x42
        have h_x421 := b08 h_x42
        obtain ⟨x43, h_x43, hm3⟩ := b0h hm3
        have h_x430 := b06 h_x43
        have h_x431 := b08 h_x43
        obtain ⟨x44, h_x44, hm3⟩ := b0h hm3
        have h_x440 := b06 h_x44
        have h_x441 := b08 h_x44
        refine b1m fun K hK => ?_
        simp only [go_sem, s7, s13, s14, Qa, Q0, Qh, Q2, Qi, Q1, Q1p, Q1n, Qc, Qe, Qf, Q6, b0f Q6, Q7, b0f Q7, Qj, Qz, Q9, b0f Q9, Qk, Q10, Ql, Q11, b0p h_x40, b0q h_x40, h_x400, h_x401, b0p h_x42, b0q h_x42, h_x420, h_x421, b0p h_x43, b0q h_x43, h_x430, h_x431, b0p h_x44, b0q h_x44, h_x440, h_x441, b0a v1, b0a v5, b0a v1_1, b0a v5_1, b0a v7, b0a v1_2, b0a v7_1, b0a v7_2]
        refine hK _ _ ?_
        clear hK K
        simp only [b0i, b0j]
        refine hK34 _ _ ?_
        refine b1m fun K hK => ?_
        simp only [go_sem, s127, Q0, Q2, Q1, Q1n, b0a v1, b0a v5, b0a v1_1, b0a v5_1, b0a v7, b0a v1_2, b0a v7_1, b0a v7_2]
        refine hK _ _ ?_
        clear hK K
        simp only [b0i, b0j]
        obtain rfl := sI9 hm3
        refine ⟨_, rfl, ?_⟩
        exact ⟨(.rs iq41 0 (List.length b_7_3)), s1, s2, s5, s6, s7, s13, (by first | (simp only [go_sem, s14, lA9, mA9]; done) | rfl), s18, s19, s121, s122, s126, (by first | (simp only [go_sem, s127, lA9, mA9]; done) | rfl), Q8, Qd, (by simp only [go_sem, Qa, Q0, lA9, mA9]), (by simp only [go_sem, Q0]), Qh, Q2, Qi, Q1, Qb, (b4f (by simp only [go_sem, Q1p, Q1n, lA9, mA9]) (by first | rfl | simp only [go_sem, lA9, mA9]) (by simp only [go_sem, Q1n])), Qg, Q3, Q4, Q5, Qm, Q14, Qc, Qe, Qf, Qy, Q16, Q6, Q7, Qj, Qz, Q9, Qk, Q10, Ql, Q11, Q1a, fr, fx, Qo, Qt, Qv, Qw, Qu, Q17⟩
       ·rw [b0z hc33] at hm3
        simp only [b1t, b1w, b1v, b1u, b0i, b0j, Nat.reduceEqDiff, nF9]
        obtain rfl := sI9 hm3
        obtain rfl := hb31 _ rfl
        try dsimp only at hm2
        exact J20 most_14 v7_3 _ _ s1 s2 s5 s6 s7 s13 s14 s18 s19 s121 s122 Q8 Qd Qa Q0 Qh Q2 Qi Q1 Qb Qx Qg Q3 Q4 Q5 Qm Q14 Qc Qe Qf Qy Q16 Q6 Q7 Qj Qz Q9 Qk Q10 Ql Q11 Q1a fr fx Qo Qt Qv Qw Qu Q17 hm2
     ·rw [b0z hc16] at hm2
      simp only [b1t, b1w, b1v, b1u, b0i, b0j, Nat.reduceEqDiff, nF9]
      obtain rfl := sI9 hm2
      obtain rfl := hb14 _ rfl
      try dsimp only at hm1
      exact J11 b_7_1 b_7_2 v1_2 i7_3 v7_1 v7_2 _ _ s1 s2 s5 s7 s18 s19 Q8 Qd Qa Q0 Qh Q2 Qi Q1 Qb Qx Qg Q3 Q4 Q5 Qm Q14 Qc Qe Qf Qy Q16 Q6 Q7 Qj Qz Q9 Qk Q10 Ql Q11 Q1a fr fx Qo Qt Qv Qw Qu Q17 hm1
   simp only [b1c]
   obtain ⟨b47, hl47, hm1⟩ := b0h hm1
   refine b1z hl47 (fun | (b_7_0, b_7_3, x_28), t, h => ∃ v1_1 : AV, ∃ v5_1 : AV, ∃ i7 : Nat, ∃ i7_1 : Nat, ∃ i7_2 : Nat, ∃ v7 : AV, t 1 = v1_1 ∧ t 2 = .fp [.fs 5 (List.map b0u h_.Combs), .fs 3 (List.map b0r h_.Trains), .fs 3 (List.map b0v h_.Shifts), I h_.Until] 0 ∧ t 5 = v5_1 ∧ t 6 = I x_19 ∧ t 7 = .rp i7 0 0 ∧ t 18 = I (List.length h_.Combs : Int) ∧ t 19 = I x_19 ∧ t 27 = I h_.Until ∧ t 28 = I x_28 ∧ RR h v1_1 hs_1 1 eI open_ ∧ b1k h v5_1 1 (List.map b23 all_5) ∧ h.ob i7 = some (4, [[.rs i7_1 0 (List.length b_7_0), .rs i7_2 0 (List.length ([0])), .v (.slice none 0 0), v7]]) ∧ i7 < h.nx ∧ h.ob i7_1 = some (1, List.map eI b_7_0) ∧ i7_1 < h.nx ∧ h.ob i7_2 = some (1, List.map eI ([0])) ∧ i7_2 < h.nx ∧ b1k h v7 1 (List.map b0s b_7_3) ∧ (∀ j, ¬b0c v5_1 j → b0n v1_1 hs_1 j) ∧ b0n v1_1 hs_1 i7 ∧ b0n v1_1 hs_1 i7_1 ∧ b0n v1_1 hs_1 i7_2 ∧ (∀ j, ¬b0c v7 j → b0n v1_1 hs_1 j) ∧ b0c v5_1 i7 ∧ b0c v5_1 i7_1 ∧ b0c v5_1 i7_2 ∧ (∀ j, ¬b0c v5_1 j → b0c v7 j) ∧ ¬i7 = i7_1 ∧ ¬i7 = i7_2 ∧ b0c v7 i7 ∧ ¬i7_1 = i7_2 ∧ b0c v7 i7_1 ∧ b0c v7 i7_2 ∧ (∀ j, j < h0.nx → h.ob j = h0.ob j) ∧ h0.nx ≤ h.nx ∧ (∀ j, ¬b0c v5_1 j → h0.nx ≤ j) ∧ h0.nx ≤ i7 ∧ h0.nx ≤ i7_1 ∧ h0.nx ≤ i7_2 ∧ (∀ j, ¬b0c v7 j → h0.nx ≤ j)) ?_ ?_
   ·exact ⟨v1, v5, (nxs (nxs h.nx)), h.nx, (nxs h.nx), (.v (.slice none 0 0)), s1, s2, s5, (by first | (simp only [go_sem, lA9, mA9]; done) | rfl), (by first | (simp only [go_sem, lA9, mA9]; done) | rfl), s18, s19, (by first | (simp only [go_sem, lA9, mA9]; done) | rfl), (by first | (simp only [go_sem, lA9, mA9]; done) | rfl), (b3d Q8 (by intro j hj  hl; first | rfl | simp only [go_sem, hl]) (by first | omega | exact Nat.le_refl _ | (simp only [go_sem, nxs] <;> omega))), (b25 Qd (by intro j hj hl; first | rfl | simp only [go_sem, hl]) (by first | omega | exact Nat.le_refl _ | (simp only [go_sem, nxs] <;> omega))), (by simp only [go_sem, lA9, mA9]), (by simp only [go_sem]), (by simp only [go_sem, lA9, mA9]), (by simp only [go_sem]), (by simp only [go_sem, lA9, mA9]), (by simp only [go_sem]), c6m, Qg, (by first | assumption | exact b3z Q8 (by first | assumption | omega | (simp only [nxs] <;> omega))), (by first | assumption | exact b3z Q8 (by first | assumption | omega | (simp only [nxs] <;> omega))), (by first | assumption | exact b3z Q8 (by first | assumption | omega | (simp only [nxs] <;> omega))), b9l, (by first | exact b2i | exact b2j (by first | assumption | omega | (simp only [nxs] <;> omega)) | assumption | exact b1x (by assumption) (by first | assumption | omega | (simp only [nxs] <;> omega))), (by first | exact b2i | exact b2j (by first | assumption | omega | (simp only [nxs] <;> omega)) | assumption | exact b1x (by assumption) (by first | assumption | omega | (simp only [nxs] <;> omega))), (by first | exact b2i | exact b2j (by first | assumption | omega | (simp only [nxs] <;> omega)) | assumption | exact b1x (by assumption) (by first | assumption | omega | (simp only [nxs] <;> omega))), (by first | exact b9i | exact b9j | assumption | (refine b9k ?_; first | assumption | exact b1x (by assumption) (by first | assumption | omega | (simp only [nxs] <;> omega))) | (refine b45 ?_; first | assumption | exact b1x (by assumption) (by first | assumption | omega | (simp only [nxs] <;> omega)))), (by first | first | assumption | omega | (simp only [nxs] <;> omega)), (by first | first | assumption | omega | (simp only [nxs] <;> omega)), (by first | exact b2i | exact b2j (by first | assumption | omega | (simp only [nxs] <;> omega)) | assumption | exact b1x (by assumption) (by first | assumption | omega | (simp only [nxs] <;> omega))), (by first | first | assumption | omega | (simp only [nxs] <;> omega)), (by first | exact b2i | exact b2j (by first | assumption | omega | (simp only [nxs] <;> omega)) | assumption | exact b1x (by assumption) (by first | assumption | omega | (simp only [nxs] <;> omega))), (by first | exact b2i | exact b2j (by first | assumption | omega | (simp only [nxs] <;> omega)) | assumption | exact b1x (by assumption) (by first | assumption | omega | (simp only [nxs] <;> omega))), (by intro j hj; first | exact fr j hj | (refine Eq.trans ?_ (fr j hj); first | rfl | simp only [go_sem, Nat.lt_of_lt_of_le hj fx])), (by first | exact fx | omega | (simp only [go_sem, nxs] <;> omega)), Qo, (by first | assumption | omega | (simp only [nxs] <;> omega)), (by first | assumption | omega | (simp only [nxs] <;> omega)), (by first | assumption | omega | (simp only [nxs] <;> omega)), b9l⟩
   ·try clear s1 s2 s5 s18 s19 Q8 Qd Qg fr fx Qo
    rintro ⟨b_7_0, b_7_3, x_28⟩ o t h ⟨v1_1, v5_1, i7, i7_1, i7_2, v7, s1, s2, s5, s6, s7, s18, s19, s27, s28, Q8, Qd, Qa, Q0, Qh, Q2, Qi, Q1, Qb, Qg, Q3, Q4, Q5, Qm, Qc, Qe, Qf, Qy, Q6, Q7, Qj, Q9, Qk, Ql, fr, fx, Qo, Qt, Qv, Qw, Qu⟩ hm2 hb47
    simp only [b91] at hm2
    rw [g0a]
    refine b0b fun K hK => ?_
    simp only [go_sem, s27, s28, Q0, Q2, Q1, b0a v1, b0a v5, b0a v1_1, b0a v5_1, b0a v7]
    refine hK _ _ ?_
    clear hK K
    refine b0o fun K48 hK48 => ?_
    simp only [go_sem]
    refine b0k (fun hc49 => ?_) (fun hc49 => ?_)
    ·rw [b00 hc49] at hm2
     simp only [b0y, b0i, b0j]
     refine hK48 _ _ ?_
     refine b0o fun K50 hK50 => ?_
     have J51 : ∀ (b_7_0_1 : List Int) (b_7_3_1 : List (List Int)) (v1_2 : AV) (v5_2 : AV) (i7_3 : Nat) (i7_4 : Nat) (t : Slots) (h : Heap), t 1 = v1_2 → t 2 = .fp [.fs 5 (List.map b0u h_.Combs), .fs 3 (List.map b0r h_.Trains), .fs 3 (List.map b0v h_.Shifts), I h_.Until] 0 → t 5 = v5_2 → t 6 = I x_19 → t 7 = .rp i7 0 0 → t 18 = I (List.length h_.Combs : Int) → t 19 = I x_19 → t 27 = I h_.Until → t 28 = I x_28 → RR h v1_2 hs_1 1 eI open_ → b1k h v5_2 1 (List.map b23 all_5) → h.ob i7 = some (4, [[.rs i7_3 0 (List.length b_7_0_1), .rs i7_2 0 (List.length ([0])), .v (.slice none 0 0), .rs i7_4 0 (List.length b_7_3_1)]]) → i7 < h.nx → h.ob i7_3 = some (1, List.map eI b_7_0_1) → i7_3 < h.nx → h.ob i7_2 = some (1, List.map eI ([0])) → i7_2 < h.nx → h.ob i7_4 = some (1, List.map b0s b_7_3_1) → i7_4 < h.nx → (∀ j, ¬b0c v5_2 j → b0n v1_2 hs_1 j) → b0n v1_2 hs_1 i7 → b0n v1_2 hs_1 i7_3 → b0n v1_2 hs_1 i7_2 → b0n v1_2 hs_1 i7_4 → b0c v5_2 i7 → b0c v5_2 i7_3 → b0c v5_2 i7_2 → b0c v5_2 i7_4 → ¬i7 = i7_3 → ¬i7 = i7_2 → ¬i7 = i7_4 → ¬i7_3 = i7_2 → ¬i7_3 = i7_4 → ¬i7_2 = i7_4 → (∀ j, j < h0.nx → h.ob j = h0.ob j) → h0.nx ≤ h.nx → (∀ j, ¬b0c v5_2 j → h0.nx ≤ j) → h0.nx ≤ i7 → h0.nx ≤ i7_3 → h0.nx ≤ i7_2 → h0.nx ≤ i7_4 → c5f x_28 b_7_0_1 b_7_3_1 = some o → K50 t h := by
      try clear s1 s2 s5 s6 s7 s18 s19 s27 s28 Q8 Qd Qa Q0 Qh Q2 Qi Q1 Qb Qg Q3 Q4 Q5 Qm Qc Qe Qf Qy Q6 Q7 Qj Q9 Qk Ql fr fx Qo Qt Qv Qw Qu
      intro b_7_0_1 b_7_3_1 v1_2 v5_2 i7_3 i7_4 t h s1 s2 s5 s6 s7 s18 s19 s27 s28 Q8 Qd Qa Q0 Qh Q2 Qi Q1 Q1g Q1d Qg Q3 Q4 Q5 Q1h Qc Qe Qf Q1j Q6 Q7 Q1k Q9 Q1l Q1m fr fx Qo Qt Qv Qw Qu hm2
      refine hK50 _ _ ?_
      unfold c5f at hm2
      refine b1m fun K hK => ?_
      simp only [go_sem, s28, Q0, Q2, Q1, Q1d, b0a v1, b0a v5, b0a v1_1, b0a v5_1, b0a v7, b0a v1_2, b0a v5_2]
      refine hK _ _ ?_
      clear hK K
      simp only [b0i, b0j]
      obtain rfl := sI9 hm2
      refine ⟨_, rfl, ?_⟩
      exact ⟨v1_2, v5_2, i7, i7_3, i7_2, (.rs i7_4 0 (List.length b_7_3_1)), s1, s2, s5, s6, s7, s18, s19, s27, (by first | (simp only [go_sem, s28, lA9, mA9]; done) | rfl), Q8, Qd, Qa, Q0, Qh, Q2, Qi, Q1, (b4f (by simp only [go_sem, Q1g, Q1d, lA9, mA9]) (by first | rfl | simp only [go_sem, lA9, mA9]) (by simp only [go_sem, Q1d])), Qg, Q3, Q4, Q5, (b9m Q1h), Qc, Qe, Qf, (by first | exact b9i | exact b9j | assumption | (refine b9k ?_; first | assumption | exact b1x (by assumption) (by first | assumption | omega | (simp only [nxs] <;> omega))) | (refine b45 ?_; first | assumption | exact b1x (by assumption) (by first | assumption | omega | (simp only [nxs] <;> omega)))), Q6, Q7, (by first | exact b2i | exact b2j (by first | assumption | omega | (simp only [nxs] <;> omega)) | assumption | exact b1x (by assumption) (by first | assumption | omega | (simp only [nxs] <;> omega))), Q9, (by first | exact b2i | exact b2j (by first | assumption | omega | (simp only [nxs] <;> omega)) | assumption | exact b1x (by assumption) (by first | assumption | omega | (simp only [nxs] <;> omega))), (by first | exact b2i | exact b2j (by first | assumption | omega | (simp only [nxs] <;> omega)) | assumption | exact b1x (by assumption) (by first | assumption | omega | (simp only [nxs] <;> omega))), fr, fx, Qo, Qt, Qv, Qw, (c41 Qu)⟩
     simp only [b1c]
     refine b0b fun K hK => ?_
     simp only [go_sem, s28, Q0, Q2, Q1, b0a v1, b0a v5, b0a v1_1, b0a v5_1, b0a v7]
     refine hK _ _ ?_
     clear hK K
     obtain ⟨l53, h_l53, hm2⟩ := b0h hm2
     refine b0b fun K hK => ?_
     simp only [go_sem, s2, Q0, Q2, Q1, b0a v1, b0a v5, b0a v1_1, b0a v5_1, b0a v7]
     refine c5y (f := eI) (z := 0) rfl h_l53 ?_
     simp only [go_sem, s2, Q0, Q2, Q1, b0a v1, b0a v5, b0a v1_1, b0a v5_1, b0a v7]
     refine hK _ _ ?_
     clear hK K
     refine b05 ?_
     refine b0b fun K hK => ?_
     simp only [go_sem, Q0, Q2, Q1, b0a v1, b0a v5, b0a v1_1, b0a v5_1, b0a v7]
     refine hK _ _ ?_
     clear hK K
     refine b0o fun K54 hK54 => ?_
     have J55 : ∀ (row_9 : List Int) (v5_2 : AV) (i9 : Nat) (t : Slots) (h : Heap), t 1 = v1_1 → t 2 = .fp [.fs 5 (List.map b0u h_.Combs), .fs 3 (List.map b0r h_.Trains), .fs 3 (List.map b0v h_.Shifts), I h_.Until] 0 → t 5 = v5_2 → t 6 = I x_19 → t 7 = .rp i7 0 0 → t 8 = I x_28 → t 9 = .rs i9 0 (List.length row_9) → t 18 = I (List.length h_.Combs : Int) → t 19 = I x_19 → t 27 = I h_.Until → t 28 = I x_28 → RR h v1_1 hs_1 1 eI open_ → b1k h v5_2 1 (List.map b23 all_5) → h.ob i7 = some (4, [[.rs i7_1 0 (List.length b_7_0), .rs i7_2 0 (List.length ([0])), .v (.slice none 0 0), v7]]) → i7 < h.nx → h.ob i7_1 = some (1, List.map eI b_7_0) → i7_1 < h.nx → h.ob i7_2 = some (1, List.map eI ([0])) → i7_2 < h.nx → b1k h v7 1 (List.map b0s b_7_3) → h.ob i9 = some (1, List.map eI row_9) → i9 < h.nx → (∀ j, ¬b0c v5_2 j → b0n v1_1 hs_1 j) → b0n v1_1 hs_1 i7 → b0n v1_1 hs_1 i7_1 → b0n v1_1 hs_1 i7_2 → (∀ j, ¬b0c v7 j → b0n v1_1 hs_1 j) → b0n v1_1 hs_1 i9 → b0c v5_2 i7 → b0c v5_2 i7_1 → b0c v5_2 i7_2 → (∀ j, ¬b0c v5_2 j → b0c v7 j) → b0c v5_2 i9 → ¬i7 = i7_1 → ¬i7 = i7_2 → b0c v7 i7 → ¬i7 = i9 → ¬i7_1 = i7_2 → b0c v7 i7_1 → ¬i7_1 = i9 → b0c v7 i7_2 → ¬i7_2 = i9 → b0c v7 i9 → (∀ j, j < h0.nx → h.ob j = h0.ob j) → h0.nx ≤ h.nx → (∀ j, ¬b0c v5_2 j → h0.nx ≤ j) → h0.nx ≤ i7 → h0.nx ≤ i7_1 → h0.nx ≤ i7_2 → (∀ j, ¬b0c v7 j → h0.nx ≤ j) → h0.nx ≤ i9 → c5g open_ x_19 b_7_0 b_7_3 x_28 row_9 = some o → K54 t h := by
      try clear s1 s2 s5 s6 s7 s18 s19 s27 s28 Q8 Qd Qa Q0 Qh Q2 Qi Q1 Qb Qg Q3 Q4 Q5 Qm Qc Qe Qf Qy Q6 Q7 Qj Q9 Qk Ql fr fx Qo Qt Qv Qw Qu
      intro row_9 v5_2 i9 t h s1 s2 s5 s6 s7 s8 s9 s18 s19 s27 s28 Q8 Qd Qa Q0 Qh Q2 Qi Q1 Qb Q15 Qn Qg Q3 Q4 Q5 Qm Qs Qc Qe Qf Qy Q12 Q6 Q7 Qj Qp Q9 Qk Qr Ql Qq Q13 fr fx Qo Qt Qv Qw Qu Q18 hm2
      refine hK54 _ _ ?_
      unfold c5g at hm2
      refine b05 ?_
      refine c8w (s := 9) (v := .rs i9 0 (List.length row_9)) (f := eI) (l := row_9) (by simp only [go_sem, s9, b2e Q8, b1i Qd, Qa, Q0, Qh, Q2, Qi, Q1, b1i Qb, Q15, Qn, b1f Q3, b1f Q4, b1f Q5, b1f Qs, Qc, Qe, Qf, Q12, Q6, b0f Q6, Q7, b0f Q7, Qj, Qp, b0f Qp, Q9, b0f Q9, Qk, Qr, b0f Qr, Ql, Qq, b0f Qq, Q13, lA9, mA9]) (b4f (by simp only [go_sem, s9, b2e Q8, b1i Qd, Qa, Q0, Qh, Q2, Qi, Q1, b1i Qb, Q15, Qn, b1f Q3, b1f Q4, b1f Q5, b1f Qs, Qc, Qe, Qf, Q12, Q6, b0f Q6, Q7, b0f Q7, Qj, Qp, b0f Qp, Q9, b0f Q9, Qk, Qr, b0f Qr, Ql, Qq, b0f Qq, Q13, lA9, mA9]) (by simp only [go_sem, s9, b2e Q8, b1i Qd, Qa, Q0, Qh, Q2, Qi, Q1, b1i Qb, Q15, Qn, b1f Q3, b1f Q4, b1f Q5, b1f Qs, Qc, Qe, Qf, Q12, Q6, b0f Q6, Q7, b0f Q7, Qj, Qp, b0f Qp, Q9, b0f Q9, Qk, Qr, b0f Qr, Ql, Qq, b0f Qq, Q13, lA9, mA9]) (by simp only [go_sem, Q0, Q2, Q1, Qn])) b2n c0n ?_
      simp only [c9h, c9j]
      obtain ⟨l57, h_l57, hm2⟩ := b0h hm2
      refine b0b fun K hK => ?_
      simp only [go_sem, s7, s9, Qa, Q0, Qh, Q2, Qi, Q1, Qn, Qc, Qe, Qf, Q6, b0f Q6, Q7, b0f Q7, Qj, Qp, b0f Qp, Q9, b0f Q9, Qk, Qr, b0f Qr, Ql, Qq, b0f Qq, Q13, b0a v1, b0a v5, b0a v1_1, b0a v5_1, b0a v7, b0a v5_2]
      refine b7d (f := b0s) (l := b_7_3) (m := ([row_9])) ?_ ?_ ?_ ?_ h_l57 ?_
      ·exact (b25 Qb (by intro j hj hl; first | rfl | simp only [go_sem, hl, b1f (Qm j hj), b9h Qy j hj, b21 hj Qj, b21 hj Qk, b21 hj Ql, b21 hj Q13]) (by first | omega | exact Nat.le_refl _ | (simp only [go_sem, nxs] <;> omega)))
      ·exact (b8r (by simp only [go_sem, b2e Q8, b1i Qd, Qa, Q0, Qh, Q2, Qi, Q1, b1i Qb, Q15, Qn, b1f Q3, b1f Q4, b1f Q5, b1f Qs, Qc, Qe, Qf, Q12, Q6, b0f Q6, Q7, b0f Q7, Qj, Qp, b0f Qp, Q9, b0f Q9, Qk, Qr, b0f Qr, Ql, Qq, b0f Qq, Q13, lA9, mA9]) (by simp only [go_sem, b2e Q8, b1i Qd, Qa, Q0, Qh, Q2, Qi, Q1, b1i Qb, Q15, Qn, b1f Q3, b1f Q4, b1f Q5, b1f Qs, Qc, Qe, Qf, Q12, Q6, b0f Q6, Q7, b0f Q7, Qj, Qp, b0f Qp, Q9, b0f Q9, Qk, Qr, b0f Qr, Ql, Qq, b0f Qq, Q13, lA9, mA9]))
      ·exact (b45 (by first | exact b2i | exact b2j (by first | omega | (simp only [nxs] <;> omega)) | assumption | exact b1x (by assumption) (by first | omega | (simp only [go_sem, nxs] <;> omega))))
      ·exact (fun _ => by simp)
      simp only [go_sem, s7, s9, Qa, Q0, Qh, Q2, Qi, Q1, Qn, Qc, Qe, Qf, Q6, b0f Q6, Q7, b0f Q7, Qj, Qp, b0f Qp, Q9, b0f Q9, Qk, Qr, b0f Qr, Ql, Qq, b0f Qq, Q13, b0a v1, b0a v5, b0a v1_1, b0a v5_1, b0a v7, b0a v5_2]
      refine hK _ _ ?_
      clear hK K
      obtain ⟨x62, h_x62, hm2⟩ := b0h hm2
      have h_x620 := b06 h_x62
      have h_x621 := b08 h_x62
      obtain ⟨x63, h_x63, hm2⟩ := b0h hm2
      have h_x630 := b06 h_x63
      have h_x631 := b08 h_x63
      obtain ⟨iqp982, rfl, Q1b, Q19⟩ := b7t Q8 h_x63
      obtain ⟨wp983, hw_wp983, os_wp983⟩ := b7s Q8 h_x63
      obtain ⟨x64, h_x64, hm2⟩ := b0h hm2
      have h_x640 := b06 h_x64
      have h_x641 := b08 h_x64
      obtain ⟨irp984, rfl, obr_irp984, ltr_irp984⟩ := b6r os_wp983 h_x64
      obtain ⟨l65, h_l65, hm2⟩ := b0h hm2
      refine b76 (fun t h => ∃ v1_2 : AV, ∃ i7_3 : Nat, ∃ i7_4 : Nat, t 1 = v1_2 ∧ t 2 = .fp [.fs 5 (List.map b0u h_.Combs), .fs 3 (List.map b0r h_.Trains), .fs 3 (List.map b0v h_.Shifts), I h_.Until] 0 ∧ t 5 = v5_2 ∧ t 6 = I x_19 ∧ t 7 = .rp i7 0 0 ∧ t 18 = I (List.length h_.Combs : Int) ∧ t 19 = I x_19 ∧ t 27 = I h_.Until ∧ t 28 = I x_28 ∧ RR h v1_2 hs_1 1 eI open_ ∧ b1k h v5_2 1 (List.map b23 all_5) ∧ h.ob i7 = some (4, [[.rs i7_3 0 (List.length l65), .rs i7_2 0 (List.length ([0])), .v (.slice none 0 0), .rs i7_4 0 (List.length l57)]]) ∧ i7 < h.nx ∧ h.ob i7_3 = some (1, List.map eI l65) ∧ i7_3 < h.nx ∧ h.ob i7_2 = some (1, List.map eI ([0])) ∧ i7_2 < h.nx ∧ h.ob i7_4 = some (1, List.map b0s l57) ∧ i7_4 < h.nx ∧ (∀ j, ¬b0c v5_2 j → b0n v1_2 hs_1 j) ∧ b0n v1_2 hs_1 i7 ∧ b0n v1_2 hs_1 i7_3 ∧ b0n v1_2 hs_1 i7_2 ∧ b0n v1_2 hs_1 i7_4 ∧ b0c v5_2 i7 ∧ b0c v5_2 i7_3 ∧ b0c v5_2 i7_2 ∧ b0c v5_2 i7_4 ∧ ¬i7 = i7_3 ∧ ¬i7 = i7_2 ∧ ¬i7 = i7_4 ∧ ¬i7_3 = i7_2 ∧ ¬i7_3 = i7_4 ∧ ¬i7_2 = i7_4 ∧ (∀ j, j < h0.nx → h.ob j = h0.ob j) ∧ h0.nx ≤ h.nx ∧ (∀ j, ¬b0c v5_2 j → h0.nx ≤ j) ∧ h0.nx ≤ i7 ∧ h0.nx ≤ i7_3 ∧ h0.nx ≤ i7_2 ∧ h0.nx ≤ i7_4) (fun K hK => ?_) ?_
      ·simp only [go_sem, s1, b3e Q8, s6, s7, s8, Q1b, Q19, Qa, Q0, Qh, Q2, Qi, Q1, Qn, b2q Qg, b2p Qg hw_wp983, b09 (Q3), b0f (b09 (Q3)), b1a (Q3) hw_wp983, b0f (b1a (Q3) hw_wp983), b09 (Q4), b0f (b09 (Q4)), b1a (Q4) hw_wp983, b0f (b1a (Q4) hw_wp983), b09 (Q5), b0f (b09 (Q5)), b1a (Q5) hw_wp983, b0f (b1a (Q5) hw_wp983), b2q Qm, b2p Qm hw_wp983, b09 (Qs), b0f (b09 (Qs)), b1a (Qs) hw_wp983, b0f (b1a (Qs) hw_wp983), Qc, Qe, Qf, Q6, b0f Q6, Q7, b0f Q7, Qj, Qp, b0f Qp, Q9, b0f Q9, Qk, Qr, b0f Qr, Ql, Qq, b0f Qq, b0p h_x62, b0q h_x62, h_x620, h_x621, b0p h_x63, b0q h_x63, h_x630, h_x631, b0p hw_wp983, b0q hw_wp983, b48 os_wp983, b0p h_x64, b0q h_x64, h_x640, h_x641, obr_irp984, ltr_irp984, b0a v1, b0a v5, b0a v5_1, b0a v7, b0a v5_2]
       refine b7d (f := eI) (l := b_7_0) (m := ([wr (x62 + x64)])) ?_ ?_ ?_ ?_ h_l65 ?_
       ·exact (b4f (by simp only [go_sem, b2e Q8, b1i Qd, Qa, Q0, Qh, Q2, Qi, Q1, b1i Qb, Q15, Qn, b2q Qg, b2p Qg hw_wp983, b1f Q3, b09 (Q3), b0f (b09 (Q3)), b1a (Q3) hw_wp983, b0f (b1a (Q3) hw_wp983), b1f Q4, b09 (Q4), b0f (b09 (Q4)), b1a (Q4) hw_wp983, b0f (b1a (Q4) hw_wp983), b1f Q5, b09 (Q5), b0f (b09 (Q5)), b1a (Q5) hw_wp983, b0f (b1a (Q5) hw_wp983), b2q Qm, b2p Qm hw_wp983, b1f Qs, b09 (Qs), b0f (b09 (Qs)), b1a (Qs) hw_wp983, b0f (b1a (Qs) hw_wp983), Qc, Qe, Qf, Q12, Q6, b0f Q6, Q7, b0f Q7, Qj, Qp, b0f Qp, Q9, b0f Q9, Qk, Qr, b0f Qr, Ql, Qq, b0f Qq, Q13, Q1b, Q19, b3f Q8 hw_wp983, b0f (b3f Q8 hw_wp983), lA9, mA9]) (by simp only [go_sem, b2e Q8, b1i Qd, Qa, Q0, Qh, Q2, Qi, Q1, b1i Qb, Q15, Qn, b2q Qg, b2p Qg hw_wp983, b1f Q3, b09 (Q3), b0f (b09 (Q3)), b1a (Q3) hw_wp983, b0f (b1a (Q3) hw_wp983), b1f Q4, b09 (Q4), b0f (b09 (Q4)), b1a (Q4) hw_wp983, b0f (b1a (Q4) hw_wp983), b1f Q5, b09 (Q5), b0f (b09 (Q5)), b1a (Q5) hw_wp983, b0f (b1a (Q5) hw_wp983), b2q Qm, b2p Qm hw_wp983, b1f Qs, b09 (Qs), b0f (b09 (Qs)), b1a (Qs) hw_wp983, b0f (b1a (Qs) hw_wp983), Qc, Qe, Qf, Q12, Q6, b0f Q6, Q7, b0f Q7, Qj, Qp, b0f Qp, Q9, b0f Q9, Qk, Qr, b0f Qr, Ql, Qq, b0f Qq, Q13, Q1b, Q19, b3f Q8 hw_wp983, b0f (b3f Q8 hw_wp983), lA9, mA9]) (by simp only [go_sem, Q0, Q2, Q1, Qn, Q19]))
       ·exact (b8r (by simp only [go_sem, b2e Q8, b1i Qd, Qa, Q0, Qh, Q2, Qi, Q1, b1i Qb, Q15, Qn, b2q Qg, b2p Qg hw_wp983, b1f Q3, b09 (Q3), b0f (b09 (Q3)), b1a (Q3) hw_wp983, b0f (b1a (Q3) hw_wp983), b1f Q4, b09 (Q4), b0f (b09 (Q4)), b1a (Q4) hw_wp983, b0f (b1a (Q4) hw_wp983), b1f Q5, b09 (Q5), b0f (b09 (Q5)), b1a (Q5) hw_wp983, b0f (b1a (Q5) hw_wp983), b2q Qm, b2p Qm hw_wp983, b1f Qs, b09 (Qs), b0f (b09 (Qs)), b1a (Qs) hw_wp983, b0f (b1a (Qs) hw_wp983), Qc, Qe, Qf, Q12, Q6, b0f Q6, Q7, b0f Q7, Qj, Qp, b0f Qp, Q9, b0f Q9, Qk, Qr, b0f Qr, Ql, Qq, b0f Qq, Q13, Q1b, Q19, b3f Q8 hw_wp983, b0f (b3f Q8 hw_wp983), lA9, mA9]) (by simp only [go_sem, b2e Q8, b1i Qd, Qa, Q0, Qh, Q2, Qi, Q1, b1i Qb, Q15, Qn, b2q Qg, b2p Qg hw_wp983, b1f Q3, b09 (Q3), b0f (b09 (Q3)), b1a (Q3) hw_wp983, b0f (b1a (Q3) hw_wp983), b1f Q4, b09 (Q4), b0f (b09 (Q4)), b1a (Q4) hw_wp983, b0f (b1a (Q4) hw_wp983), b1f Q5, b09 (Q5), b0f (b09 (Q5)), b1a (Q5) hw_wp983, b0f (b1a (Q5) hw_wp983), b2q Qm, b2p Qm hw_wp983, b1f Qs, b09 (Qs), b0f (b09 (Qs)), b1a (Qs) hw_wp983, b0f (b1a (Qs) hw_wp983), Qc, Qe, Qf, Q12, Q6, b0f Q6, Q7, b0f Q7, Qj, Qp, b0f Qp, Q9, b0f Q9, Qk, Qr, b0f Qr, Ql, Qq, b0f Qq, Q13, Q1b, Q19, b3f Q8 hw_wp983, b0f (b3f Q8 hw_wp983), lA9, mA9]))
       ·exact (b45 (by first | exact b2i | exact b2j (by first | omega | (simp only [nxs] <;> omega)) | assumption | exact b1x (by assumption) (by first | omega | (simp only [go_sem, nxs] <;> omega))))
       ·exact (fun _ => by simp)
       simp only [go_sem, s1, b3e Q8, s6, s7, s8, Q1b, Q19, Qa, Q0, Qh, Q2, Qi, Q1, Qn, b2q Qg, b2p Qg hw_wp983, b09 (Q3), b0f (b09 (Q3)), b1a (Q3) hw_wp983, b0f (b1a (Q3) hw_wp983), b09 (Q4), b0f (b09 (Q4)), b1a (Q4) hw_wp983, b0f (b1a (Q4) hw_wp983), b09 (Q5), b0f (b09 (Q5)), b1a (Q5) hw_wp983, b0f (b1a (Q5) hw_wp983), b2q Qm, b2p Qm hw_wp983, b09 (Qs), b0f (b09 (Qs)), b1a (Qs) hw_wp983, b0f (b1a (Qs) hw_wp983), Qc, Qe, Qf, Q6, b0f Q6, Q7, b0f Q7, Qj, Qp, b0f Qp, Q9, b0f Q9, Qk, Qr, b0f Qr, Ql, Qq, b0f Qq, b0p h_x62, b0q h_x62, h_x620, h_x621, b0p h_x63, b0q h_x63, h_x630, h_x631, b0p hw_wp983, b0q hw_wp983, b48 os_wp983, b0p h_x64, b0q h_x64, h_x640, h_x641, obr_irp984, ltr_irp984, b0a v1, b0a v5, b0a v5_1, b0a v7, b0a v5_2]
       exact hK _ _ ⟨(.rs iqp982 0 (List.length open_)), (nxs (nxs (nxs h.nx))), (nxs h.nx), (by first | (simp only [go_sem, s1, lA9, mA9]; done) | rfl), s2, s5, s6, s7, s18, s19, s27, s28, (b3d Q8 (by intro j hj  hl; first | rfl | simp only [go_sem, hl, b5n hj Q3, b5n hj Q4, b7q Qm j hj, b5n hj Qs, Q0, Q2, Qn]) (by first | omega | exact Nat.le_refl _ | (simp only [go_sem, nxs] <;> omega))), (b25 Qd (by intro j hj hl; first | rfl | simp only [go_sem, hl, Q0, Q2, Qn, b21 hj Qc, b21 hj Qe, Qy j hj, b21 hj Q12]) (by first | omega | exact Nat.le_refl _ | (simp only [go_sem, nxs] <;> omega))), (by simp only [go_sem, Qa, Q0, Q2, b1i Qb, Qn, Q6, b0f Q6, Qj, Qp, b0f Qp, lA9, mA9]), (by simp only [go_sem, Q0]), (by simp only [go_sem, Q0, Q2, b1i Qb, Qn, lA9, mA9]), (by simp only [go_sem]), (by simp only [go_sem, Q0, Q2, Qi, Q1, b1i Qb, Qn, Q7, b0f Q7, Q9, b0f Q9, Ql, Qq, b0f Qq, lA9, mA9]), (by simp only [go_sem, Q1]), (by simp only [go_sem, Q0, Q2, b1i Qb, Qn, lA9, mA9]), (by simp only [go_sem]), Qg, Q3, (by first | assumption | exact b3z Q8 (by first | assumption | omega | (simp only [nxs] <;> omega))), Q5, (by first | assumption | exact b3z Q8 (by first | assumption | omega | (simp only [nxs] <;> omega))), Qc, (by first | exact b2i | exact b2j (by first | assumption | omega | (simp only [nxs] <;> omega)) | assumption | exact b1x (by assumption) (by first | assumption | omega | (simp only [nxs] <;> omega))), Qf, (by first | exact b2i | exact b2j (by first | assumption | omega | (simp only [nxs] <;> omega)) | assumption | exact b1x (by assumption) (by first | assumption | omega | (simp only [nxs] <;> omega))), (by first | first | assumption | omega | (simp only [nxs] <;> omega)), Q7, (by first | first | assumption | omega | (simp only [nxs] <;> omega)), (by first | first | assumption | omega | (simp only [nxs] <;> omega)), (by first | first | assumption | omega | (simp only [nxs] <;> omega)), (by first | first | assumption | omega | (simp only [nxs] <;> omega)), (by intro j hj; first | exact fr j hj | (refine Eq.trans ?_ (fr j hj); first | rfl | simp only [go_sem, Nat.lt_of_lt_of_le hj fx, b56 Qt hj, b56 Qv hj, b5f Qu hj, b56 Q18 hj])), (by first | exact fx | omega | (simp only [go_sem, nxs] <;> omega)), Qo, Qt, (by first | assumption | omega | (simp only [nxs] <;> omega)), Qw, (by first | assumption | omega | (simp only [nxs] <;> omega))⟩
      ·try clear s1 s2 s5 s6 s7 s8 s9 s18 s19 s27 s28 Q8 Qd Qa Q0 Qh Q2 Qi Q1 Qb Q15 Qn Qg Q3 Q4 Q5 Qm Qs Qc Qe Qf Qy Q12 Q6 Q7 Qj Qp Q9 Qk Qr Ql Qq Q13 fr fx Qo Qt Qv Qw Qu Q18 Q1b Q19
       rintro t h ⟨v1_2, i7_3, i7_4, s1, s2, s5, s6, s7, s18, s19, s27, s28, Q8, Qd, Qa, Q0, Qh, Q2, Qi, Q1, Q1g, Q1d, Qg, Q3, Q4, Q5, Q1h, Qc, Qe, Qf, Q1j, Q6, Q7, Q1k, Q9, Q1l, Q1m, fr, fx, Qo, Qt, Qv, Qw, Qu⟩
       simp only [b0i, b0j]
       exact J51 l65 l57 v1_2 v5_2 i7_3 i7_4 _ _ s1 s2 s5 s6 s7 s18 s19 s27 s28 Q8 Qd Qa Q0 Qh Q2 Qi Q1 Q1g Q1d Qg Q3 Q4 Q5 Q1h Qc Qe Qf Q1j Q6 Q7 Q1k Q9 Q1l Q1m fr fx Qo Qt Qv Qw Qu hm2
     simp only [b1c]
     obtain ⟨b66, hl66, hm2⟩ := b0h hm2
     refine b1z hl66 (fun | (row_9, t_10), t, h => ∃ v5_2 : AV, ∃ i9 : Nat, t 1 = v1_1 ∧ t 2 = .fp [.fs 5 (List.map b0u h_.Combs), .fs 3 (List.map b0r h_.Trains), .fs 3 (List.map b0v h_.Shifts), I h_.Until] 0 ∧ t 5 = v5_2 ∧ t 6 = I x_19 ∧ t 7 = .rp i7 0 0 ∧ t 8 = I x_28 ∧ t 9 = .rs i9 0 (List.length row_9) ∧ t 10 = I t_10 ∧ t 18 = I (List.length h_.Combs : Int) ∧ t 19 = I x_19 ∧ t 27 = I h_.Until ∧ t 28 = I x_28 ∧ RR h v1_1 hs_1 1 eI open_ ∧ b1k h v5_2 1 (List.map b23 all_5) ∧ h.ob i7 = some (4, [[.rs i7_1 0 (List.length b_7_0), .rs i7_2 0 (List.length ([0])), .v (.slice none 0 0), v7]]) ∧ i7 < h.nx ∧ h.ob i7_1 = some (1, List.map eI b_7_0) ∧ i7_1 < h.nx ∧ h.ob i7_2 = some (1, List.map eI ([0])) ∧ i7_2 < h.nx ∧ b1k h v7 1 (List.map b0s b_7_3) ∧ h.ob i9 = some (1, List.map eI row_9) ∧ i9 < h.nx ∧ (∀ j, ¬b0c v5_2 j → b0n v1_1 hs_1 j) ∧ b0n v1_1 hs_1 i7 ∧ b0n v1_1 hs_1 i7_1 ∧ b0n v1_1 hs_1 i7_2 ∧ (∀ j, ¬b0c v7 j → b0n v1_1 hs_1 j) ∧ b0n v1_1 hs_1 i9 ∧ b0c v5_2 i7 ∧ b0c v5_2 i7_1 ∧ b0c v5_2 i7_2 ∧ (∀ j, ¬b0c v5_2 j → b0c v7 j) ∧ b0c v5_2 i9 ∧ ¬i7 = i7_1 ∧ ¬i7 = i7_2 ∧ b0c v7 i7 ∧ ¬i7 = i9 ∧ ¬i7_1 = i7_2 ∧ b0c v7 i7_1 ∧ ¬i7_1 = i9 ∧ b0c v7 i7_2 ∧ ¬i7_2 = i9 ∧ b0c v7 i9 ∧ (∀ j, j < h0.nx → h.ob j = h0.ob j) ∧ h0.nx ≤ h.nx ∧ (∀ j, ¬b0c v5_2 j → h0.nx ≤ j) ∧ h0.nx ≤ i7 ∧ h0.nx ≤ i7_1 ∧ h0.nx ≤ i7_2 ∧ (∀ j, ¬b0c v7 j → h0.nx ≤ j) ∧ h0.nx ≤ i9) ?_ ?_
     ·exact ⟨v5_1, h.nx, s1, s2, s5, s6, s7, (by first | (simp only [go_sem, lA9, mA9]; done) | rfl), (by first | (simp only [go_sem, lA9, mA9]; done) | rfl), (by first | (simp only [go_sem, lA9, mA9]; done) | rfl), s18, s19, s27, s28, (b3d Q8 (by intro j hj  hl; first | rfl | simp only [go_sem, hl]) (by first | omega | exact Nat.le_refl _ | (simp only [go_sem, nxs] <;> omega))), (b25 Qd (by intro j hj hl; first | rfl | simp only [go_sem, hl]) (by first | omega | exact Nat.le_refl _ | (simp only [go_sem, nxs] <;> omega))), (by simp only [go_sem, Qa, Q0, lA9, mA9]), (by simp only [go_sem, Q0]), (by simp only [go_sem, Qh, Q2, lA9, mA9]), (by simp only [go_sem, Q2]), (by simp only [go_sem, Qi, Q1, lA9, mA9]), (by simp only [go_sem, Q1]), (b25 Qb (by intro j hj hl; first | rfl | simp only [go_sem, hl]) (by first | omega | exact Nat.le_refl _ | (simp only [go_sem, nxs] <;> omega))), (by simp only [go_sem, lA9, mA9]), (by simp only [go_sem]), Qg, Q3, Q4, Q5, Qm, (by first | assumption | exact b3z Q8 (by first | assumption | omega | (simp only [nxs] <;> omega))), Qc, Qe, Qf, Qy, (by first | exact b2i | exact b2j (by first | assumption | omega | (simp only [nxs] <;> omega)) | assumption | exact b1x (by assumption) (by first | assumption | omega | (simp only [nxs] <;> omega))), Q6, Q7, Qj, (by first | first | assumption | omega | (simp only [nxs] <;> omega)), Q9, Qk, (by first | first | assumption | omega | (simp only [nxs] <;> omega)), Ql, (by first | first | assumption | omega | (simp only [nxs] <;> omega)), (by first | exact b2i | exact b2j (by first | assumption | omega | (simp only [nxs] <;> omega)) | assumption | exact b1x (by assumption) (by first | assumption | omega | (simp only [nxs] <;> omega))), (by intro j hj; first | exact fr j hj | (refine Eq.trans ?_ (fr j hj); first | rfl | simp only [go_sem, Nat.lt_of_lt_of_le hj fx])), (by first | exact fx | omega | (simp only [go_sem, nxs] <;> omega)), Qo, Qt, Qv, Qw, Qu, (by first | assumption | omega | (simp only [nxs] <;> omega))⟩
     ·try clear s1 s2 s5 s6 s7 s18 s19 s27 s28 Q8 Qd Qa Q0 Qh Q2 Qi Q1 Qb Qg Q3 Q4 Q5 Qm Qc Qe Qf Qy Q6 Q7 Qj Q9 Qk Ql fr fx Qo Qt Qv Qw Qu
      rintro ⟨row_9, t_10⟩ o t h ⟨v5_2, i9, s1, s2, s5, s6, s7, s8, s9, s10, s18, s19, s27, s28, Q8, Qd, Qa, Q0, Qh, Q2, Qi, Q1, Qb, Q15, Qn, Qg, Q3, Q4, Q5, Qm, Qs, Qc, Qe, Qf, Qy, Q12, Q6, Q7, Qj, Qp, Q9, Qk, Qr, Ql, Qq, Q13, fr, fx, Qo, Qt, Qv, Qw, Qu, Q18⟩ hm3 hb66
      simp only [b90] at hm3
      rw [d99]
      refine b05 ?_
      refine b0b fun K hK => ?_
      simp only [go_sem, s2, s10, Q0, Q2, Q1, Qn, b0a v1, b0a v5, b0a v1_1, b0a v5_1, b0a v7, b0a v5_2]
      refine hK _ _ ?_
      clear hK K
      refine b0o fun K67 hK67 => ?_
      simp only [go_sem]
      refine b0k (fun hc68 => ?_) (fun hc68 => ?_)
      ·rw [b00 hc68] at hm3
       simp only [b0y, b0i, b0j]
       refine hK67 _ _ ?_
       refine b0o fun K69 hK69 => ?_
       have J70 : ∀ (row_9_1 : List Int) (v5_3 : AV) (t : Slots) (h : Heap), t 1 = v1_1 → t 2 = .fp [.fs 5 (List.map b0u h_.Combs), .fs 3 (List.map b0r h_.Trains), .fs 3 (List.map b0v h_.Shifts), I h_.Until] 0 → t 5 = v5_3 → t 6 = I x_19 → t 7 = .rp i7 0 0 → t 8 = I x_28 → t 9 = .rs i9 0 (List.length row_9_1) → t 10 = I t_10 → t 18 = I (List.length h_.Combs : Int) → t 19 = I x_19 → t 27 = I h_.Until → t 28 = I x_28 → RR h v1_1 hs_1 1 eI open_ → b1k h v5_3 1 (List.map b23 all_5) → h.ob i7 = some (4, [[.rs i7_1 0 (List.length b_7_0), .rs i7_2 0 (List.length ([0])), .v (.slice none 0 0), v7]]) → i7 < h.nx → h.ob i7_1 = some (1, List.map eI b_7_0) → i7_1 < h.nx → h.ob i7_2 = some (1, List.map eI ([0])) → i7_2 < h.nx → b1k h v7 1 (List.map b0s b_7_3) → h.ob i9 = some (1, List.map eI row_9_1) → i9 < h.nx → (∀ j, ¬b0c v5_3 j → b0n v1_1 hs_1 j) → b0n v1_1 hs_1 i7 → b0n v1_1 hs_1 i7_1 → b0n v1_1 hs_1 i7_2 → (∀ j, ¬b0c v7 j → b0n v1_1 hs_1 j) → b0n v1_1 hs_1 i9 → b0c v5_3 i7 → b0c v5_3 i7_1 → b0c v5_3 i7_2 → (∀ j, ¬b0c v5_3 j → b0c v7 j) → b0c v5_3 i9 → ¬i7 = i7_1 → ¬i7 = i7_2 → b0c v7 i7 → ¬i7 = i9 → ¬i7_1 = i7_2 → b0c v7 i7_1 → ¬i7_1 = i9 → b0c v7 i7_2 → ¬i7_2 = i9 → b0c v7 i9 → (∀ j, j < h0.nx → h.ob j = h0.ob j) → h0.nx ≤ h.nx → (∀ j, ¬b0c v5_3 j → h0.nx ≤ j) → h0.nx ≤ i7 → h0.nx ≤ i7_1 → h0.nx ≤ i7_2 → (∀ j, ¬b0c v7 j → h0.nx ≤ j) → h0.nx ≤ i9 → c5i t_10 row_9_1 = some o → K69 t h := by
        try clear s1 s2 s5 s6 s7 s8 s9 s10 s18 s19 s27 s28 Q8 Qd Qa Q0 Qh Q2 Qi Q1 Qb Q15 Qn Qg Q3 Q4 Q5 Qm Qs Qc Qe Qf Qy Q12 Q6 Q7 Qj Qp Q9 Qk Qr Ql Qq Q13 fr fx Qo Qt Qv Qw Qu Q18
        intro row_9_1 v5_3 t h s1 s2 s5 s6 s7 s8 s9 s10 s18 s19 s27 s28 Q8 Qd Qa Q0 Qh Q2 Qi Q1 Qb Q15 Qn Qg Q3 Q4 Q5 Qm Qs Qc Qe Qf Qy Q12 Q6 Q7 Qj Qp Q9 Qk Qr Ql Qq Q13 fr fx Qo Qt Qv Qw Qu Q18 hm3
        refine hK69 _ _ ?_
        unfold c5i at hm3
        refine b1m fun K hK => ?_
        simp only [go_sem, s10, Q0, Q2, Q1, Qn, b0a v1, b0a v5, b0a v1_1, b0a v5_1, b0a v7, b0a v5_2, b0a v5_3]
        refine hK _ _ ?_
        clear hK K
        simp only [b0i, b0j]
        obtain rfl := sI9 hm3
        refine ⟨_, rfl, ?_⟩
        exact ⟨v5_3, i9, s1, s2, s5, s6, s7, s8, (by first | exact s9 | simp only [go_sem, s9, lA9, mA9]), (by first | (simp only [go_sem, s10, lA9, mA9]; done) | rfl), s18, s19, s27, s28, Q8, Qd, Qa, Q0, Qh, Q2, Qi, Q1, Qb, Q15, Qn, Qg, Q3, Q4, Q5, Qm, Qs, Qc, Qe, Qf, Qy, Q12, Q6, Q7, Qj, Qp, Q9, Qk, Qr, Ql, Qq, Q13, fr, fx, Qo, Qt, Qv, Qw, Qu, Q18⟩
       simp only [b1c]
       obtain ⟨y73, h_y73, hm3⟩ := b0h hm3
       obtain ⟨x74, h_x74, hm3⟩ := b0h hm3
       have h_x740 := b06 h_x74
       have h_x741 := b08 h_x74
       refine b0b fun K hK => ?_
       simp only [go_sem, s2, s6, s8, s9, s10, Q15, Qn, Q0, Q2, Q1, Q12, Qp, b0f Qp, Qr, b0f Qr, Qq, b0f Qq, Q13, b0p h_x74, b0q h_x74, h_x740, h_x741, b0a v1, b0a v5, b0a v1_1, b0a v5_1, b0a v7, b0a v5_2]
       refine b1g (d0c h_ x_19 x_28 t_10 _ h_y73) ?_
       simp only [go_sem, s2, s6, s8, s9, s10, Q15, Qn, Q0, Q2, Q1, Q12, Qp, b0f Qp, Qr, b0f Qr, Qq, b0f Qq, Q13, b0p h_x74, b0q h_x74, h_x740, h_x741, b0a v1, b0a v5, b0a v1_1, b0a v5_1, b0a v7, b0a v5_2]
       refine hK _ _ ?_
       clear hK K
       obtain ⟨l76, h_l76, hm3⟩ := b0h hm3
       refine b0b fun K hK => ?_
       simp only [go_sem, s2, s6, Q0, Q2, Q1, Qn, b0a v1, b0a v5, b0a v1_1, b0a v5_1, b0a v7, b0a v5_2]
       refine j1d (f := b0u) (l := h_.Combs) (lo := none) (hi := some x_19) h_l76 ?_
       simp only [go_sem, s2, s6, Q0, Q2, Q1, Qn, b0a v1, b0a v5, b0a v1_1, b0a v5_1, b0a v7, b0a v5_2]
       refine hK _ _ ?_
       clear hK K
       simp only [b1c]
       obtain ⟨b77, hl77, hm3⟩ := b0h hm3
       refine b1z hl77 (fun | (row_9_1, x_54), t, h => ∃ v5_3 : AV, t 1 = v1_1 ∧ t 2 = .fp [.fs 5 (List.map b0u h_.Combs), .fs 3 (List.map b0r h_.Trains), .fs 3 (List.map b0v h_.Shifts), I h_.Until] 0 ∧ t 5 = v5_3 ∧ t 6 = I x_19 ∧ t 7 = .rp i7 0 0 ∧ t 8 = I x_28 ∧ t 9 = .rs i9 0 (List.length row_9_1) ∧ t 10 = I t_10 ∧ t 18 = I (List.length h_.Combs : Int) ∧ t 19 = I x_19 ∧ t 27 = I h_.Until ∧ t 28 = I x_28 ∧ t 52 = .fs 5 (List.map b0u l76) ∧ t 53 = I (List.length l76 : Int) ∧ t 54 = I x_54 ∧ RR h v1_1 hs_1 1 eI open_ ∧ b1k h v5_3 1 (List.map b23 all_5) ∧ h.ob i7 = some (4, [[.rs i7_1 0 (List.length b_7_0), .rs i7_2 0 (List.length ([0])), .v (.slice none 0 0), v7]]) ∧ i7 < h.nx ∧ h.ob i7_1 = some (1, List.map eI b_7_0) ∧ i7_1 < h.nx ∧ h.ob i7_2 = some (1, List.map eI ([0])) ∧ i7_2 < h.nx ∧ b1k h v7 1 (List.map b0s b_7_3) ∧ h.ob i9 = some (1, List.map eI row_9_1) ∧ i9 < h.nx ∧ (∀ j, ¬b0c v5_3 j → b0n v1_1 hs_1 j) ∧ b0n v1_1 hs_1 i7 ∧ b0n v1_1 hs_1 i7_1 ∧ b0n v1_1 hs_1 i7_2 ∧ (∀ j, ¬b0c v7 j → b0n v1_1 hs_1 j) ∧ b0n v1_1 hs_1 i9 ∧ b0c v5_3 i7 ∧ b0c v5_3 i7_1 ∧ b0c v5_3 i7_2 ∧ (∀ j, ¬b0c v5_3 j → b0c v7 j) ∧ b0c v5_3 i9 ∧ ¬i7 = i7_1 ∧ ¬i7 = i7_2 ∧ b0c v7 i7 ∧ ¬i7 = i9 ∧ ¬i7_1 = i7_2 ∧ b0c v7 i7_1 ∧ ¬i7_1 = i9 ∧ b0c v7 i7_2 ∧ ¬i7_2 = i9 ∧ b0c v7 i9 ∧ (∀ j, j < h0.nx → h.ob j = h0.ob j) ∧ h0.nx ≤ h.nx ∧ (∀ j, ¬b0c v5_3 j → h0.nx ≤ j) ∧ h0.nx ≤ i7 ∧ h0.nx ≤ i7_1 ∧ h0.nx ≤ i7_2 ∧ (∀ j, ¬b0c v7 j → h0.nx ≤ j) ∧ h0.nx ≤ i9) ?_ ?_
       ·exact ⟨v5_2, s1, s2, s5, s6, s7, s8, (by first | exact s9 | simp only [go_sem, s9, lA9, mA9]), s10, s18, s19, s27, s28, (by first | (simp only [go_sem, lA9, mA9]; done) | rfl), (by first | (simp only [go_sem, lA9, mA9]; done) | rfl), (by first | (simp only [go_sem, lA9, mA9]; done) | rfl), (b3d Q8 (by intro j hj  hl; first | rfl | simp only [go_sem, hl, b5n hj Qs, Qn]) (by first | omega | exact Nat.le_refl _ | (simp only [go_sem, nxs] <;> omega))), (b25 Qd (by intro j hj hl; first | rfl | simp only [go_sem, hl, Qn, b21 hj Q12]) (by first | omega | exact Nat.le_refl _ | (simp only [go_sem, nxs] <;> omega))), (by simp only [go_sem, Qa, Q0, Qn, Qp, b0f Qp, lA9, mA9]), (by simp only [go_sem, Q0]), (by simp only [go_sem, Qh, Q2, Qn, Qr, b0f Qr, lA9, mA9]), (by simp only [go_sem, Q2]), (by simp only [go_sem, Qi, Q1, Qn, Qq, b0f Qq, lA9, mA9]), (by simp only [go_sem, Q1]), (b25 Qb (by intro j hj hl; first | rfl | simp only [go_sem, hl, Qn, b21 hj Q13]) (by first | omega | exact Nat.le_refl _ | (simp only [go_sem, nxs] <;> omega))), (by simp only [go_sem, Q15, Qn, lA9, mA9]), (by simp only [go_sem, Qn]), Qg, Q3, Q4, Q5, Qm, Qs, Qc, Qe, Qf, Qy, Q12, Q6, Q7, Qj, Qp, Q9, Qk, Qr, Ql, Qq, Q13, (by intro j hj; first | exact fr j hj | (refine Eq.trans ?_ (fr j hj); first | rfl | simp only [go_sem, Nat.lt_of_lt_of_le hj fx, b56 Q18 hj])), (by first | exact fx | omega | (simp only [go_sem, nxs] <;> omega)), Qo, Qt, Qv, Qw, Qu, Q18⟩
       ·try clear s1 s2 s5 s6 s7 s8 s9 s10 s18 s19 s27 s28 Q8 Qd Qa Q0 Qh Q2 Qi Q1 Qb Q15 Qn Qg Q3 Q4 Q5 Qm Qs Qc Qe Qf Qy Q12 Q6 Q7 Qj Qp Q9 Qk Qr Ql Qq Q13 fr fx Qo Qt Qv Qw Qu Q18
        rintro ⟨row_9_1, x_54⟩ o t h ⟨v5_3, s1, s2, s5, s6, s7, s8, s9, s10, s18, s19, s27, s28, s52, s53, s54, Q8, Qd, Qa, Q0, Qh, Q2, Qi, Q1, Qb, Q15, Qn, Qg, Q3, Q4, Q5, Qm, Qs, Qc, Qe, Qf, Qy, Q12, Q6, Q7, Qj, Qp, Q9, Qk, Qr, Ql, Qq, Q13, fr, fx, Qo, Qt, Qv, Qw, Qu, Q18⟩ hm4 hb77
        simp only [c2e] at hm4
        rw [d98]
        refine b0b fun K hK => ?_
        simp only [go_sem, s53, s54, Q0, Q2, Q1, Qn, b0a v1, b0a v5, b0a v1_1, b0a v5_1, b0a v7, b0a v5_2, b0a v5_3]
        refine hK _ _ ?_
        clear hK K
        refine b0o fun K78 hK78 => ?_
        simp only [go_sem]
        refine b0k (fun hc79 => ?_) (fun hc79 => ?_)
        ·rw [b00 hc79] at hm4
         simp only [b0y, b0i, b0j]
         refine hK78 _ _ ?_
         refine b0o fun K80 hK80 => ?_
         have J81 : ∀ (row_9_2 : List Int) (v5_4 : AV) (t : Slots) (h : Heap), t 1 = v1_1 → t 2 = .fp [.fs 5 (List.map b0u h_.Combs), .fs 3 (List.map b0r h_.Trains), .fs 3 (List.map b0v h_.Shifts), I h_.Until] 0 → t 5 = v5_4 → t 6 = I x_19 → t 7 = .rp i7 0 0 → t 8 = I x_28 → t 9 = .rs i9 0 (List.length row_9_2) → t 10 = I t_10 → t 18 = I (List.length h_.Combs : Int) → t 19 = I x_19 → t 27 = I h_.Until → t 28 = I x_28 → t 52 = .fs 5 (List.map b0u l76) → t 53 = I (List.length l76 : Int) → t 54 = I x_54 → RR h v1_1 hs_1 1 eI open_ → b1k h v5_4 1 (List.map b23 all_5) → h.ob i7 = some (4, [[.rs i7_1 0 (List.length b_7_0), .rs i7_2 0 (List.length ([0])), .v (.slice none 0 0), v7]]) → i7 < h.nx → h.ob i7_1 = some (1, List.map eI b_7_0) → i7_1 < h.nx → h.ob i7_2 = some (1, List.map eI ([0])) → i7_2 < h.nx → b1k h v7 1 (List.map b0s b_7_3) → h.ob i9 = some (1, List.map eI row_9_2) → i9 < h.nx → (∀ j, ¬b0c v5_4 j → b0n v1_1 hs_1 j) → b0n v1_1 hs_1 i7 → b0n v1_1 hs_1 i7_1 → b0n v1_1 hs_1 i7_2 → (∀ j, ¬b0c v7 j → b0n v1_1 hs_1 j) → b0n v1_1 hs_1 i9 → b0c v5_4 i7 → b0c v5_4 i7_1 → b0c v5_4 i7_2 → (∀ j, ¬b0c v5_4 j → b0c v7 j) → b0c v5_4 i9 → ¬i7 = i7_1 → ¬i7 = i7_2 → b0c v7 i7 → ¬i7 = i9 → ¬i7_1 = i7_2 → b0c v7 i7_1 → ¬i7_1 = i9 → b0c v7 i7_2 → ¬i7_2 = i9 → b0c v7 i9 → (∀ j, j < h0.nx → h.ob j = h0.ob j) → h0.nx ≤ h.nx → (∀ j, ¬b0c v5_4 j → h0.nx ≤ j) → h0.nx ≤ i7 → h0.nx ≤ i7_1 → h0.nx ≤ i7_2 → (∀ j, ¬b0c v7 j → h0.nx ≤ j) → h0.nx ≤ i9 → b94 x_54 row_9_2 = some o → K80 t h := by
          try clear s1 s2 s5 s6 s7 s8 s9 s10 s18 s19 s27 s28 s52 s53 s54 Q8 Qd Qa Q0 Qh Q2 Qi Q1 Qb Q15 Qn Qg Q3 Q4 Q5 Qm Qs Qc Qe Qf Qy Q12 Q6 Q7 Qj Qp Q9 Qk Qr Ql Qq Q13 fr fx Qo Qt Qv Qw Qu Q18
          intro row_9_2 v5_4 t h s1 s2 s5 s6 s7 s8 s9 s10 s18 s19 s27 s28 s52 s53 s54 Q8 Qd Qa Q0 Qh Q2 Qi Q1 Qb Q15 Qn Qg Q3 Q4 Q5 Qm Qs Qc Qe Qf Qy Q12 Q6 Q7 Qj Qp Q9 Qk Qr Ql Qq Q13 fr fx Qo Qt Qv Qw Qu Q18 hm4
          refine hK80 _ _ ?_
          unfold b94 at hm4
          refine b1m fun K hK => ?_
          simp only [go_sem, s54, Q0, Q2, Q1, Qn, b0a v1, b0a v5, b0a v1_1, b0a v5_1, b0a v7, b0a v5_2, b0a v5_3, b0a v5_4]
          refine hK _ _ ?_
          clear hK K
          simp only [b0i, b0j]
          obtain rfl := sI9 hm4
          refine ⟨_, rfl, ?_⟩
          exact ⟨v5_4, s1, s2, s5, s6, s7, s8, (by first | exact s9 | simp only [go_sem, s9, lA9, mA9]), s10, s18, s19, s27, s28, s52, s53, (by first | (simp only [go_sem, s54, lA9, mA9]; done) | rfl), Q8, Qd, Qa, Q0, Qh, Q2, Qi, Q1, Qb, Q15, Qn, Qg, Q3, Q4, Q5, Qm, Qs, Qc, Qe, Qf, Qy, Q12, Q6, Q7, Qj, Qp, Q9, Qk, Qr, Ql, Qq, Q13, fr, fx, Qo, Qt, Qv, Qw, Qu, Q18⟩
         simp only [b1c]
         obtain ⟨x83, h_x83, hm4⟩ := b0h hm4
         have h_x830 := b06 h_x83
         have h_x831 := b08 h_x83
         refine b0b fun K hK => ?_
         simp only [go_sem, s52, s54, Q0, Q2, Q1, Qn, b0p h_x83, b0q h_x83, h_x830, h_x831, b0a v1, b0a v5, b0a v1_1, b0a v5_1, b0a v7, b0a v5_2, b0a v5_3]
         refine hK _ _ ?_
         clear hK K
         refine b0b fun K hK => ?_
         simp only [go_sem, s6, Q0, Q2, Q1, Qn, b0a v1, b0a v5, b0a v1_1, b0a v5_1, b0a v7, b0a v5_2, b0a v5_3]
         refine hK _ _ ?_
         clear hK K
         simp only [go_sem]
         refine b0k (fun hc84 => ?_) (fun hc84 => ?_)
         ·rw [b00 hc84] at hm4
          obtain ⟨x89, h_x89, hm4⟩ := b0h hm4
          have h_x890 := b06 h_x89
          have h_x891 := b08 h_x89
          obtain ⟨x90, h_x90, hm4⟩ := b0h hm4
          have h_x900 := b06 h_x90
          have h_x901 := b08 h_x90
          obtain ⟨iq91, rfl, Q1i, Q1e⟩ := b6r Qd h_x90
          obtain ⟨y92, h_y92, hm4⟩ := b0h hm4
          refine b1m fun K hK => ?_
          simp only [go_sem, s5, s8, s9, s10, Q1i, Q1e, Q15, Qn, Q0, Q2, Q1, Qc, Qe, Qf, Q12, Qp, b0f Qp, Qr, b0f Qr, Qq, b0f Qq, Q13, b0p h_x89, b0q h_x89, h_x890, h_x891, b0p h_x90, b0q h_x90, h_x900, h_x901, b0a v1, b0a v5, b0a v1_1, b0a v5_1, b0a v7, b0a v5_2]
          refine b1g (c94 x90 (wr (x_28 - x83.Walk.High)) (wr (t_10 - x83.Walk.Low)) _ h_y92) ?_
          simp only [go_sem, s5, s8, s9, s10, Q1i, Q1e, Q15, Qn, Q0, Q2, Q1, Qc, Qe, Qf, Q12, Qp, b0f Qp, Qr, b0f Qr, Qq, b0f Qq, Q13, b0p h_x89, b0q h_x89, h_x890, h_x891, b0p h_x90, b0q h_x90, h_x900, h_x901, b0a v1, b0a v5, b0a v1_1, b0a v5_1, b0a v7, b0a v5_2]
          refine hK _ _ ?_
          clear hK K
          simp only [b0i, b0j]
          exact J81 (List.set row_9_1 (Int.toNat t_10) (wr (x89 + y92))) (.rs iq91 0 (List.length all_5)) _ _ s1 s2 (by first | (simp only [go_sem, s5, lA9, mA9]; done) | rfl) s6 s7 s8 (by first | exact s9 | simp only [go_sem, s9, lA9, mA9]) s10 s18 s19 s27 s28 s52 s53 s54 (b3d Q8 (by intro j hj  hl; first | rfl | simp only [go_sem, hl, b5n hj Qs, Qn]) (by first | omega | exact Nat.le_refl _ | (simp only [go_sem, nxs] <;> omega))) (b4f (by simp only [go_sem, Qn, Q12, d7y Q12, b0f (d7y Q12), Q1i, Q1e, lA9, mA9]) (by first | rfl | simp only [go_sem, lA9, mA9]) (by simp only [go_sem, Q1e])) (by simp only [go_sem, Qa, Q0, Qn, Qp, b0f Qp, lA9, mA9]) (by simp only [go_sem, Q0]) (by simp only [go_sem, Qh, Q2, Qn, Qr, b0f Qr, lA9, mA9]) (by simp only [go_sem, Q2]) (by simp only [go_sem, Qi, Q1, Qn, Qq, b0f Qq, lA9, mA9]) (by simp only [go_sem, Q1]) (b25 Qb (by intro j hj hl; first | rfl | simp only [go_sem, hl, Qn, b21 hj Q13]) (by first | omega | exact Nat.le_refl _ | (simp only [go_sem, nxs] <;> omega))) (by simp only [go_sem, Q15, Qn, lA9, mA9]) (by simp only [go_sem, Qn]) Qg Q3 Q4 Q5 Qm Qs Qc Qe Qf Qy Q12 Q6 Q7 Qj Qp Q9 Qk Qr Ql Qq Q13 (by intro j hj; first | exact fr j hj | (refine Eq.trans ?_ (fr j hj); first | rfl | simp only [go_sem, Nat.lt_of_lt_of_le hj fx, b56 Q18 hj])) (by first | exact fx | omega | (simp only [go_sem, nxs] <;> omega)) Qo Qt Qv Qw Qu Q18 hm4
         ·rw [b0z hc84] at hm4
          simp only [b0y, b0i, b0j]
          exact J81 row_9_1 v5_3 _ _ s1 s2 s5 s6 s7 s8 (by first | exact s9 | simp only [go_sem, s9, lA9, mA9]) s10 s18 s19 s27 s28 s52 s53 s54 (b3d Q8 (by intro j hj  hl; first | rfl | simp only [go_sem, hl]) (by first | omega | exact Nat.le_refl _ | (simp only [go_sem, nxs] <;> omega))) (b25 Qd (by intro j hj hl; first | rfl | simp only [go_sem, hl]) (by first | omega | exact Nat.le_refl _ | (simp only [go_sem, nxs] <;> omega))) (by simp only [go_sem, Qa, Q0, lA9, mA9]) (by simp only [go_sem, Q0]) (by simp only [go_sem, Qh, Q2, lA9, mA9]) (by simp only [go_sem, Q2]) (by simp only [go_sem, Qi, Q1, lA9, mA9]) (by simp only [go_sem, Q1]) (b25 Qb (by intro j hj hl; first | rfl | simp only [go_sem, hl]) (by first | omega | exact Nat.le_refl _ | (simp only [go_sem, nxs] <;> omega))) (by simp only [go_sem, Q15, Qn, lA9, mA9]) (by simp only [go_sem, Qn]) Qg Q3 Q4 Q5 Qm Qs Qc Qe Qf Qy Q12 Q6 Q7 Qj Qp Q9 Qk Qr Ql Qq Q13 (by intro j hj; first | exact fr j hj | (refine Eq.trans ?_ (fr j hj); first | rfl | simp only [go_sem, Nat.lt_of_lt_of_le hj fx])) (by first | exact fx | omega | (simp only [go_sem, nxs] <;> omega)) Qo Qt Qv Qw Qu Q18 hm4
        ·rw [b0z hc79] at hm4
         simp only [b1t, b1w, b1v, b1u, b0i, b0j, Nat.reduceEqDiff, nF9]
         obtain rfl := sI9 hm4
         obtain rfl := hb77 _ rfl
         try dsimp only at hm3
         exact J70 row_9_1 v5_3 _ _ s1 s2 s5 s6 s7 s8 (by first | exact s9 | simp only [go_sem, s9, lA9, mA9]) s10 s18 s19 s27 s28 Q8 Qd Qa Q0 Qh Q2 Qi Q1 Qb Q15 Qn Qg Q3 Q4 Q5 Qm Qs Qc Qe Qf Qy Q12 Q6 Q7 Qj Qp Q9 Qk Qr Ql Qq Q13 fr fx Qo Qt Qv Qw Qu Q18 hm3
      ·rw [b0z hc68] at hm3
       simp only [b1t, b1w, b1v, b1u, b0i, b0j, Nat.reduceEqDiff, nF9]
       obtain rfl := sI9 hm3
       obtain rfl := hb66 _ rfl
       try dsimp only at hm2
       exact J55 row_9 v5_2 i9 _ _ s1 s2 s5 s6 s7 s8 (by first | exact s9 | simp only [go_sem, s9, lA9, mA9]) s18 s19 s27 s28 Q8 Qd Qa Q0 Qh Q2 Qi Q1 Qb Q15 Qn Qg Q3 Q4 Q5 Qm Qs Qc Qe Qf Qy Q12 Q6 Q7 Qj Qp Q9 Qk Qr Ql Qq Q13 fr fx Qo Qt Qv Qw Qu Q18 hm2
    ·rw [b0z hc49] at hm2
     simp only [b1t, b1w, b1v, b1u, b0i, b0j, Nat.reduceEqDiff, nF9]
     obtain rfl := sI9 hm2
     obtain rfl := hb47 _ rfl
     try dsimp only at hm1
     exact J9 b_7_0 b_7_3 v1_1 v5_1 i7 i7_1 i7_2 v7 _ _ s1 s2 s5 s6 s7 s18 s19 Q8 Qd Qa Q0 Qh Q2 Qi Q1 Qb Qg Q3 Q4 Q5 Qm Qc Qe Qf Qy Q6 Q7 Qj Q9 Qk Ql fr fx Qo Qt Qv Qw Qu hm1
  ·rw [b0z hc5] at hm1
   simp only [b1t, b1w, b1v, b1u, b0i, b0j, Nat.reduceEqDiff, nF9]
   obtain rfl := sI9 hm1
   obtain rfl := hb3 _ rfl
   try dsimp only at hm0
   exact J2 all_5 v5 _ _ s5 Qd fr fx Qo hm0
theorem j1n (hf : Has O "newel/neweltop.TopCounted" x_neweltop_TopCounted) (d0k : c73 O) (d0o : c79 O) (d0p : c8a O) (c2v : c37 O) (k_neweltop_measures : d2h O) (d0a : c7t O) (c99 : c7s O) (c57 : c78 O) (c55 : c7o O) (c96 : c7n O) : d2g O := by
 intro h_ d x r hm0
 unfold c27 at hm0
 refine b10 hf rfl (b0e (.agg _ (b0e (b0w fun a _ => b3h a) (b0e (b0w fun a _ => b3b a) (b0e (b0w fun a _ => b3i a) (b0e (b0g _) b0x))))) (b0e (.agg _ (b0e (b0w fun a _ => b2n a) (b0e (b0w fun a _ => b41 a) (b0e (b0w fun a _ => b41 a) b0x)))) (b0e (.agg _ (b0e (b0g _) (b0e (b0g _) (b0e (b0w fun a _ => b6k a) b0x)))) b0x))) (b0g _) ?_
 refine b1s (fun t h => t 0 = .agg [.fs 5 (List.map b0u h_.Combs), .fs 3 (List.map b0r h_.Trains), .fs 3 (List.map b0v h_.Shifts), I h_.Until] ∧ t 1 = .agg [.fs 1 (List.map eI d.At), .fs 1 (List.map b0s d.People), .fs 1 (List.map b0s d.Walks)] ∧ t 2 = .agg [I x.Comb, I x.Tick, .fs 4 (List.map b17 x.Readings)]) ⟨rfl, rfl, rfl⟩ fun t h ⟨s0, s1, s2⟩ => ?_
 simp only [x_neweltop_TopCounted]
 refine b0b fun K hK => ?_
 simp only [go_sem, s0, s1, s2]
 refine hK _ _ ?_
 clear hK K
 refine b05 ?_
 obtain ⟨y8, h_y8, hm0⟩ := b0h hm0
 obtain ⟨c10, h_c10, hm0⟩ := b0h hm0
 obtain ⟨c12, h_c12, hm0⟩ := b0h hm0
 obtain ⟨c14, h_c14, hm0⟩ := b0h hm0
 refine b1r (fun t h => t 3 = .fp [.fs 5 (List.map b0u h_.Combs), .fs 3 (List.map b0r h_.Trains), .fs 3 (List.map b0v h_.Shifts), I h_.Until] 0 ∧ t 4 = .fp [.fs 1 (List.map eI d.At), .fs 1 (List.map b0s d.People), .fs 1 (List.map b0s d.Walks)] 0 ∧ t 5 = .fp [I x.Comb, I x.Tick, .fs 4 (List.map b17 x.Readings)] 0 ∧ t 69 = B c14) (fun K hK => ?_) ?_
 ·simp only [go_sem]
  refine b1g (d0k h_ _ h_y8) ?_
  simp only [go_sem]
  refine b0k (fun hg15 => ?_) (fun hg15 => ?_)
  ·simp only [hg15, Bool.not_true, Bool.not_false, eq_self, if_true, if_false, Bool.true_or, Bool.or_true, Bool.false_or, Bool.or_false, Bool.true_and, Bool.and_true, Bool.false_and, Bool.and_false, Bool.false_eq_true] at h_c10
   obtain rfl := sI9 h_c10
   simp only [hg15, Bool.not_true, Bool.not_false, eq_self, if_true, if_false, Bool.true_or, Bool.or_true, Bool.false_or, Bool.or_false, Bool.true_and, Bool.and_true, Bool.false_and, Bool.and_false, Bool.false_eq_true] at h_c12
   obtain rfl := sI9 h_c12
   simp only [hg15, Bool.not_true, Bool.not_false, eq_self, if_true, if_false, Bool.true_or, Bool.or_true, Bool.false_or, Bool.or_false, Bool.true_and, Bool.and_true, Bool.false_and, Bool.and_false, Bool.false_eq_true] at h_c14
   obtain rfl := sI9 h_c14
   simp only [go_sem, hg15]
   exact hK _ _ ⟨(by first | (simp only [go_sem, hg15, lA9, mA9]; done) | rfl), (by first | (simp only [go_sem, hg15, lA9, mA9]; done) | rfl), (by first | (simp only [go_sem, hg15, lA9, mA9]; done) | rfl), (by first | (simp only [go_sem, hg15, lA9, mA9]; done) | rfl)⟩
  ·simp only [hg15, Bool.not_true, Bool.not_false, eq_self, if_true, if_false, Bool.true_or, Bool.or_true, Bool.false_or, Bool.or_false, Bool.true_and, Bool.and_true, Bool.false_and, Bool.and_false, Bool.false_eq_true] at h_c10
   obtain ⟨y9, h_y9, h_c10⟩ := b0h h_c10
   obtain rfl := sI9 h_c10
   simp only [go_sem, hg15]
   refine b1g (d0o h_ _ h_y9) ?_
   simp only [go_sem, hg15]
   refine b0k (fun hg16 => ?_) (fun hg16 => ?_)
   ·simp only [hg15, hg16, Bool.not_true, Bool.not_false, eq_self, if_true, if_false, Bool.true_or, Bool.or_true, Bool.false_or, Bool.or_false, Bool.true_and, Bool.and_true, Bool.false_and, Bool.and_false, Bool.false_eq_true] at h_c12
    obtain rfl := sI9 h_c12
    simp only [hg15, hg16, Bool.not_true, Bool.not_false, eq_self, if_true, if_false, Bool.true_or, Bool.or_true, Bool.false_or, Bool.or_false, Bool.true_and, Bool.and_true, Bool.false_and, Bool.and_false, Bool.false_eq_true] at h_c14
    obtain rfl := sI9 h_c14
    simp only [go_sem, hg15, hg16]
    exact hK _ _ ⟨(by first | (simp only [go_sem, hg15, hg16, lA9, mA9]; done) | rfl), (by first | (simp only [go_sem, hg15, hg16, lA9, mA9]; done) | rfl), (by first | (simp only [go_sem, hg15, hg16, lA9, mA9]; done) | rfl), (by first | (simp only [go_sem, hg15, hg16, lA9, mA9]; done) | rfl)⟩
   ·simp only [hg15, hg16, Bool.not_true, Bool.not_false, eq_self, if_true, if_false, Bool.true_or, Bool.or_true, Bool.false_or, Bool.or_false, Bool.true_and, Bool.and_true, Bool.false_and, Bool.and_false, Bool.false_eq_true] at h_c12
    obtain ⟨y11, h_y11, h_c12⟩ := b0h h_c12
    obtain rfl := sI9 h_c12
    simp only [go_sem, hg15, hg16]
    refine b1g (d0p h_ d _ h_y11) ?_
    simp only [go_sem, hg15, hg16]
    refine b0k (fun hg17 => ?_) (fun hg17 => ?_)
    ·simp only [hg15, hg16, hg17, Bool.not_true, Bool.not_false, eq_self, if_true, if_false, Bool.true_or, Bool.or_true, Bool.false_or, Bool.or_false, Bool.true_and, Bool.and_true, Bool.false_and, Bool.and_false, Bool.false_eq_true] at h_c14
     obtain rfl := sI9 h_c14
     simp only [go_sem, hg15, hg16, hg17]
     exact hK _ _ ⟨(by first | (simp only [go_sem, hg15, hg16, hg17, lA9, mA9]; done) | rfl), (by first | (simp only [go_sem, hg15, hg16, hg17, lA9, mA9]; done) | rfl), (by first | (simp only [go_sem, hg15, hg16, hg17, lA9, mA9]; done) | rfl), (by first | (simp only [go_sem, hg15, hg16, hg17, lA9, mA9]; done) | rfl)⟩
    ·simp only [go_sem, hg15, hg16, hg17]
     refine b0k (fun hg18 => ?_) (fun hg18 => ?_)
     ·simp only [hg15, hg16, hg17, hg18, Bool.not_true, Bool.not_false, eq_self, if_true, if_false, Bool.true_or, Bool.or_true, Bool.false_or, Bool.or_false, Bool.true_and, Bool.and_true, Bool.false_and, Bool.and_false, Bool.false_eq_true] at h_c14
      obtain rfl := sI9 h_c14
      simp only [go_sem, hg15, hg16, hg17, hg18]
      exact hK _ _ ⟨(by first | (simp only [go_sem, hg15, hg16, hg17, hg18, lA9, mA9]; done) | rfl), (by first | (simp only [go_sem, hg15, hg16, hg17, hg18, lA9, mA9]; done) | rfl), (by first | (simp only [go_sem, hg15, hg16, hg17, hg18, lA9, mA9]; done) | rfl), (by first | (simp only [go_sem, hg15, hg16, hg17, hg18, lA9, mA9]; done) | rfl)⟩
     ·simp only [go_sem, hg15, hg16, hg17, hg18]
      refine b0k (fun hg19 => ?_) (fun hg19 => ?_)
      ·simp only [hg15, hg16, hg17, hg18, hg19, Bool.not_true, Bool.not_false, eq_self, if_true, if_false, Bool.true_or, Bool.or_true, Bool.false_or, Bool.or_false, Bool.true_and, Bool.and_true, Bool.false_and, Bool.and_false, Bool.false_eq_true] at h_c14
       obtain rfl := sI9 h_c14
       simp only [go_sem, hg15, hg16, hg17, hg18, hg19]
       exact hK _ _ ⟨(by first | (simp only [go_sem, hg15, hg16, hg17, hg18, hg19, lA9, mA9]; done) | rfl), (by first | (simp only [go_sem, hg15, hg16, hg17, hg18, hg19, lA9, mA9]; done) | rfl), (by first | (simp only [go_sem, hg15, hg16, hg17, hg18, hg19, lA9, mA9]; done) | rfl), (by first | (simp only [go_sem, hg15, hg16, hg17, hg18, hg19, lA9, mA9]; done) | rfl)⟩
      ·simp only [go_sem, hg15, hg16, hg17, hg18, hg19]
       refine b0k (fun hg20 => ?_) (fun hg20 => ?_)
       ·simp only [hg15, hg16, hg17, hg18, hg19, hg20, Bool.not_true, Bool.not_false, eq_self, if_true, if_false, Bool.true_or, Bool.or_true, Bool.false_or, Bool.or_false, Bool.true_and, Bool.and_true, Bool.false_and, Bool.and_false, Bool.false_eq_true] at h_c14
        obtain rfl := sI9 h_c14
        simp only [go_sem, hg15, hg16, hg17, hg18, hg19, hg20]
        exact hK _ _ ⟨(by first | (simp only [go_sem, hg15, hg16, hg17, hg18, hg19, hg20, lA9, mA9]; done) | rfl), (by first | (simp only [go_sem, hg15, hg16, hg17, hg18, hg19, hg20, lA9, mA9]; done) | rfl), (by first | (simp only [go_sem, hg15, hg16, hg17, hg18, hg19, hg20, lA9, mA9]; done) | rfl), (by first | (simp only [go_sem, hg15, hg16, hg17, hg18, hg19, hg20, lA9, mA9]; done) | rfl)⟩
       ·simp only [go_sem, hg15, hg16, hg17, hg18, hg19, hg20]
        refine b0k (fun hg21 => ?_) (fun hg21 => ?_)
        ·simp only [hg15, hg16, hg17, hg18, hg19, hg20, hg21, Bool.not_true, Bool.not_false, eq_self, if_true, if_false, Bool.true_or, Bool.or_true, Bool.false_or, Bool.or_false, Bool.true_and, Bool.and_true, Bool.false_and, Bool.and_false, Bool.false_eq_true] at h_c14
         obtain rfl := sI9 h_c14
         simp only [go_sem, hg15, hg16, hg17, hg18, hg19, hg20, hg21]
         exact hK _ _ ⟨(by first | (simp only [go_sem, hg15, hg16, hg17, hg18, hg19, hg20, hg21, lA9, mA9]; done) | rfl), (by first | (simp only [go_sem, hg15, hg16, hg17, hg18, hg19, hg20, hg21, lA9, mA9]; done) | rfl), (by first | (simp only [go_sem, hg15, hg16, hg17, hg18, hg19, hg20, hg21, lA9, mA9]; done) | rfl), (by first | (simp only [go_sem, hg15, hg16, hg17, hg18, hg19, hg20, hg21, lA9, mA9]; done) | rfl)⟩
        ·simp only [go_sem, hg15, hg16, hg17, hg18, hg19, hg20, hg21]
         refine b0k (fun hg22 => ?_) (fun hg22 => ?_)
         ·simp only [hg15, hg16, hg17, hg18, hg19, hg20, hg21, hg22, Bool.not_true, Bool.not_false, eq_self, if_true, if_false, Bool.true_or, Bool.or_true, Bool.false_or, Bool.or_false, Bool.true_and, Bool.and_true, Bool.false_and, Bool.and_false, Bool.false_eq_true] at h_c14
          obtain rfl := sI9 h_c14
          simp only [go_sem, hg15, hg16, hg17, hg18, hg19, hg20, hg21, hg22]
          exact hK _ _ ⟨(by first | (simp only [go_sem, hg15, hg16, hg17, hg18, hg19, hg20, hg21, hg22, lA9, mA9]; done) | rfl), (by first | (simp only [go_sem, hg15, hg16, hg17, hg18, hg19, hg20, hg21, hg22, lA9, mA9]; done) | rfl), (by first | (simp only [go_sem, hg15, hg16, hg17, hg18, hg19, hg20, hg21, hg22, lA9, mA9]; done) | rfl), (by first | (simp only [go_sem, hg15, hg16, hg17, hg18, hg19, hg20, hg21, hg22, lA9, mA9]; done) | rfl)⟩
         ·simp only [hg15, hg16, hg17, hg18, hg19, hg20, hg21, hg22, Bool.not_true, Bool.not_false, eq_self, if_true, if_false, Bool.true_or, Bool.or_true, Bool.false_or, Bool.or_false, Bool.true_and, Bool.and_true, Bool.false_and, Bool.and_false, Bool.false_eq_true] at h_c14
          obtain ⟨y13, h_y13, h_c14⟩ := b0h h_c14
          obtain rfl := sI9 h_c14
          simp only [go_sem, hg15, hg16, hg17, hg18, hg19, hg20, hg21, hg22]
          refine b1g (c2v x.Readings _ h_y13) ?_
          simp only [go_sem, hg15, hg16, hg17, hg18, hg19, hg20, hg21, hg22]
          exact hK _ _ ⟨(by first | (simp only [go_sem, hg15, hg16, hg17, hg18, hg19, hg20, hg21, hg22, lA9, mA9]; done) | rfl), (by first | (simp only [go_sem, hg15, hg16, hg17, hg18, hg19, hg20, hg21, hg22, lA9, mA9]; done) | rfl), (by first | (simp only [go_sem, hg15, hg16, hg17, hg18, hg19, hg20, hg21, hg22, lA9, mA9]; done) | rfl), (by first | (simp only [go_sem, hg15, hg16, hg17, hg18, hg19, hg20, hg21, hg22, lA9, mA9]; done) | rfl)⟩
 ·rintro t h ⟨s3, s4, s5, s69⟩
  refine b0o fun K23 hK23 => ?_
  simp only [go_sem, s69]
  refine b0k (fun hc24 => ?_) (fun hc24 => ?_)
  ·rw [b00 hc24] at hm0
   obtain ⟨y26, h_y26, hm0⟩ := b0h hm0
   refine b0b fun K hK => ?_
   simp only [go_sem]
   refine b1g (k_neweltop_measures  _ h_y26) ?_
   simp only [go_sem]
   refine hK _ _ ?_
   clear hK K
   simp only [b01, b03, b02, b04]
   obtain rfl := sI9 hm0
   exact b1e (by simp only [go_sem, lA9, mA9]) (b0g _)
  ·rw [b0z hc24] at hm0
   simp only [b0y, b0i, b0j]
   refine hK23 _ _ ?_
   obtain ⟨y28, h_y28, hm0⟩ := b0h hm0
   refine b0b fun K hK => ?_
   simp only [go_sem, s3, s4]
   refine b1g (d0a h_ d _ h_y28) ?_
   simp only [go_sem, s3, s4]
   refine hK _ _ ?_
   clear hK K
   obtain ⟨y30, h_y30, hm0⟩ := b0h hm0
   refine b0b fun K hK => ?_
   simp only [go_sem, s3, s5]
   refine b1g (c99 h_ x.Comb _ h_y30) ?_
   simp only [go_sem, s3, s5]
   refine hK _ _ ?_
   clear hK K
   refine b05 ?_
   obtain ⟨c34, h_c34, hm0⟩ := b0h hm0
   refine b1r (fun t h => t 5 = .fp [I x.Comb, I x.Tick, .fs 4 (List.map b17 x.Readings)] 0 ∧ t 7 = .fs 1 (List.map b0s y28.1) ∧ t 9 = .fs 1 (List.map eI y30.1) ∧ t 115 = B c34) (fun K hK => ?_) ?_
   ·simp only [go_sem, s3, s5]
    refine b0k (fun hg35 => ?_) (fun hg35 => ?_)
    ·simp only [hg35, Bool.not_true, Bool.not_false, eq_self, if_true, if_false, Bool.true_or, Bool.or_true, Bool.false_or, Bool.or_false, Bool.true_and, Bool.and_true, Bool.false_and, Bool.and_false, Bool.false_eq_true] at h_c34
     obtain rfl := sI9 h_c34
     simp only [go_sem, s3, s5, hg35]
     exact hK _ _ ⟨s5, (by first | (simp only [go_sem, hg35, lA9, mA9]; done) | rfl), (by first | (simp only [go_sem, hg35, lA9, mA9]; done) | rfl), (by first | (simp only [go_sem, hg35, lA9, mA9]; done) | rfl)⟩
    ·simp only [go_sem, s3, s5, hg35]
     refine b0k (fun hg36 => ?_) (fun hg36 => ?_)
     ·simp only [hg35, hg36, Bool.not_true, Bool.not_false, eq_self, if_true, if_false, Bool.true_or, Bool.or_true, Bool.false_or, Bool.or_false, Bool.true_and, Bool.and_true, Bool.false_and, Bool.and_false, Bool.false_eq_true] at h_c34
      obtain rfl := sI9 h_c34
      simp only [go_sem, s3, s5, hg35, hg36]
      exact hK _ _ ⟨s5, (by first | (simp only [go_sem, hg35, hg36, lA9, mA9]; done) | rfl), (by first | (simp only [go_sem, hg35, hg36, lA9, mA9]; done) | rfl), (by first | (simp only [go_sem, hg35, hg36, lA9, mA9]; done) | rfl)⟩
     ·simp only [go_sem, s3, s5, hg35, hg36]
      refine b0k (fun hg37 => ?_) (fun hg37 => ?_)
      ·simp only [hg35, hg36, hg37, Bool.not_true, Bool.not_false, eq_self, if_true, if_false, Bool.true_or, Bool.or_true, Bool.false_or, Bool.or_false, Bool.true_and, Bool.and_true, Bool.false_and, Bool.and_false, Bool.false_eq_true] at h_c34
       obtain rfl := sI9 h_c34
       simp only [go_sem, s3, s5, hg35, hg36, hg37]
       exact hK _ _ ⟨s5, (by first | (simp only [go_sem, hg35, hg36, hg37, lA9, mA9]; done) | rfl), (by first | (simp only [go_sem, hg35, hg36, hg37, lA9, mA9]; done) | rfl), (by first | (simp only [go_sem, hg35, hg36, hg37, lA9, mA9]; done) | rfl)⟩
      ·simp only [go_sem, s3, s5, hg35, hg36, hg37]
       refine b0k (fun hg38 => ?_) (fun hg38 => ?_)
       ·simp only [hg35, hg36, hg37, hg38, Bool.not_true, Bool.not_false, eq_self, if_true, if_false, Bool.true_or, Bool.or_true, Bool.false_or, Bool.or_false, Bool.true_and, Bool.and_true, Bool.false_and, Bool.and_false, Bool.false_eq_true] at h_c34
        obtain rfl := sI9 h_c34
        simp only [go_sem, s3, s5, hg35, hg36, hg37, hg38]
        exact hK _ _ ⟨s5, (by first | (simp only [go_sem, hg35, hg36, hg37, hg38, lA9, mA9]; done) | rfl), (by first | (simp only [go_sem, hg35, hg36, hg37, hg38, lA9, mA9]; done) | rfl), (by first | (simp only [go_sem, hg35, hg36, hg37, hg38, lA9, mA9]; done) | rfl)⟩
       ·simp only [hg35, hg36, hg37, hg38, Bool.not_true, Bool.not_false, eq_self, if_true, if_false, Bool.true_or, Bool.or_true, Bool.false_or, Bool.or_false, Bool.true_and, Bool.and_true, Bool.false_and, Bool.and_false, Bool.false_eq_true] at h_c34
        obtain ⟨x33, h_x33, h_c34⟩ := b0h h_c34
        have h_x330 := b06 h_x33
        have h_x331 := b08 h_x33
        obtain rfl := sI9 h_c34
        simp only [go_sem, s3, s5, b0p h_x33, b0q h_x33, h_x330, h_x331, hg35, hg36, hg37, hg38]
        exact hK _ _ ⟨s5, (by first | (simp only [go_sem, hg35, hg36, hg37, hg38, lA9, mA9]; done) | rfl), (by first | (simp only [go_sem, hg35, hg36, hg37, hg38, lA9, mA9]; done) | rfl), (by first | (simp only [go_sem, hg35, hg36, hg37, hg38, lA9, mA9]; done) | rfl)⟩
   ·rintro t h ⟨s5, s7, s9, s115⟩
    refine b0o fun K39 hK39 => ?_
    simp only [go_sem, s115]
    refine b0k (fun hc40 => ?_) (fun hc40 => ?_)
    ·rw [b00 hc40] at hm0
     refine b0b fun K hK => ?_
     simp only [go_sem]
     refine hK _ _ ?_
     clear hK K
     simp only [b01, b03, b02, b04]
     obtain rfl := sI9 hm0
     exact b1e (by simp only [go_sem, lA9, mA9]) (b0g _)
    ·rw [b0z hc40] at hm0
     simp only [b0y, b0i, b0j]
     refine hK39 _ _ ?_
     obtain ⟨x44, h_x44, hm0⟩ := b0h hm0
     have h_x440 := b06 h_x44
     have h_x441 := b08 h_x44
     obtain ⟨x45, h_x45, hm0⟩ := b0h hm0
     have h_x450 := b06 h_x45
     have h_x451 := b08 h_x45
     obtain ⟨x46, h_x46, hm0⟩ := b0h hm0
     have h_x460 := b06 h_x46
     have h_x461 := b08 h_x46
     refine b0b fun K hK => ?_
     simp only [go_sem, s5, s7, s9, b0p h_x44, b0q h_x44, h_x440, h_x441, b0p h_x45, b0q h_x45, h_x450, h_x451, b0p h_x46, b0q h_x46, h_x460, h_x461]
     refine hK _ _ ?_
     clear hK K
     refine b05 ?_
     refine b0b fun K hK => ?_
     simp only [go_sem]
     refine hK _ _ ?_
     clear hK K
     refine b0o fun K47 hK47 => ?_
     simp only [go_sem]
     refine b0k (fun hc48 => ?_) (fun hc48 => ?_)
     ·rw [b00 hc48] at hm0
      refine b0b fun K hK => ?_
      simp only [go_sem]
      refine hK _ _ ?_
      clear hK K
      simp only [b01, b03, b02, b04]
      obtain rfl := sI9 hm0
      exact b1e (by simp only [go_sem, lA9, mA9]) (b0g _)
     ·rw [b0z hc48] at hm0
      simp only [b0y, b0i, b0j]
      refine hK47 _ _ ?_
      refine b05 ?_
      refine b0b fun K hK => ?_
      simp only [go_sem]
      refine hK _ _ ?_
      clear hK K
      refine b0o fun K49 hK49 => ?_
      simp only [go_sem]
      refine b0k (fun hc50 => ?_) (fun hc50 => ?_)
      ·rw [b00 hc50] at hm0
       obtain ⟨y52, h_y52, hm0⟩ := b0h hm0
       refine b0b fun K hK => ?_
       simp only [go_sem]
       refine b1g (k_neweltop_measures  _ h_y52) ?_
       simp only [go_sem]
       refine hK _ _ ?_
       clear hK K
       simp only [b01, b03, b02, b04]
       obtain rfl := sI9 hm0
       exact b1e (by simp only [go_sem, lA9, mA9]) (b0g _)
      ·rw [b0z hc50] at hm0
       simp only [b0y, b0i, b0j]
       refine hK49 _ _ ?_
       obtain ⟨l55, h_l55, hm0⟩ := b0h hm0
       obtain ⟨l56, h_l56, hm0⟩ := b0h hm0
       refine b0b fun K hK => ?_
       simp only [go_sem, s5]
       refine b7d (f := b17) (l := ([])) (m := x.Readings) ?_ ?_ ?_ ?_ h_l55 ?_
       ·exact (b4f (by simp only [go_sem, lA9, mA9]) (by simp only [go_sem, lA9, mA9]) (by simp only [go_sem]))
       ·exact j7a
       ·exact j2m
       ·exact (fun e => by cases e)
       simp only [go_sem, s5]
       refine b7d (f := b17) (l := l55) (m := ([(Reading.mk x46 x46 0 0)])) ?_ ?_ ?_ ?_ h_l56 ?_
       ·exact (b4f (by simp only [go_sem, lA9, mA9]) (by simp only [go_sem, lA9, mA9]) (by simp only [go_sem]))
       ·exact (b8r (by simp only [go_sem, lA9, mA9]) (by simp only [go_sem, lA9, mA9]))
       ·exact (b45 (by first | exact b2i | exact b2j (by first | omega | (simp only [nxs] <;> omega)) | assumption | exact b1x (by assumption) (by first | omega | (simp only [go_sem, nxs] <;> omega))))
       ·exact (fun _ => by simp)
       simp only [go_sem, s5]
       refine hK _ _ ?_
       clear hK K
       refine b05 ?_
       obtain ⟨y58, h_y58, hm0⟩ := b0h hm0
       refine b0b fun K hK => ?_
       simp only [go_sem]
       refine d5x ?_ (c57 l56 x45 _ h_y58) (.v _) ?_
       ·exact .cons (c40 (f := b17) (l := l56) (id := (nxs (nxs (nxs h.nx)))) (by simp only [go_sem, lA9, mA9]) (by first | rfl | simp only [go_sem, lA9, mA9]) b6k d7d) (.cons (.refl _ (b0g _)) (.nil))
       simp only [go_sem]
       refine hK _ _ ?_
       clear hK K
       refine b0o fun K59 hK59 => ?_
       simp only [go_sem]
       refine b0k (fun hc60 => ?_) (fun hc60 => ?_)
       ·rw [b00 hc60] at hm0
        refine b05 ?_
        refine c8w (s := 13) (v := .rs (nxs (nxs (nxs h.nx))) 0 (List.length l56)) (f := b17) (l := l56) (by simp only [go_sem, lA9, mA9]) (b4f (by simp only [go_sem, lA9, mA9]) (by simp only [go_sem, lA9, mA9]) (by simp only [go_sem])) b6k d7d ?_
        simp only [c9h, c9j]
        obtain ⟨y62, h_y62, hm0⟩ := b0h hm0
        refine b0b fun K hK => ?_
        simp only [go_sem]
        refine b1g (c55 l56 _ h_y62) ?_
        simp only [go_sem]
        refine hK _ _ ?_
        clear hK K
        obtain ⟨y64, h_y64, hm0⟩ := b0h hm0
        refine b0b fun K hK => ?_
        simp only [go_sem]
        refine b1g (c96 l56 _ h_y64) ?_
        simp only [go_sem]
        refine hK _ _ ?_
        clear hK K
        obtain ⟨c68, h_c68, hm0⟩ := b0h hm0
        refine b1r (fun t h => t 6 = B c68) (fun K hK => ?_) ?_
        ·simp only [go_sem]
         refine b0k (fun hg69 => ?_) (fun hg69 => ?_)
         ·simp only [go_sem, hg69]
          refine b0k (fun hg70 => ?_) (fun hg70 => ?_)
          ·simp only [go_sem, hg69, hg70]
           refine b0k (fun hg71 => ?_) (fun hg71 => ?_)
           ·simp only [go_sem, hg69, hg70, hg71]
            refine b0k (fun hg72 => ?_) (fun hg72 => ?_)
            ·simp only [go_sem, hg69, hg70, hg71, hg72]
             refine b0k (fun hg73 => ?_) (fun hg73 => ?_)
             ·simp only [go_sem, hg69, hg70, hg71, hg72, hg73]
              refine b0k (fun hg74 => ?_) (fun hg74 => ?_)
              ·simp only [hg69, hg70, hg71, hg72, hg73, hg74, Bool.not_true, Bool.not_false, eq_self, if_true, if_false, Bool.true_or, Bool.or_true, Bool.false_or, Bool.or_false, Bool.true_and, Bool.and_true, Bool.false_and, Bool.and_false, Bool.false_eq_true] at h_c68
               obtain ⟨y67, h_y67, h_c68⟩ := b0h h_c68
               obtain rfl := sI9 h_c68
               simp only [go_sem, hg69, hg70, hg71, hg72, hg73, hg74]
               refine b1g (k_neweltop_measures  _ h_y67) ?_
               simp only [go_sem, hg69, hg70, hg71, hg72, hg73, hg74]
               exact hK _ _ (by first | (simp only [go_sem, hg69, hg70, hg71, hg72, hg73, hg74, lA9, mA9]; done) | rfl)
              ·simp only [hg69, hg70, hg71, hg72, hg73, hg74, Bool.not_true, Bool.not_false, eq_self, if_true, if_false, Bool.true_or, Bool.or_true, Bool.false_or, Bool.or_false, Bool.true_and, Bool.and_true, Bool.false_and, Bool.and_false, Bool.false_eq_true] at h_c68
               obtain rfl := sI9 h_c68
               simp only [go_sem, hg69, hg70, hg71, hg72, hg73, hg74]
               exact hK _ _ (by first | (simp only [go_sem, hg69, hg70, hg71, hg72, hg73, hg74, lA9, mA9]; done) | rfl)
             ·simp only [hg69, hg70, hg71, hg72, hg73, Bool.not_true, Bool.not_false, eq_self, if_true, if_false, Bool.true_or, Bool.or_true, Bool.false_or, Bool.or_false, Bool.true_and, Bool.and_true, Bool.false_and, Bool.and_false, Bool.false_eq_true] at h_c68
              obtain rfl := sI9 h_c68
              simp only [go_sem, hg69, hg70, hg71, hg72, hg73]
              exact hK _ _ (by first | (simp only [go_sem, hg69, hg70, hg71, hg72, hg73, lA9, mA9]; done) | rfl)
            ·simp only [hg69, hg70, hg71, hg72, Bool.not_true, Bool.not_false, eq_self, if_true, if_false, Bool.true_or, Bool.or_true, Bool.false_or, Bool.or_false, Bool.true_and, Bool.and_true, Bool.false_and, Bool.and_false, Bool.false_eq_true] at h_c68
             obtain rfl := sI9 h_c68
             simp only [go_sem, hg69, hg70, hg71, hg72]
             exact hK _ _ (by first | (simp only [go_sem, hg69, hg70, hg71, hg72, lA9, mA9]; done) | rfl)
           ·simp only [hg69, hg70, hg71, Bool.not_true, Bool.not_false, eq_self, if_true, if_false, Bool.true_or, Bool.or_true, Bool.false_or, Bool.or_false, Bool.true_and, Bool.and_true, Bool.false_and, Bool.and_false, Bool.false_eq_true] at h_c68
            obtain rfl := sI9 h_c68
            simp only [go_sem, hg69, hg70, hg71]
            exact hK _ _ (by first | (simp only [go_sem, hg69, hg70, hg71, lA9, mA9]; done) | rfl)
          ·simp only [hg69, hg70, Bool.not_true, Bool.not_false, eq_self, if_true, if_false, Bool.true_or, Bool.or_true, Bool.false_or, Bool.or_false, Bool.true_and, Bool.and_true, Bool.false_and, Bool.and_false, Bool.false_eq_true] at h_c68
           obtain rfl := sI9 h_c68
           simp only [go_sem, hg69, hg70]
           exact hK _ _ (by first | (simp only [go_sem, hg69, hg70, lA9, mA9]; done) | rfl)
         ·simp only [hg69, Bool.not_true, Bool.not_false, eq_self, if_true, if_false, Bool.true_or, Bool.or_true, Bool.false_or, Bool.or_false, Bool.true_and, Bool.and_true, Bool.false_and, Bool.and_false, Bool.false_eq_true] at h_c68
          obtain rfl := sI9 h_c68
          simp only [go_sem, hg69]
          exact hK _ _ (by first | (simp only [go_sem, hg69, lA9, mA9]; done) | rfl)
        ·rintro t h s6
         simp only [b01, b03, b02, b04]
         obtain rfl := sI9 hm0
         exact b1e (by simp only [go_sem, s6, lA9, mA9]) (b0g _)
       ·rw [b0z hc60] at hm0
        simp only [b0y, b0i, b0j]
        refine hK59 _ _ ?_
        obtain ⟨y76, h_y76, hm0⟩ := b0h hm0
        refine b0b fun K hK => ?_
        simp only [go_sem, s5]
        refine b1g (c55 x.Readings _ h_y76) ?_
        simp only [go_sem, s5]
        refine hK _ _ ?_
        clear hK K
        refine b05 ?_
        obtain ⟨c80, h_c80, hm0⟩ := b0h hm0
        refine b1r (fun t h => t 209 = B c80) (fun K hK => ?_) ?_
        ·simp only [go_sem, s5]
         refine b0k (fun hg81 => ?_) (fun hg81 => ?_)
         ·simp only [go_sem, s5, hg81]
          refine b0k (fun hg82 => ?_) (fun hg82 => ?_)
          ·simp only [hg81, hg82, Bool.not_true, Bool.not_false, eq_self, if_true, if_false, Bool.true_or, Bool.or_true, Bool.false_or, Bool.or_false, Bool.true_and, Bool.and_true, Bool.false_and, Bool.and_false, Bool.false_eq_true] at h_c80
           obtain ⟨y79, h_y79, h_c80⟩ := b0h h_c80
           obtain rfl := sI9 h_c80
           simp only [go_sem, s5, hg81, hg82]
           refine b1g (c57 x.Readings x45 _ h_y79) ?_
           simp only [go_sem, s5, hg81, hg82]
           exact hK _ _ (by first | (simp only [go_sem, hg81, hg82, lA9, mA9]; done) | rfl)
          ·simp only [hg81, hg82, Bool.not_true, Bool.not_false, eq_self, if_true, if_false, Bool.true_or, Bool.or_true, Bool.false_or, Bool.or_false, Bool.true_and, Bool.and_true, Bool.false_and, Bool.and_false, Bool.false_eq_true] at h_c80
           obtain rfl := sI9 h_c80
           simp only [go_sem, s5, hg81, hg82]
           exact hK _ _ (by first | (simp only [go_sem, hg81, hg82, lA9, mA9]; done) | rfl)
         ·simp only [hg81, Bool.not_true, Bool.not_false, eq_self, if_true, if_false, Bool.true_or, Bool.or_true, Bool.false_or, Bool.or_false, Bool.true_and, Bool.and_true, Bool.false_and, Bool.and_false, Bool.false_eq_true] at h_c80
          obtain rfl := sI9 h_c80
          simp only [go_sem, s5, hg81]
          exact hK _ _ (by first | (simp only [go_sem, hg81, lA9, mA9]; done) | rfl)
        ·rintro t h s209
         refine b0o fun K83 hK83 => ?_
         simp only [go_sem, s209]
         refine b0k (fun hc84 => ?_) (fun hc84 => ?_)
         ·rw [b00 hc84] at hm0
          refine b0b fun K hK => ?_
          simp only [go_sem]
          refine hK _ _ ?_
          clear hK K
          simp only [b01, b03, b02, b04]
          obtain rfl := sI9 hm0
          exact b1e (by simp only [go_sem, lA9, mA9]) (b0g _)
         ·rw [b0z hc84] at hm0
          simp only [b0y, b0i, b0j]
          refine hK83 _ _ ?_
          obtain ⟨y86, h_y86, hm0⟩ := b0h hm0
          refine b0b fun K hK => ?_
          simp only [go_sem]
          refine b1g (k_neweltop_measures  _ h_y86) ?_
          simp only [go_sem]
          refine hK _ _ ?_
          clear hK K
          simp only [b01, b03, b02, b04]
          obtain rfl := sI9 hm0
          exact b1e (by simp only [go_sem, lA9, mA9]) (b0g _)
theorem d0o (hf : Has O "newel/newelref06.Check" x_r06_Check) (b36 : c36 O) (c0k : c8b O) : c79 O := by
 intro h_ r hm0
 unfold b5y at hm0
 refine b10 hf rfl (b0e (.agg _ (b0e (b0w fun a _ => b3h a) (b0e (b0w fun a _ => b3b a) (b0e (b0w fun a _ => b3i a) (b0e (b0g _) b0x))))) b0x) (b0g _) ?_
 refine b1s (fun t h => t 0 = .agg [.fs 5 (List.map b0u h_.Combs), .fs 3 (List.map b0r h_.Trains), .fs 3 (List.map b0v h_.Shifts), I h_.Until]) rfl fun t h s0 => ?_
 simp only [x_r06_Check]
 refine b0b fun K hK => ?_
 simp only [go_sem, s0]
 refine hK _ _ ?_
 clear hK K
 refine b05 ?_
 refine b1r (fun t h => t 1 = .fp [.fs 5 (List.map b0u h_.Combs), .fs 3 (List.map b0r h_.Trains), .fs 3 (List.map b0v h_.Shifts), I h_.Until] 0 ∧ t 34 = B ((((!(b2b h_.Until 1 100)) || (!(b2b (List.length h_.Combs : Int) 1 8))) || (decide (12 < (List.length h_.Trains : Int)))) || (decide (20 < (List.length h_.Shifts : Int))))) (fun K hK => ?_) ?_
 ·simp only [go_sem]
  refine b1g (b36 h_.Until 1 100) ?_
  simp only [go_sem]
  refine b0k (fun hg1 => ?_) (fun hg1 => ?_)
  ·simp only [go_sem, hg1]
   exact hK _ _ ⟨(by first | (simp only [go_sem, hg1, lA9, mA9]; done) | rfl), (by first | (simp only [go_sem, hg1, lA9, mA9]; done) | rfl)⟩
  ·simp only [go_sem, hg1]
   refine b1g (b36 (List.length h_.Combs : Int) 1 8) ?_
   simp only [go_sem, hg1]
   refine b0k (fun hg2 => ?_) (fun hg2 => ?_)
   ·simp only [go_sem, hg1, hg2]
    exact hK _ _ ⟨(by first | (simp only [go_sem, hg1, hg2, lA9, mA9]; done) | rfl), (by first | (simp only [go_sem, hg1, hg2, lA9, mA9]; done) | rfl)⟩
   ·simp only [go_sem, hg1, hg2]
    refine b0k (fun hg3 => ?_) (fun hg3 => ?_)
    ·simp only [go_sem, hg1, hg2, hg3]
     exact hK _ _ ⟨(by first | (simp only [go_sem, hg1, hg2, hg3, lA9, mA9]; done) | rfl), (by first | (simp only [go_sem, hg1, hg2, hg3, lA9, mA9]; done) | rfl)⟩
    ·simp only [go_sem, hg1, hg2, hg3]
     exact hK _ _ ⟨(by first | (simp only [go_sem, hg1, hg2, hg3, lA9, mA9]; done) | rfl), (by first | (simp only [go_sem, hg1, hg2, hg3, lA9, mA9]; done) | rfl)⟩
 ·rintro t h ⟨s1, s34⟩
  refine b0o fun K4 hK4 => ?_
  simp only [go_sem, s34]
  refine b0k (fun hc5 => ?_) (fun hc5 => ?_)
  ·rw [b00 hc5] at hm0
   refine b0b fun K hK => ?_
   simp only [go_sem]
   refine hK _ _ ?_
   clear hK K
   simp only [b01, b03, b02, b04]
   obtain rfl := sI9 hm0
   exact b1e (by simp only [go_sem, lA9, mA9]) (b0g _)
  ·rw [b0z hc5] at hm0
   simp only [b0y, b0i, b0j]
   refine hK4 _ _ ?_
   refine b0b fun K hK => ?_
   simp only [go_sem, s1]
   refine hK _ _ ?_
   clear hK K
   refine b05 ?_
   refine b0b fun K hK => ?_
   simp only [go_sem]
   refine hK _ _ ?_
   clear hK K
   refine b0o fun K6 hK6 => ?_
   have J7 : ∀ (t : Slots) (h : Heap), t 1 = .fp [.fs 5 (List.map b0u h_.Combs), .fs 3 (List.map b0r h_.Trains), .fs 3 (List.map b0v h_.Shifts), I h_.Until] 0 → t 3 = I (List.length h_.Combs : Int) → c6q h_ = some r → K6 t h := by
    intro t h s1 s3 hm0
    refine hK6 _ _ ?_
    unfold c6q at hm0
    refine b05 ?_
    refine b0b fun K hK => ?_
    simp only [go_sem]
    refine hK _ _ ?_
    clear hK K
    refine b0o fun K8 hK8 => ?_
    have J9 : ∀ (t : Slots) (h : Heap), t 1 = .fp [.fs 5 (List.map b0u h_.Combs), .fs 3 (List.map b0r h_.Trains), .fs 3 (List.map b0v h_.Shifts), I h_.Until] 0 → t 3 = I (List.length h_.Combs : Int) → c6r h_ = some r → K8 t h := by
     intro t h s1 s3 hm0
     refine hK8 _ _ ?_
     unfold c6r at hm0
     refine b05 ?_
     refine b0b fun K hK => ?_
     simp only [go_sem]
     refine hK _ _ ?_
     clear hK K
     refine b0o fun K10 hK10 => ?_
     have J11 : ∀ (t : Slots) (h : Heap), d1n = some r → K10 t h := by
      intro t h hm0
      refine hK10 _ _ ?_
      unfold d1n at hm0
      refine b0b fun K hK => ?_
      simp only [go_sem]
      refine hK _ _ ?_
      clear hK K
      simp only [b01, b03, b02, b04]
      obtain rfl := sI9 hm0
      exact b1e (by simp only [go_sem, lA9, mA9]) (b0g _)
     simp only [b1c]
     obtain ⟨b12, hl12, hm0⟩ := b0h hm0
     refine b1z hl12 (fun | i_10, t, h => t 1 = .fp [.fs 5 (List.map b0u h_.Combs), .fs 3 (List.map b0r h_.Trains), .fs 3 (List.map b0v h_.Shifts), I h_.Until] 0 ∧ t 3 = I (List.length h_.Combs : Int) ∧ t 10 = I i_10) ?_ ?_
     ·exact ⟨s1, s3, (by first | (simp only [go_sem, lA9, mA9]; done) | rfl)⟩
     ·rintro i_10 o t h ⟨s1, s3, s10⟩ hm1 hb12
      simp only [c0y] at hm1
      rw [g0s]
      refine b05 ?_
      refine b0b fun K hK => ?_
      simp only [go_sem, s1, s10]
      refine hK _ _ ?_
      clear hK K
      refine b0o fun K13 hK13 => ?_
      simp only [go_sem]
      refine b0k (fun hc14 => ?_) (fun hc14 => ?_)
      ·rw [b00 hc14] at hm1
       simp only [b0y, b0i, b0j]
       refine hK13 _ _ ?_
       refine b0o fun K15 hK15 => ?_
       simp only [b1c]
       obtain ⟨x17, h_x17, hm1⟩ := b0h hm1
       have h_x170 := b06 h_x17
       have h_x171 := b08 h_x17
       refine b0b fun K hK => ?_
       simp only [go_sem, s1, s10, b0p h_x17, b0q h_x17, h_x170, h_x171]
       refine hK _ _ ?_
       clear hK K
       obtain ⟨c23, h_c23, hm1⟩ := b0h hm1
       refine b1r (fun t h => t 1 = .fp [.fs 5 (List.map b0u h_.Combs), .fs 3 (List.map b0r h_.Trains), .fs 3 (List.map b0v h_.Shifts), I h_.Until] 0 ∧ t 3 = I (List.length h_.Combs : Int) ∧ t 10 = I i_10 ∧ t 187 = B c23) (fun K hK => ?_) ?_
       ·simp only [go_sem, s1, s3, s10]
        refine b1g (b36 x17.At 0 (wr (h_.Until - 1))) ?_
        simp only [go_sem, s1, s3, s10]
        refine b0k (fun hg24 => ?_) (fun hg24 => ?_)
        ·simp only [hg24, Bool.not_true, Bool.not_false, eq_self, if_true, if_false, Bool.true_or, Bool.or_true, Bool.false_or, Bool.or_false, Bool.true_and, Bool.and_true, Bool.false_and, Bool.and_false, Bool.false_eq_true] at h_c23
         obtain rfl := sI9 h_c23
         simp only [go_sem, s1, s3, s10, hg24]
         exact hK _ _ ⟨s1, s3, s10, (by first | (simp only [go_sem, hg24, lA9, mA9]; done) | rfl)⟩
        ·simp only [go_sem, s1, s3, s10, hg24]
         refine b1g (b36 x17.Comb 0 (wr ((List.length h_.Combs : Int) - 1))) ?_
         simp only [go_sem, s1, s3, s10, hg24]
         refine b0k (fun hg25 => ?_) (fun hg25 => ?_)
         ·simp only [hg24, hg25, Bool.not_true, Bool.not_false, eq_self, if_true, if_false, Bool.true_or, Bool.or_true, Bool.false_or, Bool.or_false, Bool.true_and, Bool.and_true, Bool.false_and, Bool.and_false, Bool.false_eq_true] at h_c23
          obtain rfl := sI9 h_c23
          simp only [go_sem, s1, s3, s10, hg24, hg25]
          exact hK _ _ ⟨s1, s3, s10, (by first | (simp only [go_sem, hg24, hg25, lA9, mA9]; done) | rfl)⟩
         ·simp only [go_sem, s1, s3, s10, hg24, hg25]
          refine b1g (b36 x17.Rate 0 1000) ?_
          simp only [go_sem, s1, s3, s10, hg24, hg25]
          refine b0k (fun hg26 => ?_) (fun hg26 => ?_)
          ·simp only [hg24, hg25, hg26, Bool.not_true, Bool.not_false, eq_self, if_true, if_false, Bool.true_or, Bool.or_true, Bool.false_or, Bool.or_false, Bool.true_and, Bool.and_true, Bool.false_and, Bool.and_false, Bool.false_eq_true] at h_c23
           obtain rfl := sI9 h_c23
           simp only [go_sem, s1, s3, s10, hg24, hg25, hg26]
           exact hK _ _ ⟨s1, s3, s10, (by first | (simp only [go_sem, hg24, hg25, hg26, lA9, mA9]; done) | rfl)⟩
          ·simp only [hg24, hg25, hg26, Bool.not_true, Bool.not_false, eq_self, if_true, if_false, Bool.true_or, Bool.or_true, Bool.false_or, Bool.or_false, Bool.true_and, Bool.and_true, Bool.false_and, Bool.and_false, Bool.false_eq_true] at h_c23
           obtain ⟨c22, h_c22, h_c23⟩ := b0h h_c23
           obtain rfl := sI9 h_c23
           simp only [go_sem, s1, s3, s10, hg24, hg25, hg26]
           refine b0k (fun hg27 => ?_) (fun hg27 => ?_)
           ·simp only [hg24, hg25, hg26, hg27, Bool.not_true, Bool.not_false, eq_self, if_true, if_false, Bool.true_or, Bool.or_true, Bool.false_or, Bool.or_false, Bool.true_and, Bool.and_true, Bool.false_and, Bool.and_false, Bool.false_eq_true] at h_c22
            obtain ⟨x21, h_x21, h_c22⟩ := b0h h_c22
            have h_x210 := b06 h_x21
            have h_x211 := b08 h_x21
            obtain rfl := sI9 h_c22
            simp only [go_sem, s1, s3, s10, b0p h_x21, b0q h_x21, h_x210, h_x211, hg24, hg25, hg26, hg27]
            exact hK _ _ ⟨s1, s3, s10, (by first | (simp only [go_sem, hg24, hg25, hg26, hg27, lA9, mA9]; done) | rfl)⟩
           ·simp only [hg24, hg25, hg26, hg27, Bool.not_true, Bool.not_false, eq_self, if_true, if_false, Bool.true_or, Bool.or_true, Bool.false_or, Bool.or_false, Bool.true_and, Bool.and_true, Bool.false_and, Bool.and_false, Bool.false_eq_true] at h_c22
            obtain rfl := sI9 h_c22
            simp only [go_sem, s1, s3, s10, hg24, hg25, hg26, hg27]
            exact hK _ _ ⟨s1, s3, s10, (by first | (simp only [go_sem, hg24, hg25, hg26, hg27, lA9, mA9]; done) | rfl)⟩
       ·rintro t h ⟨s1, s3, s10, s187⟩
        simp only [go_sem, s187]
        refine b0k (fun hc28 => ?_) (fun hc28 => ?_)
        ·rw [b00 hc28] at hm1
         refine b0b fun K hK => ?_
         simp only [go_sem]
         refine hK _ _ ?_
         clear hK K
         simp only [b01, b03, b02, b04]
         obtain rfl := sI9 hm1
         obtain rfl := hb12 _ rfl
         try dsimp only at hm0
         obtain rfl := sI9 hm0
         exact b1e (by simp only [go_sem, lA9, mA9]) (b0g _)
        ·rw [b0z hc28] at hm1
         simp only [b0y, b0i, b0j]
         refine hK15 _ _ ?_
         refine b1m fun K hK => ?_
         simp only [go_sem, s10]
         refine hK _ _ ?_
         clear hK K
         simp only [b0i, b0j]
         obtain rfl := sI9 hm1
         refine ⟨_, rfl, ?_⟩
         exact ⟨s1, s3, (by first | (simp only [go_sem, s10, lA9, mA9]; done) | rfl)⟩
      ·rw [b0z hc14] at hm1
       simp only [b1t, b1w, b1v, b1u, b0i, b0j, Nat.reduceEqDiff, nF9]
       obtain rfl := sI9 hm1
       obtain rfl := hb12 _ rfl
       try dsimp only at hm0
       exact J11  _ _  hm0
    simp only [b1c]
    obtain ⟨b30, hl30, hm0⟩ := b0h hm0
    refine b1z hl30 (fun | i_6, t, h => t 1 = .fp [.fs 5 (List.map b0u h_.Combs), .fs 3 (List.map b0r h_.Trains), .fs 3 (List.map b0v h_.Shifts), I h_.Until] 0 ∧ t 3 = I (List.length h_.Combs : Int) ∧ t 6 = I i_6) ?_ ?_
    ·exact ⟨s1, s3, (by first | (simp only [go_sem, lA9, mA9]; done) | rfl)⟩
    ·rintro i_6 o t h ⟨s1, s3, s6⟩ hm1 hb30
     simp only [c0x] at hm1
     rw [g0r]
     refine b05 ?_
     refine b0b fun K hK => ?_
     simp only [go_sem, s1, s6]
     refine hK _ _ ?_
     clear hK K
     refine b0o fun K31 hK31 => ?_
     simp only [go_sem]
     refine b0k (fun hc32 => ?_) (fun hc32 => ?_)
     ·rw [b00 hc32] at hm1
      simp only [b0y, b0i, b0j]
      refine hK31 _ _ ?_
      refine b0o fun K33 hK33 => ?_
      have J34 : ∀ (t : Slots) (h : Heap), t 1 = .fp [.fs 5 (List.map b0u h_.Combs), .fs 3 (List.map b0r h_.Trains), .fs 3 (List.map b0v h_.Shifts), I h_.Until] 0 → t 3 = I (List.length h_.Combs : Int) → t 6 = I i_6 → c6p i_6 = some o → K33 t h := by
       intro t h s1 s3 s6 hm1
       refine hK33 _ _ ?_
       unfold c6p at hm1
       refine b1m fun K hK => ?_
       simp only [go_sem, s6]
       refine hK _ _ ?_
       clear hK K
       simp only [b0i, b0j]
       obtain rfl := sI9 hm1
       refine ⟨_, rfl, ?_⟩
       exact ⟨s1, s3, (by first | (simp only [go_sem, s6, lA9, mA9]; done) | rfl)⟩
      simp only [b1c]
      obtain ⟨x36, h_x36, hm1⟩ := b0h hm1
      have h_x360 := b06 h_x36
      have h_x361 := b08 h_x36
      refine b0b fun K hK => ?_
      simp only [go_sem, s1, s6, b0p h_x36, b0q h_x36, h_x360, h_x361]
      refine hK _ _ ?_
      clear hK K
      refine b05 ?_
      refine b1r (fun t h => ∃ i7 : Nat, t 1 = .fp [.fs 5 (List.map b0u h_.Combs), .fs 3 (List.map b0r h_.Trains), .fs 3 (List.map b0v h_.Shifts), I h_.Until] 0 ∧ t 3 = I (List.length h_.Combs : Int) ∧ t 6 = I i_6 ∧ t 7 = .rp i7 0 0 ∧ t 103 = B ((!(b38 x36.At 0 (wr (h_.Until - 1)))) || (decide (4 < (List.length x36.Crowds : Int)))) ∧ h.ob i7 = some (3, [[I x36.At.Low, I x36.At.High, .fs 3 (List.map b2m x36.Crowds)]]) ∧ i7 < h.nx) (fun K hK => ?_) ?_
      ·simp only [go_sem, s1]
       refine b1g (c0k x36.At 0 (wr (h_.Until - 1))) ?_
       simp only [go_sem, s1]
       refine b0k (fun hg37 => ?_) (fun hg37 => ?_)
       ·simp only [go_sem, s1, hg37]
        exact hK _ _ ⟨h.nx, s1, s3, s6, (by first | (simp only [go_sem, hg37, lA9, mA9]; done) | rfl), (by first | (simp only [go_sem, hg37, lA9, mA9]; done) | rfl), (by simp only [go_sem, hg37, lA9, mA9]), (by simp only [go_sem])⟩
       ·simp only [go_sem, s1, hg37]
        exact hK _ _ ⟨h.nx, s1, s3, s6, (by first | (simp only [go_sem, hg37, lA9, mA9]; done) | rfl), (by first | (simp only [go_sem, hg37, lA9, mA9]; done) | rfl), (by simp only [go_sem, hg37, lA9, mA9]), (by simp only [go_sem])⟩
      ·rintro t h ⟨i7, s1, s3, s6, s7, s103, Qa, Q0⟩
       refine b0o fun K38 hK38 => ?_
       simp only [go_sem, s103]
       refine b0k (fun hc39 => ?_) (fun hc39 => ?_)
       ·rw [b00 hc39] at hm1
        refine b0b fun K hK => ?_
        simp only [go_sem, Q0]
        refine hK _ _ ?_
        clear hK K
        simp only [b01, b03, b02, b04]
        obtain rfl := sI9 hm1
        obtain rfl := hb30 _ rfl
        try dsimp only at hm0
        obtain rfl := sI9 hm0
        exact b1e (by simp only [go_sem, Qa, Q0, lA9, mA9]) (b0g _)
       ·rw [b0z hc39] at hm1
        simp only [b0y, b0i, b0j]
        refine hK38 _ _ ?_
        refine b0b fun K hK => ?_
        simp only [go_sem, Q0]
        refine hK _ _ ?_
        clear hK K
        refine b0b fun K hK => ?_
        simp only [go_sem, Q0]
        refine hK _ _ ?_
        clear hK K
        simp only [b1c]
        obtain ⟨b40, hl40, hm1⟩ := b0h hm1
        refine b1z hl40 (fun | (last_8, k_9), t, h => t 1 = .fp [.fs 5 (List.map b0u h_.Combs), .fs 3 (List.map b0r h_.Trains), .fs 3 (List.map b0v h_.Shifts), I h_.Until] 0 ∧ t 3 = I (List.length h_.Combs : Int) ∧ t 6 = I i_6 ∧ t 7 = .rp i7 0 0 ∧ t 8 = I last_8 ∧ t 9 = I k_9 ∧ h.ob i7 = some (3, [[I x36.At.Low, I x36.At.High, .fs 3 (List.map b2m x36.Crowds)]]) ∧ i7 < h.nx) ?_ ?_
        ·exact ⟨s1, s3, s6, s7, (by first | (simp only [go_sem, lA9, mA9]; done) | rfl), (by first | (simp only [go_sem, lA9, mA9]; done) | rfl), Qa, Q0⟩
        ·rintro ⟨last_8, k_9⟩ o t h ⟨s1, s3, s6, s7, s8, s9, Qa, Q0⟩ hm2 hb40
         simp only [b7m] at hm2
         rw [g0q]
         refine b05 ?_
         refine b0b fun K hK => ?_
         simp only [go_sem, s7, s9, Qa, Q0]
         refine hK _ _ ?_
         clear hK K
         refine b0o fun K41 hK41 => ?_
         simp only [go_sem]
         refine b0k (fun hc42 => ?_) (fun hc42 => ?_)
         ·rw [b00 hc42] at hm2
          simp only [b0y, b0i, b0j]
          refine hK41 _ _ ?_
          refine b0o fun K43 hK43 => ?_
          simp only [b1c]
          refine b05 ?_
          obtain ⟨x45, h_x45, hm2⟩ := b0h hm2
          have h_x450 := b06 h_x45
          have h_x451 := b08 h_x45
          refine b1r (fun t h => t 1 = .fp [.fs 5 (List.map b0u h_.Combs), .fs 3 (List.map b0r h_.Trains), .fs 3 (List.map b0v h_.Shifts), I h_.Until] 0 ∧ t 3 = I (List.length h_.Combs : Int) ∧ t 6 = I i_6 ∧ t 7 = .rp i7 0 0 ∧ t 9 = I k_9 ∧ t 132 = B ((!(b2b x45.Comb (wr (last_8 + 1)) (wr ((List.length h_.Combs : Int) - 1)))) || (!(b38 x45.People 0 1000))) ∧ h.ob i7 = some (3, [[I x36.At.Low, I x36.At.High, .fs 3 (List.map b2m x36.Crowds)]]) ∧ i7 < h.nx) (fun K hK => ?_) ?_
          ·simp only [go_sem, s3, s7, s8, s9, Qa, Q0, b0p h_x45, b0q h_x45, h_x450, h_x451]
           refine b1g (b36 x45.Comb (wr (last_8 + 1)) (wr ((List.length h_.Combs : Int) - 1))) ?_
           simp only [go_sem, s3, s7, s8, s9, Qa, Q0, b0p h_x45, b0q h_x45, h_x450, h_x451]
           refine b0k (fun hg46 => ?_) (fun hg46 => ?_)
           ·simp only [go_sem, s3, s7, s8, s9, Qa, Q0, b0p h_x45, b0q h_x45, h_x450, h_x451, hg46]
            exact hK _ _ ⟨s1, s3, s6, s7, s9, (by first | (simp only [go_sem, hg46, lA9, mA9]; done) | rfl), Qa, Q0⟩
           ·simp only [go_sem, s3, s7, s8, s9, Qa, Q0, b0p h_x45, b0q h_x45, h_x450, h_x451, hg46]
            refine b1g (c0k x45.People 0 1000) ?_
            simp only [go_sem, s3, s7, s8, s9, Qa, Q0, b0p h_x45, b0q h_x45, h_x450, h_x451, hg46]
            exact hK _ _ ⟨s1, s3, s6, s7, s9, (by first | (simp only [go_sem, hg46, lA9, mA9]; done) | rfl), Qa, Q0⟩
          ·rintro t h ⟨s1, s3, s6, s7, s9, s132, Qa, Q0⟩
           refine b0o fun K47 hK47 => ?_
           simp only [go_sem, s132]
           refine b0k (fun hc48 => ?_) (fun hc48 => ?_)
           ·rw [b00 hc48] at hm2
            refine b0b fun K hK => ?_
            simp only [go_sem, Q0]
            refine hK _ _ ?_
            clear hK K
            simp only [b01, b03, b02, b04]
            obtain rfl := sI9 hm2
            obtain rfl := hb40 _ rfl
            try dsimp only at hm1
            obtain rfl := sI9 hm1
            obtain rfl := hb30 _ rfl
            try dsimp only at hm0
            obtain rfl := sI9 hm0
            exact b1e (by simp only [go_sem, Qa, Q0, lA9, mA9]) (b0g _)
           ·rw [b0z hc48] at hm2
            simp only [b0y, b0i, b0j]
            refine hK47 _ _ ?_
            refine b1m fun K hK => ?_
            simp only [go_sem, s7, s9, Qa, Q0, b0p h_x45, b0q h_x45, h_x450, h_x451]
            refine hK _ _ ?_
            clear hK K
            simp only [b0i, b0j]
            refine hK43 _ _ ?_
            refine b1m fun K hK => ?_
            simp only [go_sem, s9, Q0]
            refine hK _ _ ?_
            clear hK K
            simp only [b0i, b0j]
            obtain rfl := sI9 hm2
            refine ⟨_, rfl, ?_⟩
            exact ⟨s1, s3, s6, s7, (by first | (simp only [go_sem, lA9, mA9]; done) | rfl), (by first | (simp only [go_sem, s9, lA9, mA9]; done) | rfl), Qa, Q0⟩
         ·rw [b0z hc42] at hm2
          simp only [b1t, b1w, b1v, b1u, b0i, b0j, Nat.reduceEqDiff, nF9]
          obtain rfl := sI9 hm2
          obtain rfl := hb40 _ rfl
          try dsimp only at hm1
          exact J34  _ _ s1 s3 s6 hm1
     ·rw [b0z hc32] at hm1
      simp only [b1t, b1w, b1v, b1u, b0i, b0j, Nat.reduceEqDiff, nF9]
      obtain rfl := sI9 hm1
      obtain rfl := hb30 _ rfl
      try dsimp only at hm0
      exact J9  _ _ s1 s3 hm0
   simp only [b1c]
   obtain ⟨b51, hl51, hm0⟩ := b0h hm0
   refine b1z hl51 (fun | i_4, t, h => t 1 = .fp [.fs 5 (List.map b0u h_.Combs), .fs 3 (List.map b0r h_.Trains), .fs 3 (List.map b0v h_.Shifts), I h_.Until] 0 ∧ t 3 = I (List.length h_.Combs : Int) ∧ t 4 = I i_4) ?_ ?_
   ·exact ⟨s1, (by first | (simp only [go_sem, lA9, mA9]; done) | rfl), (by first | (simp only [go_sem, lA9, mA9]; done) | rfl)⟩
   ·rintro i_4 o t h ⟨s1, s3, s4⟩ hm1 hb51
    simp only [c0w] at hm1
    rw [g0p]
    refine b05 ?_
    refine b0b fun K hK => ?_
    simp only [go_sem, s3, s4]
    refine hK _ _ ?_
    clear hK K
    refine b0o fun K52 hK52 => ?_
    simp only [go_sem]
    refine b0k (fun hc53 => ?_) (fun hc53 => ?_)
    ·rw [b00 hc53] at hm1
     simp only [b0y, b0i, b0j]
     refine hK52 _ _ ?_
     refine b0o fun K54 hK54 => ?_
     simp only [b1c]
     obtain ⟨x56, h_x56, hm1⟩ := b0h hm1
     have h_x560 := b06 h_x56
     have h_x561 := b08 h_x56
     refine b0b fun K hK => ?_
     simp only [go_sem, s1, s4, b0p h_x56, b0q h_x56, h_x560, h_x561]
     refine hK _ _ ?_
     clear hK K
     refine b1r (fun t h => t 1 = .fp [.fs 5 (List.map b0u h_.Combs), .fs 3 (List.map b0r h_.Trains), .fs 3 (List.map b0v h_.Shifts), I h_.Until] 0 ∧ t 3 = I (List.length h_.Combs : Int) ∧ t 4 = I i_4 ∧ t 78 = B ((((!(b2b x56.Rate 0 1000)) || (!(b2b x56.Limit 0 100000))) || ((decide (¬x56.Next = (-1))) && (!(b2b x56.Next (wr (i_4 + 1)) (wr ((List.length h_.Combs : Int) - 1)))))) || (!(b38 x56.Walk 1 20)))) (fun K hK => ?_) ?_
     ·simp only [go_sem, s3, s4]
      refine b1g (b36 x56.Rate 0 1000) ?_
      simp only [go_sem, s3, s4]
      refine b0k (fun hg57 => ?_) (fun hg57 => ?_)
      ·simp only [go_sem, s3, s4, hg57]
       exact hK _ _ ⟨s1, s3, s4, (by first | (simp only [go_sem, hg57, lA9, mA9]; done) | rfl)⟩
      ·simp only [go_sem, s3, s4, hg57]
       refine b1g (b36 x56.Limit 0 100000) ?_
       simp only [go_sem, s3, s4, hg57]
       refine b0k (fun hg58 => ?_) (fun hg58 => ?_)
       ·simp only [go_sem, s3, s4, hg57, hg58]
        exact hK _ _ ⟨s1, s3, s4, (by first | (simp only [go_sem, hg57, hg58, lA9, mA9]; done) | rfl)⟩
       ·simp only [go_sem, s3, s4, hg57, hg58]
        refine b0k (fun hg59 => ?_) (fun hg59 => ?_)
        ·simp only [go_sem, s3, s4, hg57, hg58, hg59]
         refine b1g (b36 x56.Next (wr (i_4 + 1)) (wr ((List.length h_.Combs : Int) - 1))) ?_
         simp only [go_sem, s3, s4, hg57, hg58, hg59]
         refine b0k (fun hg60 => ?_) (fun hg60 => ?_)
         ·simp only [go_sem, s3, s4, hg57, hg58, hg59, hg60]
          exact hK _ _ ⟨s1, s3, s4, (by first | (simp only [go_sem, hg57, hg58, hg59, hg60, lA9, mA9]; done) | rfl)⟩
         ·simp only [go_sem, s3, s4, hg57, hg58, hg59, hg60]
          refine b1g (c0k x56.Walk 1 20) ?_
          simp only [go_sem, s3, s4, hg57, hg58, hg59, hg60]
          exact hK _ _ ⟨s1, s3, s4, (by first | (simp only [go_sem, hg57, hg58, hg59, hg60, lA9, mA9]; done) | rfl)⟩
        ·simp only [go_sem, s3, s4, hg57, hg58, hg59]
         refine b1g (c0k x56.Walk 1 20) ?_
         simp only [go_sem, s3, s4, hg57, hg58, hg59]
         exact hK _ _ ⟨s1, s3, s4, (by first | (simp only [go_sem, hg57, hg58, hg59, lA9, mA9]; done) | rfl)⟩
     ·rintro t h ⟨s1, s3, s4, s78⟩
      simp only [go_sem, s78]
      refine b0k (fun hc61 => ?_) (fun hc61 => ?_)
      ·rw [b00 hc61] at hm1
       refine b0b fun K hK => ?_
       simp only [go_sem]
       refine hK _ _ ?_
       clear hK K
       simp only [b01, b03, b02, b04]
       obtain rfl := sI9 hm1
       obtain rfl := hb51 _ rfl
       try dsimp only at hm0
       obtain rfl := sI9 hm0
       exact b1e (by simp only [go_sem, lA9, mA9]) (b0g _)
      ·rw [b0z hc61] at hm1
       simp only [b0y, b0i, b0j]
       refine hK54 _ _ ?_
       refine b1m fun K hK => ?_
       simp only [go_sem, s4]
       refine hK _ _ ?_
       clear hK K
       simp only [b0i, b0j]
       obtain rfl := sI9 hm1
       refine ⟨_, rfl, ?_⟩
       exact ⟨s1, s3, (by first | (simp only [go_sem, s4, lA9, mA9]; done) | rfl)⟩
    ·rw [b0z hc53] at hm1
     simp only [b1t, b1w, b1v, b1u, b0i, b0j, Nat.reduceEqDiff, nF9]
     obtain rfl := sI9 hm1
     obtain rfl := hb51 _ rfl
     try dsimp only at hm0
     exact J7  _ _ s1 s3 hm0
theorem d0p (hf : Has O "newel/newelref06.Fits" x_r06_Fits) (b36 : c36 O) : c8a O := by
 intro h_ d r hm0
 unfold c0z at hm0
 refine b10 hf rfl (b0e (.agg _ (b0e (b0w fun a _ => b3h a) (b0e (b0w fun a _ => b3b a) (b0e (b0w fun a _ => b3i a) (b0e (b0g _) b0x))))) (b0e (.agg _ (b0e (b0w fun a _ => b2n a) (b0e (b0w fun a _ => b41 a) (b0e (b0w fun a _ => b41 a) b0x)))) b0x)) (b0g _) ?_
 refine b1s (fun t h => t 0 = .agg [.fs 5 (List.map b0u h_.Combs), .fs 3 (List.map b0r h_.Trains), .fs 3 (List.map b0v h_.Shifts), I h_.Until] ∧ t 1 = .agg [.fs 1 (List.map eI d.At), .fs 1 (List.map b0s d.People), .fs 1 (List.map b0s d.Walks)]) ⟨rfl, rfl⟩ fun t h ⟨s0, s1⟩ => ?_
 simp only [x_r06_Fits]
 refine b0b fun K hK => ?_
 simp only [go_sem, s0, s1]
 refine hK _ _ ?_
 clear hK K
 refine b05 ?_
 refine b1r (fun t h => t 2 = .fp [.fs 5 (List.map b0u h_.Combs), .fs 3 (List.map b0r h_.Trains), .fs 3 (List.map b0v h_.Shifts), I h_.Until] 0 ∧ t 3 = .fp [.fs 1 (List.map eI d.At), .fs 1 (List.map b0s d.People), .fs 1 (List.map b0s d.Walks)] 0 ∧ t 34 = B (((decide (¬(List.length d.At : Int) = (List.length h_.Trains : Int))) || (decide (¬(List.length d.People : Int) = (List.length h_.Trains : Int)))) || (decide (¬(List.length d.Walks : Int) = (List.length h_.Combs : Int))))) (fun K hK => ?_) ?_
 ·simp only [go_sem]
  refine b0k (fun hg1 => ?_) (fun hg1 => ?_)
  ·simp only [go_sem, hg1]
   exact hK _ _ ⟨(by first | (simp only [go_sem, hg1, lA9, mA9]; done) | rfl), (by first | (simp only [go_sem, hg1, lA9, mA9]; done) | rfl), (by first | (simp only [go_sem, hg1, lA9, mA9]; done) | rfl)⟩
  ·simp only [go_sem, hg1]
   refine b0k (fun hg2 => ?_) (fun hg2 => ?_)
   ·simp only [go_sem, hg1, hg2]
    exact hK _ _ ⟨(by first | (simp only [go_sem, hg1, hg2, lA9, mA9]; done) | rfl), (by first | (simp only [go_sem, hg1, hg2, lA9, mA9]; done) | rfl), (by first | (simp only [go_sem, hg1, hg2, lA9, mA9]; done) | rfl)⟩
   ·simp only [go_sem, hg1, hg2]
    exact hK _ _ ⟨(by first | (simp only [go_sem, hg1, hg2, lA9, mA9]; done) | rfl), (by first | (simp only [go_sem, hg1, hg2, lA9, mA9]; done) | rfl), (by first | (simp only [go_sem, hg1, hg2, lA9, mA9]; done) | rfl)⟩
 ·rintro t h ⟨s2, s3, s34⟩
  refine b0o fun K3 hK3 => ?_
  simp only [go_sem, s34]
  refine b0k (fun hc4 => ?_) (fun hc4 => ?_)
  ·rw [b00 hc4] at hm0
   refine b0b fun K hK => ?_
   simp only [go_sem]
   refine hK _ _ ?_
   clear hK K
   simp only [b01, b03, b02, b04]
   obtain rfl := sI9 hm0
   exact b1e (by simp only [go_sem, lA9, mA9]) (b0g _)
  ·rw [b0z hc4] at hm0
   simp only [b0y, b0i, b0j]
   refine hK3 _ _ ?_
   refine b05 ?_
   refine b0b fun K hK => ?_
   simp only [go_sem]
   refine hK _ _ ?_
   clear hK K
   refine b0o fun K5 hK5 => ?_
   have J6 : ∀ (t : Slots) (h : Heap), t 2 = .fp [.fs 5 (List.map b0u h_.Combs), .fs 3 (List.map b0r h_.Trains), .fs 3 (List.map b0v h_.Shifts), I h_.Until] 0 → t 3 = .fp [.fs 1 (List.map eI d.At), .fs 1 (List.map b0s d.People), .fs 1 (List.map b0s d.Walks)] 0 → c6u h_ d = some r → K5 t h := by
    intro t h s2 s3 hm0
    refine hK5 _ _ ?_
    unfold c6u at hm0
    refine b05 ?_
    refine b0b fun K hK => ?_
    simp only [go_sem]
    refine hK _ _ ?_
    clear hK K
    refine b0o fun K7 hK7 => ?_
    have J8 : ∀ (t : Slots) (h : Heap), d1o = some r → K7 t h := by
     intro t h hm0
     refine hK7 _ _ ?_
     unfold d1o at hm0
     refine b0b fun K hK => ?_
     simp only [go_sem]
     refine hK _ _ ?_
     clear hK K
     simp only [b01, b03, b02, b04]
     obtain rfl := sI9 hm0
     exact b1e (by simp only [go_sem, lA9, mA9]) (b0g _)
    simp only [b1c]
    obtain ⟨b9, hl9, hm0⟩ := b0h hm0
    refine b1z hl9 (fun | i_8, t, h => t 2 = .fp [.fs 5 (List.map b0u h_.Combs), .fs 3 (List.map b0r h_.Trains), .fs 3 (List.map b0v h_.Shifts), I h_.Until] 0 ∧ t 3 = .fp [.fs 1 (List.map eI d.At), .fs 1 (List.map b0s d.People), .fs 1 (List.map b0s d.Walks)] 0 ∧ t 8 = I i_8) ?_ ?_
    ·exact ⟨s2, s3, (by first | (simp only [go_sem, lA9, mA9]; done) | rfl)⟩
    ·rintro i_8 o t h ⟨s2, s3, s8⟩ hm1 hb9
     simp only [c01] at hm1
     rw [g0w]
     refine b05 ?_
     refine b0b fun K hK => ?_
     simp only [go_sem, s2, s8]
     refine hK _ _ ?_
     clear hK K
     refine b0o fun K10 hK10 => ?_
     simp only [go_sem]
     refine b0k (fun hc11 => ?_) (fun hc11 => ?_)
     ·rw [b00 hc11] at hm1
      simp only [b0y, b0i, b0j]
      refine hK10 _ _ ?_
      refine b0o fun K12 hK12 => ?_
      have J13 : ∀ (t : Slots) (h : Heap), t 2 = .fp [.fs 5 (List.map b0u h_.Combs), .fs 3 (List.map b0r h_.Trains), .fs 3 (List.map b0v h_.Shifts), I h_.Until] 0 → t 3 = .fp [.fs 1 (List.map eI d.At), .fs 1 (List.map b0s d.People), .fs 1 (List.map b0s d.Walks)] 0 → t 8 = I i_8 → c6s i_8 = some o → K12 t h := by
       intro t h s2 s3 s8 hm1
       refine hK12 _ _ ?_
       unfold c6s at hm1
       refine b1m fun K hK => ?_
       simp only [go_sem, s8]
       refine hK _ _ ?_
       clear hK K
       simp only [b0i, b0j]
       obtain rfl := sI9 hm1
       refine ⟨_, rfl, ?_⟩
       exact ⟨s2, s3, (by first | (simp only [go_sem, s8, lA9, mA9]; done) | rfl)⟩
      simp only [b1c]
      refine b05 ?_
      obtain ⟨x15, h_x15, hm1⟩ := b0h hm1
      have h_x150 := b06 h_x15
      have h_x151 := b08 h_x15
      refine b0b fun K hK => ?_
      simp only [go_sem, s3, s8, b0p h_x15, b0q h_x15, h_x150, h_x151]
      refine b1g (b36 (List.length x15 : Int) 1 20) ?_
      simp only [go_sem, s3, s8, b0p h_x15, b0q h_x15, h_x150, h_x151]
      refine hK _ _ ?_
      clear hK K
      refine b0o fun K16 hK16 => ?_
      simp only [go_sem]
      refine b0k (fun hc17 => ?_) (fun hc17 => ?_)
      ·rw [b00 hc17] at hm1
       refine b0b fun K hK => ?_
       simp only [go_sem]
       refine hK _ _ ?_
       clear hK K
       simp only [b01, b03, b02, b04]
       obtain rfl := sI9 hm1
       obtain rfl := hb9 _ rfl
       try dsimp only at hm0
       obtain rfl := sI9 hm0
       exact b1e (by simp only [go_sem, lA9, mA9]) (b0g _)
      ·rw [b0z hc17] at hm1
       simp only [b0y, b0i, b0j]
       refine hK16 _ _ ?_
       refine b0b fun K hK => ?_
       simp only [go_sem]
       refine hK _ _ ?_
       clear hK K
       simp only [b1c]
       obtain ⟨b18, hl18, hm1⟩ := b0h hm1
       refine b1z hl18 (fun | k_9, t, h => t 2 = .fp [.fs 5 (List.map b0u h_.Combs), .fs 3 (List.map b0r h_.Trains), .fs 3 (List.map b0v h_.Shifts), I h_.Until] 0 ∧ t 3 = .fp [.fs 1 (List.map eI d.At), .fs 1 (List.map b0s d.People), .fs 1 (List.map b0s d.Walks)] 0 ∧ t 8 = I i_8 ∧ t 9 = I k_9) ?_ ?_
       ·exact ⟨s2, s3, s8, (by first | (simp only [go_sem, lA9, mA9]; done) | rfl)⟩
       ·rintro k_9 o t h ⟨s2, s3, s8, s9⟩ hm2 hb18
        simp only [b7o] at hm2
        rw [g0v]
        refine b05 ?_
        obtain ⟨x20, h_x20, hm2⟩ := b0h hm2
        have h_x200 := b06 h_x20
        have h_x201 := b08 h_x20
        refine b0b fun K hK => ?_
        simp only [go_sem, s3, s8, s9, b0p h_x20, b0q h_x20, h_x200, h_x201]
        refine hK _ _ ?_
        clear hK K
        refine b0o fun K21 hK21 => ?_
        simp only [go_sem]
        refine b0k (fun hc22 => ?_) (fun hc22 => ?_)
        ·rw [b00 hc22] at hm2
         simp only [b0y, b0i, b0j]
         refine hK21 _ _ ?_
         refine b0o fun K23 hK23 => ?_
         simp only [b1c]
         obtain ⟨x26, h_x26, hm2⟩ := b0h hm2
         have h_x260 := b06 h_x26
         have h_x261 := b08 h_x26
         obtain ⟨x27, h_x27, hm2⟩ := b0h hm2
         have h_x270 := b06 h_x27
         have h_x271 := b08 h_x27
         refine b0b fun K hK => ?_
         simp only [go_sem, s2, s3, s8, s9, b0p h_x26, b0q h_x26, h_x260, h_x261, b0p h_x27, b0q h_x27, h_x270, h_x271, b0p h_x20, b0q h_x20, h_x200, h_x201]
         refine b1g (b36 x26 x27.Walk.Low x27.Walk.High) ?_
         simp only [go_sem, s2, s3, s8, s9, b0p h_x26, b0q h_x26, h_x260, h_x261, b0p h_x27, b0q h_x27, h_x270, h_x271, b0p h_x20, b0q h_x20, h_x200, h_x201]
         refine hK _ _ ?_
         clear hK K
         simp only [go_sem]
         refine b0k (fun hc28 => ?_) (fun hc28 => ?_)
         ·rw [b00 hc28] at hm2
          refine b0b fun K hK => ?_
          simp only [go_sem]
          refine hK _ _ ?_
          clear hK K
          simp only [b01, b03, b02, b04]
          obtain rfl := sI9 hm2
          obtain rfl := hb18 _ rfl
          try dsimp only at hm1
          obtain rfl := sI9 hm1
          obtain rfl := hb9 _ rfl
          try dsimp only at hm0
          obtain rfl := sI9 hm0
          exact b1e (by simp only [go_sem, lA9, mA9]) (b0g _)
         ·rw [b0z hc28] at hm2
          simp only [b0y, b0i, b0j]
          refine hK23 _ _ ?_
          refine b1m fun K hK => ?_
          simp only [go_sem, s9]
          refine hK _ _ ?_
          clear hK K
          simp only [b0i, b0j]
          obtain rfl := sI9 hm2
          refine ⟨_, rfl, ?_⟩
          exact ⟨s2, s3, s8, (by first | (simp only [go_sem, s9, lA9, mA9]; done) | rfl)⟩
        ·rw [b0z hc22] at hm2
         simp only [b1t, b1w, b1v, b1u, b0i, b0j, Nat.reduceEqDiff, nF9]
         obtain rfl := sI9 hm2
         obtain rfl := hb18 _ rfl
         try dsimp only at hm1
         exact J13  _ _ s2 s3 s8 hm1
     ·rw [b0z hc11] at hm1
      simp only [b1t, b1w, b1v, b1u, b0i, b0j, Nat.reduceEqDiff, nF9]
      obtain rfl := sI9 hm1
      obtain rfl := hb9 _ rfl
      try dsimp only at hm0
      exact J8  _ _  hm0
   simp only [b1c]
   obtain ⟨b31, hl31, hm0⟩ := b0h hm0
   refine b1z hl31 (fun | i_5, t, h => t 2 = .fp [.fs 5 (List.map b0u h_.Combs), .fs 3 (List.map b0r h_.Trains), .fs 3 (List.map b0v h_.Shifts), I h_.Until] 0 ∧ t 3 = .fp [.fs 1 (List.map eI d.At), .fs 1 (List.map b0s d.People), .fs 1 (List.map b0s d.Walks)] 0 ∧ t 5 = I i_5) ?_ ?_
   ·exact ⟨s2, s3, (by first | (simp only [go_sem, lA9, mA9]; done) | rfl)⟩
   ·rintro i_5 o t h ⟨s2, s3, s5⟩ hm1 hb31
    simp only [c00] at hm1
    rw [g0u]
    refine b05 ?_
    refine b0b fun K hK => ?_
    simp only [go_sem, s2, s5]
    refine hK _ _ ?_
    clear hK K
    refine b0o fun K32 hK32 => ?_
    simp only [go_sem]
    refine b0k (fun hc33 => ?_) (fun hc33 => ?_)
    ·rw [b00 hc33] at hm1
     simp only [b0y, b0i, b0j]
     refine hK32 _ _ ?_
     refine b0o fun K34 hK34 => ?_
     have J35 : ∀ (t : Slots) (h : Heap), t 2 = .fp [.fs 5 (List.map b0u h_.Combs), .fs 3 (List.map b0r h_.Trains), .fs 3 (List.map b0v h_.Shifts), I h_.Until] 0 → t 3 = .fp [.fs 1 (List.map eI d.At), .fs 1 (List.map b0s d.People), .fs 1 (List.map b0s d.Walks)] 0 → t 5 = I i_5 → c6t i_5 = some o → K34 t h := by
      intro t h s2 s3 s5 hm1
      refine hK34 _ _ ?_
      unfold c6t at hm1
      refine b1m fun K hK => ?_
      simp only [go_sem, s5]
      refine hK _ _ ?_
      clear hK K
      simp only [b0i, b0j]
      obtain rfl := sI9 hm1
      refine ⟨_, rfl, ?_⟩
      exact ⟨s2, s3, (by first | (simp only [go_sem, s5, lA9, mA9]; done) | rfl)⟩
     simp only [b1c]
     obtain ⟨x37, h_x37, hm1⟩ := b0h hm1
     have h_x370 := b06 h_x37
     have h_x371 := b08 h_x37
     refine b0b fun K hK => ?_
     simp only [go_sem, s2, s5, b0p h_x37, b0q h_x37, h_x370, h_x371]
     refine hK _ _ ?_
     clear hK K
     refine b05 ?_
     obtain ⟨x41, h_x41, hm1⟩ := b0h hm1
     have h_x410 := b06 h_x41
     have h_x411 := b08 h_x41
     obtain ⟨c43, h_c43, hm1⟩ := b0h hm1
     refine b1r (fun t h => ∃ i6 : Nat, t 2 = .fp [.fs 5 (List.map b0u h_.Combs), .fs 3 (List.map b0r h_.Trains), .fs 3 (List.map b0v h_.Shifts), I h_.Until] 0 ∧ t 3 = .fp [.fs 1 (List.map eI d.At), .fs 1 (List.map b0s d.People), .fs 1 (List.map b0s d.Walks)] 0 ∧ t 5 = I i_5 ∧ t 6 = .rp i6 0 0 ∧ t 71 = B c43 ∧ h.ob i6 = some (3, [[I x37.At.Low, I x37.At.High, .fs 3 (List.map b2m x37.Crowds)]]) ∧ i6 < h.nx) (fun K hK => ?_) ?_
     ·simp only [go_sem, s3, s5, b0p h_x41, b0q h_x41, h_x410, h_x411]
      refine b1g (b36 x41 x37.At.Low x37.At.High) ?_
      simp only [go_sem, s3, s5, b0p h_x41, b0q h_x41, h_x410, h_x411]
      refine b0k (fun hg44 => ?_) (fun hg44 => ?_)
      ·simp only [hg44, Bool.not_true, Bool.not_false, eq_self, if_true, if_false, Bool.true_or, Bool.or_true, Bool.false_or, Bool.or_false, Bool.true_and, Bool.and_true, Bool.false_and, Bool.and_false, Bool.false_eq_true] at h_c43
       obtain rfl := sI9 h_c43
       simp only [go_sem, s3, s5, b0p h_x41, b0q h_x41, h_x410, h_x411, hg44]
       exact hK _ _ ⟨h.nx, s2, s3, s5, (by first | (simp only [go_sem, hg44, lA9, mA9]; done) | rfl), (by first | (simp only [go_sem, hg44, lA9, mA9]; done) | rfl), (by simp only [go_sem, hg44, lA9, mA9]), (by simp only [go_sem])⟩
      ·simp only [hg44, Bool.not_true, Bool.not_false, eq_self, if_true, if_false, Bool.true_or, Bool.or_true, Bool.false_or, Bool.or_false, Bool.true_and, Bool.and_true, Bool.false_and, Bool.and_false, Bool.false_eq_true] at h_c43
       obtain ⟨x42, h_x42, h_c43⟩ := b0h h_c43
       have h_x420 := b06 h_x42
       have h_x421 := b08 h_x42
       obtain rfl := sI9 h_c43
       simp only [go_sem, s3, s5, b0p h_x41, b0q h_x41, h_x410, h_x411, b0p h_x42, b0q h_x42, h_x420, h_x421, hg44]
       exact hK _ _ ⟨h.nx, s2, s3, s5, (by first | (simp only [go_sem, hg44, lA9, mA9]; done) | rfl), (by first | (simp only [go_sem, hg44, lA9, mA9]; done) | rfl), (by simp only [go_sem, hg44, lA9, mA9]), (by simp only [go_sem])⟩
     ·rintro t h ⟨i6, s2, s3, s5, s6, s71, Q1f, Q1c⟩
      refine b0o fun K45 hK45 => ?_
      simp only [go_sem, s71]
      refine b0k (fun hc46 => ?_) (fun hc46 => ?_)
      ·rw [b00 hc46] at hm1
       refine b0b fun K hK => ?_
       simp only [go_sem, Q1c]
       refine hK _ _ ?_
       clear hK K
       simp only [b01, b03, b02, b04]
       obtain rfl := sI9 hm1
       obtain rfl := hb31 _ rfl
       try dsimp only at hm0
       obtain rfl := sI9 hm0
       exact b1e (by simp only [go_sem, Q1f, Q1c, lA9, mA9]) (b0g _)
      ·rw [b0z hc46] at hm1
       simp only [b0y, b0i, b0j]
       refine hK45 _ _ ?_
       refine b0b fun K hK => ?_
       simp only [go_sem, Q1c]
       refine hK _ _ ?_
       clear hK K
       simp only [b1c]
       obtain ⟨b47, hl47, hm1⟩ := b0h hm1
       refine b1z hl47 (fun | k_7, t, h => t 2 = .fp [.fs 5 (List.map b0u h_.Combs), .fs 3 (List.map b0r h_.Trains), .fs 3 (List.map b0v h_.Shifts), I h_.Until] 0 ∧ t 3 = .fp [.fs 1 (List.map eI d.At), .fs 1 (List.map b0s d.People), .fs 1 (List.map b0s d.Walks)] 0 ∧ t 5 = I i_5 ∧ t 6 = .rp i6 0 0 ∧ t 7 = I k_7 ∧ h.ob i6 = some (3, [[I x37.At.Low, I x37.At.High, .fs 3 (List.map b2m x37.Crowds)]]) ∧ i6 < h.nx) ?_ ?_
       ·exact ⟨s2, s3, s5, s6, (by first | (simp only [go_sem, lA9, mA9]; done) | rfl), Q1f, Q1c⟩
       ·rintro k_7 o t h ⟨s2, s3, s5, s6, s7, Q1f, Q1c⟩ hm2 hb47
        simp only [b7n] at hm2
        rw [g0t]
        refine b05 ?_
        refine b0b fun K hK => ?_
        simp only [go_sem, s6, s7, Q1f, Q1c]
        refine hK _ _ ?_
        clear hK K
        refine b0o fun K48 hK48 => ?_
        simp only [go_sem]
        refine b0k (fun hc49 => ?_) (fun hc49 => ?_)
        ·rw [b00 hc49] at hm2
         simp only [b0y, b0i, b0j]
         refine hK48 _ _ ?_
         refine b0o fun K50 hK50 => ?_
         simp only [b1c]
         obtain ⟨x54, h_x54, hm2⟩ := b0h hm2
         have h_x540 := b06 h_x54
         have h_x541 := b08 h_x54
         obtain ⟨x55, h_x55, hm2⟩ := b0h hm2
         have h_x550 := b06 h_x55
         have h_x551 := b08 h_x55
         obtain ⟨x56, h_x56, hm2⟩ := b0h hm2
         have h_x560 := b06 h_x56
         have h_x561 := b08 h_x56
         refine b0b fun K hK => ?_
         simp only [go_sem, s3, s5, s6, s7, Q1f, Q1c, b0p h_x54, b0q h_x54, h_x540, h_x541, b0p h_x55, b0q h_x55, h_x550, h_x551, b0p h_x56, b0q h_x56, h_x560, h_x561]
         refine b1g (b36 x55 x56.People.Low x56.People.High) ?_
         simp only [go_sem, s3, s5, s6, s7, Q1f, Q1c, b0p h_x54, b0q h_x54, h_x540, h_x541, b0p h_x55, b0q h_x55, h_x550, h_x551, b0p h_x56, b0q h_x56, h_x560, h_x561]
         refine hK _ _ ?_
         clear hK K
         simp only [go_sem]
         refine b0k (fun hc57 => ?_) (fun hc57 => ?_)
         ·rw [b00 hc57] at hm2
          refine b0b fun K hK => ?_
          simp only [go_sem, Q1c]
          refine hK _ _ ?_
          clear hK K
          simp only [b01, b03, b02, b04]
          obtain rfl := sI9 hm2
          obtain rfl := hb47 _ rfl
          try dsimp only at hm1
          obtain rfl := sI9 hm1
          obtain rfl := hb31 _ rfl
          try dsimp only at hm0
          obtain rfl := sI9 hm0
          exact b1e (by simp only [go_sem, Q1f, Q1c, lA9, mA9]) (b0g _)
         ·rw [b0z hc57] at hm2
          simp only [b0y, b0i, b0j]
          refine hK50 _ _ ?_
          refine b1m fun K hK => ?_
          simp only [go_sem, s7, Q1c]
          refine hK _ _ ?_
          clear hK K
          simp only [b0i, b0j]
          obtain rfl := sI9 hm2
          refine ⟨_, rfl, ?_⟩
          exact ⟨s2, s3, s5, s6, (by first | (simp only [go_sem, s7, lA9, mA9]; done) | rfl), Q1f, Q1c⟩
        ·rw [b0z hc49] at hm2
         simp only [b1t, b1w, b1v, b1u, b0i, b0j, Nat.reduceEqDiff, nF9]
         obtain rfl := sI9 hm2
         obtain rfl := hb47 _ rfl
         try dsimp only at hm1
         exact J35  _ _ s2 s3 s5 hm1
    ·rw [b0z hc33] at hm1
     simp only [b1t, b1w, b1v, b1u, b0i, b0j, Nat.reduceEqDiff, nF9]
     obtain rfl := sI9 hm1
     obtain rfl := hb31 _ rfl
     try dsimp only at hm0
     exact J6  _ _ s2 s3 hm0
theorem d0r (hf : Has O "slices.Compare[[]int,int]" x_slices_Compare___int_int_) (c95 : c7l O) : c8e O := by
 intro s1_ s2_ r hm0
 unfold c3r at hm0
 refine b10 hf rfl (b0e (b0w fun a _ => b2n a) (b0e (b0w fun a _ => b2n a) b0x)) (b0g _) ?_
 refine b1s (fun t h => t 0 = .fs 1 (List.map eI s1_) ∧ t 1 = .fs 1 (List.map eI s2_)) ⟨rfl, rfl⟩ fun t h ⟨s0, s1⟩ => ?_
 simp only [x_slices_Compare___int_int_]
 refine b0b fun K hK => ?_
 simp only [go_sem]
 refine hK _ _ ?_
 clear hK K
 refine b05 ?_
 refine b0b fun K hK => ?_
 simp only [go_sem, s0]
 refine hK _ _ ?_
 clear hK K
 refine b0o fun K1 hK1 => ?_
 have J2 : ∀ (t : Slots) (h : Heap), t 0 = .fs 1 (List.map eI s1_) → t 1 = .fs 1 (List.map eI s2_) → c66 s1_ s2_ = some r → K1 t h := by
  intro t h s0 s1 hm0
  refine hK1 _ _ ?_
  unfold c66 at hm0
  refine b05 ?_
  refine b0b fun K hK => ?_
  simp only [go_sem, s0, s1]
  refine hK _ _ ?_
  clear hK K
  refine b0o fun K3 hK3 => ?_
  simp only [go_sem]
  refine b0k (fun hc4 => ?_) (fun hc4 => ?_)
  ·rw [b00 hc4] at hm0
   refine b0b fun K hK => ?_
   simp only [go_sem]
   refine hK _ _ ?_
   clear hK K
   simp only [b01, b03, b02, b04]
   obtain rfl := sI9 hm0
   exact b1e (by simp only [go_sem, lA9, mA9]) (b0g _)
  ·rw [b0z hc4] at hm0
   simp only [b0y, b0i, b0j]
   refine hK3 _ _ ?_
   refine b0b fun K hK => ?_
   simp only [go_sem]
   refine hK _ _ ?_
   clear hK K
   simp only [b01, b03, b02, b04]
   obtain rfl := sI9 hm0
   exact b1e (by simp only [go_sem, lA9, mA9]) (b0g _)
 simp only [b1c]
 obtain ⟨b5, hl5, hm0⟩ := b0h hm0
 refine b1z hl5 (fun | x_11, t, h => t 0 = .fs 1 (List.map eI s1_) ∧ t 1 = .fs 1 (List.map eI s2_) ∧ t 9 = .fs 1 (List.map eI s1_) ∧ t 10 = I (List.length s1_ : Int) ∧ t 11 = I x_11) ?_ ?_
 ·exact ⟨s0, s1, (by first | (simp only [go_sem, lA9, mA9]; done) | rfl), (by first | (simp only [go_sem, lA9, mA9]; done) | rfl), (by first | (simp only [go_sem, lA9, mA9]; done) | rfl)⟩
 ·rintro x_11 o t h ⟨s0, s1, s9, s10, s11⟩ hm1 hb5
  simp only [c06] at hm1
  rw [g0y]
  refine b0b fun K hK => ?_
  simp only [go_sem, s10, s11]
  refine hK _ _ ?_
  clear hK K
  refine b0o fun K6 hK6 => ?_
  simp only [go_sem]
  refine b0k (fun hc7 => ?_) (fun hc7 => ?_)
  ·rw [b00 hc7] at hm1
   simp only [b0y, b0i, b0j]
   refine hK6 _ _ ?_
   refine b0o fun K8 hK8 => ?_
   simp only [b1c]
   obtain ⟨x10, h_x10, hm1⟩ := b0h hm1
   have h_x100 := b06 h_x10
   have h_x101 := b08 h_x10
   refine b0b fun K hK => ?_
   simp only [go_sem, s9, s11, b0p h_x10, b0q h_x10, h_x100, h_x101]
   refine hK _ _ ?_
   clear hK K
   refine b05 ?_
   refine b0b fun K hK => ?_
   simp only [go_sem, s1]
   refine hK _ _ ?_
   clear hK K
   refine b0o fun K11 hK11 => ?_
   simp only [go_sem]
   refine b0k (fun hc12 => ?_) (fun hc12 => ?_)
   ·rw [b00 hc12] at hm1
    refine b0b fun K hK => ?_
    simp only [go_sem]
    refine hK _ _ ?_
    clear hK K
    simp only [b01, b03, b02, b04]
    obtain rfl := sI9 hm1
    obtain rfl := hb5 _ rfl
    try dsimp only at hm0
    obtain rfl := sI9 hm0
    exact b1e (by simp only [go_sem, lA9, mA9]) (b0g _)
   ·rw [b0z hc12] at hm1
    simp only [b0y, b0i, b0j]
    refine hK11 _ _ ?_
    obtain ⟨x14, h_x14, hm1⟩ := b0h hm1
    have h_x140 := b06 h_x14
    have h_x141 := b08 h_x14
    refine b0b fun K hK => ?_
    simp only [go_sem, s1, b0p h_x14, b0q h_x14, h_x140, h_x141]
    refine hK _ _ ?_
    clear hK K
    refine b0b fun K hK => ?_
    simp only [go_sem]
    refine b1g (c95 x10 x14) ?_
    simp only [go_sem]
    refine hK _ _ ?_
    clear hK K
    refine b0b fun K hK => ?_
    simp only [go_sem]
    refine hK _ _ ?_
    clear hK K
    simp only [go_sem]
    refine b0k (fun hc15 => ?_) (fun hc15 => ?_)
    ·rw [b00 hc15] at hm1
     refine b0b fun K hK => ?_
     simp only [go_sem]
     refine hK _ _ ?_
     clear hK K
     simp only [b01, b03, b02, b04]
     obtain rfl := sI9 hm1
     obtain rfl := hb5 _ rfl
     try dsimp only at hm0
     obtain rfl := sI9 hm0
     exact b1e (by simp only [go_sem, lA9, mA9]) (b0g _)
    ·rw [b0z hc15] at hm1
     simp only [b0y, b0i, b0j]
     refine hK8 _ _ ?_
     refine b1m fun K hK => ?_
     simp only [go_sem, s11]
     refine hK _ _ ?_
     clear hK K
     simp only [b0i, b0j]
     obtain rfl := sI9 hm1
     refine ⟨_, rfl, ?_⟩
     exact ⟨s0, s1, s9, s10, (by first | (simp only [go_sem, s11, lA9, mA9]; done) | rfl)⟩
  ·rw [b0z hc7] at hm1
   simp only [b1t, b1w, b1v, b1u, b0i, b0j, Nat.reduceEqDiff, nF9]
   obtain rfl := sI9 hm1
   obtain rfl := hb5 _ rfl
   try dsimp only at hm0
   exact J2  _ _ s0 s1 hm0
theorem d0t (hf : Has O "slices.IndexFunc[[]newel/api.Train,newel/api.Train]" x_slices_IndexFunc___api_Train_api_Train_) : c8g O := by
 intro s f_n f_a f_b f f_z f_h r hm0
 unfold d13 at hm0
 refine b10 hf rfl (b0e (b0w fun a _ => b3b a) (b0e f_z b0x)) (b0g _) ?_
 refine b1s (fun t h => t 0 = .fs 3 (List.map b0r s) ∧ t 1 = .fn f_n f_a f_b) ⟨rfl, rfl⟩ fun t h ⟨s0, s1⟩ => ?_
 simp only [x_slices_IndexFunc___api_Train_api_Train_]
 refine b0b fun K hK => ?_
 simp only [go_sem]
 refine hK _ _ ?_
 clear hK K
 refine b05 ?_
 refine b0b fun K hK => ?_
 simp only [go_sem, s0]
 refine hK _ _ ?_
 clear hK K
 refine b0o fun K1 hK1 => ?_
 have J2 : ∀ (t : Slots) (h : Heap), d14 = some r → K1 t h := by
  intro t h hm0
  refine hK1 _ _ ?_
  unfold d14 at hm0
  refine b0b fun K hK => ?_
  simp only [go_sem]
  refine hK _ _ ?_
  clear hK K
  simp only [b01, b03, b02, b04]
  obtain rfl := sI9 hm0
  exact b1e (by simp only [go_sem, lA9, mA9]) (b0g _)
 simp only [b1c]
 obtain ⟨b3, hl3, hm0⟩ := b0h hm0
 refine b1z hl3 (fun | x_8, t, h => t 0 = .fs 3 (List.map b0r s) ∧ t 1 = .fn f_n f_a f_b ∧ t 7 = I (List.length s : Int) ∧ t 8 = I x_8) ?_ ?_
 ·exact ⟨s0, s1, (by first | (simp only [go_sem, lA9, mA9]; done) | rfl), (by first | (simp only [go_sem, lA9, mA9]; done) | rfl)⟩
 ·rintro x_8 o t h ⟨s0, s1, s7, s8⟩ hm1 hb3
  simp only [d9c] at hm1
  rw [g0z]
  refine b0b fun K hK => ?_
  simp only [go_sem, s7, s8]
  refine hK _ _ ?_
  clear hK K
  refine b0o fun K4 hK4 => ?_
  simp only [go_sem]
  refine b0k (fun hc5 => ?_) (fun hc5 => ?_)
  ·rw [b00 hc5] at hm1
   simp only [b0y, b0i, b0j]
   refine hK4 _ _ ?_
   refine b0o fun K6 hK6 => ?_
   simp only [b1c]
   refine b0b fun K hK => ?_
   simp only [go_sem, s8]
   refine hK _ _ ?_
   clear hK K
   obtain ⟨x9, h_x9, hm1⟩ := b0h hm1
   have h_x90 := b06 h_x9
   have h_x91 := b08 h_x9
   obtain ⟨y10, h_y10, hm1⟩ := b0h hm1
   refine b0b fun K hK => ?_
   simp only [go_sem, s0, s1, b0p h_x9, b0q h_x9, h_x90, h_x91]
   refine d50 (f_h x9 _ h_y10) ?_
   simp only [go_sem, s0, s1, b0p h_x9, b0q h_x9, h_x90, h_x91]
   refine hK _ _ ?_
   clear hK K
   simp only [go_sem]
   refine b0k (fun hc11 => ?_) (fun hc11 => ?_)
   ·rw [b00 hc11] at hm1
    refine b0b fun K hK => ?_
    simp only [go_sem]
    refine hK _ _ ?_
    clear hK K
    simp only [b01, b03, b02, b04]
    obtain rfl := sI9 hm1
    obtain rfl := hb3 _ rfl
    try dsimp only at hm0
    obtain rfl := sI9 hm0
    exact b1e (by simp only [go_sem, lA9, mA9]) (b0g _)
   ·rw [b0z hc11] at hm1
    simp only [b0y, b0i, b0j]
    refine hK6 _ _ ?_
    refine b1m fun K hK => ?_
    simp only [go_sem, s8]
    refine hK _ _ ?_
    clear hK K
    simp only [b0i, b0j]
    obtain rfl := sI9 hm1
    refine ⟨_, rfl, ?_⟩
    exact ⟨s0, s1, s7, (by first | (simp only [go_sem, s8, lA9, mA9]; done) | rfl)⟩
  ·rw [b0z hc5] at hm1
   simp only [b1t, b1w, b1v, b1u, b0i, b0j, Nat.reduceEqDiff, nF9]
   obtain rfl := sI9 hm1
   obtain rfl := hb3 _ rfl
   try dsimp only at hm0
   exact J2  _ _  hm0
theorem d0u (hf : Has O "slices.IndexFunc[[]int,int]" x_slices_IndexFunc___int_int_) : c8h O := by
 intro s f_n f_a f_b f f_z f_h r hm0
 unfold d15 at hm0
 refine b10 hf rfl (b0e (b0w fun a _ => b2n a) (b0e f_z b0x)) (b0g _) ?_
 refine b1s (fun t h => t 0 = .fs 1 (List.map eI s) ∧ t 1 = .fn f_n f_a f_b) ⟨rfl, rfl⟩ fun t h ⟨s0, s1⟩ => ?_
 simp only [x_slices_IndexFunc___int_int_]
 refine b0b fun K hK => ?_
 simp only [go_sem]
 refine hK _ _ ?_
 clear hK K
 refine b05 ?_
 refine b0b fun K hK => ?_
 simp only [go_sem, s0]
 refine hK _ _ ?_
 clear hK K
 refine b0o fun K1 hK1 => ?_
 have J2 : ∀ (t : Slots) (h : Heap), d16 = some r → K1 t h := by
  intro t h hm0
  refine hK1 _ _ ?_
  unfold d16 at hm0
  refine b0b fun K hK => ?_
  simp only [go_sem]
  refine hK _ _ ?_
  clear hK K
  simp only [b01, b03, b02, b04]
  obtain rfl := sI9 hm0
  exact b1e (by simp only [go_sem, lA9, mA9]) (b0g _)
 simp only [b1c]
 obtain ⟨b3, hl3, hm0⟩ := b0h hm0
 refine b1z hl3 (fun | x_8, t, h => t 0 = .fs 1 (List.map eI s) ∧ t 1 = .fn f_n f_a f_b ∧ t 7 = I (List.length s : Int) ∧ t 8 = I x_8) ?_ ?_
 ·exact ⟨s0, s1, (by first | (simp only [go_sem, lA9, mA9]; done) | rfl), (by first | (simp only [go_sem, lA9, mA9]; done) | rfl)⟩
 ·rintro x_8 o t h ⟨s0, s1, s7, s8⟩ hm1 hb3
  simp only [d9d] at hm1
  rw [g00]
  refine b0b fun K hK => ?_
  simp only [go_sem, s7, s8]
  refine hK _ _ ?_
  clear hK K
  refine b0o fun K4 hK4 => ?_
  simp only [go_sem]
  refine b0k (fun hc5 => ?_) (fun hc5 => ?_)
  ·rw [b00 hc5] at hm1
   simp only [b0y, b0i, b0j]
   refine hK4 _ _ ?_
   refine b0o fun K6 hK6 => ?_
   simp only [b1c]
   refine b0b fun K hK => ?_
   simp only [go_sem, s8]
   refine hK _ _ ?_
   clear hK K
   obtain ⟨x9, h_x9, hm1⟩ := b0h hm1
   have h_x90 := b06 h_x9
   have h_x91 := b08 h_x9
   obtain ⟨y10, h_y10, hm1⟩ := b0h hm1
   refine b0b fun K hK => ?_
   simp only [go_sem, s0, s1, b0p h_x9, b0q h_x9, h_x90, h_x91]
   refine d50 (f_h x9 _ h_y10) ?_
   simp only [go_sem, s0, s1, b0p h_x9, b0q h_x9, h_x90, h_x91]
   refine hK _ _ ?_
   clear hK K
   simp only [go_sem]
   refine b0k (fun hc11 => ?_) (fun hc11 => ?_)
   ·rw [b00 hc11] at hm1
    refine b0b fun K hK => ?_
    simp only [go_sem]
    refine hK _ _ ?_
    clear hK K
    simp only [b01, b03, b02, b04]
    obtain rfl := sI9 hm1
    obtain rfl := hb3 _ rfl
    try dsimp only at hm0
    obtain rfl := sI9 hm0
    exact b1e (by simp only [go_sem, lA9, mA9]) (b0g _)
   ·rw [b0z hc11] at hm1
    simp only [b0y, b0i, b0j]
    refine hK6 _ _ ?_
    refine b1m fun K hK => ?_
    simp only [go_sem, s8]
    refine hK _ _ ?_
    clear hK K
    simp only [b0i, b0j]
    obtain rfl := sI9 hm1
    refine ⟨_, rfl, ?_⟩
    exact ⟨s0, s1, s7, (by first | (simp only [go_sem, s8, lA9, mA9]; done) | rfl)⟩
  ·rw [b0z hc5] at hm1
   simp only [b1t, b1w, b1v, b1u, b0i, b0j, Nat.reduceEqDiff, nF9]
   obtain rfl := sI9 hm1
   obtain rfl := hb3 _ rfl
   try dsimp only at hm0
   exact J2  _ _  hm0
end Go.Nw.TM
