/- That the texts make what their models say: printed by a program. -/
import Derived.Test.YteoedeeljnboeaaHM
set_option linter.all false
set_option linter.unusedVariables false
set_option linter.unusedSimpArgs false
set_option linter.unusedSectionVars false
namespace Go.Nw.HM
open Go.Nw.Halls
set_option linter.unusedSimpArgs false
set_option linter.unusedVariables false
set_option maxHeartbeats 4000000
variable {O : Orac}
theorem c98 (hf : Has O "newel/halls.bounds" x_halls_bounds) (c16 : c3i O) (c15 : c3h O) : c6y O := by
 intro h_ open_ v_1 hs_1 h0 rr_p1 r hm0
 unfold b6v at hm0
 refine d5c hf rfl ?_
 refine b2h (fun t h => t 0 = .agg [.fs 5 (List.map b0p h_.Combs), .fs 3 (List.map b0o h_.Trains), .fs 3 (List.map b0q h_.Shifts), I h_.Until] ∧ t 1 = v_1 ∧ RR h v_1 hs_1 1 eI open_ ∧ (∀ j, j < h0.nx → h.ob j = h0.ob j) ∧ h0.nx ≤ h.nx) ⟨rfl, rfl, rr_p1, fun _ _ => rfl, Nat.le_refl _⟩ fun t h ⟨s0, s1, rr_p1, fr, fx⟩ => ?_
 simp only [x_halls_bounds]
 refine b0d fun K hK => ?_
 simp only [go_sem, s0]
 refine hK _ _ ?_
 clear hK K
 refine b0d fun K hK => ?_
 simp only [go_sem]
 refine hK _ _ ?_
 clear hK K
 refine b03 ?_
 refine b0d fun K hK => ?_
 simp only [go_sem]
 refine hK _ _ ?_
 clear hK K
 refine b0r fun K1 hK1 => ?_
 have J2 : ∀ (all_5 : List halls_bound) (v5 : AV) (t : Slots) (h : Heap), t 5 = v5 → b09 h v5 1 (List.map b11 all_5) → (∀ j, j < h0.nx → h.ob j = h0.ob j) → h0.nx ≤ h.nx → (∀ j, ¬b0c v5 j → h0.nx ≤ j) → b7v all_5 = some r → K1 t h := by
  intro all_5 v5 t h s5 qd fr fx qo hm0
  refine hK1 _ _ ?_
  unfold b7v at hm0
  refine b03 ?_
  refine c4b (s := 5) (v := v5) (f := b11) (l := all_5) (by simp only [go_sem, s5, b0v qd, List.length_append, List.map_append]) (b2e qd (by intro j hj hl; first | rfl | simp only [go_sem, hl]) (by first | omega | exact Nat.le_refl _ | (simp only [go_sem, nxs] <;> omega))) c1b d7y ?_
  skip
  refine b0d fun K hK => ?_
  simp only [go_sem, s5, b0a v5]
  refine hK _ _ ?_
  clear hK K
  simp only [b1a, b1c, b1b, b1d]
  obtain rfl := Option.some.inj hm0
  exact d80 (Post := fun v h => v = .fs 1 (List.map b11 all_5) ∧ (∀ j, j < h0.nx → h.ob j = h0.ob j) ∧ h0.nx ≤ h.nx) (v := .fs 1 (List.map b11 all_5)) (by simp only [go_sem, b0v qd, List.length_append, List.map_append]) ⟨rfl, (by intro j hj; first | exact fr j hj | (refine Eq.trans ?_ (fr j hj); first | rfl | simp only [go_sem, Nat.lt_of_lt_of_le hj fx, b44 qo hj, b1s qd (b44 qo hj), c8e qd (b44 qo hj)])), (by first | exact fx | omega | (simp only [go_sem, nxs] <;> omega))⟩
 simp only [b00]
 obtain ⟨b3, hl3, hm0⟩ := b0h hm0
 refine b1x hl3 (fun | (all_5, x_19), t, h => ∃ v1 : AV, ∃ v5 : AV, t 1 = v1 ∧ t 2 = .fp [.fs 5 (List.map b0p h_.Combs), .fs 3 (List.map b0o h_.Trains), .fs 3 (List.map b0q h_.Shifts), I h_.Until] 0 ∧ t 5 = v5 ∧ t 18 = I (List.length h_.Combs : Int) ∧ t 19 = I x_19 ∧ RR h v1 hs_1 1 eI open_ ∧ b09 h v5 1 (List.map b11 all_5) ∧ (∀ j, ¬b0c v5 j → b0f v1 hs_1 j) ∧ (∀ j, j < h0.nx → h.ob j = h0.ob j) ∧ h0.nx ≤ h.nx ∧ (∀ j, ¬b0c v5 j → h0.nx ≤ j)) ?_ ?_
 ·exact ⟨v_1, (.v (.slice none 0 0)), s1, (by first | (simp only [go_sem, List.length_append, List.map_append]; done) | rfl), (by first | (simp only [go_sem, List.length_append, List.map_append]; done) | rfl), (by first | (simp only [go_sem, List.length_append, List.map_append]; done) | rfl), (by first | (simp only [go_sem, List.length_append, List.map_append]; done) | rfl), rr_p1, b65, b89, fr, fx, b89⟩
 ·rintro ⟨all_5, x_19⟩ o t h ⟨v1, v5, s1, s2, s5, s18, s19, q8, qd, qg, fr, fx, qo⟩ hm1 hb3
  simp only [c1r] at hm1
  rw [d17]
  refine b0d fun K hK => ?_
  simp only [go_sem, s18, s19, b0a v1, b0a v5]
  refine hK _ _ ?_
  clear hK K
  refine b0r fun K4 hK4 => ?_
  simp only [go_sem]
  refine b0u (fun hc5 => ?_) (fun hc5 => ?_)
  ·rw [b02 hc5] at hm1
   simp only [b0z, b0i, b0j]
   refine hK4 _ _ ?_
   refine b0r fun K6 hK6 => ?_
   have J7 : ∀ (all_5_1 : List halls_bound) (v1_1 : AV) (i5 : Nat) (t : Slots) (h : Heap), t 1 = v1_1 → t 2 = .fp [.fs 5 (List.map b0p h_.Combs), .fs 3 (List.map b0o h_.Trains), .fs 3 (List.map b0q h_.Shifts), I h_.Until] 0 → t 5 = .rs i5 0 (List.length all_5_1) → t 18 = I (List.length h_.Combs : Int) → t 19 = I x_19 → RR h v1_1 hs_1 1 eI open_ → h.ob i5 = some (1, List.map b11 all_5_1) → i5 < h.nx → b0f v1_1 hs_1 i5 → (∀ j, j < h0.nx → h.ob j = h0.ob j) → h0.nx ≤ h.nx → h0.nx ≤ i5 → b7z x_19 all_5_1 = some o → K6 t h := by
    try clear s1 s2 s5 s18 s19 q8 qd qg fr fx qo
    intro all_5_1 v1_1 i5 t h s1 s2 s5 s18 s19 q8 q16 qz q1u fr fx qo hm1
    refine hK6 _ _ ?_
    unfold b7z at hm1
    refine b1i fun K hK => ?_
    simp only [go_sem, s19, qz, b0a v1, b0a v5, b0a v1_1]
    refine hK _ _ ?_
    clear hK K
    simp only [b0i, b0j]
    obtain rfl := Option.some.inj hm1
    refine ⟨_, rfl, ?_⟩
    exact ⟨v1_1, (.rs i5 0 (List.length all_5_1)), s1, s2, (by first | exact s5 | simp only [go_sem, s5, List.length_append, List.map_append]), s18, (by first | (simp only [go_sem, s19, List.length_append, List.map_append]; done) | rfl), q8, (b3c (by simp only [go_sem, q16, qz, List.length_append, List.map_append]) (by first | rfl | simp only [go_sem, List.length_append, List.map_append]) (by simp only [go_sem, qz])), (b58 q1u), fr, fx, (c4i qo)⟩
   simp only [b00]
   refine b0d fun K hK => ?_
   simp only [go_sem, s19, b0a v1, b0a v5]
   refine hK _ _ ?_
   clear hK K
   refine b0d fun K hK => ?_
   simp only [go_sem, b0a v1, b0a v5]
   refine hK _ _ ?_
   clear hK K
   refine b03 ?_
   refine b0d fun K hK => ?_
   simp only [go_sem, s2, b0a v1, b0a v5]
   refine hK _ _ ?_
   clear hK K
   refine b0r fun K8 hK8 => ?_
   have J9 : ∀ (b_7_0 : List Int) (b_7_3 : List (List Int)) (v1_1 : AV) (v5_1 : AV) (i7 : Nat) (i7_1 : Nat) (i7_2 : Nat) (v7 : AV) (t : Slots) (h : Heap), t 1 = v1_1 → t 2 = .fp [.fs 5 (List.map b0p h_.Combs), .fs 3 (List.map b0o h_.Trains), .fs 3 (List.map b0q h_.Shifts), I h_.Until] 0 → t 5 = v5_1 → t 6 = I x_19 → t 7 = .rp i7 0 0 → t 18 = I (List.length h_.Combs : Int) → t 19 = I x_19 → RR h v1_1 hs_1 1 eI open_ → b09 h v5_1 1 (List.map b11 all_5) → h.ob i7 = some (4, [[.rs i7_1 0 (List.length b_7_0), .rs i7_2 0 (List.length ([0])), .v (.slice none 0 0), v7]]) → i7 < h.nx → h.ob i7_1 = some (1, List.map eI b_7_0) → i7_1 < h.nx → h.ob i7_2 = some (1, List.map eI ([0])) → i7_2 < h.nx → b09 h v7 1 (List.map b0k b_7_3) → (∀ j, ¬b0c v5_1 j → b0f v1_1 hs_1 j) → b0f v1_1 hs_1 i7 → b0f v1_1 hs_1 i7_1 → b0f v1_1 hs_1 i7_2 → (∀ j, ¬b0c v7 j → b0f v1_1 hs_1 j) → b0c v5_1 i7 → b0c v5_1 i7_1 → b0c v5_1 i7_2 → (∀ j, ¬b0c v5_1 j → b0c v7 j) → ¬i7 = i7_1 → ¬i7 = i7_2 → b0c v7 i7 → ¬i7_1 = i7_2 → b0c v7 i7_1 → b0c v7 i7_2 → (∀ j, j < h0.nx → h.ob j = h0.ob j) → h0.nx ≤ h.nx → (∀ j, ¬b0c v5_1 j → h0.nx ≤ j) → h0.nx ≤ i7 → h0.nx ≤ i7_1 → h0.nx ≤ i7_2 → (∀ j, ¬b0c v7 j → h0.nx ≤ j) → b72 h_ open_ all_5 x_19 b_7_0 b_7_3 = some o → K8 t h := by
    try clear s1 s2 s5 s18 s19 q8 qd qg fr fx qo
    intro b_7_0 b_7_3 v1_1 v5_1 i7 i7_1 i7_2 v7 t h s1 s2 s5 s6 s7 s18 s19 q8 qd qa q0 qh q2 qi q1 qb qg q3 q4 q5 qm qc qe qf qy q6 q7 qj q9 qk ql fr fx qo qt qv qw qu hm1
    refine hK8 _ _ ?_
    unfold b72 at hm1
    refine b03 ?_
    refine b0d fun K hK => ?_
    simp only [go_sem, s2, q0, q2, q1, b0a v1, b0a v5, b0a v1_1, b0a v5_1, b0a v7]
    refine hK _ _ ?_
    clear hK K
    refine b0r fun K10 hK10 => ?_
    have J11 : ∀ (b_7_1 : List Int) (b_7_2 : List Int) (v1_2 : AV) (i7_3 : Nat) (v7_1 : AV) (v7_2 : AV) (t : Slots) (h : Heap), t 1 = v1_2 → t 2 = .fp [.fs 5 (List.map b0p h_.Combs), .fs 3 (List.map b0o h_.Trains), .fs 3 (List.map b0q h_.Shifts), I h_.Until] 0 → t 5 = v5_1 → t 7 = .rp i7 0 0 → t 18 = I (List.length h_.Combs : Int) → t 19 = I x_19 → RR h v1_2 hs_1 1 eI open_ → b09 h v5_1 1 (List.map b11 all_5) → h.ob i7 = some (4, [[.rs i7_1 0 (List.length b_7_0), .rs i7_3 0 (List.length b_7_1), v7_1, v7_2]]) → i7 < h.nx → h.ob i7_1 = some (1, List.map eI b_7_0) → i7_1 < h.nx → h.ob i7_3 = some (1, List.map eI b_7_1) → i7_3 < h.nx → b09 h v7_1 1 (List.map eI b_7_2) → b09 h v7_2 1 (List.map b0k b_7_3) → (∀ j, ¬b0c v5_1 j → b0f v1_2 hs_1 j) → b0f v1_2 hs_1 i7 → b0f v1_2 hs_1 i7_1 → b0f v1_2 hs_1 i7_3 → (∀ j, ¬b0c v7_1 j → b0f v1_2 hs_1 j) → (∀ j, ¬b0c v7_2 j → b0f v1_2 hs_1 j) → b0c v5_1 i7 → b0c v5_1 i7_1 → b0c v5_1 i7_3 → (∀ j, ¬b0c v5_1 j → b0c v7_1 j) → (∀ j, ¬b0c v5_1 j → b0c v7_2 j) → ¬i7 = i7_1 → ¬i7 = i7_3 → b0c v7_1 i7 → b0c v7_2 i7 → ¬i7_1 = i7_3 → b0c v7_1 i7_1 → b0c v7_2 i7_1 → b0c v7_1 i7_3 → b0c v7_2 i7_3 → (∀ j, ¬b0c v7_1 j → b0c v7_2 j) → (∀ j, j < h0.nx → h.ob j = h0.ob j) → h0.nx ≤ h.nx → (∀ j, ¬b0c v5_1 j → h0.nx ≤ j) → h0.nx ≤ i7 → h0.nx ≤ i7_1 → h0.nx ≤ i7_3 → (∀ j, ¬b0c v7_1 j → h0.nx ≤ j) → (∀ j, ¬b0c v7_2 j → h0.nx ≤ j) → b7t all_5 x_19 b_7_0 b_7_3 b_7_1 b_7_2 = some o → K10 t h := by
     try clear s1 s2 s5 s6 s7 s18 s19 q8 qd qa q0 qh q2 qi q1 qb qg q3 q4 q5 qm qc qe qf qy q6 q7 qj q9 qk ql fr fx qo qt qv qw qu
     intro b_7_1 b_7_2 v1_2 i7_3 v7_1 v7_2 t h s1 s2 s5 s7 s18 s19 q8 qd qa q0 qh q2 qi q1 qb qx qg q3 q4 q5 qm q15 qc qe qf qy q18 q6 q7 qj q10 q9 qk q11 ql q12 q1d fr fx qo qt qv qw qu q19 hm1
     refine hK10 _ _ ?_
     unfold b7t at hm1
     refine d3i (s := 7) (v := .rp i7 0 0) (y := .fp [.fs 1 (List.map eI b_7_0), .fs 1 (List.map eI b_7_1), .fs 1 (List.map eI b_7_2), .fs 1 (List.map b0k b_7_3)] 0) (fun j => j == i7 || j == i7_1 || j == i7_3 || b54 v7_1 j || b54 v7_2 j) (by simp only [go_sem, s7, b1h q8, b0v qd, qa, q0, qh, q2, qi, q1, b0v qb, b0v qx, b08 q3, b08 q4, b08 q5, qc, qe, qf, q6, b0b q6, q7, b0b q7, qj, q10, q9, b0b q9, qk, q11, ql, q12, List.length_append, List.map_append]) (c4h (id := i7) (sz := 4) (xs := [.rs i7_1 0 (List.length b_7_0), .rs i7_3 0 (List.length b_7_1), v7_1, v7_2]) (by rw [b6k (by simp)]; simp only [go_sem, b1h q8, b0v qd, qa, q0, qh, q2, qi, q1, b0v qb, b0v qx, b08 q3, b08 q4, b08 q5, qc, qe, qf, q6, b0b q6, q7, b0b q7, qj, q10, q9, b0b q9, qk, q11, ql, q12, List.length_append, List.map_append]) (.cons (b42 (f := eI) (l := b_7_0) (id := i7_1) (by rw [b6k (by simp)]; simp only [go_sem, b1h q8, b0v qd, qa, q0, qh, q2, qi, q1, b0v qb, b0v qx, b08 q3, b08 q4, b08 q5, qc, qe, qf, q6, b0b q6, q7, b0b q7, qj, q10, q9, b0b q9, qk, q11, ql, q12, List.length_append, List.map_append]) (by first | rfl | simp only [go_sem, List.length_append, List.map_append]) b2b b38) (.cons (b42 (f := eI) (l := b_7_1) (id := i7_3) (by rw [b6k (by simp)]; simp only [go_sem, b1h q8, b0v qd, qa, q0, qh, q2, qi, q1, b0v qb, b0v qx, b08 q3, b08 q4, b08 q5, qc, qe, qf, q6, b0b q6, q7, b0b q7, qj, q10, q9, b0b q9, qk, q11, ql, q12, List.length_append, List.map_append]) (by first | rfl | simp only [go_sem, List.length_append, List.map_append]) b2b b38) (.cons (b7s (f := eI) (l := b_7_2) (c5w (b2e qb (by intro j hj hl; first | rfl | simp only [go_sem, hl, b08 (qm j hj), b4x qy j hj, b1y hj qj, b1y hj qk, b1y hj ql, q1d j hj]) (by first | omega | exact Nat.le_refl _ | (simp only [go_sem, nxs] <;> omega))) (by intro j hj; simp [c0l hj])) b2b b38) (.cons (b7s (f := b0k) (l := b_7_3) (c5w (b2e qx (by intro j hj hl; first | rfl | simp only [go_sem, hl, b08 (q15 j hj), b4x q18 j hj, b1y hj q10, b1y hj q11, b1y hj q12, b4x q1d j hj]) (by first | omega | exact Nat.le_refl _ | (simp only [go_sem, nxs] <;> omega))) (by intro j hj; simp [c0l hj])) b2v c5p) (.nil)))))) (.fp _ _ (b0e (b0s fun a _ => b2b a) (b0e (b0s fun a _ => b2b a) (b0e (b0s fun a _ => b2b a) (b0e (b0s fun a _ => b2v a) b0y))))) ?_
     obtain ⟨l13, h_l13, hm1⟩ := b0h hm1
     refine b1i fun K hK => ?_
     simp only [go_sem, s5, s7, q0, q2, q1, qc, qe, qf, Bool.or_eq_false_iff, beq_eq_false_iff_ne, ne_eq, not_false_eq_true, and_self, b1s qb qj, b1s qx q10, b1s qb qk, b1s qx q11, b1s qb ql, b1s qx q12, b0a v1, b0a v5, b0a v1_1, b0a v5_1, b0a v7, b0a v1_2, b0a v7_1, b0a v7_2]
     refine b5l (f := b11) (l := all_5) (m := ([(halls_bound.mk b_7_0 b_7_1 b_7_2 b_7_3)])) ?_ ?_ ?_ ?_ h_l13 ?_
     ·exact (b2e qd (by intro j hj hl; first | rfl | simp only [go_sem, hl, b08 (qg j hj), b1y hj qc, b1y hj qe, b1y hj qf, qy j hj, b1s qb (qy j hj), q18 j hj, b1s qx (q18 j hj), Bool.or_eq_false_iff, beq_eq_false_iff_ne, ne_eq, not_false_eq_true, and_self]) (by first | omega | exact Nat.le_refl _ | (simp only [go_sem, nxs] <;> omega)))
     ·exact (b5n (by simp only [go_sem, Bool.or_eq_false_iff, beq_eq_false_iff_ne, ne_eq, not_false_eq_true, and_self, b1s qb qj, b1s qx q10, b1s qb qk, b1s qx q11, b1s qb ql, b1s qx q12, b1h q8, b0v qd, qa, q0, qh, q2, qi, q1, b0v qb, b0v qx, b08 q3, b08 q4, b08 q5, qc, qe, qf, q6, b0b q6, q7, b0b q7, qj, q10, q9, b0b q9, qk, q11, ql, q12, List.length_append, List.map_append]) (by simp only [go_sem, Bool.or_eq_false_iff, beq_eq_false_iff_ne, ne_eq, not_false_eq_true, and_self, b1s qb qj, b1s qx q10, b1s qb qk, b1s qx q11, b1s qb ql, b1s qx q12, b1h q8, b0v qd, qa, q0, qh, q2, qi, q1, b0v qb, b0v qx, b08 q3, b08 q4, b08 q5, qc, qe, qf, q6, b0b q6, q7, b0b q7, qj, q10, q9, b0b q9, qk, q11, ql, q12, List.length_append, List.map_append]))
     ·exact (b3h (by first | exact b1k | exact b1l (by first | omega | (simp only [nxs] <;> omega)) | assumption | exact b1g (by assumption) (by first | omega | (simp only [go_sem, nxs] <;> omega))))
     ·exact (fun _ => by simp)
     simp only [go_sem, s5, s7, q0, q2, q1, qc, qe, qf, Bool.or_eq_false_iff, beq_eq_false_iff_ne, ne_eq, not_false_eq_true, and_self, b1s qb qj, b1s qx q10, b1s qb qk, b1s qx q11, b1s qb ql, b1s qx q12, b0a v1, b0a v5, b0a v1_1, b0a v5_1, b0a v7, b0a v1_2, b0a v7_1, b0a v7_2]
     refine hK _ _ ?_
     clear hK K
     simp only [b0i, b0j]
     exact J7 l13 v1_2 (nxs h.nx) _ _ s1 s2 (by first | (simp only [go_sem, s5, List.length_append, List.map_append]; done) | rfl) s18 s19 (b2f q8 (by intro j hj  hl; first | rfl | simp only [go_sem, hl, b4n qg j hj, b3d hj q3, b3d hj q4, b3d hj q5, b4n qm j hj, b1s qb (b4n qm j hj), b4n q15 j hj, b1s qx (b4n q15 j hj), Bool.or_eq_false_iff, beq_eq_false_iff_ne, ne_eq, not_false_eq_true, and_self, q0, q2, q1]) (by first | omega | exact Nat.le_refl _ | (simp only [go_sem, nxs] <;> omega))) (by simp only [go_sem, Bool.or_eq_false_iff, beq_eq_false_iff_ne, ne_eq, not_false_eq_true, and_self, b0v qd, q0, q2, q1, b0v qb, b0v qx, List.length_append, List.map_append]) (by simp only [go_sem]) (by first | assumption | exact b2r q8 (by first | assumption | omega | (simp only [nxs] <;> omega))) (by intro j hj; first | exact fr j hj | (refine Eq.trans ?_ (fr j hj); first | rfl | simp only [go_sem, Nat.lt_of_lt_of_le hj fx, b44 qo hj, b5x qt hj, b5x qv hj, b5x qw hj, b44 qu hj, b1s qb (b44 qu hj), c8e qb (b44 qu hj), b44 q19 hj, b1s qx (b44 q19 hj), c8e qx (b44 q19 hj), Bool.or_eq_false_iff, beq_eq_false_iff_ne, ne_eq, not_false_eq_true, and_self])) (by first | exact fx | omega | (simp only [go_sem, nxs] <;> omega)) (by first | assumption | omega | (simp only [nxs] <;> omega)) hm1
    simp only [b00]
    obtain ⟨b14, hl14, hm1⟩ := b0h hm1
    refine b1x hl14 (fun | (b_7_1, b_7_2, x_122), t, h => ∃ v1_2 : AV, ∃ i7_3 : Nat, ∃ v7_1 : AV, ∃ v7_2 : AV, t 1 = v1_2 ∧ t 2 = .fp [.fs 5 (List.map b0p h_.Combs), .fs 3 (List.map b0o h_.Trains), .fs 3 (List.map b0q h_.Shifts), I h_.Until] 0 ∧ t 5 = v5_1 ∧ t 6 = I x_19 ∧ t 7 = .rp i7 0 0 ∧ t 18 = I (List.length h_.Combs : Int) ∧ t 19 = I x_19 ∧ t 121 = I h_.Until ∧ t 122 = I x_122 ∧ RR h v1_2 hs_1 1 eI open_ ∧ b09 h v5_1 1 (List.map b11 all_5) ∧ h.ob i7 = some (4, [[.rs i7_1 0 (List.length b_7_0), .rs i7_3 0 (List.length b_7_1), v7_1, v7_2]]) ∧ i7 < h.nx ∧ h.ob i7_1 = some (1, List.map eI b_7_0) ∧ i7_1 < h.nx ∧ h.ob i7_3 = some (1, List.map eI b_7_1) ∧ i7_3 < h.nx ∧ b09 h v7_1 1 (List.map eI b_7_2) ∧ b09 h v7_2 1 (List.map b0k b_7_3) ∧ (∀ j, ¬b0c v5_1 j → b0f v1_2 hs_1 j) ∧ b0f v1_2 hs_1 i7 ∧ b0f v1_2 hs_1 i7_1 ∧ b0f v1_2 hs_1 i7_3 ∧ (∀ j, ¬b0c v7_1 j → b0f v1_2 hs_1 j) ∧ (∀ j, ¬b0c v7_2 j → b0f v1_2 hs_1 j) ∧ b0c v5_1 i7 ∧ b0c v5_1 i7_1 ∧ b0c v5_1 i7_3 ∧ (∀ j, ¬b0c v5_1 j → b0c v7_1 j) ∧ (∀ j, ¬b0c v5_1 j → b0c v7_2 j) ∧ ¬i7 = i7_1 ∧ ¬i7 = i7_3 ∧ b0c v7_1 i7 ∧ b0c v7_2 i7 ∧ ¬i7_1 = i7_3 ∧ b0c v7_1 i7_1 ∧ b0c v7_2 i7_1 ∧ b0c v7_1 i7_3 ∧ b0c v7_2 i7_3 ∧ (∀ j, ¬b0c v7_1 j → b0c v7_2 j) ∧ (∀ j, j < h0.nx → h.ob j = h0.ob j) ∧ h0.nx ≤ h.nx ∧ (∀ j, ¬b0c v5_1 j → h0.nx ≤ j) ∧ h0.nx ≤ i7 ∧ h0.nx ≤ i7_1 ∧ h0.nx ≤ i7_3 ∧ (∀ j, ¬b0c v7_1 j → h0.nx ≤ j) ∧ (∀ j, ¬b0c v7_2 j → h0.nx ≤ j)) ?_ ?_
    ·exact ⟨v1_1, i7_2, (.v (.slice none 0 0)), v7, s1, s2, s5, s6, s7, s18, s19, (by first | (simp only [go_sem, List.length_append, List.map_append]; done) | rfl), (by first | (simp only [go_sem, List.length_append, List.map_append]; done) | rfl), q8, qd, qa, q0, qh, q2, qi, q1, b65, qb, qg, q3, q4, q5, b89, qm, qc, qe, qf, (by first | exact b4y | exact b4z | assumption | (refine b41 ?_; first | assumption | exact b1g (by assumption) (by first | assumption | omega | (simp only [nxs] <;> omega))) | (refine b3h ?_; first | assumption | exact b1g (by assumption) (by first | assumption | omega | (simp only [nxs] <;> omega)))), qy, q6, q7, (by first | exact b1k | exact b1l (by first | assumption | omega | (simp only [nxs] <;> omega)) | assumption | exact b1g (by assumption) (by first | assumption | omega | (simp only [nxs] <;> omega))), qj, q9, (by first | exact b1k | exact b1l (by first | assumption | omega | (simp only [nxs] <;> omega)) | assumption | exact b1g (by assumption) (by first | assumption | omega | (simp only [nxs] <;> omega))), qk, (by first | exact b1k | exact b1l (by first | assumption | omega | (simp only [nxs] <;> omega)) | assumption | exact b1g (by assumption) (by first | assumption | omega | (simp only [nxs] <;> omega))), ql, (by first | exact b4y | exact b4z | assumption | (refine b41 ?_; first | assumption | exact b1g (by assumption) (by first | assumption | omega | (simp only [nxs] <;> omega))) | (refine b3h ?_; first | assumption | exact b1g (by assumption) (by first | assumption | omega | (simp only [nxs] <;> omega)))), fr, fx, qo, qt, qv, qw, b89, qu⟩
    ·try clear s1 s2 s5 s6 s7 s18 s19 q8 qd qa q0 qh q2 qi q1 qb qg q3 q4 q5 qm qc qe qf qy q6 q7 qj q9 qk ql fr fx qo qt qv qw qu
     rintro ⟨b_7_1, b_7_2, x_122⟩ o t h ⟨v1_2, i7_3, v7_1, v7_2, s1, s2, s5, s6, s7, s18, s19, s121, s122, q8, qd, qa, q0, qh, q2, qi, q1, qb, qx, qg, q3, q4, q5, qm, q15, qc, qe, qf, qy, q18, q6, q7, qj, q10, q9, qk, q11, ql, q12, q1d, fr, fx, qo, qt, qv, qw, qu, q19⟩ hm2 hb14
     simp only [c1q] at hm2
     rw [d16]
     refine b0d fun K hK => ?_
     simp only [go_sem, s121, s122, q0, q2, q1, b0a v1, b0a v5, b0a v1_1, b0a v5_1, b0a v7, b0a v1_2, b0a v7_1, b0a v7_2]
     refine hK _ _ ?_
     clear hK K
     refine b0r fun K15 hK15 => ?_
     simp only [go_sem]
     refine b0u (fun hc16 => ?_) (fun hc16 => ?_)
     ·rw [b02 hc16] at hm2
      simp only [b0z, b0i, b0j]
      refine hK15 _ _ ?_
      refine b0r fun K17 hK17 => ?_
      have J18 : ∀ (b_7_1_1 : List Int) (b_7_2_1 : List Int) (v1_3 : AV) (i7_4 : Nat) (i7_5 : Nat) (v7_3 : AV) (t : Slots) (h : Heap), t 1 = v1_3 → t 2 = .fp [.fs 5 (List.map b0p h_.Combs), .fs 3 (List.map b0o h_.Trains), .fs 3 (List.map b0q h_.Shifts), I h_.Until] 0 → t 5 = v5_1 → t 6 = I x_19 → t 7 = .rp i7 0 0 → t 18 = I (List.length h_.Combs : Int) → t 19 = I x_19 → t 121 = I h_.Until → t 122 = I x_122 → RR h v1_3 hs_1 1 eI open_ → b09 h v5_1 1 (List.map b11 all_5) → h.ob i7 = some (4, [[.rs i7_1 0 (List.length b_7_0), .rs i7_4 0 (List.length b_7_1_1), .rs i7_5 0 (List.length b_7_2_1), v7_3]]) → i7 < h.nx → h.ob i7_1 = some (1, List.map eI b_7_0) → i7_1 < h.nx → h.ob i7_4 = some (1, List.map eI b_7_1_1) → i7_4 < h.nx → h.ob i7_5 = some (1, List.map eI b_7_2_1) → i7_5 < h.nx → b09 h v7_3 1 (List.map b0k b_7_3) → (∀ j, ¬b0c v5_1 j → b0f v1_3 hs_1 j) → b0f v1_3 hs_1 i7 → b0f v1_3 hs_1 i7_1 → b0f v1_3 hs_1 i7_4 → b0f v1_3 hs_1 i7_5 → (∀ j, ¬b0c v7_3 j → b0f v1_3 hs_1 j) → b0c v5_1 i7 → b0c v5_1 i7_1 → b0c v5_1 i7_4 → b0c v5_1 i7_5 → (∀ j, ¬b0c v5_1 j → b0c v7_3 j) → ¬i7 = i7_1 → ¬i7 = i7_4 → ¬i7 = i7_5 → b0c v7_3 i7 → ¬i7_1 = i7_4 → ¬i7_1 = i7_5 → b0c v7_3 i7_1 → ¬i7_4 = i7_5 → b0c v7_3 i7_4 → b0c v7_3 i7_5 → (∀ j, j < h0.nx → h.ob j = h0.ob j) → h0.nx ≤ h.nx → (∀ j, ¬b0c v5_1 j → h0.nx ≤ j) → h0.nx ≤ i7 → h0.nx ≤ i7_1 → h0.nx ≤ i7_4 → h0.nx ≤ i7_5 → (∀ j, ¬b0c v7_3 j → h0.nx ≤ j) → b7u x_122 b_7_1_1 b_7_2_1 = some o → K17 t h := by
       try clear s1 s2 s5 s6 s7 s18 s19 s121 s122 q8 qd qa q0 qh q2 qi q1 qb qx qg q3 q4 q5 qm q15 qc qe qf qy q18 q6 q7 qj q10 q9 qk q11 ql q12 q1d fr fx qo qt qv qw qu q19
       intro b_7_1_1 b_7_2_1 v1_3 i7_4 i7_5 v7_3 t h s1 s2 s5 s6 s7 s18 s19 s121 s122 q8 qd qa q0 qh q2 qi q1 q1k q1h qx qg q3 q4 q5 q1l q15 qc qe qf q1n q18 q6 q7 q1o q10 q9 q1p q11 q1q q12 q1s fr fx qo qt qv qw qu q19 hm2
       refine hK17 _ _ ?_
       unfold b7u at hm2
       refine b1i fun K hK => ?_
       simp only [go_sem, s122, q0, q2, q1, q1h, b0a v1, b0a v5, b0a v1_1, b0a v5_1, b0a v7, b0a v1_2, b0a v7_1, b0a v7_2, b0a v1_3, b0a v7_3]
       refine hK _ _ ?_
       clear hK K
       simp only [b0i, b0j]
       obtain rfl := Option.some.inj hm2
       refine ⟨_, rfl, ?_⟩
       exact ⟨v1_3, i7_4, (.rs i7_5 0 (List.length b_7_2_1)), v7_3, s1, s2, s5, s6, s7, s18, s19, s121, (by first | (simp only [go_sem, s122, List.length_append, List.map_append]; done) | rfl), q8, qd, qa, q0, qh, q2, qi, q1, (b3c (by simp only [go_sem, q1k, q1h, List.length_append, List.map_append]) (by first | rfl | simp only [go_sem, List.length_append, List.map_append]) (by simp only [go_sem, q1h])), qx, qg, q3, q4, q5, (b58 q1l), q15, qc, qe, qf, (by first | exact b4y | exact b4z | assumption | (refine b41 ?_; first | assumption | exact b1g (by assumption) (by first | assumption | omega | (simp only [nxs] <;> omega))) | (refine b3h ?_; first | assumption | exact b1g (by assumption) (by first | assumption | omega | (simp only [nxs] <;> omega)))), q18, q6, q7, (by first | exact b1k | exact b1l (by first | assumption | omega | (simp only [nxs] <;> omega)) | assumption | exact b1g (by assumption) (by first | assumption | omega | (simp only [nxs] <;> omega))), q10, q9, (by first | exact b1k | exact b1l (by first | assumption | omega | (simp only [nxs] <;> omega)) | assumption | exact b1g (by assumption) (by first | assumption | omega | (simp only [nxs] <;> omega))), q11, (by first | exact b1k | exact b1l (by first | assumption | omega | (simp only [nxs] <;> omega)) | assumption | exact b1g (by assumption) (by first | assumption | omega | (simp only [nxs] <;> omega))), q12, (by first | exact b4y | exact b4z | assumption | (refine b41 ?_; first | assumption | exact b1g (by assumption) (by first | assumption | omega | (simp only [nxs] <;> omega))) | (refine b3h ?_; first | assumption | exact b1g (by assumption) (by first | assumption | omega | (simp only [nxs] <;> omega)))), fr, fx, qo, qt, qv, qw, (c4i qu), q19⟩
      simp only [b00]
      refine b0d fun K hK => ?_
      simp only [go_sem, s122, q0, q2, q1, b0a v1, b0a v5, b0a v1_1, b0a v5_1, b0a v7, b0a v1_2, b0a v7_1, b0a v7_2]
      refine hK _ _ ?_
      clear hK K
      refine b0d fun K hK => ?_
      simp only [go_sem, q0, q2, q1, b0a v1, b0a v5, b0a v1_1, b0a v5_1, b0a v7, b0a v1_2, b0a v7_1, b0a v7_2]
      refine hK _ _ ?_
      clear hK K
      refine b03 ?_
      refine b0d fun K hK => ?_
      simp only [go_sem, q0, q2, q1, b0a v1, b0a v5, b0a v1_1, b0a v5_1, b0a v7, b0a v1_2, b0a v7_1, b0a v7_2]
      refine hK _ _ ?_
      clear hK K
      refine b0r fun K19 hK19 => ?_
      have J20 : ∀ (most_14 : Int) (v7_3 : AV) (t : Slots) (h : Heap), t 1 = v1_2 → t 2 = .fp [.fs 5 (List.map b0p h_.Combs), .fs 3 (List.map b0o h_.Trains), .fs 3 (List.map b0q h_.Shifts), I h_.Until] 0 → t 5 = v5_1 → t 6 = I x_19 → t 7 = .rp i7 0 0 → t 13 = I x_122 → t 14 = I most_14 → t 18 = I (List.length h_.Combs : Int) → t 19 = I x_19 → t 121 = I h_.Until → t 122 = I x_122 → RR h v1_2 hs_1 1 eI open_ → b09 h v5_1 1 (List.map b11 all_5) → h.ob i7 = some (4, [[.rs i7_1 0 (List.length b_7_0), .rs i7_3 0 (List.length b_7_1), v7_1, v7_3]]) → i7 < h.nx → h.ob i7_1 = some (1, List.map eI b_7_0) → i7_1 < h.nx → h.ob i7_3 = some (1, List.map eI b_7_1) → i7_3 < h.nx → b09 h v7_1 1 (List.map eI b_7_2) → b09 h v7_3 1 (List.map b0k b_7_3) → (∀ j, ¬b0c v5_1 j → b0f v1_2 hs_1 j) → b0f v1_2 hs_1 i7 → b0f v1_2 hs_1 i7_1 → b0f v1_2 hs_1 i7_3 → (∀ j, ¬b0c v7_1 j → b0f v1_2 hs_1 j) → (∀ j, ¬b0c v7_3 j → b0f v1_2 hs_1 j) → b0c v5_1 i7 → b0c v5_1 i7_1 → b0c v5_1 i7_3 → (∀ j, ¬b0c v5_1 j → b0c v7_1 j) → (∀ j, ¬b0c v5_1 j → b0c v7_3 j) → ¬i7 = i7_1 → ¬i7 = i7_3 → b0c v7_1 i7 → b0c v7_3 i7 → ¬i7_1 = i7_3 → b0c v7_1 i7_1 → b0c v7_3 i7_1 → b0c v7_1 i7_3 → b0c v7_3 i7_3 → (∀ j, ¬b0c v7_1 j → b0c v7_3 j) → (∀ j, j < h0.nx → h.ob j = h0.ob j) → h0.nx ≤ h.nx → (∀ j, ¬b0c v5_1 j → h0.nx ≤ j) → h0.nx ≤ i7 → h0.nx ≤ i7_1 → h0.nx ≤ i7_3 → (∀ j, ¬b0c v7_1 j → h0.nx ≤ j) → (∀ j, ¬b0c v7_3 j → h0.nx ≤ j) → b7w open_ x_19 b_7_1 b_7_2 x_122 most_14 = some o → K19 t h := by
       try clear s1 s2 s5 s6 s7 s18 s19 s121 s122 q8 qd qa q0 qh q2 qi q1 qb qx qg q3 q4 q5 qm q15 qc qe qf qy q18 q6 q7 qj q10 q9 qk q11 ql q12 q1d fr fx qo qt qv qw qu q19
       intro most_14 v7_3 t h s1 s2 s5 s6 s7 s13 s14 s18 s19 s121 s122 q8 qd qa q0 qh q2 qi q1 qb qx qg q3 q4 q5 qm q15 qc qe qf qy q18 q6 q7 qj q10 q9 qk q11 ql q12 q1d fr fx qo qt qv qw qu q19 hm2
       refine hK19 _ _ ?_
       unfold b7w at hm2
       obtain ⟨l22, h_l22, hm2⟩ := b0h hm2
       refine b0d fun K hK => ?_
       simp only [go_sem, s7, s14, qa, q0, qh, q2, qi, q1, qc, qe, qf, q6, b0b q6, q7, b0b q7, qj, q10, q9, b0b q9, qk, q11, ql, q12, b0a v1, b0a v5, b0a v1_1, b0a v5_1, b0a v7, b0a v1_2, b0a v7_1, b0a v7_2, b0a v7_3]
       refine b5l (f := eI) (l := b_7_2) (m := ([most_14])) ?_ ?_ ?_ ?_ h_l22 ?_
       ·exact (b2e qb (by intro j hj hl; first | rfl | simp only [go_sem, hl, b08 (qm j hj), b4x qy j hj, b1y hj qj, b1y hj qk, b1y hj ql, q1d j hj]) (by first | omega | exact Nat.le_refl _ | (simp only [go_sem, nxs] <;> omega)))
       ·exact (b5n (by simp only [go_sem, b1h q8, b0v qd, qa, q0, qh, q2, qi, q1, b0v qb, b0v qx, b08 q3, b08 q4, b08 q5, qc, qe, qf, q6, b0b q6, q7, b0b q7, qj, q10, q9, b0b q9, qk, q11, ql, q12, List.length_append, List.map_append]) (by simp only [go_sem, b1h q8, b0v qd, qa, q0, qh, q2, qi, q1, b0v qb, b0v qx, b08 q3, b08 q4, b08 q5, qc, qe, qf, q6, b0b q6, q7, b0b q7, qj, q10, q9, b0b q9, qk, q11, ql, q12, List.length_append, List.map_append]))
       ·exact (b3h (by first | exact b1k | exact b1l (by first | omega | (simp only [nxs] <;> omega)) | assumption | exact b1g (by assumption) (by first | omega | (simp only [go_sem, nxs] <;> omega))))
       ·exact (fun _ => by simp)
       simp only [go_sem, s7, s14, qa, q0, qh, q2, qi, q1, qc, qe, qf, q6, b0b q6, q7, b0b q7, qj, q10, q9, b0b q9, qk, q11, ql, q12, b0a v1, b0a v5, b0a v1_1, b0a v5_1, b0a v7, b0a v1_2, b0a v7_1, b0a v7_2, b0a v7_3]
       refine hK _ _ ?_
       clear hK K
       obtain ⟨x27, h_x27, hm2⟩ := b0h hm2
       have h_x270 := b0w h_x27
       have h_x271 := b0x h_x27
       obtain ⟨x28, h_x28, hm2⟩ := b0h hm2
       have h_x280 := b0w h_x28
       have h_x281 := b0x h_x28
       obtain ⟨iqp946, rfl, q1e, q1c⟩ := b3w q8 h_x28
       obtain ⟨wp947, hw_wp947, os_wp947⟩ := b3v q8 h_x28
       obtain ⟨x29, h_x29, hm2⟩ := b0h hm2
       have h_x290 := b0w h_x29
       have h_x291 := b0x h_x29
       obtain ⟨irp948, rfl, obr_irp948, ltr_irp948⟩ := b3m os_wp947 h_x29
       obtain ⟨l30, h_l30, hm2⟩ := b0h hm2
       refine b5g (fun t h => ∃ v1_3 : AV, ∃ i7_4 : Nat, ∃ i7_5 : Nat, t 1 = v1_3 ∧ t 2 = .fp [.fs 5 (List.map b0p h_.Combs), .fs 3 (List.map b0o h_.Trains), .fs 3 (List.map b0q h_.Shifts), I h_.Until] 0 ∧ t 5 = v5_1 ∧ t 6 = I x_19 ∧ t 7 = .rp i7 0 0 ∧ t 18 = I (List.length h_.Combs : Int) ∧ t 19 = I x_19 ∧ t 121 = I h_.Until ∧ t 122 = I x_122 ∧ RR h v1_3 hs_1 1 eI open_ ∧ b09 h v5_1 1 (List.map b11 all_5) ∧ h.ob i7 = some (4, [[.rs i7_1 0 (List.length b_7_0), .rs i7_4 0 (List.length l30), .rs i7_5 0 (List.length l22), v7_3]]) ∧ i7 < h.nx ∧ h.ob i7_1 = some (1, List.map eI b_7_0) ∧ i7_1 < h.nx ∧ h.ob i7_4 = some (1, List.map eI l30) ∧ i7_4 < h.nx ∧ h.ob i7_5 = some (1, List.map eI l22) ∧ i7_5 < h.nx ∧ b09 h v7_3 1 (List.map b0k b_7_3) ∧ (∀ j, ¬b0c v5_1 j → b0f v1_3 hs_1 j) ∧ b0f v1_3 hs_1 i7 ∧ b0f v1_3 hs_1 i7_1 ∧ b0f v1_3 hs_1 i7_4 ∧ b0f v1_3 hs_1 i7_5 ∧ (∀ j, ¬b0c v7_3 j → b0f v1_3 hs_1 j) ∧ b0c v5_1 i7 ∧ b0c v5_1 i7_1 ∧ b0c v5_1 i7_4 ∧ b0c v5_1 i7_5 ∧ (∀ j, ¬b0c v5_1 j → b0c v7_3 j) ∧ ¬i7 = i7_1 ∧ ¬i7 = i7_4 ∧ ¬i7 = i7_5 ∧ b0c v7_3 i7 ∧ ¬i7_1 = i7_4 ∧ ¬i7_1 = i7_5 ∧ b0c v7_3 i7_1 ∧ ¬i7_4 = i7_5 ∧ b0c v7_3 i7_4 ∧ b0c v7_3 i7_5 ∧ (∀ j, j < h0.nx → h.ob j = h0.ob j) ∧ h0.nx ≤ h.nx ∧ (∀ j, ¬b0c v5_1 j → h0.nx ≤ j) ∧ h0.nx ≤ i7 ∧ h0.nx ≤ i7_1 ∧ h0.nx ≤ i7_4 ∧ h0.nx ≤ i7_5 ∧ (∀ j, ¬b0c v7_3 j → h0.nx ≤ j)) (fun K hK => ?_) ?_
       ·simp only [go_sem, s1, b2c q8, s6, s7, s13, s14, q1e, q1c, qa, q0, qh, q2, qi, q1, b2z qg, b2y qg hw_wp947, b04 (q3), b0b (b04 (q3)), b05 (q3) hw_wp947, b0b (b05 (q3) hw_wp947), b04 (q4), b0b (b04 (q4)), b05 (q4) hw_wp947, b0b (b05 (q4) hw_wp947), b04 (q5), b0b (b04 (q5)), b05 (q5) hw_wp947, b0b (b05 (q5) hw_wp947), b2z qm, b2y qm hw_wp947, b2z q15, b2y q15 hw_wp947, qc, qe, qf, q6, b0b q6, q7, b0b q7, qj, q10, q9, b0b q9, qk, q11, ql, q12, b0m h_x27, b0n h_x27, h_x270, h_x271, b0m h_x28, b0n h_x28, h_x280, h_x281, b0m hw_wp947, b0n hw_wp947, b3i os_wp947, b0m h_x29, b0n h_x29, h_x290, h_x291, obr_irp948, ltr_irp948, b0a v1, b0a v5, b0a v1_1, b0a v5_1, b0a v7, b0a v7_1, b0a v7_2, b0a v7_3]
        refine b5l (f := eI) (l := b_7_1) (m := ([wr (x27 + (mn most_14 x29))])) ?_ ?_ ?_ ?_ h_l30 ?_
        ·exact (b3c (by simp only [go_sem, b1h q8, b0v qd, qa, q0, qh, q2, qi, q1, b0v qb, b0v qx, b2z qg, b2y qg hw_wp947, b08 q3, b04 (q3), b0b (b04 (q3)), b05 (q3) hw_wp947, b0b (b05 (q3) hw_wp947), b08 q4, b04 (q4), b0b (b04 (q4)), b05 (q4) hw_wp947, b0b (b05 (q4) hw_wp947), b08 q5, b04 (q5), b0b (b04 (q5)), b05 (q5) hw_wp947, b0b (b05 (q5) hw_wp947), b2z qm, b2y qm hw_wp947, b2z q15, b2y q15 hw_wp947, qc, qe, qf, q6, b0b q6, q7, b0b q7, qj, q10, q9, b0b q9, qk, q11, ql, q12, q1e, q1c, b2w q8 hw_wp947, b0b (b2w q8 hw_wp947), List.length_append, List.map_append]) (by simp only [go_sem, b1h q8, b0v qd, qa, q0, qh, q2, qi, q1, b0v qb, b0v qx, b2z qg, b2y qg hw_wp947, b08 q3, b04 (q3), b0b (b04 (q3)), b05 (q3) hw_wp947, b0b (b05 (q3) hw_wp947), b08 q4, b04 (q4), b0b (b04 (q4)), b05 (q4) hw_wp947, b0b (b05 (q4) hw_wp947), b08 q5, b04 (q5), b0b (b04 (q5)), b05 (q5) hw_wp947, b0b (b05 (q5) hw_wp947), b2z qm, b2y qm hw_wp947, b2z q15, b2y q15 hw_wp947, qc, qe, qf, q6, b0b q6, q7, b0b q7, qj, q10, q9, b0b q9, qk, q11, ql, q12, q1e, q1c, b2w q8 hw_wp947, b0b (b2w q8 hw_wp947), List.length_append, List.map_append]) (by simp only [go_sem, q0, q2, q1, q1c]))
        ·exact (b5n (by simp only [go_sem, b1h q8, b0v qd, qa, q0, qh, q2, qi, q1, b0v qb, b0v qx, b2z qg, b2y qg hw_wp947, b08 q3, b04 (q3), b0b (b04 (q3)), b05 (q3) hw_wp947, b0b (b05 (q3) hw_wp947), b08 q4, b04 (q4), b0b (b04 (q4)), b05 (q4) hw_wp947, b0b (b05 (q4) hw_wp947), b08 q5, b04 (q5), b0b (b04 (q5)), b05 (q5) hw_wp947, b0b (b05 (q5) hw_wp947), b2z qm, b2y qm hw_wp947, b2z q15, b2y q15 hw_wp947, qc, qe, qf, q6, b0b q6, q7, b0b q7, qj, q10, q9, b0b q9, qk, q11, ql, q12, q1e, q1c, b2w q8 hw_wp947, b0b (b2w q8 hw_wp947), List.length_append, List.map_append]) (by simp only [go_sem, b1h q8, b0v qd, qa, q0, qh, q2, qi, q1, b0v qb, b0v qx, b2z qg, b2y qg hw_wp947, b08 q3, b04 (q3), b0b (b04 (q3)), b05 (q3) hw_wp947, b0b (b05 (q3) hw_wp947), b08 q4, b04 (q4), b0b (b04 (q4)), b05 (q4) hw_wp947, b0b (b05 (q4) hw_wp947), b08 q5, b04 (q5), b0b (b04 (q5)), b05 (q5) hw_wp947, b0b (b05 (q5) hw_wp947), b2z qm, b2y qm hw_wp947, b2z q15, b2y q15 hw_wp947, qc, qe, qf, q6, b0b q6, q7, b0b q7, qj, q10, q9, b0b q9, qk, q11, ql, q12, q1e, q1c, b2w q8 hw_wp947, b0b (b2w q8 hw_wp947), List.length_append, List.map_append]))
        ·exact (b3h (by first | exact b1k | exact b1l (by first | omega | (simp only [nxs] <;> omega)) | assumption | exact b1g (by assumption) (by first | omega | (simp only [go_sem, nxs] <;> omega))))
        ·exact (fun _ => by simp)
        simp only [go_sem, s1, b2c q8, s6, s7, s13, s14, q1e, q1c, qa, q0, qh, q2, qi, q1, b2z qg, b2y qg hw_wp947, b04 (q3), b0b (b04 (q3)), b05 (q3) hw_wp947, b0b (b05 (q3) hw_wp947), b04 (q4), b0b (b04 (q4)), b05 (q4) hw_wp947, b0b (b05 (q4) hw_wp947), b04 (q5), b0b (b04 (q5)), b05 (q5) hw_wp947, b0b (b05 (q5) hw_wp947), b2z qm, b2y qm hw_wp947, b2z q15, b2y q15 hw_wp947, qc, qe, qf, q6, b0b q6, q7, b0b q7, qj, q10, q9, b0b q9, qk, q11, ql, q12, b0m h_x27, b0n h_x27, h_x270, h_x271, b0m h_x28, b0n h_x28, h_x280, h_x281, b0m hw_wp947, b0n hw_wp947, b3i os_wp947, b0m h_x29, b0n h_x29, h_x290, h_x291, obr_irp948, ltr_irp948, b0a v1, b0a v5, b0a v1_1, b0a v5_1, b0a v7, b0a v7_1, b0a v7_2, b0a v7_3]
        exact hK _ _ ⟨(.rs iqp946 0 (List.length open_)), (nxs (nxs (nxs h.nx))), (nxs h.nx), (by first | (simp only [go_sem, s1, List.length_append, List.map_append]; done) | rfl), s2, s5, s6, s7, s18, s19, s121, s122, (b2f q8 (by intro j hj  hl; first | rfl | simp only [go_sem, hl, b3d hj q3, b3d hj q5, b4n qm j hj, q0, q1]) (by first | omega | exact Nat.le_refl _ | (simp only [go_sem, nxs] <;> omega))), (b2e qd (by intro j hj hl; first | rfl | simp only [go_sem, hl, q0, q1, b1y hj qc, b1y hj qf, qy j hj]) (by first | omega | exact Nat.le_refl _ | (simp only [go_sem, nxs] <;> omega))), (by simp only [go_sem, qa, q0, q1, b0v qb, q7, b0b q7, qj, List.length_append, List.map_append]), (by simp only [go_sem, q0]), (by simp only [go_sem, q0, qh, q2, q1, b0v qb, q6, b0b q6, q9, b0b q9, qk, List.length_append, List.map_append]), (by simp only [go_sem, q2]), (by simp only [go_sem, q0, q1, b0v qb, List.length_append, List.map_append]), (by simp only [go_sem]), (by simp only [go_sem, q0, q1, b0v qb, List.length_append, List.map_append]), (by simp only [go_sem]), (b2e qx (by intro j hj hl; first | rfl | simp only [go_sem, hl, q0, q1, b1y hj q10, b1y hj q12, b4x q1d j hj]) (by first | omega | exact Nat.le_refl _ | (simp only [go_sem, nxs] <;> omega))), qg, q3, q4, (by first | assumption | exact b2r q8 (by first | assumption | omega | (simp only [nxs] <;> omega))), (by first | assumption | exact b2r q8 (by first | assumption | omega | (simp only [nxs] <;> omega))), q15, qc, qe, (by first | exact b1k | exact b1l (by first | assumption | omega | (simp only [nxs] <;> omega)) | assumption | exact b1g (by assumption) (by first | assumption | omega | (simp only [nxs] <;> omega))), (by first | exact b1k | exact b1l (by first | assumption | omega | (simp only [nxs] <;> omega)) | assumption | exact b1g (by assumption) (by first | assumption | omega | (simp only [nxs] <;> omega))), q18, q6, (by first | first | assumption | omega | (simp only [nxs] <;> omega)), (by first | first | assumption | omega | (simp only [nxs] <;> omega)), q10, (by first | first | assumption | omega | (simp only [nxs] <;> omega)), (by first | first | assumption | omega | (simp only [nxs] <;> omega)), q11, (by first | first | assumption | omega | (simp only [nxs] <;> omega)), (by first | exact b1k | exact b1l (by first | assumption | omega | (simp only [nxs] <;> omega)) | assumption | exact b1g (by assumption) (by first | assumption | omega | (simp only [nxs] <;> omega))), (by first | exact b1k | exact b1l (by first | assumption | omega | (simp only [nxs] <;> omega)) | assumption | exact b1g (by assumption) (by first | assumption | omega | (simp only [nxs] <;> omega))), (by intro j hj; first | exact fr j hj | (refine Eq.trans ?_ (fr j hj); first | rfl | simp only [go_sem, Nat.lt_of_lt_of_le hj fx, b5x qt hj, b5x qw hj, b44 qu hj])), (by first | exact fx | omega | (simp only [go_sem, nxs] <;> omega)), qo, qt, qv, (by first | assumption | omega | (simp only [nxs] <;> omega)), (by first | assumption | omega | (simp only [nxs] <;> omega)), q19⟩
       ·try clear s1 s2 s5 s6 s7 s13 s14 s18 s19 s121 s122 q8 qd qa q0 qh q2 qi q1 qb qx qg q3 q4 q5 qm q15 qc qe qf qy q18 q6 q7 qj q10 q9 qk q11 ql q12 q1d fr fx qo qt qv qw qu q19 q1e q1c
        rintro t h ⟨v1_3, i7_4, i7_5, s1, s2, s5, s6, s7, s18, s19, s121, s122, q8, qd, qa, q0, qh, q2, qi, q1, q1k, q1h, qx, qg, q3, q4, q5, q1l, q15, qc, qe, qf, q1n, q18, q6, q7, q1o, q10, q9, q1p, q11, q1q, q12, q1s, fr, fx, qo, qt, qv, qw, qu, q19⟩
        simp only [b0i, b0j]
        exact J18 l30 l22 v1_3 i7_4 i7_5 v7_3 _ _ s1 s2 s5 s6 s7 s18 s19 s121 s122 q8 qd qa q0 qh q2 qi q1 q1k q1h qx qg q3 q4 q5 q1l q15 qc qe qf q1n q18 q6 q7 q1o q10 q9 q1p q11 q1q q12 q1s fr fx qo qt qv qw qu q19 hm2
      simp only [b00]
      obtain ⟨b31, hl31, hm2⟩ := b0h hm2
      refine b1x hl31 (fun | (most_14, x_127), t, h => ∃ v7_3 : AV, t 1 = v1_2 ∧ t 2 = .fp [.fs 5 (List.map b0p h_.Combs), .fs 3 (List.map b0o h_.Trains), .fs 3 (List.map b0q h_.Shifts), I h_.Until] 0 ∧ t 5 = v5_1 ∧ t 6 = I x_19 ∧ t 7 = .rp i7 0 0 ∧ t 13 = I x_122 ∧ t 14 = I most_14 ∧ t 18 = I (List.length h_.Combs : Int) ∧ t 19 = I x_19 ∧ t 121 = I h_.Until ∧ t 122 = I x_122 ∧ t 126 = I (wr (x_122 + 1)) ∧ t 127 = I x_127 ∧ RR h v1_2 hs_1 1 eI open_ ∧ b09 h v5_1 1 (List.map b11 all_5) ∧ h.ob i7 = some (4, [[.rs i7_1 0 (List.length b_7_0), .rs i7_3 0 (List.length b_7_1), v7_1, v7_3]]) ∧ i7 < h.nx ∧ h.ob i7_1 = some (1, List.map eI b_7_0) ∧ i7_1 < h.nx ∧ h.ob i7_3 = some (1, List.map eI b_7_1) ∧ i7_3 < h.nx ∧ b09 h v7_1 1 (List.map eI b_7_2) ∧ b09 h v7_3 1 (List.map b0k b_7_3) ∧ (∀ j, ¬b0c v5_1 j → b0f v1_2 hs_1 j) ∧ b0f v1_2 hs_1 i7 ∧ b0f v1_2 hs_1 i7_1 ∧ b0f v1_2 hs_1 i7_3 ∧ (∀ j, ¬b0c v7_1 j → b0f v1_2 hs_1 j) ∧ (∀ j, ¬b0c v7_3 j → b0f v1_2 hs_1 j) ∧ b0c v5_1 i7 ∧ b0c v5_1 i7_1 ∧ b0c v5_1 i7_3 ∧ (∀ j, ¬b0c v5_1 j → b0c v7_1 j) ∧ (∀ j, ¬b0c v5_1 j → b0c v7_3 j) ∧ ¬i7 = i7_1 ∧ ¬i7 = i7_3 ∧ b0c v7_1 i7 ∧ b0c v7_3 i7 ∧ ¬i7_1 = i7_3 ∧ b0c v7_1 i7_1 ∧ b0c v7_3 i7_1 ∧ b0c v7_1 i7_3 ∧ b0c v7_3 i7_3 ∧ (∀ j, ¬b0c v7_1 j → b0c v7_3 j) ∧ (∀ j, j < h0.nx → h.ob j = h0.ob j) ∧ h0.nx ≤ h.nx ∧ (∀ j, ¬b0c v5_1 j → h0.nx ≤ j) ∧ h0.nx ≤ i7 ∧ h0.nx ≤ i7_1 ∧ h0.nx ≤ i7_3 ∧ (∀ j, ¬b0c v7_1 j → h0.nx ≤ j) ∧ (∀ j, ¬b0c v7_3 j → h0.nx ≤ j)) ?_ ?_
      ·exact ⟨v7_2, s1, s2, s5, s6, s7, (by first | (simp only [go_sem, List.length_append, List.map_append]; done) | rfl), (by first | (simp only [go_sem, List.length_append, List.map_append]; done) | rfl), s18, s19, s121, s122, (by first | (simp only [go_sem, List.length_append, List.map_append]; done) | rfl), (by first | (simp only [go_sem, List.length_append, List.map_append]; done) | rfl), q8, qd, qa, q0, qh, q2, qi, q1, qb, qx, qg, q3, q4, q5, qm, q15, qc, qe, qf, qy, q18, q6, q7, qj, q10, q9, qk, q11, ql, q12, q1d, fr, fx, qo, qt, qv, qw, qu, q19⟩
      ·try clear s1 s2 s5 s6 s7 s18 s19 s121 s122 q8 qd qa q0 qh q2 qi q1 qb qx qg q3 q4 q5 qm q15 qc qe qf qy q18 q6 q7 qj q10 q9 qk q11 ql q12 q1d fr fx qo qt qv qw qu q19
       rintro ⟨most_14, x_127⟩ o t h ⟨v7_3, s1, s2, s5, s6, s7, s13, s14, s18, s19, s121, s122, s126, s127, q8, qd, qa, q0, qh, q2, qi, q1, qb, qx, qg, q3, q4, q5, qm, q15, qc, qe, qf, qy, q18, q6, q7, qj, q10, q9, qk, q11, ql, q12, q1d, fr, fx, qo, qt, qv, qw, qu, q19⟩ hm3 hb31
       simp only [c1p] at hm3
       rw [d15]
       refine b0d fun K hK => ?_
       simp only [go_sem, s126, s127, q0, q2, q1, b0a v1, b0a v5, b0a v1_1, b0a v5_1, b0a v7, b0a v1_2, b0a v7_1, b0a v7_2, b0a v7_3]
       refine hK _ _ ?_
       clear hK K
       refine b0r fun K32 hK32 => ?_
       simp only [go_sem]
       refine b0u (fun hc33 => ?_) (fun hc33 => ?_)
       ·rw [b02 hc33] at hm3
        simp only [b0z, b0i, b0j]
        refine hK32 _ _ ?_
        refine b0r fun K34 hK34 => ?_
        simp only [b00]
        refine b0d fun K hK => ?_
        simp only [go_sem, s127, q0, q2, q1, b0a v1, b0a v5, b0a v1_1, b0a v5_1, b0a v7, b0a v1_2, b0a v7_1, b0a v7_2, b0a v7_3]
        refine hK _ _ ?_
        clear hK K
        obtain ⟨x40, h_x40, hm3⟩ := b0h hm3
        have h_x400 := b0w h_x40
        have h_x401 := b0x h_x40
        obtain ⟨iq41, rfl, q1t, q1r⟩ := b3m qx h_x40
        obtain ⟨x42, h_x42, hm3⟩ := b0h hm3
        have h_x420 := b0w h_x42
        have h_x421 := b0x h_x42
        obtain ⟨x43, h_x43, hm3⟩ := b0h hm3
        have h_x430 := b0w h_x43
        have h_x431 := b0x h_x43
        obtain ⟨x44, h_x44, hm3⟩ := b0h hm3
        have h_x440 := b0w h_x44
        have h_x441 := b0x h_x44
        refine b1i fun K hK => ?_
        simp only [go_sem, s7, s13, s14, qa, q0, qh, q2, qi, q1, q1t, q1r, qc, qe, qf, q6, b0b q6, q7, b0b q7, qj, q10, q9, b0b q9, qk, q11, ql, q12, b0m h_x40, b0n h_x40, h_x400, h_x401, b0m h_x42, b0n h_x42, h_x420, h_x421, b0m h_x43, b0n h_x43, h_x430, h_x431, b0m h_x44, b0n h_x44, h_x440, h_x441, b0a v1, b0a v5, b0a v1_1, b0a v5_1, b0a v7, b0a v1_2, b0a v7_1, b0a v7_2]
        refine hK _ _ ?_
        clear hK K
        simp only [b0i, b0j]
        refine hK34 _ _ ?_
        refine b1i fun K hK => ?_
        simp only [go_sem, s127, q0, q2, q1, q1r, b0a v1, b0a v5, b0a v1_1, b0a v5_1, b0a v7, b0a v1_2, b0a v7_1, b0a v7_2]
        refine hK _ _ ?_
        clear hK K
        simp only [b0i, b0j]
        obtain rfl := Option.some.inj hm3
        refine ⟨_, rfl, ?_⟩
        exact ⟨(.rs iq41 0 (List.length b_7_3)), s1, s2, s5, s6, s7, s13, (by first | (simp only [go_sem, s14, List.length_append, List.map_append]; done) | rfl), s18, s19, s121, s122, s126, (by first | (simp only [go_sem, s127, List.length_append, List.map_append]; done) | rfl), q8, qd, (by simp only [go_sem, qa, q0, List.length_append, List.map_append]), (by simp only [go_sem, q0]), qh, q2, qi, q1, qb, (b3c (by simp only [go_sem, q1t, q1r, List.length_append, List.map_append]) (by first | rfl | simp only [go_sem, List.length_append, List.map_append]) (by simp only [go_sem, q1r])), qg, q3, q4, q5, qm, q15, qc, qe, qf, qy, q18, q6, q7, qj, q10, q9, qk, q11, ql, q12, q1d, fr, fx, qo, qt, qv, qw, qu, q19⟩
       ·rw [b01 hc33] at hm3
        simp only [b1t, b1w, b1v, b1u, b0i, b0j, Nat.reduceEqDiff, not_false_eq_true]
        obtain rfl := Option.some.inj hm3
        obtain rfl := hb31 _ rfl
        try dsimp only at hm2
        exact J20 most_14 v7_3 _ _ s1 s2 s5 s6 s7 s13 s14 s18 s19 s121 s122 q8 qd qa q0 qh q2 qi q1 qb qx qg q3 q4 q5 qm q15 qc qe qf qy q18 q6 q7 qj q10 q9 qk q11 ql q12 q1d fr fx qo qt qv qw qu q19 hm2
     ·rw [b01 hc16] at hm2
      simp only [b1t, b1w, b1v, b1u, b0i, b0j, Nat.reduceEqDiff, not_false_eq_true]
      obtain rfl := Option.some.inj hm2
      obtain rfl := hb14 _ rfl
      try dsimp only at hm1
      exact J11 b_7_1 b_7_2 v1_2 i7_3 v7_1 v7_2 _ _ s1 s2 s5 s7 s18 s19 q8 qd qa q0 qh q2 qi q1 qb qx qg q3 q4 q5 qm q15 qc qe qf qy q18 q6 q7 qj q10 q9 qk q11 ql q12 q1d fr fx qo qt qv qw qu q19 hm1
   simp only [b00]
   obtain ⟨b47, hl47, hm1⟩ := b0h hm1
   refine b1x hl47 (fun | (b_7_0, b_7_3, x_28), t, h => ∃ v1_1 : AV, ∃ v5_1 : AV, ∃ i7 : Nat, ∃ i7_1 : Nat, ∃ i7_2 : Nat, ∃ v7 : AV, t 1 = v1_1 ∧ t 2 = .fp [.fs 5 (List.map b0p h_.Combs), .fs 3 (List.map b0o h_.Trains), .fs 3 (List.map b0q h_.Shifts), I h_.Until] 0 ∧ t 5 = v5_1 ∧ t 6 = I x_19 ∧ t 7 = .rp i7 0 0 ∧ t 18 = I (List.length h_.Combs : Int) ∧ t 19 = I x_19 ∧ t 27 = I h_.Until ∧ t 28 = I x_28 ∧ RR h v1_1 hs_1 1 eI open_ ∧ b09 h v5_1 1 (List.map b11 all_5) ∧ h.ob i7 = some (4, [[.rs i7_1 0 (List.length b_7_0), .rs i7_2 0 (List.length ([0])), .v (.slice none 0 0), v7]]) ∧ i7 < h.nx ∧ h.ob i7_1 = some (1, List.map eI b_7_0) ∧ i7_1 < h.nx ∧ h.ob i7_2 = some (1, List.map eI ([0])) ∧ i7_2 < h.nx ∧ b09 h v7 1 (List.map b0k b_7_3) ∧ (∀ j, ¬b0c v5_1 j → b0f v1_1 hs_1 j) ∧ b0f v1_1 hs_1 i7 ∧ b0f v1_1 hs_1 i7_1 ∧ b0f v1_1 hs_1 i7_2 ∧ (∀ j, ¬b0c v7 j → b0f v1_1 hs_1 j) ∧ b0c v5_1 i7 ∧ b0c v5_1 i7_1 ∧ b0c v5_1 i7_2 ∧ (∀ j, ¬b0c v5_1 j → b0c v7 j) ∧ ¬i7 = i7_1 ∧ ¬i7 = i7_2 ∧ b0c v7 i7 ∧ ¬i7_1 = i7_2 ∧ b0c v7 i7_1 ∧ b0c v7 i7_2 ∧ (∀ j, j < h0.nx → h.ob j = h0.ob j) ∧ h0.nx ≤ h.nx ∧ (∀ j, ¬b0c v5_1 j → h0.nx ≤ j) ∧ h0.nx ≤ i7 ∧ h0.nx ≤ i7_1 ∧ h0.nx ≤ i7_2 ∧ (∀ j, ¬b0c v7 j → h0.nx ≤ j)) ?_ ?_
   ·exact ⟨v1, v5, (nxs (nxs h.nx)), h.nx, (nxs h.nx), (.v (.slice none 0 0)), s1, s2, s5, (by first | (simp only [go_sem, List.length_append, List.map_append]; done) | rfl), (by first | (simp only [go_sem, List.length_append, List.map_append]; done) | rfl), s18, s19, (by first | (simp only [go_sem, List.length_append, List.map_append]; done) | rfl), (by first | (simp only [go_sem, List.length_append, List.map_append]; done) | rfl), (b2f q8 (by intro j hj  hl; first | rfl | simp only [go_sem, hl]) (by first | omega | exact Nat.le_refl _ | (simp only [go_sem, nxs] <;> omega))), (b2e qd (by intro j hj hl; first | rfl | simp only [go_sem, hl]) (by first | omega | exact Nat.le_refl _ | (simp only [go_sem, nxs] <;> omega))), (by simp only [go_sem, List.length_append, List.map_append]), (by simp only [go_sem]), (by simp only [go_sem, List.length_append, List.map_append]), (by simp only [go_sem]), (by simp only [go_sem, List.length_append, List.map_append]), (by simp only [go_sem]), b65, qg, (by first | assumption | exact b2r q8 (by first | assumption | omega | (simp only [nxs] <;> omega))), (by first | assumption | exact b2r q8 (by first | assumption | omega | (simp only [nxs] <;> omega))), (by first | assumption | exact b2r q8 (by first | assumption | omega | (simp only [nxs] <;> omega))), b89, (by first | exact b1k | exact b1l (by first | assumption | omega | (simp only [nxs] <;> omega)) | assumption | exact b1g (by assumption) (by first | assumption | omega | (simp only [nxs] <;> omega))), (by first | exact b1k | exact b1l (by first | assumption | omega | (simp only [nxs] <;> omega)) | assumption | exact b1g (by assumption) (by first | assumption | omega | (simp only [nxs] <;> omega))), (by first | exact b1k | exact b1l (by first | assumption | omega | (simp only [nxs] <;> omega)) | assumption | exact b1g (by assumption) (by first | assumption | omega | (simp only [nxs] <;> omega))), (by first | exact b4y | exact b4z | assumption | (refine b41 ?_; first | assumption | exact b1g (by assumption) (by first | assumption | omega | (simp only [nxs] <;> omega))) | (refine b3h ?_; first | assumption | exact b1g (by assumption) (by first | assumption | omega | (simp only [nxs] <;> omega)))), (by first | first | assumption | omega | (simp only [nxs] <;> omega)), (by first | first | assumption | omega | (simp only [nxs] <;> omega)), (by first | exact b1k | exact b1l (by first | assumption | omega | (simp only [nxs] <;> omega)) | assumption | exact b1g (by assumption) (by first | assumption | omega | (simp only [nxs] <;> omega))), (by first | first | assumption | omega | (simp only [nxs] <;> omega)), (by first | exact b1k | exact b1l (by first | assumption | omega | (simp only [nxs] <;> omega)) | assumption | exact b1g (by assumption) (by first | assumption | omega | (simp only [nxs] <;> omega))), (by first | exact b1k | exact b1l (by first | assumption | omega | (simp only [nxs] <;> omega)) | assumption | exact b1g (by assumption) (by first | assumption | omega | (simp only [nxs] <;> omega))), (by intro j hj; first | exact fr j hj | (refine Eq.trans ?_ (fr j hj); first | rfl | simp only [go_sem, Nat.lt_of_lt_of_le hj fx])), (by first | exact fx | omega | (simp only [go_sem, nxs] <;> omega)), qo, (by first | assumption | omega | (simp only [nxs] <;> omega)), (by first | assumption | omega | (simp only [nxs] <;> omega)), (by first | assumption | omega | (simp only [nxs] <;> omega)), b89⟩
   ·try clear s1 s2 s5 s18 s19 q8 qd qg fr fx qo
    rintro ⟨b_7_0, b_7_3, x_28⟩ o t h ⟨v1_1, v5_1, i7, i7_1, i7_2, v7, s1, s2, s5, s6, s7, s18, s19, s27, s28, q8, qd, qa, q0, qh, q2, qi, q1, qb, qg, q3, q4, q5, qm, qc, qe, qf, qy, q6, q7, qj, q9, qk, ql, fr, fx, qo, qt, qv, qw, qu⟩ hm2 hb47
    simp only [c1o] at hm2
    rw [d14]
    refine b0d fun K hK => ?_
    simp only [go_sem, s27, s28, q0, q2, q1, b0a v1, b0a v5, b0a v1_1, b0a v5_1, b0a v7]
    refine hK _ _ ?_
    clear hK K
    refine b0r fun K48 hK48 => ?_
    simp only [go_sem]
    refine b0u (fun hc49 => ?_) (fun hc49 => ?_)
    ·rw [b02 hc49] at hm2
     simp only [b0z, b0i, b0j]
     refine hK48 _ _ ?_
     refine b0r fun K50 hK50 => ?_
     have J51 : ∀ (b_7_0_1 : List Int) (b_7_3_1 : List (List Int)) (v1_2 : AV) (v5_2 : AV) (i7_3 : Nat) (i7_4 : Nat) (t : Slots) (h : Heap), t 1 = v1_2 → t 2 = .fp [.fs 5 (List.map b0p h_.Combs), .fs 3 (List.map b0o h_.Trains), .fs 3 (List.map b0q h_.Shifts), I h_.Until] 0 → t 5 = v5_2 → t 6 = I x_19 → t 7 = .rp i7 0 0 → t 18 = I (List.length h_.Combs : Int) → t 19 = I x_19 → t 27 = I h_.Until → t 28 = I x_28 → RR h v1_2 hs_1 1 eI open_ → b09 h v5_2 1 (List.map b11 all_5) → h.ob i7 = some (4, [[.rs i7_3 0 (List.length b_7_0_1), .rs i7_2 0 (List.length ([0])), .v (.slice none 0 0), .rs i7_4 0 (List.length b_7_3_1)]]) → i7 < h.nx → h.ob i7_3 = some (1, List.map eI b_7_0_1) → i7_3 < h.nx → h.ob i7_2 = some (1, List.map eI ([0])) → i7_2 < h.nx → h.ob i7_4 = some (1, List.map b0k b_7_3_1) → i7_4 < h.nx → (∀ j, ¬b0c v5_2 j → b0f v1_2 hs_1 j) → b0f v1_2 hs_1 i7 → b0f v1_2 hs_1 i7_3 → b0f v1_2 hs_1 i7_2 → b0f v1_2 hs_1 i7_4 → b0c v5_2 i7 → b0c v5_2 i7_3 → b0c v5_2 i7_2 → b0c v5_2 i7_4 → ¬i7 = i7_3 → ¬i7 = i7_2 → ¬i7 = i7_4 → ¬i7_3 = i7_2 → ¬i7_3 = i7_4 → ¬i7_2 = i7_4 → (∀ j, j < h0.nx → h.ob j = h0.ob j) → h0.nx ≤ h.nx → (∀ j, ¬b0c v5_2 j → h0.nx ≤ j) → h0.nx ≤ i7 → h0.nx ≤ i7_3 → h0.nx ≤ i7_2 → h0.nx ≤ i7_4 → b7x x_28 b_7_0_1 b_7_3_1 = some o → K50 t h := by
      try clear s1 s2 s5 s6 s7 s18 s19 s27 s28 q8 qd qa q0 qh q2 qi q1 qb qg q3 q4 q5 qm qc qe qf qy q6 q7 qj q9 qk ql fr fx qo qt qv qw qu
      intro b_7_0_1 b_7_3_1 v1_2 v5_2 i7_3 i7_4 t h s1 s2 s5 s6 s7 s18 s19 s27 s28 q8 qd qa q0 qh q2 qi q1 q1k q1h qg q3 q4 q5 q1l qc qe qf q1n q6 q7 q1o q9 q1p q1q fr fx qo qt qv qw qu hm2
      refine hK50 _ _ ?_
      unfold b7x at hm2
      refine b1i fun K hK => ?_
      simp only [go_sem, s28, q0, q2, q1, q1h, b0a v1, b0a v5, b0a v1_1, b0a v5_1, b0a v7, b0a v1_2, b0a v5_2]
      refine hK _ _ ?_
      clear hK K
      simp only [b0i, b0j]
      obtain rfl := Option.some.inj hm2
      refine ⟨_, rfl, ?_⟩
      exact ⟨v1_2, v5_2, i7, i7_3, i7_2, (.rs i7_4 0 (List.length b_7_3_1)), s1, s2, s5, s6, s7, s18, s19, s27, (by first | (simp only [go_sem, s28, List.length_append, List.map_append]; done) | rfl), q8, qd, qa, q0, qh, q2, qi, q1, (b3c (by simp only [go_sem, q1k, q1h, List.length_append, List.map_append]) (by first | rfl | simp only [go_sem, List.length_append, List.map_append]) (by simp only [go_sem, q1h])), qg, q3, q4, q5, (b58 q1l), qc, qe, qf, (by first | exact b4y | exact b4z | assumption | (refine b41 ?_; first | assumption | exact b1g (by assumption) (by first | assumption | omega | (simp only [nxs] <;> omega))) | (refine b3h ?_; first | assumption | exact b1g (by assumption) (by first | assumption | omega | (simp only [nxs] <;> omega)))), q6, q7, (by first | exact b1k | exact b1l (by first | assumption | omega | (simp only [nxs] <;> omega)) | assumption | exact b1g (by assumption) (by first | assumption | omega | (simp only [nxs] <;> omega))), q9, (by first | exact b1k | exact b1l (by first | assumption | omega | (simp only [nxs] <;> omega)) | assumption | exact b1g (by assumption) (by first | assumption | omega | (simp only [nxs] <;> omega))), (by first | exact b1k | exact b1l (by first | assumption | omega | (simp only [nxs] <;> omega)) | assumption | exact b1g (by assumption) (by first | assumption | omega | (simp only [nxs] <;> omega))), fr, fx, qo, qt, qv, qw, (c4i qu)⟩
     simp only [b00]
     refine b0d fun K hK => ?_
     simp only [go_sem, s28, q0, q2, q1, b0a v1, b0a v5, b0a v1_1, b0a v5_1, b0a v7]
     refine hK _ _ ?_
     clear hK K
     obtain ⟨l53, h_l53, hm2⟩ := b0h hm2
     refine b0d fun K hK => ?_
     simp only [go_sem, s2, q0, q2, q1, b0a v1, b0a v5, b0a v1_1, b0a v5_1, b0a v7]
     refine b6e (f := eI) (z := 0) rfl h_l53 ?_
     simp only [go_sem, s2, q0, q2, q1, b0a v1, b0a v5, b0a v1_1, b0a v5_1, b0a v7]
     refine hK _ _ ?_
     clear hK K
     refine b03 ?_
     refine b0d fun K hK => ?_
     simp only [go_sem, q0, q2, q1, b0a v1, b0a v5, b0a v1_1, b0a v5_1, b0a v7]
     refine hK _ _ ?_
     clear hK K
     refine b0r fun K54 hK54 => ?_
     have J55 : ∀ (row_9 : List Int) (v5_2 : AV) (i9 : Nat) (t : Slots) (h : Heap), t 1 = v1_1 → t 2 = .fp [.fs 5 (List.map b0p h_.Combs), .fs 3 (List.map b0o h_.Trains), .fs 3 (List.map b0q h_.Shifts), I h_.Until] 0 → t 5 = v5_2 → t 6 = I x_19 → t 7 = .rp i7 0 0 → t 8 = I x_28 → t 9 = .rs i9 0 (List.length row_9) → t 18 = I (List.length h_.Combs : Int) → t 19 = I x_19 → t 27 = I h_.Until → t 28 = I x_28 → RR h v1_1 hs_1 1 eI open_ → b09 h v5_2 1 (List.map b11 all_5) → h.ob i7 = some (4, [[.rs i7_1 0 (List.length b_7_0), .rs i7_2 0 (List.length ([0])), .v (.slice none 0 0), v7]]) → i7 < h.nx → h.ob i7_1 = some (1, List.map eI b_7_0) → i7_1 < h.nx → h.ob i7_2 = some (1, List.map eI ([0])) → i7_2 < h.nx → b09 h v7 1 (List.map b0k b_7_3) → h.ob i9 = some (1, List.map eI row_9) → i9 < h.nx → (∀ j, ¬b0c v5_2 j → b0f v1_1 hs_1 j) → b0f v1_1 hs_1 i7 → b0f v1_1 hs_1 i7_1 → b0f v1_1 hs_1 i7_2 → (∀ j, ¬b0c v7 j → b0f v1_1 hs_1 j) → b0f v1_1 hs_1 i9 → b0c v5_2 i7 → b0c v5_2 i7_1 → b0c v5_2 i7_2 → (∀ j, ¬b0c v5_2 j → b0c v7 j) → b0c v5_2 i9 → ¬i7 = i7_1 → ¬i7 = i7_2 → b0c v7 i7 → ¬i7 = i9 → ¬i7_1 = i7_2 → b0c v7 i7_1 → ¬i7_1 = i9 → b0c v7 i7_2 → ¬i7_2 = i9 → b0c v7 i9 → (∀ j, j < h0.nx → h.ob j = h0.ob j) → h0.nx ≤ h.nx → (∀ j, ¬b0c v5_2 j → h0.nx ≤ j) → h0.nx ≤ i7 → h0.nx ≤ i7_1 → h0.nx ≤ i7_2 → (∀ j, ¬b0c v7 j → h0.nx ≤ j) → h0.nx ≤ i9 → b7y open_ x_19 b_7_0 b_7_3 x_28 row_9 = some o → K54 t h := by
      try clear s1 s2 s5 s6 s7 s18 s19 s27 s28 q8 qd qa q0 qh q2 qi q1 qb qg q3 q4 q5 qm qc qe qf qy q6 q7 qj q9 qk ql fr fx qo qt qv qw qu
      intro row_9 v5_2 i9 t h s1 s2 s5 s6 s7 s8 s9 s18 s19 s27 s28 q8 qd qa q0 qh q2 qi q1 qb q17 qn qg q3 q4 q5 qm qs qc qe qf qy q13 q6 q7 qj qp q9 qk qr ql qq q14 fr fx qo qt qv qw qu q1a hm2
      refine hK54 _ _ ?_
      unfold b7y at hm2
      refine b03 ?_
      refine c4b (s := 9) (v := .rs i9 0 (List.length row_9)) (f := eI) (l := row_9) (by simp only [go_sem, s9, b1h q8, b0v qd, qa, q0, qh, q2, qi, q1, b0v qb, q17, qn, b08 q3, b08 q4, b08 q5, b08 qs, qc, qe, qf, q13, q6, b0b q6, q7, b0b q7, qj, qp, b0b qp, q9, b0b q9, qk, qr, b0b qr, ql, qq, b0b qq, q14, List.length_append, List.map_append]) (b3c (by simp only [go_sem, s9, b1h q8, b0v qd, qa, q0, qh, q2, qi, q1, b0v qb, q17, qn, b08 q3, b08 q4, b08 q5, b08 qs, qc, qe, qf, q13, q6, b0b q6, q7, b0b q7, qj, qp, b0b qp, q9, b0b q9, qk, qr, b0b qr, ql, qq, b0b qq, q14, List.length_append, List.map_append]) (by simp only [go_sem, s9, b1h q8, b0v qd, qa, q0, qh, q2, qi, q1, b0v qb, q17, qn, b08 q3, b08 q4, b08 q5, b08 qs, qc, qe, qf, q13, q6, b0b q6, q7, b0b q7, qj, qp, b0b qp, q9, b0b q9, qk, qr, b0b qr, ql, qq, b0b qq, q14, List.length_append, List.map_append]) (by simp only [go_sem, q0, q2, q1, qn])) b2b b38 ?_
      simp only [c8d, c8f]
      obtain ⟨l57, h_l57, hm2⟩ := b0h hm2
      refine b0d fun K hK => ?_
      simp only [go_sem, s7, s9, qa, q0, qh, q2, qi, q1, qn, qc, qe, qf, q6, b0b q6, q7, b0b q7, qj, qp, b0b qp, q9, b0b q9, qk, qr, b0b qr, ql, qq, b0b qq, q14, b0a v1, b0a v5, b0a v1_1, b0a v5_1, b0a v7, b0a v5_2]
      refine b5l (f := b0k) (l := b_7_3) (m := ([row_9])) ?_ ?_ ?_ ?_ h_l57 ?_
      ·exact (b2e qb (by intro j hj hl; first | rfl | simp only [go_sem, hl, b08 (qm j hj), b4x qy j hj, b1y hj qj, b1y hj qk, b1y hj ql, b1y hj q14]) (by first | omega | exact Nat.le_refl _ | (simp only [go_sem, nxs] <;> omega)))
      ·exact (b5n (by simp only [go_sem, b1h q8, b0v qd, qa, q0, qh, q2, qi, q1, b0v qb, q17, qn, b08 q3, b08 q4, b08 q5, b08 qs, qc, qe, qf, q13, q6, b0b q6, q7, b0b q7, qj, qp, b0b qp, q9, b0b q9, qk, qr, b0b qr, ql, qq, b0b qq, q14, List.length_append, List.map_append]) (by simp only [go_sem, b1h q8, b0v qd, qa, q0, qh, q2, qi, q1, b0v qb, q17, qn, b08 q3, b08 q4, b08 q5, b08 qs, qc, qe, qf, q13, q6, b0b q6, q7, b0b q7, qj, qp, b0b qp, q9, b0b q9, qk, qr, b0b qr, ql, qq, b0b qq, q14, List.length_append, List.map_append]))
      ·exact (b3h (by first | exact b1k | exact b1l (by first | omega | (simp only [nxs] <;> omega)) | assumption | exact b1g (by assumption) (by first | omega | (simp only [go_sem, nxs] <;> omega))))
      ·exact (fun _ => by simp)
      simp only [go_sem, s7, s9, qa, q0, qh, q2, qi, q1, qn, qc, qe, qf, q6, b0b q6, q7, b0b q7, qj, qp, b0b qp, q9, b0b q9, qk, qr, b0b qr, ql, qq, b0b qq, q14, b0a v1, b0a v5, b0a v1_1, b0a v5_1, b0a v7, b0a v5_2]
      refine hK _ _ ?_
      clear hK K
      obtain ⟨x62, h_x62, hm2⟩ := b0h hm2
      have h_x620 := b0w h_x62
      have h_x621 := b0x h_x62
      obtain ⟨x63, h_x63, hm2⟩ := b0h hm2
      have h_x630 := b0w h_x63
      have h_x631 := b0x h_x63
      obtain ⟨iqp982, rfl, q1e, q1c⟩ := b3w q8 h_x63
      obtain ⟨wp983, hw_wp983, os_wp983⟩ := b3v q8 h_x63
      obtain ⟨x64, h_x64, hm2⟩ := b0h hm2
      have h_x640 := b0w h_x64
      have h_x641 := b0x h_x64
      obtain ⟨irp984, rfl, obr_irp984, ltr_irp984⟩ := b3m os_wp983 h_x64
      obtain ⟨l65, h_l65, hm2⟩ := b0h hm2
      refine b5g (fun t h => ∃ v1_2 : AV, ∃ i7_3 : Nat, ∃ i7_4 : Nat, t 1 = v1_2 ∧ t 2 = .fp [.fs 5 (List.map b0p h_.Combs), .fs 3 (List.map b0o h_.Trains), .fs 3 (List.map b0q h_.Shifts), I h_.Until] 0 ∧ t 5 = v5_2 ∧ t 6 = I x_19 ∧ t 7 = .rp i7 0 0 ∧ t 18 = I (List.length h_.Combs : Int) ∧ t 19 = I x_19 ∧ t 27 = I h_.Until ∧ t 28 = I x_28 ∧ RR h v1_2 hs_1 1 eI open_ ∧ b09 h v5_2 1 (List.map b11 all_5) ∧ h.ob i7 = some (4, [[.rs i7_3 0 (List.length l65), .rs i7_2 0 (List.length ([0])), .v (.slice none 0 0), .rs i7_4 0 (List.length l57)]]) ∧ i7 < h.nx ∧ h.ob i7_3 = some (1, List.map eI l65) ∧ i7_3 < h.nx ∧ h.ob i7_2 = some (1, List.map eI ([0])) ∧ i7_2 < h.nx ∧ h.ob i7_4 = some (1, List.map b0k l57) ∧ i7_4 < h.nx ∧ (∀ j, ¬b0c v5_2 j → b0f v1_2 hs_1 j) ∧ b0f v1_2 hs_1 i7 ∧ b0f v1_2 hs_1 i7_3 ∧ b0f v1_2 hs_1 i7_2 ∧ b0f v1_2 hs_1 i7_4 ∧ b0c v5_2 i7 ∧ b0c v5_2 i7_3 ∧ b0c v5_2 i7_2 ∧ b0c v5_2 i7_4 ∧ ¬i7 = i7_3 ∧ ¬i7 = i7_2 ∧ ¬i7 = i7_4 ∧ ¬i7_3 = i7_2 ∧ ¬i7_3 = i7_4 ∧ ¬i7_2 = i7_4 ∧ (∀ j, j < h0.nx → h.ob j = h0.ob j) ∧ h0.nx ≤ h.nx ∧ (∀ j, ¬b0c v5_2 j → h0.nx ≤ j) ∧ h0.nx ≤ i7 ∧ h0.nx ≤ i7_3 ∧ h0.nx ≤ i7_2 ∧ h0.nx ≤ i7_4) (fun K hK => ?_) ?_
      ·simp only [go_sem, s1, b2c q8, s6, s7, s8, q1e, q1c, qa, q0, qh, q2, qi, q1, qn, b2z qg, b2y qg hw_wp983, b04 (q3), b0b (b04 (q3)), b05 (q3) hw_wp983, b0b (b05 (q3) hw_wp983), b04 (q4), b0b (b04 (q4)), b05 (q4) hw_wp983, b0b (b05 (q4) hw_wp983), b04 (q5), b0b (b04 (q5)), b05 (q5) hw_wp983, b0b (b05 (q5) hw_wp983), b2z qm, b2y qm hw_wp983, b04 (qs), b0b (b04 (qs)), b05 (qs) hw_wp983, b0b (b05 (qs) hw_wp983), qc, qe, qf, q6, b0b q6, q7, b0b q7, qj, qp, b0b qp, q9, b0b q9, qk, qr, b0b qr, ql, qq, b0b qq, b0m h_x62, b0n h_x62, h_x620, h_x621, b0m h_x63, b0n h_x63, h_x630, h_x631, b0m hw_wp983, b0n hw_wp983, b3i os_wp983, b0m h_x64, b0n h_x64, h_x640, h_x641, obr_irp984, ltr_irp984, b0a v1, b0a v5, b0a v5_1, b0a v7, b0a v5_2]
       refine b5l (f := eI) (l := b_7_0) (m := ([wr (x62 + x64)])) ?_ ?_ ?_ ?_ h_l65 ?_
       ·exact (b3c (by simp only [go_sem, b1h q8, b0v qd, qa, q0, qh, q2, qi, q1, b0v qb, q17, qn, b2z qg, b2y qg hw_wp983, b08 q3, b04 (q3), b0b (b04 (q3)), b05 (q3) hw_wp983, b0b (b05 (q3) hw_wp983), b08 q4, b04 (q4), b0b (b04 (q4)), b05 (q4) hw_wp983, b0b (b05 (q4) hw_wp983), b08 q5, b04 (q5), b0b (b04 (q5)), b05 (q5) hw_wp983, b0b (b05 (q5) hw_wp983), b2z qm, b2y qm hw_wp983, b08 qs, b04 (qs), b0b (b04 (qs)), b05 (qs) hw_wp983, b0b (b05 (qs) hw_wp983), qc, qe, qf, q13, q6, b0b q6, q7, b0b q7, qj, qp, b0b qp, q9, b0b q9, qk, qr, b0b qr, ql, qq, b0b qq, q14, q1e, q1c, b2w q8 hw_wp983, b0b (b2w q8 hw_wp983), List.length_append, List.map_append]) (by simp only [go_sem, b1h q8, b0v qd, qa, q0, qh, q2, qi, q1, b0v qb, q17, qn, b2z qg, b2y qg hw_wp983, b08 q3, b04 (q3), b0b (b04 (q3)), b05 (q3) hw_wp983, b0b (b05 (q3) hw_wp983), b08 q4, b04 (q4), b0b (b04 (q4)), b05 (q4) hw_wp983, b0b (b05 (q4) hw_wp983), b08 q5, b04 (q5), b0b (b04 (q5)), b05 (q5) hw_wp983, b0b (b05 (q5) hw_wp983), b2z qm, b2y qm hw_wp983, b08 qs, b04 (qs), b0b (b04 (qs)), b05 (qs) hw_wp983, b0b (b05 (qs) hw_wp983), qc, qe, qf, q13, q6, b0b q6, q7, b0b q7, qj, qp, b0b qp, q9, b0b q9, qk, qr, b0b qr, ql, qq, b0b qq, q14, q1e, q1c, b2w q8 hw_wp983, b0b (b2w q8 hw_wp983), List.length_append, List.map_append]) (by simp only [go_sem, q0, q2, q1, qn, q1c]))
       ·exact (b5n (by simp only [go_sem, b1h q8, b0v qd, qa, q0, qh, q2, qi, q1, b0v qb, q17, qn, b2z qg, b2y qg hw_wp983, b08 q3, b04 (q3), b0b (b04 (q3)), b05 (q3) hw_wp983, b0b (b05 (q3) hw_wp983), b08 q4, b04 (q4), b0b (b04 (q4)), b05 (q4) hw_wp983, b0b (b05 (q4) hw_wp983), b08 q5, b04 (q5), b0b (b04 (q5)), b05 (q5) hw_wp983, b0b (b05 (q5) hw_wp983), b2z qm, b2y qm hw_wp983, b08 qs, b04 (qs), b0b (b04 (qs)), b05 (qs) hw_wp983, b0b (b05 (qs) hw_wp983), qc, qe, qf, q13, q6, b0b q6, q7, b0b q7, qj, qp, b0b qp, q9, b0b q9, qk, qr, b0b qr, ql, qq, b0b qq, q14, q1e, q1c, b2w q8 hw_wp983, b0b (b2w q8 hw_wp983), List.length_append, List.map_append]) (by simp only [go_sem, b1h q8, b0v qd, qa, q0, qh, q2, qi, q1, b0v qb, q17, qn, b2z qg, b2y qg hw_wp983, b08 q3, b04 (q3), b0b (b04 (q3)), b05 (q3) hw_wp983, b0b (b05 (q3) hw_wp983), b08 q4, b04 (q4), b0b (b04 (q4)), b05 (q4) hw_wp983, b0b (b05 (q4) hw_wp983), b08 q5, b04 (q5), b0b (b04 (q5)), b05 (q5) hw_wp983, b0b (b05 (q5) hw_wp983), b2z qm, b2y qm hw_wp983, b08 qs, b04 (qs), b0b (b04 (qs)), b05 (qs) hw_wp983, b0b (b05 (qs) hw_wp983), qc, qe, qf, q13, q6, b0b q6, q7, b0b q7, qj, qp, b0b qp, q9, b0b q9, qk, qr, b0b qr, ql, qq, b0b qq, q14, q1e, q1c, b2w q8 hw_wp983, b0b (b2w q8 hw_wp983), List.length_append, List.map_append]))
       ·exact (b3h (by first | exact b1k | exact b1l (by first | omega | (simp only [nxs] <;> omega)) | assumption | exact b1g (by assumption) (by first | omega | (simp only [go_sem, nxs] <;> omega))))
       ·exact (fun _ => by simp)
       simp only [go_sem, s1, b2c q8, s6, s7, s8, q1e, q1c, qa, q0, qh, q2, qi, q1, qn, b2z qg, b2y qg hw_wp983, b04 (q3), b0b (b04 (q3)), b05 (q3) hw_wp983, b0b (b05 (q3) hw_wp983), b04 (q4), b0b (b04 (q4)), b05 (q4) hw_wp983, b0b (b05 (q4) hw_wp983), b04 (q5), b0b (b04 (q5)), b05 (q5) hw_wp983, b0b (b05 (q5) hw_wp983), b2z qm, b2y qm hw_wp983, b04 (qs), b0b (b04 (qs)), b05 (qs) hw_wp983, b0b (b05 (qs) hw_wp983), qc, qe, qf, q6, b0b q6, q7, b0b q7, qj, qp, b0b qp, q9, b0b q9, qk, qr, b0b qr, ql, qq, b0b qq, b0m h_x62, b0n h_x62, h_x620, h_x621, b0m h_x63, b0n h_x63, h_x630, h_x631, b0m hw_wp983, b0n hw_wp983, b3i os_wp983, b0m h_x64, b0n h_x64, h_x640, h_x641, obr_irp984, ltr_irp984, b0a v1, b0a v5, b0a v5_1, b0a v7, b0a v5_2]
       exact hK _ _ ⟨(.rs iqp982 0 (List.length open_)), (nxs (nxs (nxs h.nx))), (nxs h.nx), (by first | (simp only [go_sem, s1, List.length_append, List.map_append]; done) | rfl), s2, s5, s6, s7, s18, s19, s27, s28, (b2f q8 (by intro j hj  hl; first | rfl | simp only [go_sem, hl, b3d hj q3, b3d hj q4, b4n qm j hj, b3d hj qs, q0, q2, qn]) (by first | omega | exact Nat.le_refl _ | (simp only [go_sem, nxs] <;> omega))), (b2e qd (by intro j hj hl; first | rfl | simp only [go_sem, hl, q0, q2, qn, b1y hj qc, b1y hj qe, qy j hj, b1y hj q13]) (by first | omega | exact Nat.le_refl _ | (simp only [go_sem, nxs] <;> omega))), (by simp only [go_sem, qa, q0, q2, b0v qb, qn, q6, b0b q6, qj, qp, b0b qp, List.length_append, List.map_append]), (by simp only [go_sem, q0]), (by simp only [go_sem, q0, q2, b0v qb, qn, List.length_append, List.map_append]), (by simp only [go_sem]), (by simp only [go_sem, q0, q2, qi, q1, b0v qb, qn, q7, b0b q7, q9, b0b q9, ql, qq, b0b qq, List.length_append, List.map_append]), (by simp only [go_sem, q1]), (by simp only [go_sem, q0, q2, b0v qb, qn, List.length_append, List.map_append]), (by simp only [go_sem]), qg, q3, (by first | assumption | exact b2r q8 (by first | assumption | omega | (simp only [nxs] <;> omega))), q5, (by first | assumption | exact b2r q8 (by first | assumption | omega | (simp only [nxs] <;> omega))), qc, (by first | exact b1k | exact b1l (by first | assumption | omega | (simp only [nxs] <;> omega)) | assumption | exact b1g (by assumption) (by first | assumption | omega | (simp only [nxs] <;> omega))), qf, (by first | exact b1k | exact b1l (by first | assumption | omega | (simp only [nxs] <;> omega)) | assumption | exact b1g (by assumption) (by first | assumption | omega | (simp only [nxs] <;> omega))), (by first | first | assumption | omega | (simp only [nxs] <;> omega)), q7, (by first | first | assumption | omega | (simp only [nxs] <;> omega)), (by first | first | assumption | omega | (simp only [nxs] <;> omega)), (by first | first | assumption | omega | (simp only [nxs] <;> omega)), (by first | first | assumption | omega | (simp only [nxs] <;> omega)), (by intro j hj; first | exact fr j hj | (refine Eq.trans ?_ (fr j hj); first | rfl | simp only [go_sem, Nat.lt_of_lt_of_le hj fx, b5x qt hj, b5x qv hj, b44 qu hj, b5x q1a hj])), (by first | exact fx | omega | (simp only [go_sem, nxs] <;> omega)), qo, qt, (by first | assumption | omega | (simp only [nxs] <;> omega)), qw, (by first | assumption | omega | (simp only [nxs] <;> omega))⟩
      ·try clear s1 s2 s5 s6 s7 s8 s9 s18 s19 s27 s28 q8 qd qa q0 qh q2 qi q1 qb q17 qn qg q3 q4 q5 qm qs qc qe qf qy q13 q6 q7 qj qp q9 qk qr ql qq q14 fr fx qo qt qv qw qu q1a q1e q1c
       rintro t h ⟨v1_2, i7_3, i7_4, s1, s2, s5, s6, s7, s18, s19, s27, s28, q8, qd, qa, q0, qh, q2, qi, q1, q1k, q1h, qg, q3, q4, q5, q1l, qc, qe, qf, q1n, q6, q7, q1o, q9, q1p, q1q, fr, fx, qo, qt, qv, qw, qu⟩
       simp only [b0i, b0j]
       exact J51 l65 l57 v1_2 v5_2 i7_3 i7_4 _ _ s1 s2 s5 s6 s7 s18 s19 s27 s28 q8 qd qa q0 qh q2 qi q1 q1k q1h qg q3 q4 q5 q1l qc qe qf q1n q6 q7 q1o q9 q1p q1q fr fx qo qt qv qw qu hm2
     simp only [b00]
     obtain ⟨b66, hl66, hm2⟩ := b0h hm2
     refine b1x hl66 (fun | (row_9, t_10), t, h => ∃ v5_2 : AV, ∃ i9 : Nat, t 1 = v1_1 ∧ t 2 = .fp [.fs 5 (List.map b0p h_.Combs), .fs 3 (List.map b0o h_.Trains), .fs 3 (List.map b0q h_.Shifts), I h_.Until] 0 ∧ t 5 = v5_2 ∧ t 6 = I x_19 ∧ t 7 = .rp i7 0 0 ∧ t 8 = I x_28 ∧ t 9 = .rs i9 0 (List.length row_9) ∧ t 10 = I t_10 ∧ t 18 = I (List.length h_.Combs : Int) ∧ t 19 = I x_19 ∧ t 27 = I h_.Until ∧ t 28 = I x_28 ∧ RR h v1_1 hs_1 1 eI open_ ∧ b09 h v5_2 1 (List.map b11 all_5) ∧ h.ob i7 = some (4, [[.rs i7_1 0 (List.length b_7_0), .rs i7_2 0 (List.length ([0])), .v (.slice none 0 0), v7]]) ∧ i7 < h.nx ∧ h.ob i7_1 = some (1, List.map eI b_7_0) ∧ i7_1 < h.nx ∧ h.ob i7_2 = some (1, List.map eI ([0])) ∧ i7_2 < h.nx ∧ b09 h v7 1 (List.map b0k b_7_3) ∧ h.ob i9 = some (1, List.map eI row_9) ∧ i9 < h.nx ∧ (∀ j, ¬b0c v5_2 j → b0f v1_1 hs_1 j) ∧ b0f v1_1 hs_1 i7 ∧ b0f v1_1 hs_1 i7_1 ∧ b0f v1_1 hs_1 i7_2 ∧ (∀ j, ¬b0c v7 j → b0f v1_1 hs_1 j) ∧ b0f v1_1 hs_1 i9 ∧ b0c v5_2 i7 ∧ b0c v5_2 i7_1 ∧ b0c v5_2 i7_2 ∧ (∀ j, ¬b0c v5_2 j → b0c v7 j) ∧ b0c v5_2 i9 ∧ ¬i7 = i7_1 ∧ ¬i7 = i7_2 ∧ b0c v7 i7 ∧ ¬i7 = i9 ∧ ¬i7_1 = i7_2 ∧ b0c v7 i7_1 ∧ ¬i7_1 = i9 ∧ b0c v7 i7_2 ∧ ¬i7_2 = i9 ∧ b0c v7 i9 ∧ (∀ j, j < h0.nx → h.ob j = h0.ob j) ∧ h0.nx ≤ h.nx ∧ (∀ j, ¬b0c v5_2 j → h0.nx ≤ j) ∧ h0.nx ≤ i7 ∧ h0.nx ≤ i7_1 ∧ h0.nx ≤ i7_2 ∧ (∀ j, ¬b0c v7 j → h0.nx ≤ j) ∧ h0.nx ≤ i9) ?_ ?_
     ·exact ⟨v5_1, h.nx, s1, s2, s5, s6, s7, (by first | (simp only [go_sem, List.length_append, List.map_append]; done) | rfl), (by first | (simp only [go_sem, List.length_append, List.map_append]; done) | rfl), (by first | (simp only [go_sem, List.length_append, List.map_append]; done) | rfl), s18, s19, s27, s28, (b2f q8 (by intro j hj  hl; first | rfl | simp only [go_sem, hl]) (by first | omega | exact Nat.le_refl _ | (simp only [go_sem, nxs] <;> omega))), (b2e qd (by intro j hj hl; first | rfl | simp only [go_sem, hl]) (by first | omega | exact Nat.le_refl _ | (simp only [go_sem, nxs] <;> omega))), (by simp only [go_sem, qa, q0, List.length_append, List.map_append]), (by simp only [go_sem, q0]), (by simp only [go_sem, qh, q2, List.length_append, List.map_append]), (by simp only [go_sem, q2]), (by simp only [go_sem, qi, q1, List.length_append, List.map_append]), (by simp only [go_sem, q1]), (b2e qb (by intro j hj hl; first | rfl | simp only [go_sem, hl]) (by first | omega | exact Nat.le_refl _ | (simp only [go_sem, nxs] <;> omega))), (by simp only [go_sem, List.length_append, List.map_append]), (by simp only [go_sem]), qg, q3, q4, q5, qm, (by first | assumption | exact b2r q8 (by first | assumption | omega | (simp only [nxs] <;> omega))), qc, qe, qf, qy, (by first | exact b1k | exact b1l (by first | assumption | omega | (simp only [nxs] <;> omega)) | assumption | exact b1g (by assumption) (by first | assumption | omega | (simp only [nxs] <;> omega))), q6, q7, qj, (by first | first | assumption | omega | (simp only [nxs] <;> omega)), q9, qk, (by first | first | assumption | omega | (simp only [nxs] <;> omega)), ql, (by first | first | assumption | omega | (simp only [nxs] <;> omega)), (by first | exact b1k | exact b1l (by first | assumption | omega | (simp only [nxs] <;> omega)) | assumption | exact b1g (by assumption) (by first | assumption | omega | (simp only [nxs] <;> omega))), (by intro j hj; first | exact fr j hj | (refine Eq.trans ?_ (fr j hj); first | rfl | simp only [go_sem, Nat.lt_of_lt_of_le hj fx])), (by first | exact fx | omega | (simp only [go_sem, nxs] <;> omega)), qo, qt, qv, qw, qu, (by first | assumption | omega | (simp only [nxs] <;> omega))⟩
     ·try clear s1 s2 s5 s6 s7 s18 s19 s27 s28 q8 qd qa q0 qh q2 qi q1 qb qg q3 q4 q5 qm qc qe qf qy q6 q7 qj q9 qk ql fr fx qo qt qv qw qu
      rintro ⟨row_9, t_10⟩ o t h ⟨v5_2, i9, s1, s2, s5, s6, s7, s8, s9, s10, s18, s19, s27, s28, q8, qd, qa, q0, qh, q2, qi, q1, qb, q17, qn, qg, q3, q4, q5, qm, qs, qc, qe, qf, qy, q13, q6, q7, qj, qp, q9, qk, qr, ql, qq, q14, fr, fx, qo, qt, qv, qw, qu, q1a⟩ hm3 hb66
      simp only [c1n] at hm3
      rw [d13]
      refine b03 ?_
      refine b0d fun K hK => ?_
      simp only [go_sem, s2, s10, q0, q2, q1, qn, b0a v1, b0a v5, b0a v1_1, b0a v5_1, b0a v7, b0a v5_2]
      refine hK _ _ ?_
      clear hK K
      refine b0r fun K67 hK67 => ?_
      simp only [go_sem]
      refine b0u (fun hc68 => ?_) (fun hc68 => ?_)
      ·rw [b02 hc68] at hm3
       simp only [b0z, b0i, b0j]
       refine hK67 _ _ ?_
       refine b0r fun K69 hK69 => ?_
       have J70 : ∀ (row_9_1 : List Int) (v5_3 : AV) (t : Slots) (h : Heap), t 1 = v1_1 → t 2 = .fp [.fs 5 (List.map b0p h_.Combs), .fs 3 (List.map b0o h_.Trains), .fs 3 (List.map b0q h_.Shifts), I h_.Until] 0 → t 5 = v5_3 → t 6 = I x_19 → t 7 = .rp i7 0 0 → t 8 = I x_28 → t 9 = .rs i9 0 (List.length row_9_1) → t 10 = I t_10 → t 18 = I (List.length h_.Combs : Int) → t 19 = I x_19 → t 27 = I h_.Until → t 28 = I x_28 → RR h v1_1 hs_1 1 eI open_ → b09 h v5_3 1 (List.map b11 all_5) → h.ob i7 = some (4, [[.rs i7_1 0 (List.length b_7_0), .rs i7_2 0 (List.length ([0])), .v (.slice none 0 0), v7]]) → i7 < h.nx → h.ob i7_1 = some (1, List.map eI b_7_0) → i7_1 < h.nx → h.ob i7_2 = some (1, List.map eI ([0])) → i7_2 < h.nx → b09 h v7 1 (List.map b0k b_7_3) → h.ob i9 = some (1, List.map eI row_9_1) → i9 < h.nx → (∀ j, ¬b0c v5_3 j → b0f v1_1 hs_1 j) → b0f v1_1 hs_1 i7 → b0f v1_1 hs_1 i7_1 → b0f v1_1 hs_1 i7_2 → (∀ j, ¬b0c v7 j → b0f v1_1 hs_1 j) → b0f v1_1 hs_1 i9 → b0c v5_3 i7 → b0c v5_3 i7_1 → b0c v5_3 i7_2 → (∀ j, ¬b0c v5_3 j → b0c v7 j) → b0c v5_3 i9 → ¬i7 = i7_1 → ¬i7 = i7_2 → b0c v7 i7 → ¬i7 = i9 → ¬i7_1 = i7_2 → b0c v7 i7_1 → ¬i7_1 = i9 → b0c v7 i7_2 → ¬i7_2 = i9 → b0c v7 i9 → (∀ j, j < h0.nx → h.ob j = h0.ob j) → h0.nx ≤ h.nx → (∀ j, ¬b0c v5_3 j → h0.nx ≤ j) → h0.nx ≤ i7 → h0.nx ≤ i7_1 → h0.nx ≤ i7_2 → (∀ j, ¬b0c v7 j → h0.nx ≤ j) → h0.nx ≤ i9 → b70 t_10 row_9_1 = some o → K69 t h := by
        try clear s1 s2 s5 s6 s7 s8 s9 s10 s18 s19 s27 s28 q8 qd qa q0 qh q2 qi q1 qb q17 qn qg q3 q4 q5 qm qs qc qe qf qy q13 q6 q7 qj qp q9 qk qr ql qq q14 fr fx qo qt qv qw qu q1a
        intro row_9_1 v5_3 t h s1 s2 s5 s6 s7 s8 s9 s10 s18 s19 s27 s28 q8 qd qa q0 qh q2 qi q1 qb q17 qn qg q3 q4 q5 qm qs qc qe qf qy q13 q6 q7 qj qp q9 qk qr ql qq q14 fr fx qo qt qv qw qu q1a hm3
        refine hK69 _ _ ?_
        unfold b70 at hm3
        refine b1i fun K hK => ?_
        simp only [go_sem, s10, q0, q2, q1, qn, b0a v1, b0a v5, b0a v1_1, b0a v5_1, b0a v7, b0a v5_2, b0a v5_3]
        refine hK _ _ ?_
        clear hK K
        simp only [b0i, b0j]
        obtain rfl := Option.some.inj hm3
        refine ⟨_, rfl, ?_⟩
        exact ⟨v5_3, i9, s1, s2, s5, s6, s7, s8, (by first | exact s9 | simp only [go_sem, s9, List.length_append, List.map_append]), (by first | (simp only [go_sem, s10, List.length_append, List.map_append]; done) | rfl), s18, s19, s27, s28, q8, qd, qa, q0, qh, q2, qi, q1, qb, q17, qn, qg, q3, q4, q5, qm, qs, qc, qe, qf, qy, q13, q6, q7, qj, qp, q9, qk, qr, ql, qq, q14, fr, fx, qo, qt, qv, qw, qu, q1a⟩
       simp only [b00]
       obtain ⟨y73, h_y73, hm3⟩ := b0h hm3
       obtain ⟨x74, h_x74, hm3⟩ := b0h hm3
       have h_x740 := b0w h_x74
       have h_x741 := b0x h_x74
       refine b0d fun K hK => ?_
       simp only [go_sem, s2, s6, s8, s9, s10, q17, qn, q0, q2, q1, q13, qp, b0b qp, qr, b0b qr, qq, b0b qq, q14, b0m h_x74, b0n h_x74, h_x740, h_x741, b0a v1, b0a v5, b0a v1_1, b0a v5_1, b0a v7, b0a v5_2]
       refine b1j (c16 h_ x_19 x_28 t_10 _ h_y73) ?_
       simp only [go_sem, s2, s6, s8, s9, s10, q17, qn, q0, q2, q1, q13, qp, b0b qp, qr, b0b qr, qq, b0b qq, q14, b0m h_x74, b0n h_x74, h_x740, h_x741, b0a v1, b0a v5, b0a v1_1, b0a v5_1, b0a v7, b0a v5_2]
       refine hK _ _ ?_
       clear hK K
       obtain ⟨l76, h_l76, hm3⟩ := b0h hm3
       refine b0d fun K hK => ?_
       simp only [go_sem, s2, s6, q0, q2, q1, qn, b0a v1, b0a v5, b0a v1_1, b0a v5_1, b0a v7, b0a v5_2]
       refine d7j (f := b0p) (l := h_.Combs) (lo := none) (hi := some x_19) h_l76 ?_
       simp only [go_sem, s2, s6, q0, q2, q1, qn, b0a v1, b0a v5, b0a v1_1, b0a v5_1, b0a v7, b0a v5_2]
       refine hK _ _ ?_
       clear hK K
       simp only [b00]
       obtain ⟨b77, hl77, hm3⟩ := b0h hm3
       refine b1x hl77 (fun | (row_9_1, x_54), t, h => ∃ v5_3 : AV, t 1 = v1_1 ∧ t 2 = .fp [.fs 5 (List.map b0p h_.Combs), .fs 3 (List.map b0o h_.Trains), .fs 3 (List.map b0q h_.Shifts), I h_.Until] 0 ∧ t 5 = v5_3 ∧ t 6 = I x_19 ∧ t 7 = .rp i7 0 0 ∧ t 8 = I x_28 ∧ t 9 = .rs i9 0 (List.length row_9_1) ∧ t 10 = I t_10 ∧ t 18 = I (List.length h_.Combs : Int) ∧ t 19 = I x_19 ∧ t 27 = I h_.Until ∧ t 28 = I x_28 ∧ t 52 = .fs 5 (List.map b0p l76) ∧ t 53 = I (List.length l76 : Int) ∧ t 54 = I x_54 ∧ RR h v1_1 hs_1 1 eI open_ ∧ b09 h v5_3 1 (List.map b11 all_5) ∧ h.ob i7 = some (4, [[.rs i7_1 0 (List.length b_7_0), .rs i7_2 0 (List.length ([0])), .v (.slice none 0 0), v7]]) ∧ i7 < h.nx ∧ h.ob i7_1 = some (1, List.map eI b_7_0) ∧ i7_1 < h.nx ∧ h.ob i7_2 = some (1, List.map eI ([0])) ∧ i7_2 < h.nx ∧ b09 h v7 1 (List.map b0k b_7_3) ∧ h.ob i9 = some (1, List.map eI row_9_1) ∧ i9 < h.nx ∧ (∀ j, ¬b0c v5_3 j → b0f v1_1 hs_1 j) ∧ b0f v1_1 hs_1 i7 ∧ b0f v1_1 hs_1 i7_1 ∧ b0f v1_1 hs_1 i7_2 ∧ (∀ j, ¬b0c v7 j → b0f v1_1 hs_1 j) ∧ b0f v1_1 hs_1 i9 ∧ b0c v5_3 i7 ∧ b0c v5_3 i7_1 ∧ b0c v5_3 i7_2 ∧ (∀ j, ¬b0c v5_3 j → b0c v7 j) ∧ b0c v5_3 i9 ∧ ¬i7 = i7_1 ∧ ¬i7 = i7_2 ∧ b0c v7 i7 ∧ ¬i7 = i9 ∧ ¬i7_1 = i7_2 ∧ b0c v7 i7_1 ∧ ¬i7_1 = i9 ∧ b0c v7 i7_2 ∧ ¬i7_2 = i9 ∧ b0c v7 i9 ∧ (∀ j, j < h0.nx → h.ob j = h0.ob j) ∧ h0.nx ≤ h.nx ∧ (∀ j, ¬b0c v5_3 j → h0.nx ≤ j) ∧ h0.nx ≤ i7 ∧ h0.nx ≤ i7_1 ∧ h0.nx ≤ i7_2 ∧ (∀ j, ¬b0c v7 j → h0.nx ≤ j) ∧ h0.nx ≤ i9) ?_ ?_
       ·exact ⟨v5_2, s1, s2, s5, s6, s7, s8, (by first | exact s9 | simp only [go_sem, s9, List.length_append, List.map_append]), s10, s18, s19, s27, s28, (by first | (simp only [go_sem, List.length_append, List.map_append]; done) | rfl), (by first | (simp only [go_sem, List.length_append, List.map_append]; done) | rfl), (by first | (simp only [go_sem, List.length_append, List.map_append]; done) | rfl), (b2f q8 (by intro j hj  hl; first | rfl | simp only [go_sem, hl, b3d hj qs, qn]) (by first | omega | exact Nat.le_refl _ | (simp only [go_sem, nxs] <;> omega))), (b2e qd (by intro j hj hl; first | rfl | simp only [go_sem, hl, qn, b1y hj q13]) (by first | omega | exact Nat.le_refl _ | (simp only [go_sem, nxs] <;> omega))), (by simp only [go_sem, qa, q0, qn, qp, b0b qp, List.length_append, List.map_append]), (by simp only [go_sem, q0]), (by simp only [go_sem, qh, q2, qn, qr, b0b qr, List.length_append, List.map_append]), (by simp only [go_sem, q2]), (by simp only [go_sem, qi, q1, qn, qq, b0b qq, List.length_append, List.map_append]), (by simp only [go_sem, q1]), (b2e qb (by intro j hj hl; first | rfl | simp only [go_sem, hl, qn, b1y hj q14]) (by first | omega | exact Nat.le_refl _ | (simp only [go_sem, nxs] <;> omega))), (by simp only [go_sem, q17, qn, List.length_append, List.map_append]), (by simp only [go_sem, qn]), qg, q3, q4, q5, qm, qs, qc, qe, qf, qy, q13, q6, q7, qj, qp, q9, qk, qr, ql, qq, q14, (by intro j hj; first | exact fr j hj | (refine Eq.trans ?_ (fr j hj); first | rfl | simp only [go_sem, Nat.lt_of_lt_of_le hj fx, b5x q1a hj])), (by first | exact fx | omega | (simp only [go_sem, nxs] <;> omega)), qo, qt, qv, qw, qu, q1a⟩
       ·try clear s1 s2 s5 s6 s7 s8 s9 s10 s18 s19 s27 s28 q8 qd qa q0 qh q2 qi q1 qb q17 qn qg q3 q4 q5 qm qs qc qe qf qy q13 q6 q7 qj qp q9 qk qr ql qq q14 fr fx qo qt qv qw qu q1a
        rintro ⟨row_9_1, x_54⟩ o t h ⟨v5_3, s1, s2, s5, s6, s7, s8, s9, s10, s18, s19, s27, s28, s52, s53, s54, q8, qd, qa, q0, qh, q2, qi, q1, qb, q17, qn, qg, q3, q4, q5, qm, qs, qc, qe, qf, qy, q13, q6, q7, qj, qp, q9, qk, qr, ql, qq, q14, fr, fx, qo, qt, qv, qw, qu, q1a⟩ hm4 hb77
        simp only [c1m] at hm4
        rw [d12]
        refine b0d fun K hK => ?_
        simp only [go_sem, s53, s54, q0, q2, q1, qn, b0a v1, b0a v5, b0a v1_1, b0a v5_1, b0a v7, b0a v5_2, b0a v5_3]
        refine hK _ _ ?_
        clear hK K
        refine b0r fun K78 hK78 => ?_
        simp only [go_sem]
        refine b0u (fun hc79 => ?_) (fun hc79 => ?_)
        ·rw [b02 hc79] at hm4
         simp only [b0z, b0i, b0j]
         refine hK78 _ _ ?_
         refine b0r fun K80 hK80 => ?_
         have J81 : ∀ (row_9_2 : List Int) (v5_4 : AV) (t : Slots) (h : Heap), t 1 = v1_1 → t 2 = .fp [.fs 5 (List.map b0p h_.Combs), .fs 3 (List.map b0o h_.Trains), .fs 3 (List.map b0q h_.Shifts), I h_.Until] 0 → t 5 = v5_4 → t 6 = I x_19 → t 7 = .rp i7 0 0 → t 8 = I x_28 → t 9 = .rs i9 0 (List.length row_9_2) → t 10 = I t_10 → t 18 = I (List.length h_.Combs : Int) → t 19 = I x_19 → t 27 = I h_.Until → t 28 = I x_28 → t 52 = .fs 5 (List.map b0p l76) → t 53 = I (List.length l76 : Int) → t 54 = I x_54 → RR h v1_1 hs_1 1 eI open_ → b09 h v5_4 1 (List.map b11 all_5) → h.ob i7 = some (4, [[.rs i7_1 0 (List.length b_7_0), .rs i7_2 0 (List.length ([0])), .v (.slice none 0 0), v7]]) → i7 < h.nx → h.ob i7_1 = some (1, List.map eI b_7_0) → i7_1 < h.nx → h.ob i7_2 = some (1, List.map eI ([0])) → i7_2 < h.nx → b09 h v7 1 (List.map b0k b_7_3) → h.ob i9 = some (1, List.map eI row_9_2) → i9 < h.nx → (∀ j, ¬b0c v5_4 j → b0f v1_1 hs_1 j) → b0f v1_1 hs_1 i7 → b0f v1_1 hs_1 i7_1 → b0f v1_1 hs_1 i7_2 → (∀ j, ¬b0c v7 j → b0f v1_1 hs_1 j) → b0f v1_1 hs_1 i9 → b0c v5_4 i7 → b0c v5_4 i7_1 → b0c v5_4 i7_2 → (∀ j, ¬b0c v5_4 j → b0c v7 j) → b0c v5_4 i9 → ¬i7 = i7_1 → ¬i7 = i7_2 → b0c v7 i7 → ¬i7 = i9 → ¬i7_1 = i7_2 → b0c v7 i7_1 → ¬i7_1 = i9 → b0c v7 i7_2 → ¬i7_2 = i9 → b0c v7 i9 → (∀ j, j < h0.nx → h.ob j = h0.ob j) → h0.nx ≤ h.nx → (∀ j, ¬b0c v5_4 j → h0.nx ≤ j) → h0.nx ≤ i7 → h0.nx ≤ i7_1 → h0.nx ≤ i7_2 → (∀ j, ¬b0c v7 j → h0.nx ≤ j) → h0.nx ≤ i9 → b6w x_54 row_9_2 = some o → K80 t h := by
          try clear s1 s2 s5 s6 s7 s8 s9 s10 s18 s19 s27 s28 s52 s53 s54 q8 qd qa q0 qh q2 qi q1 qb q17 qn qg q3 q4 q5 qm qs qc qe qf qy q13 q6 q7 qj qp q9 qk qr ql qq q14 fr fx qo qt qv qw qu q1a
          intro row_9_2 v5_4 t h s1 s2 s5 s6 s7 s8 s9 s10 s18 s19 s27 s28 s52 s53 s54 q8 qd qa q0 qh q2 qi q1 qb q17 qn qg q3 q4 q5 qm qs qc qe qf qy q13 q6 q7 qj qp q9 qk qr ql qq q14 fr fx qo qt qv qw qu q1a hm4
          refine hK80 _ _ ?_
          unfold b6w at hm4
          refine b1i fun K hK => ?_
          simp only [go_sem, s54, q0, q2, q1, qn, b0a v1, b0a v5, b0a v1_1, b0a v5_1, b0a v7, b0a v5_2, b0a v5_3, b0a v5_4]
          refine hK _ _ ?_
          clear hK K
          simp only [b0i, b0j]
          obtain rfl := Option.some.inj hm4
          refine ⟨_, rfl, ?_⟩
          exact ⟨v5_4, s1, s2, s5, s6, s7, s8, (by first | exact s9 | simp only [go_sem, s9, List.length_append, List.map_append]), s10, s18, s19, s27, s28, s52, s53, (by first | (simp only [go_sem, s54, List.length_append, List.map_append]; done) | rfl), q8, qd, qa, q0, qh, q2, qi, q1, qb, q17, qn, qg, q3, q4, q5, qm, qs, qc, qe, qf, qy, q13, q6, q7, qj, qp, q9, qk, qr, ql, qq, q14, fr, fx, qo, qt, qv, qw, qu, q1a⟩
         simp only [b00]
         obtain ⟨x83, h_x83, hm4⟩ := b0h hm4
         have h_x830 := b0w h_x83
         have h_x831 := b0x h_x83
         refine b0d fun K hK => ?_
         simp only [go_sem, s52, s54, q0, q2, q1, qn, b0m h_x83, b0n h_x83, h_x830, h_x831, b0a v1, b0a v5, b0a v1_1, b0a v5_1, b0a v7, b0a v5_2, b0a v5_3]
         refine hK _ _ ?_
         clear hK K
         refine b0d fun K hK => ?_
         simp only [go_sem, s6, q0, q2, q1, qn, b0a v1, b0a v5, b0a v1_1, b0a v5_1, b0a v7, b0a v5_2, b0a v5_3]
         refine hK _ _ ?_
         clear hK K
         simp only [go_sem]
         refine b0u (fun hc84 => ?_) (fun hc84 => ?_)
         ·rw [b02 hc84] at hm4
          obtain ⟨x89, h_x89, hm4⟩ := b0h hm4
          have h_x890 := b0w h_x89
          have h_x891 := b0x h_x89
          obtain ⟨x90, h_x90, hm4⟩ := b0h hm4
          have h_x900 := b0w h_x90
          have h_x901 := b0x h_x90
          obtain ⟨iq91, rfl, q16, qz⟩ := b3m qd h_x90
          obtain ⟨y92, h_y92, hm4⟩ := b0h hm4
          refine b1i fun K hK => ?_
          simp only [go_sem, s5, s8, s9, s10, q16, qz, q17, qn, q0, q2, q1, qc, qe, qf, q13, qp, b0b qp, qr, b0b qr, qq, b0b qq, q14, b0m h_x89, b0n h_x89, h_x890, h_x891, b0m h_x90, b0n h_x90, h_x900, h_x901, b0a v1, b0a v5, b0a v1_1, b0a v5_1, b0a v7, b0a v5_2]
          refine b1j (c15 x90 (wr (x_28 - x83.Walk.High)) (wr (t_10 - x83.Walk.Low)) _ h_y92) ?_
          simp only [go_sem, s5, s8, s9, s10, q16, qz, q17, qn, q0, q2, q1, qc, qe, qf, q13, qp, b0b qp, qr, b0b qr, qq, b0b qq, q14, b0m h_x89, b0n h_x89, h_x890, h_x891, b0m h_x90, b0n h_x90, h_x900, h_x901, b0a v1, b0a v5, b0a v1_1, b0a v5_1, b0a v7, b0a v5_2]
          refine hK _ _ ?_
          clear hK K
          simp only [b0i, b0j]
          exact J81 (List.set row_9_1 (Int.toNat t_10) (wr (x89 + y92))) (.rs iq91 0 (List.length all_5)) _ _ s1 s2 (by first | (simp only [go_sem, s5, List.length_append, List.map_append]; done) | rfl) s6 s7 s8 (by first | exact s9 | simp only [go_sem, s9, List.length_append, List.map_append]) s10 s18 s19 s27 s28 s52 s53 s54 (b2f q8 (by intro j hj  hl; first | rfl | simp only [go_sem, hl, b3d hj qs, qn]) (by first | omega | exact Nat.le_refl _ | (simp only [go_sem, nxs] <;> omega))) (b3c (by simp only [go_sem, qn, q13, c5t q13, b0b (c5t q13), q16, qz, List.length_append, List.map_append]) (by first | rfl | simp only [go_sem, List.length_append, List.map_append]) (by simp only [go_sem, qz])) (by simp only [go_sem, qa, q0, qn, qp, b0b qp, List.length_append, List.map_append]) (by simp only [go_sem, q0]) (by simp only [go_sem, qh, q2, qn, qr, b0b qr, List.length_append, List.map_append]) (by simp only [go_sem, q2]) (by simp only [go_sem, qi, q1, qn, qq, b0b qq, List.length_append, List.map_append]) (by simp only [go_sem, q1]) (b2e qb (by intro j hj hl; first | rfl | simp only [go_sem, hl, qn, b1y hj q14]) (by first | omega | exact Nat.le_refl _ | (simp only [go_sem, nxs] <;> omega))) (by simp only [go_sem, q17, qn, List.length_append, List.map_append]) (by simp only [go_sem, qn]) qg q3 q4 q5 qm qs qc qe qf qy q13 q6 q7 qj qp q9 qk qr ql qq q14 (by intro j hj; first | exact fr j hj | (refine Eq.trans ?_ (fr j hj); first | rfl | simp only [go_sem, Nat.lt_of_lt_of_le hj fx, b5x q1a hj])) (by first | exact fx | omega | (simp only [go_sem, nxs] <;> omega)) qo qt qv qw qu q1a hm4
         ·rw [b01 hc84] at hm4
          simp only [b0z, b0i, b0j]
          exact J81 row_9_1 v5_3 _ _ s1 s2 s5 s6 s7 s8 (by first | exact s9 | simp only [go_sem, s9, List.length_append, List.map_append]) s10 s18 s19 s27 s28 s52 s53 s54 (b2f q8 (by intro j hj  hl; first | rfl | simp only [go_sem, hl]) (by first | omega | exact Nat.le_refl _ | (simp only [go_sem, nxs] <;> omega))) (b2e qd (by intro j hj hl; first | rfl | simp only [go_sem, hl]) (by first | omega | exact Nat.le_refl _ | (simp only [go_sem, nxs] <;> omega))) (by simp only [go_sem, qa, q0, List.length_append, List.map_append]) (by simp only [go_sem, q0]) (by simp only [go_sem, qh, q2, List.length_append, List.map_append]) (by simp only [go_sem, q2]) (by simp only [go_sem, qi, q1, List.length_append, List.map_append]) (by simp only [go_sem, q1]) (b2e qb (by intro j hj hl; first | rfl | simp only [go_sem, hl]) (by first | omega | exact Nat.le_refl _ | (simp only [go_sem, nxs] <;> omega))) (by simp only [go_sem, q17, qn, List.length_append, List.map_append]) (by simp only [go_sem, qn]) qg q3 q4 q5 qm qs qc qe qf qy q13 q6 q7 qj qp q9 qk qr ql qq q14 (by intro j hj; first | exact fr j hj | (refine Eq.trans ?_ (fr j hj); first | rfl | simp only [go_sem, Nat.lt_of_lt_of_le hj fx])) (by first | exact fx | omega | (simp only [go_sem, nxs] <;> omega)) qo qt qv qw qu q1a hm4
        ·rw [b01 hc79] at hm4
         simp only [b1t, b1w, b1v, b1u, b0i, b0j, Nat.reduceEqDiff, not_false_eq_true]
         obtain rfl := Option.some.inj hm4
         obtain rfl := hb77 _ rfl
         try dsimp only at hm3
         exact J70 row_9_1 v5_3 _ _ s1 s2 s5 s6 s7 s8 (by first | exact s9 | simp only [go_sem, s9, List.length_append, List.map_append]) s10 s18 s19 s27 s28 q8 qd qa q0 qh q2 qi q1 qb q17 qn qg q3 q4 q5 qm qs qc qe qf qy q13 q6 q7 qj qp q9 qk qr ql qq q14 fr fx qo qt qv qw qu q1a hm3
      ·rw [b01 hc68] at hm3
       simp only [b1t, b1w, b1v, b1u, b0i, b0j, Nat.reduceEqDiff, not_false_eq_true]
       obtain rfl := Option.some.inj hm3
       obtain rfl := hb66 _ rfl
       try dsimp only at hm2
       exact J55 row_9 v5_2 i9 _ _ s1 s2 s5 s6 s7 s8 (by first | exact s9 | simp only [go_sem, s9, List.length_append, List.map_append]) s18 s19 s27 s28 q8 qd qa q0 qh q2 qi q1 qb q17 qn qg q3 q4 q5 qm qs qc qe qf qy q13 q6 q7 qj qp q9 qk qr ql qq q14 fr fx qo qt qv qw qu q1a hm2
    ·rw [b01 hc49] at hm2
     simp only [b1t, b1w, b1v, b1u, b0i, b0j, Nat.reduceEqDiff, not_false_eq_true]
     obtain rfl := Option.some.inj hm2
     obtain rfl := hb47 _ rfl
     try dsimp only at hm1
     exact J9 b_7_0 b_7_3 v1_1 v5_1 i7 i7_1 i7_2 v7 _ _ s1 s2 s5 s6 s7 s18 s19 q8 qd qa q0 qh q2 qi q1 qb qg q3 q4 q5 qm qc qe qf qy q6 q7 qj q9 qk ql fr fx qo qt qv qw qu hm1
  ·rw [b01 hc5] at hm1
   simp only [b1t, b1w, b1v, b1u, b0i, b0j, Nat.reduceEqDiff, not_false_eq_true]
   obtain rfl := Option.some.inj hm1
   obtain rfl := hb3 _ rfl
   try dsimp only at hm0
   exact J2 all_5 v5 _ _ s5 qd fr fx qo hm0
theorem d0e (hf : Has O "newel/halls.open" x_halls_open) (b6g : b8v O) : c64 O := by
 intro h_ r hm0
 unfold b6y at hm0
 refine b2k hf rfl (b0e (.agg _ (b0e (b0s fun a _ => b2m a) (b0e (b0s fun a _ => b2l a) (b0e (b0s fun a _ => b2o a) (b0e (b0l _) b0y))))) b0y) (b0s fun a _ => b2v a) ?_
 refine b2h (fun t h => t 0 = .agg [.fs 5 (List.map b0p h_.Combs), .fs 3 (List.map b0o h_.Trains), .fs 3 (List.map b0q h_.Shifts), I h_.Until]) rfl fun t h s0 => ?_
 simp only [x_halls_open]
 refine b0d fun K hK => ?_
 simp only [go_sem, s0]
 refine hK _ _ ?_
 clear hK K
 refine b03 ?_
 refine b0d fun K hK => ?_
 simp only [go_sem]
 refine hK _ _ ?_
 clear hK K
 refine b0r fun K1 hK1 => ?_
 have J2 : ∀ (out_2 : List (List Int)) (v2 : AV) (t : Slots) (h : Heap), t 2 = v2 → b09 h v2 1 (List.map b0k out_2) → b76 out_2 = some r → K1 t h := by
  intro out_2 v2 t h s2 q1i hm0
  refine hK1 _ _ ?_
  unfold b76 at hm0
  refine b0d fun K hK => ?_
  simp only [go_sem, s2, b0a v2]
  refine hK _ _ ?_
  clear hK K
  simp only [b1a, b1c, b1b, b1d]
  obtain rfl := Option.some.inj hm0
  exact c72 (v := v2) (by simp only [go_sem, s2, b0v q1i, List.length_append, List.map_append]) (b7s (f := b0k) (l := out_2) (b2e q1i (by intro j hj hl; first | rfl | simp only [go_sem, hl]) (by first | omega | exact Nat.le_refl _ | (simp only [go_sem, nxs] <;> omega))) b2v c5p)
 simp only [b00]
 obtain ⟨b3, hl3, hm0⟩ := b0h hm0
 refine b1x hl3 (fun | (out_2, x_7), t, h => ∃ v2 : AV, t 1 = .fp [.fs 5 (List.map b0p h_.Combs), .fs 3 (List.map b0o h_.Trains), .fs 3 (List.map b0q h_.Shifts), I h_.Until] 0 ∧ t 2 = v2 ∧ t 6 = I (List.length h_.Combs : Int) ∧ t 7 = I x_7 ∧ b09 h v2 1 (List.map b0k out_2)) ?_ ?_
 ·exact ⟨(.v (.slice none 0 0)), (by first | (simp only [go_sem, List.length_append, List.map_append]; done) | rfl), (by first | (simp only [go_sem, List.length_append, List.map_append]; done) | rfl), (by first | (simp only [go_sem, List.length_append, List.map_append]; done) | rfl), (by first | (simp only [go_sem, List.length_append, List.map_append]; done) | rfl), b65⟩
 ·rintro ⟨out_2, x_7⟩ o t h ⟨v2, s1, s2, s6, s7, q1i⟩ hm1 hb3
  simp only [c1v] at hm1
  rw [d18]
  refine b0d fun K hK => ?_
  simp only [go_sem, s6, s7, b0a v2]
  refine hK _ _ ?_
  clear hK K
  refine b0r fun K4 hK4 => ?_
  simp only [go_sem]
  refine b0u (fun hc5 => ?_) (fun hc5 => ?_)
  ·rw [b02 hc5] at hm1
   simp only [b0z, b0i, b0j]
   refine hK4 _ _ ?_
   refine b0r fun K6 hK6 => ?_
   simp only [b00]
   refine b0d fun K hK => ?_
   simp only [go_sem, s7, b0a v2]
   refine hK _ _ ?_
   clear hK K
   obtain ⟨y9, h_y9, hm1⟩ := b0h hm1
   obtain ⟨l10, h_l10, hm1⟩ := b0h hm1
   refine b0d fun K hK => ?_
   simp only [go_sem, s1, s2, b0a v2]
   refine c5a (e := eI) (l := y9) ?_ (b6g h_ x_7 _ h_y9) ?_
   ·exact .cons (.refl _ (.agg _ (b0e (b0s fun a _ => b2m a) (b0e (b0s fun a _ => b2l a) (b0e (b0s fun a _ => b2o a) (b0e (b0l _) b0y)))))) (.cons (.refl _ (b0l _)) (.nil))
   simp only [go_sem, s1, s2, b0a v2]
   refine d5f (f := b0k) (l := out_2) (a := y9) (raw := [.rs h.nx 0 (List.length y9)]) ?_ ?_ ?_ h_l10 ?_
   ·exact (b2e q1i (by intro j hj hl; first | rfl | simp only [go_sem, hl]) (by first | omega | exact Nat.le_refl _ | (simp only [go_sem, nxs] <;> omega)))
   ·exact (by simp only [go_sem, b0v q1i, List.length_append, List.map_append])
   ·exact (by first | exact b1k | exact b1l (by first | omega | (simp only [nxs] <;> omega)) | assumption | exact b1g (by assumption) (by first | omega | (simp only [go_sem, nxs] <;> omega)))
   simp only [go_sem, s1, s2, b0a v2]
   refine hK _ _ ?_
   clear hK K
   refine d3j ?_
   refine g4b (id := (nxs (nxs h.nx))) (sz := 1) (f := b0k) (l := out_2) (a := y9) (raw := [.rs h.nx 0 (List.length y9)]) (fun j => j == h.nx) (by simp only [go_sem, b0v q1i, List.length_append, List.map_append]) (by first | (simp; done) | (simp [nxs] <;> omega)) (.cons (b42 (f := eI) (l := y9) (id := h.nx) (by rw [b6k (by simp)]; simp only [go_sem, b0v q1i, List.length_append, List.map_append]) (by first | rfl | simp only [go_sem, List.length_append, List.map_append]) b2b b38) (.nil)) b2v c5p ?_
   rw [← (c0x h_l10).2]
   simp only [b0z, b0i, b0j]
   refine hK6 _ _ ?_
   refine b1i fun K hK => ?_
   simp only [go_sem, s7, Bool.or_eq_false_iff, beq_eq_false_iff_ne, ne_eq, not_false_eq_true, and_self, b0a v2]
   refine hK _ _ ?_
   clear hK K
   simp only [b0i, b0j]
   obtain rfl := Option.some.inj hm1
   refine ⟨_, rfl, ?_⟩
   exact ⟨(.rs (nxs (nxs h.nx)) 0 (List.length l10)), s1, (by first | (simp only [go_sem, s2, List.length_append, List.map_append]; done) | rfl), s6, (by first | (simp only [go_sem, s7, List.length_append, List.map_append]; done) | rfl), (b3c (by simp only [go_sem, Bool.or_eq_false_iff, beq_eq_false_iff_ne, ne_eq, not_false_eq_true, and_self, b0v q1i, List.length_append, List.map_append]) (by first | rfl | simp only [go_sem, List.length_append, List.map_append]) (by simp only [go_sem]))⟩
  ·rw [b01 hc5] at hm1
   simp only [b1t, b1w, b1v, b1u, b0i, b0j, Nat.reduceEqDiff, not_false_eq_true]
   obtain rfl := Option.some.inj hm1
   obtain rfl := hb3 _ rfl
   try dsimp only at hm0
   exact J2 out_2 v2 _ _ s2 q1i hm0
theorem d0f (hf : Has O "newel/halls.open" x_halls_open) (b6g : b8v O) : c65 O := by
 intro h_ h0 r hm0
 unfold b6y at hm0
 refine d5c hf rfl ?_
 refine b2h (fun t h => t 0 = .agg [.fs 5 (List.map b0p h_.Combs), .fs 3 (List.map b0o h_.Trains), .fs 3 (List.map b0q h_.Shifts), I h_.Until] ∧ (∀ j, j < h0.nx → h.ob j = h0.ob j) ∧ h0.nx ≤ h.nx) ⟨rfl, fun _ _ => rfl, Nat.le_refl _⟩ fun t h ⟨s0, fr, fx⟩ => ?_
 simp only [x_halls_open]
 refine b0d fun K hK => ?_
 simp only [go_sem, s0]
 refine hK _ _ ?_
 clear hK K
 refine b03 ?_
 refine b0d fun K hK => ?_
 simp only [go_sem]
 refine hK _ _ ?_
 clear hK K
 refine b0r fun K1 hK1 => ?_
 have J2 : ∀ (out_2 : List (List Int)) (v2 : AV) (hs2 : List AV) (t : Slots) (h : Heap), t 2 = v2 → RR h v2 hs2 1 eI out_2 → (∀ j, j < h0.nx → h.ob j = h0.ob j) → h0.nx ≤ h.nx → (∀ j, ¬b0f v2 hs2 j → h0.nx ≤ j) → b76 out_2 = some r → K1 t h := by
  intro out_2 v2 hs2 t h s2 q1b fr fx q1m hm0
  refine hK1 _ _ ?_
  unfold b76 at hm0
  refine b0d fun K hK => ?_
  simp only [go_sem, s2, b2c q1b, b0a v2]
  refine hK _ _ ?_
  clear hK K
  simp only [b1a, b1c, b1b, b1d]
  obtain rfl := Option.some.inj hm0
  exact d80 (Post := fun v h => ∃ hs, RR h v hs 1 eI out_2 ∧ (∀ j, j < h0.nx → h.ob j = h0.ob j) ∧ h0.nx ≤ h.nx ∧ ∀ j, ¬b0f v hs j → h0.nx ≤ j) (v := v2) (by simp only [go_sem, s2, b1h q1b, List.length_append, List.map_append]) ⟨hs2, q1b, fr, fx, q1m⟩
 simp only [b00]
 obtain ⟨b3, hl3, hm0⟩ := b0h hm0
 refine b1x hl3 (fun | (out_2, x_7), t, h => ∃ v2 : AV, ∃ hs2 : List AV, t 1 = .fp [.fs 5 (List.map b0p h_.Combs), .fs 3 (List.map b0o h_.Trains), .fs 3 (List.map b0q h_.Shifts), I h_.Until] 0 ∧ t 2 = v2 ∧ t 6 = I (List.length h_.Combs : Int) ∧ t 7 = I x_7 ∧ RR h v2 hs2 1 eI out_2 ∧ (∀ j, j < h0.nx → h.ob j = h0.ob j) ∧ h0.nx ≤ h.nx ∧ (∀ j, ¬b0f v2 hs2 j → h0.nx ≤ j)) ?_ ?_
 ·exact ⟨nilS, [], (by first | (simp only [go_sem, List.length_append, List.map_append]; done) | rfl), (by first | (simp only [go_sem, List.length_append, List.map_append]; done) | rfl), (by first | (simp only [go_sem, List.length_append, List.map_append]; done) | rfl), (by first | (simp only [go_sem, List.length_append, List.map_append]; done) | rfl), c2y, fr, fx, (fun _ hj => absurd c6c hj)⟩
 ·rintro ⟨out_2, x_7⟩ o t h ⟨v2, hs2, s1, s2, s6, s7, q1b, fr, fx, q1m⟩ hm1 hb3
  simp only [c1v] at hm1
  rw [d18]
  refine b0d fun K hK => ?_
  simp only [go_sem, s6, s7, b0a v2]
  refine hK _ _ ?_
  clear hK K
  refine b0r fun K4 hK4 => ?_
  simp only [go_sem]
  refine b0u (fun hc5 => ?_) (fun hc5 => ?_)
  ·rw [b02 hc5] at hm1
   simp only [b0z, b0i, b0j]
   refine hK4 _ _ ?_
   refine b0r fun K6 hK6 => ?_
   simp only [b00]
   refine b0d fun K hK => ?_
   simp only [go_sem, s7, b0a v2]
   refine hK _ _ ?_
   clear hK K
   obtain ⟨y9, h_y9, hm1⟩ := b0h hm1
   obtain ⟨l10, h_l10, hm1⟩ := b0h hm1
   refine b2d (fun t h => ∃ v2_1 : AV, ∃ hs2_1 : List AV, t 1 = .fp [.fs 5 (List.map b0p h_.Combs), .fs 3 (List.map b0o h_.Trains), .fs 3 (List.map b0q h_.Shifts), I h_.Until] 0 ∧ t 2 = v2_1 ∧ t 6 = I (List.length h_.Combs : Int) ∧ t 7 = I x_7 ∧ RR h v2_1 hs2_1 1 eI l10 ∧ (∀ j, j < h0.nx → h.ob j = h0.ob j) ∧ h0.nx ≤ h.nx ∧ (∀ j, ¬b0f v2_1 hs2_1 j → h0.nx ≤ j)) (fun K hK => ?_) ?_
   ·simp only [go_sem, s1, s2, b2c q1b, b0a v2]
    refine c5a (e := eI) (l := y9) ?_ (b6g h_ x_7 _ h_y9) ?_
    ·exact .cons (.refl _ (.agg _ (b0e (b0s fun a _ => b2m a) (b0e (b0s fun a _ => b2l a) (b0e (b0s fun a _ => b2o a) (b0e (b0l _) b0y)))))) (.cons (.refl _ (b0l _)) (.nil))
    simp only [go_sem, s1, s2, b2c q1b, b0a v2]
    refine c11 (f := eI) (sz := 1) (rows := out_2) (hs := hs2) (u := .rs h.nx 0 (List.length y9)) ?_ ?_ ?_ h_l10 ?_
    ·exact (b2f q1b (by intro j hj  hl; first | rfl | simp only [go_sem, hl]) (by first | omega | exact Nat.le_refl _ | (simp only [go_sem, nxs] <;> omega)))
    ·exact (by simp only [go_sem, b1h q1b, List.length_append, List.map_append])
    ·exact (b2r q1b (by first | assumption | omega | (simp only [nxs] <;> omega)))
    simp only [go_sem, s1, s2, b2c q1b, b0a v2]
    exact hK _ _ ⟨(.rs (nxs (nxs h.nx)) 0 (List.length l10)), (hs2 ++ [.rs h.nx 0 (List.length y9)]), s1, (by first | (simp only [go_sem, s2, List.length_append, List.map_append]; done) | rfl), s6, s7, (c2x (h := h) q1b h_l10 (by simp only [go_sem, b1h q1b, List.length_append, List.map_append]) rfl (by simp only [go_sem]) (b3c (by simp only [go_sem, b1h q1b, List.length_append, List.map_append]) (by simp only [go_sem, b1h q1b, List.length_append, List.map_append]) (by simp only [go_sem])) (b58 (by first | assumption | exact b2r q1b (by first | omega | (simp only [nxs] <;> omega)))) (by first | omega | exact Nat.le_refl _ | (simp only [go_sem, nxs] <;> omega)) (by first | exact b1k | exact b1l (by first | assumption | omega | (simp only [nxs] <;> omega))) (by intro j hj h2 hl; first | rfl | simp only [go_sem, h2, hl]) (by first | omega | exact Nat.le_refl _ | (simp only [go_sem, nxs] <;> omega))), (by intro j hj; first | exact fr j hj | (refine Eq.trans ?_ (fr j hj); first | rfl | simp only [go_sem, Nat.lt_of_lt_of_le hj fx, b08 (g5t q1m hj)])), (by first | exact fx | omega | (simp only [go_sem, nxs] <;> omega)), (g5s q1m (by first | assumption | omega | (simp only [nxs] <;> omega)) (c4i (by first | assumption | omega | (simp only [nxs] <;> omega))))⟩
   ·rintro t h ⟨v2_1, hs2_1, s1, s2, s6, s7, q1b, fr, fx, q1m⟩
    refine d3j ?_
    refine g4a ?_
    simp only [b0z, b0i, b0j]
    refine hK6 _ _ ?_
    refine b1i fun K hK => ?_
    simp only [go_sem, s7, b0a v2, b0a v2_1]
    refine hK _ _ ?_
    clear hK K
    simp only [b0i, b0j]
    obtain rfl := Option.some.inj hm1
    refine ⟨_, rfl, ?_⟩
    exact ⟨v2_1, hs2_1, s1, s2, s6, (by first | (simp only [go_sem, s7, List.length_append, List.map_append]; done) | rfl), (b2f q1b (by intro j hj  hl; first | rfl | simp only [go_sem, hl]) (by first | omega | exact Nat.le_refl _ | (simp only [go_sem, nxs] <;> omega))), (by intro j hj; first | exact fr j hj | (refine Eq.trans ?_ (fr j hj); first | rfl | simp only [go_sem, Nat.lt_of_lt_of_le hj fx])), (by first | exact fx | omega | (simp only [go_sem, nxs] <;> omega)), q1m⟩
  ·rw [b01 hc5] at hm1
   simp only [b1t, b1w, b1v, b1u, b0i, b0j, Nat.reduceEqDiff, not_false_eq_true]
   obtain rfl := Option.some.inj hm1
   obtain rfl := hb3 _ rfl
   try dsimp only at hm0
   exact J2 out_2 v2 hs2 _ _ s2 q1b fr fx q1m hm0
theorem c18 (hf : Has O "newel/halls.over" x_halls_over) (c2c : c3p O) (d0g : c66 O) : c3k O := by
 intro h_ all r hm0
 unfold b9m at hm0
 refine b2k hf rfl (b0e (.agg _ (b0e (b0s fun a _ => b2m a) (b0e (b0s fun a _ => b2l a) (b0e (b0s fun a _ => b2o a) (b0e (b0l _) b0y))))) (b0e (b0s fun a _ => c1b a) b0y)) (b0s fun a _ => c4g a) ?_
 refine b2h (fun t h => t 0 = .agg [.fs 5 (List.map b0p h_.Combs), .fs 3 (List.map b0o h_.Trains), .fs 3 (List.map b0q h_.Shifts), I h_.Until] ∧ t 1 = .fs 1 (List.map b11 all)) ⟨rfl, rfl⟩ fun t h ⟨s0, s1⟩ => ?_
 simp only [x_halls_over]
 refine b0d fun K hK => ?_
 simp only [go_sem, s0]
 refine hK _ _ ?_
 clear hK K
 refine b03 ?_
 refine b0d fun K hK => ?_
 simp only [go_sem, s1]
 refine hK _ _ ?_
 clear hK K
 refine b0r fun K1 hK1 => ?_
 have J2 : ∀ (out_4 : List (Int × Int)) (v4 : AV) (t : Slots) (h : Heap), t 4 = v4 → b09 h v4 2 (List.map b5h out_4) → c1w out_4 = some r → K1 t h := by
  intro out_4 v4 t h s4 q1f hm0
  refine hK1 _ _ ?_
  unfold c1w at hm0
  refine b0d fun K hK => ?_
  simp only [go_sem, s4, b0a v4]
  refine hK _ _ ?_
  clear hK K
  simp only [b1a, b1c, b1b, b1d]
  obtain rfl := Option.some.inj hm0
  exact c72 (v := v4) (by simp only [go_sem, s4, b0v q1f, List.length_append, List.map_append]) (b7s (f := b5h) (l := out_4) (b2e q1f (by intro j hj hl; first | rfl | simp only [go_sem, hl]) (by first | omega | exact Nat.le_refl _ | (simp only [go_sem, nxs] <;> omega))) c4g g98)
 simp only [b00]
 obtain ⟨b3, hl3, hm0⟩ := b0h hm0
 refine b1x hl3 (fun | (out_4, x_10), t, h => ∃ v4 : AV, t 2 = .fp [.fs 5 (List.map b0p h_.Combs), .fs 3 (List.map b0o h_.Trains), .fs 3 (List.map b0q h_.Shifts), I h_.Until] 0 ∧ t 4 = v4 ∧ t 8 = .fs 1 (List.map b11 all) ∧ t 9 = I (List.length all : Int) ∧ t 10 = I x_10 ∧ b09 h v4 2 (List.map b5h out_4)) ?_ ?_
 ·exact ⟨(.v (.slice none 0 0)), (by first | (simp only [go_sem, List.length_append, List.map_append]; done) | rfl), (by first | (simp only [go_sem, List.length_append, List.map_append]; done) | rfl), (by first | (simp only [go_sem, List.length_append, List.map_append]; done) | rfl), (by first | (simp only [go_sem, List.length_append, List.map_append]; done) | rfl), (by first | (simp only [go_sem, List.length_append, List.map_append]; done) | rfl), b65⟩
 ·rintro ⟨out_4, x_10⟩ o t h ⟨v4, s2, s4, s8, s9, s10, q1f⟩ hm1 hb3
  simp only [c45] at hm1
  rw [g0c]
  refine b0d fun K hK => ?_
  simp only [go_sem, s9, s10, b0a v4]
  refine hK _ _ ?_
  clear hK K
  refine b0r fun K4 hK4 => ?_
  simp only [go_sem]
  refine b0u (fun hc5 => ?_) (fun hc5 => ?_)
  ·rw [b02 hc5] at hm1
   simp only [b0z, b0i, b0j]
   refine hK4 _ _ ?_
   refine b0r fun K6 hK6 => ?_
   have J7 : ∀ (out_4_1 : List (Int × Int)) (v4_1 : AV) (t : Slots) (h : Heap), t 2 = .fp [.fs 5 (List.map b0p h_.Combs), .fs 3 (List.map b0o h_.Trains), .fs 3 (List.map b0q h_.Shifts), I h_.Until] 0 → t 4 = v4_1 → t 8 = .fs 1 (List.map b11 all) → t 9 = I (List.length all : Int) → t 10 = I x_10 → b09 h v4_1 2 (List.map b5h out_4_1) → b9o x_10 out_4_1 = some o → K6 t h := by
    intro out_4_1 v4_1 t h s2 s4 s8 s9 s10 q1f hm1
    refine hK6 _ _ ?_
    unfold b9o at hm1
    refine b1i fun K hK => ?_
    simp only [go_sem, s10, b0a v4, b0a v4_1]
    refine hK _ _ ?_
    clear hK K
    simp only [b0i, b0j]
    obtain rfl := Option.some.inj hm1
    refine ⟨_, rfl, ?_⟩
    exact ⟨v4_1, s2, s4, s8, s9, (by first | (simp only [go_sem, s10, List.length_append, List.map_append]; done) | rfl), q1f⟩
   simp only [b00]
   obtain ⟨x9, h_x9, hm1⟩ := b0h hm1
   have h_x90 := b0w h_x9
   have h_x91 := b0x h_x9
   refine b0d fun K hK => ?_
   simp only [go_sem, s8, s10, b0m h_x9, b0n h_x9, h_x90, h_x91, b0a v4]
   refine hK _ _ ?_
   clear hK K
   obtain ⟨y13, h_y13, hm1⟩ := b0h hm1
   refine b0d fun K hK => ?_
   simp only [go_sem, s2, b0a v4]
   refine c9u ?_ (c2c x9.most "newel/halls.over$1" [] [.fp [.fs 5 (List.map b0p h_.Combs), .fs 3 (List.map b0o h_.Trains), .fs 3 (List.map b0q h_.Shifts), I h_.Until] 0, .fp [I x_10] 0] (fun z12 => b9n z12 h_ x_10) (.fn _ _ _ b0y (b0e (.fp _ _ (b0e (b0s fun a _ => b2m a) (b0e (b0s fun a _ => b2l a) (b0e (b0s fun a _ => b2o a) (b0e (b0l _) b0y))))) (b0e (.fp _ _ (b0e (b0l _) b0y)) b0y))) (fun z0 y hz => d0g z0 h_ x_10 y hz) _ h_y13) (.v _) ?_
   ·exact .cons (.refl _ (b0s fun a _ => b2b a)) (.cons (d3t (.nil) (.cons (.refl _ (.fp _ _ (b0e (b0s fun a _ => b2m a) (b0e (b0s fun a _ => b2l a) (b0e (b0s fun a _ => b2o a) (b0e (b0l _) b0y)))))) (.cons (c4h (id := h.nx) (sz := 1) (xs := [I x_10]) (by simp only [go_sem, b0v q1f]) (.cons (.refl _ (b0l _)) (.nil))) (.nil)))) (.nil))
   simp only [go_sem, s2, b0a v4]
   refine hK _ _ ?_
   clear hK K
   refine b0d fun K hK => ?_
   simp only [go_sem, b0a v4]
   refine hK _ _ ?_
   clear hK K
   simp only [go_sem]
   refine b0u (fun hc14 => ?_) (fun hc14 => ?_)
   ·rw [b02 hc14] at hm1
    obtain ⟨l16, h_l16, hm1⟩ := b0h hm1
    refine b1i fun K hK => ?_
    simp only [go_sem, s4, b0a v4]
    refine b5l (f := b5h) (l := out_4) (m := ([(x_10, y13)])) ?_ ?_ ?_ ?_ h_l16 ?_
    ·exact (b2e q1f (by intro j hj hl; first | rfl | simp only [go_sem, hl]) (by first | omega | exact Nat.le_refl _ | (simp only [go_sem, nxs] <;> omega)))
    ·exact (b5n (by simp only [go_sem, b0v q1f, List.length_append, List.map_append]) (by simp only [go_sem, b0v q1f, List.length_append, List.map_append]))
    ·exact (b3h (by first | exact b1k | exact b1l (by first | omega | (simp only [nxs] <;> omega)) | assumption | exact b1g (by assumption) (by first | omega | (simp only [go_sem, nxs] <;> omega))))
    ·exact (fun _ => by simp)
    simp only [go_sem, s4, b0a v4]
    refine hK _ _ ?_
    clear hK K
    simp only [b0i, b0j]
    exact J7 l16 (.rs (nxs (nxs h.nx)) 0 (List.length l16)) _ _ s2 (by first | (simp only [go_sem, s4, List.length_append, List.map_append]; done) | rfl) s8 s9 s10 (b3c (by simp only [go_sem, b0v q1f, List.length_append, List.map_append]) (by first | rfl | simp only [go_sem, List.length_append, List.map_append]) (by simp only [go_sem])) hm1
   ·rw [b01 hc14] at hm1
    simp only [b0z, b0i, b0j]
    exact J7 out_4 v4 _ _ s2 s4 s8 s9 s10 (b2e q1f (by intro j hj hl; first | rfl | simp only [go_sem, hl]) (by first | omega | exact Nat.le_refl _ | (simp only [go_sem, nxs] <;> omega))) hm1
  ·rw [b01 hc5] at hm1
   simp only [b1t, b1w, b1v, b1u, b0i, b0j, Nat.reduceEqDiff, not_false_eq_true]
   obtain rfl := Option.some.inj hm1
   obtain rfl := hb3 _ rfl
   try dsimp only at hm0
   exact J2 out_4 v4 _ _ s4 q1f hm0
theorem b6g (hf : Has O "newel/halls.rates" x_halls_rates) : b8v O := by
 intro h_ comb r hm0
 unfold b6c at hm0
 refine g43 hf rfl (b0e (.agg _ (b0e (b0s fun a _ => b2m a) (b0e (b0s fun a _ => b2l a) (b0e (b0s fun a _ => b2o a) (b0e (b0l _) b0y))))) (b0e (b0l _) b0y)) (by first | exact d8s | exact d8r) ?_
 refine b2h (fun t h => t 0 = .agg [.fs 5 (List.map b0p h_.Combs), .fs 3 (List.map b0o h_.Trains), .fs 3 (List.map b0q h_.Shifts), I h_.Until] ∧ t 1 = I comb) ⟨rfl, rfl⟩ fun t h ⟨s0, s1⟩ => ?_
 simp only [x_halls_rates]
 refine b0d fun K hK => ?_
 simp only [go_sem, s0]
 refine hK _ _ ?_
 clear hK K
 obtain ⟨l2, h_l2, hm0⟩ := b0h hm0
 refine b0d fun K hK => ?_
 simp only [go_sem]
 refine b6e (f := eI) (z := 0) rfl h_l2 ?_
 simp only [go_sem]
 refine hK _ _ ?_
 clear hK K
 obtain ⟨x4, h_x4, hm0⟩ := b0h hm0
 have h_x40 := b0w h_x4
 have h_x41 := b0x h_x4
 refine b0d fun K hK => ?_
 simp only [go_sem, s1, b0m h_x4, b0n h_x4, h_x40, h_x41]
 refine hK _ _ ?_
 clear hK K
 refine b03 ?_
 refine b0d fun K hK => ?_
 simp only [go_sem]
 refine hK _ _ ?_
 clear hK K
 refine b0r fun K5 hK5 => ?_
 have J6 : ∀ (out_5 : List Int) (i5 : Nat) (t : Slots) (h : Heap), t 5 = .rs i5 0 (List.length out_5) → h.ob i5 = some (1, List.map eI out_5) → i5 < h.nx → c1x out_5 = some r → K5 t h := by
  intro out_5 i5 t h s5 q16 qz hm0
  refine hK5 _ _ ?_
  unfold c1x at hm0
  refine b0d fun K hK => ?_
  simp only [go_sem, s5, q16, qz]
  refine hK _ _ ?_
  clear hK K
  simp only [b1a, b1c, b1b, b1d]
  obtain rfl := Option.some.inj hm0
  exact g4l (id := i5) (by simp only [go_sem, List.length_append, List.map_append]) (by simp only [go_sem, q16, qz, List.length_append, List.map_append]) (by first | exact d8s | exact d8r)
 simp only [b00]
 obtain ⟨b7, hl7, hm0⟩ := b0h hm0
 refine b1x hl7 (fun | (out_5, now_6, at_7, x_20), t, h => ∃ i5 : Nat, t 1 = I comb ∧ t 2 = .fp [.fs 5 (List.map b0p h_.Combs), .fs 3 (List.map b0o h_.Trains), .fs 3 (List.map b0q h_.Shifts), I h_.Until] 0 ∧ t 5 = .rs i5 0 (List.length out_5) ∧ t 6 = I now_6 ∧ t 7 = I at_7 ∧ t 19 = I ((List.length l2 : Nat) : Int) ∧ t 20 = I x_20 ∧ h.ob i5 = some (1, List.map eI out_5) ∧ i5 < h.nx) ?_ ?_
 ·exact ⟨h.nx, s1, (by first | (simp only [go_sem, List.length_append, List.map_append]; done) | rfl), (by first | (simp only [go_sem, List.length_append, List.map_append]; done) | rfl), (by first | (simp only [go_sem, List.length_append, List.map_append]; done) | rfl), (by first | (simp only [go_sem, List.length_append, List.map_append]; done) | rfl), (by first | (simp only [go_sem, List.length_append, List.map_append]; done) | rfl), (by first | (simp only [go_sem, List.length_append, List.map_append]; done) | rfl), (by simp only [go_sem, List.length_append, List.map_append]), (by simp only [go_sem])⟩
 ·rintro ⟨out_5, now_6, at_7, x_20⟩ o t h ⟨i5, s1, s2, s5, s6, s7, s19, s20, q16, qz⟩ hm1 hb7
  simp only [b79] at hm1
  rw [g0e]
  refine b0d fun K hK => ?_
  simp only [go_sem, s19, s20, qz]
  refine hK _ _ ?_
  clear hK K
  refine b0r fun K8 hK8 => ?_
  simp only [go_sem]
  refine b0u (fun hc9 => ?_) (fun hc9 => ?_)
  ·rw [b02 hc9] at hm1
   simp only [b0z, b0i, b0j]
   refine hK8 _ _ ?_
   refine b0r fun K10 hK10 => ?_
   have J11 : ∀ (out_5_1 : List Int) (now_6_1 : Int) (at_7_1 : Int) (t : Slots) (h : Heap), t 1 = I comb → t 2 = .fp [.fs 5 (List.map b0p h_.Combs), .fs 3 (List.map b0o h_.Trains), .fs 3 (List.map b0q h_.Shifts), I h_.Until] 0 → t 5 = .rs i5 0 (List.length out_5_1) → t 6 = I now_6_1 → t 7 = I at_7_1 → t 19 = I ((List.length l2 : Nat) : Int) → t 20 = I x_20 → h.ob i5 = some (1, List.map eI out_5_1) → i5 < h.nx → b9p x_20 out_5_1 now_6_1 at_7_1 = some o → K10 t h := by
    try clear s1 s2 s5 s6 s7 s19 s20 q16 qz
    intro out_5_1 now_6_1 at_7_1 t h s1 s2 s5 s6 s7 s19 s20 q16 qz hm1
    refine hK10 _ _ ?_
    unfold b9p at hm1
    refine b1i fun K hK => ?_
    simp only [go_sem, s20, qz]
    refine hK _ _ ?_
    clear hK K
    simp only [b0i, b0j]
    obtain rfl := Option.some.inj hm1
    refine ⟨_, rfl, ?_⟩
    exact ⟨i5, s1, s2, (by first | exact s5 | simp only [go_sem, s5, List.length_append, List.map_append]), s6, s7, s19, (by first | (simp only [go_sem, s20, List.length_append, List.map_append]; done) | rfl), q16, qz⟩
   simp only [b00]
   refine b0d fun K hK => ?_
   simp only [go_sem, s20, qz]
   refine hK _ _ ?_
   clear hK K
   refine b0r fun K12 hK12 => ?_
   have J13 : ∀ (now_6_1 : Int) (at_7_1 : Int) (t : Slots) (h : Heap), t 1 = I comb → t 2 = .fp [.fs 5 (List.map b0p h_.Combs), .fs 3 (List.map b0o h_.Trains), .fs 3 (List.map b0q h_.Shifts), I h_.Until] 0 → t 5 = .rs i5 0 (List.length out_5) → t 6 = I now_6_1 → t 7 = I at_7_1 → t 8 = I x_20 → t 19 = I ((List.length l2 : Nat) : Int) → t 20 = I x_20 → h.ob i5 = some (1, List.map eI out_5) → i5 < h.nx → b9q out_5 x_20 now_6_1 at_7_1 = some o → K12 t h := by
    try clear s1 s2 s5 s6 s7 s19 s20 q16 qz
    intro now_6_1 at_7_1 t h s1 s2 s5 s6 s7 s8 s19 s20 q16 qz hm1
    refine hK12 _ _ ?_
    unfold b9q at hm1
    obtain ⟨x15, h_x15, hm1⟩ := b0h hm1
    have h_x150 := b0w h_x15
    have h_x151 := b0x h_x15
    refine b1i fun K hK => ?_
    simp only [go_sem, s5, s6, s8, q16, qz, b0m h_x15, b0n h_x15, h_x150, h_x151]
    refine hK _ _ ?_
    clear hK K
    simp only [b0i, b0j]
    exact J11 (List.set out_5 (Int.toNat x_20) now_6_1) now_6_1 at_7_1 _ _ s1 s2 (by first | exact s5 | simp only [go_sem, s5, List.length_append, List.map_append]) s6 s7 s19 s20 (by simp only [go_sem, q16, qz, List.length_append, List.map_append]) (by simp only [go_sem, qz]) hm1
   simp only [b00]
   obtain ⟨b16, hl16, hm1⟩ := b0h hm1
   refine b1x hl16 (fun | (now_6_1, at_7_1), t, h => t 1 = I comb ∧ t 2 = .fp [.fs 5 (List.map b0p h_.Combs), .fs 3 (List.map b0o h_.Trains), .fs 3 (List.map b0q h_.Shifts), I h_.Until] 0 ∧ t 5 = .rs i5 0 (List.length out_5) ∧ t 6 = I now_6_1 ∧ t 7 = I at_7_1 ∧ t 8 = I x_20 ∧ t 19 = I ((List.length l2 : Nat) : Int) ∧ t 20 = I x_20 ∧ h.ob i5 = some (1, List.map eI out_5) ∧ i5 < h.nx) ?_ ?_
   ·exact ⟨s1, s2, (by first | exact s5 | simp only [go_sem, s5, List.length_append, List.map_append]), s6, s7, (by first | (simp only [go_sem, List.length_append, List.map_append]; done) | rfl), s19, s20, q16, qz⟩
   ·try clear s1 s2 s5 s6 s7 s19 s20 q16 qz
    rintro ⟨now_6_1, at_7_1⟩ o t h ⟨s1, s2, s5, s6, s7, s8, s19, s20, q16, qz⟩ hm2 hb16
    simp only [b6z] at hm2
    rw [g0d]
    refine b03 ?_
    obtain ⟨c20, h_c20, hm2⟩ := b0h hm2
    refine b2d (fun t h => t 1 = I comb ∧ t 2 = .fp [.fs 5 (List.map b0p h_.Combs), .fs 3 (List.map b0o h_.Trains), .fs 3 (List.map b0q h_.Shifts), I h_.Until] 0 ∧ t 5 = .rs i5 0 (List.length out_5) ∧ t 6 = I now_6_1 ∧ t 7 = I at_7_1 ∧ t 8 = I x_20 ∧ t 19 = I ((List.length l2 : Nat) : Int) ∧ t 20 = I x_20 ∧ t 37 = B c20 ∧ h.ob i5 = some (1, List.map eI out_5) ∧ i5 < h.nx) (fun K hK => ?_) ?_
    ·simp only [go_sem, s2, s7, s8, qz]
     refine b0u (fun hg21 => ?_) (fun hg21 => ?_)
     ·simp only [hg21, Bool.not_true, Bool.not_false, eq_self, if_true, if_false, Bool.true_or, Bool.or_true, Bool.false_or, Bool.or_false, Bool.true_and, Bool.and_true, Bool.false_and, Bool.and_false, Bool.false_eq_true] at h_c20
      obtain ⟨x19, h_x19, h_c20⟩ := b0h h_c20
      have h_x190 := b0w h_x19
      have h_x191 := b0x h_x19
      obtain rfl := Option.some.inj h_c20
      simp only [go_sem, s2, s7, s8, qz, b0m h_x19, b0n h_x19, h_x190, h_x191, hg21]
      exact hK _ _ ⟨s1, s2, (by first | exact s5 | simp only [go_sem, s5, List.length_append, List.map_append]), s6, s7, s8, s19, s20, (by first | (simp only [go_sem, hg21, List.length_append, List.map_append]; done) | rfl), q16, qz⟩
     ·simp only [hg21, Bool.not_true, Bool.not_false, eq_self, if_true, if_false, Bool.true_or, Bool.or_true, Bool.false_or, Bool.or_false, Bool.true_and, Bool.and_true, Bool.false_and, Bool.and_false, Bool.false_eq_true] at h_c20
      obtain rfl := Option.some.inj h_c20
      simp only [go_sem, s2, s7, s8, qz, hg21]
      exact hK _ _ ⟨s1, s2, (by first | exact s5 | simp only [go_sem, s5, List.length_append, List.map_append]), s6, s7, s8, s19, s20, (by first | (simp only [go_sem, hg21, List.length_append, List.map_append]; done) | rfl), q16, qz⟩
    ·try clear s1 s2 s5 s6 s7 s8 s19 s20 q16 qz
     rintro t h ⟨s1, s2, s5, s6, s7, s8, s19, s20, s37, q16, qz⟩
     refine b0r fun K22 hK22 => ?_
     simp only [go_sem, s37]
     refine b0u (fun hc23 => ?_) (fun hc23 => ?_)
     ·rw [b02 hc23] at hm2
      simp only [b0z, b0i, b0j]
      refine hK22 _ _ ?_
      refine b0r fun K24 hK24 => ?_
      have J25 : ∀ (now_6_2 : Int) (t : Slots) (h : Heap), t 1 = I comb → t 2 = .fp [.fs 5 (List.map b0p h_.Combs), .fs 3 (List.map b0o h_.Trains), .fs 3 (List.map b0q h_.Shifts), I h_.Until] 0 → t 5 = .rs i5 0 (List.length out_5) → t 6 = I now_6_2 → t 7 = I at_7_1 → t 8 = I x_20 → t 19 = I ((List.length l2 : Nat) : Int) → t 20 = I x_20 → h.ob i5 = some (1, List.map eI out_5) → i5 < h.nx → b8a at_7_1 now_6_2 = some o → K24 t h := by
       try clear s1 s2 s5 s6 s7 s8 s19 s20 s37 q16 qz
       intro now_6_2 t h s1 s2 s5 s6 s7 s8 s19 s20 q16 qz hm2
       refine hK24 _ _ ?_
       unfold b8a at hm2
       refine b1i fun K hK => ?_
       simp only [go_sem, s7, qz]
       refine hK _ _ ?_
       clear hK K
       simp only [b0i, b0j]
       obtain rfl := Option.some.inj hm2
       refine ⟨_, rfl, ?_⟩
       exact ⟨s1, s2, (by first | exact s5 | simp only [go_sem, s5, List.length_append, List.map_append]), s6, (by first | (simp only [go_sem, s7, List.length_append, List.map_append]; done) | rfl), s8, s19, s20, q16, qz⟩
      simp only [b00]
      obtain ⟨x27, h_x27, hm2⟩ := b0h hm2
      have h_x270 := b0w h_x27
      have h_x271 := b0x h_x27
      refine b0d fun K hK => ?_
      simp only [go_sem, s1, s2, s7, qz, b0m h_x27, b0n h_x27, h_x270, h_x271]
      refine hK _ _ ?_
      clear hK K
      simp only [go_sem]
      refine b0u (fun hc28 => ?_) (fun hc28 => ?_)
      ·rw [b02 hc28] at hm2
       refine b1i fun K hK => ?_
       simp only [go_sem, s2, s7, qz, b0m h_x27, b0n h_x27, h_x270, h_x271]
       refine hK _ _ ?_
       clear hK K
       simp only [b0i, b0j]
       exact J25 x27.Rate _ _ s1 s2 (by first | exact s5 | simp only [go_sem, s5, List.length_append, List.map_append]) (by first | (simp only [go_sem, s6, List.length_append, List.map_append]; done) | rfl) s7 s8 s19 s20 q16 qz hm2
      ·rw [b01 hc28] at hm2
       simp only [b0z, b0i, b0j]
       exact J25 now_6_1 _ _ s1 s2 (by first | exact s5 | simp only [go_sem, s5, List.length_append, List.map_append]) s6 s7 s8 s19 s20 q16 qz hm2
     ·rw [b01 hc23] at hm2
      simp only [b1t, b1w, b1v, b1u, b0i, b0j, Nat.reduceEqDiff, not_false_eq_true]
      obtain rfl := Option.some.inj hm2
      obtain rfl := hb16 _ rfl
      try dsimp only at hm1
      exact J13 now_6_1 at_7_1 _ _ s1 s2 (by first | exact s5 | simp only [go_sem, s5, List.length_append, List.map_append]) s6 s7 s8 s19 s20 q16 qz hm1
  ·rw [b01 hc9] at hm1
   simp only [b1t, b1w, b1v, b1u, b0i, b0j, Nat.reduceEqDiff, not_false_eq_true]
   obtain rfl := Option.some.inj hm1
   obtain rfl := hb7 _ rfl
   try dsimp only at hm0
   exact J6 out_5 i5 _ _ (by first | exact s5 | simp only [go_sem, s5, List.length_append, List.map_append]) q16 qz hm0
theorem b8b (hf : Has O "newel/halls.span" x_halls_span) : c3l O := by
 intro s low high
 generalize hm0 : b4d s low high = r
 unfold b4d at hm0
 refine b2k hf rfl (b0e (.agg _ (b0e (b0l _) (b0e (b0l _) b0y))) (b0e (b0l _) (b0e (b0l _) b0y))) (b0l _) ?_
 refine b2h (fun t h => t 0 = .agg [I s.Low, I s.High] ∧ t 1 = I low ∧ t 2 = I high) ⟨rfl, rfl, rfl⟩ fun t h ⟨s0, s1, s2⟩ => ?_
 simp only [x_halls_span]
 refine b0d fun K hK => ?_
 simp only [go_sem, s0]
 refine hK _ _ ?_
 clear hK K
 refine b2d (fun t h => t 6 = B (((decide (low ≤ s.Low)) && (decide (s.Low ≤ s.High))) && (decide (s.High ≤ high)))) (fun K hK => ?_) ?_
 ·simp only [go_sem, s1, s2]
  refine b0u (fun hg1 => ?_) (fun hg1 => ?_)
  ·simp only [go_sem, s1, s2, hg1]
   refine b0u (fun hg2 => ?_) (fun hg2 => ?_)
   ·simp only [go_sem, s1, s2, hg1, hg2]
    exact hK _ _ (by first | (simp only [go_sem, hg1, hg2, List.length_append, List.map_append]; done) | rfl)
   ·simp only [go_sem, s1, s2, hg1, hg2]
    exact hK _ _ (by first | (simp only [go_sem, hg1, hg2, List.length_append, List.map_append]; done) | rfl)
  ·simp only [go_sem, s1, s2, hg1]
   exact hK _ _ (by first | (simp only [go_sem, hg1, List.length_append, List.map_append]; done) | rfl)
 ·rintro t h s6
  simp only [b1a, b1c, b1b, b1d]
  obtain rfl := hm0
  exact b1q (by simp only [go_sem, s6, List.length_append, List.map_append]) (b0l _)
theorem c5k (hf : Has O "newel/newellaw06.Example" x_l06_Example) : c67 O := by
 intro _
 generalize hm0 : l06_Example = r
 unfold l06_Example at hm0
 refine b2k hf rfl b0y (.agg _ (b0e (b0s fun a _ => b2m a) (b0e (b0s fun a _ => b2l a) (b0e (b0s fun a _ => b2o a) (b0e (b0l _) b0y))))) ?_
 refine b2h (fun t h => True) trivial fun t h _ => ?_
 simp only [x_l06_Example]
 refine b0d fun K hK => ?_
 simp only [go_sem]
 refine hK _ _ ?_
 clear hK K
 refine b0d fun K hK => ?_
 simp only [go_sem]
 refine hK _ _ ?_
 clear hK K
 simp only [b1a, b1c, b1b, b1d]
 obtain rfl := hm0
 exact g4h (id := h.nx) (m := 4) (cs := [.rs (nxs h.nx) 0 (2), .rs (nxs (nxs (nxs (nxs h.nx)))) 0 2, .v (.slice none 0 0), I 20]) (by simp only [go_sem, List.length_append, List.map_append]) (by simp only [go_sem, List.length_append, List.map_append]) rfl (g49 (.cons (b42 (f := b0p) (l := ([(Comb.mk 3 12 1 (Span.mk 2 3)), (Comb.mk 2 10 (-1) (Span.mk 1 1))])) (id := (nxs h.nx)) (by simp only [go_sem, List.length_append, List.map_append]) (by first | rfl | simp only [go_sem, List.length_append, List.map_append]) b2m g99) (.cons (g5a (id := (nxs (nxs (nxs (nxs h.nx))))) (sz := 3) (rows := [[I 2, I 4, .rs (nxs (nxs h.nx)) 0 (1)], [I 5, I 5, .rs (nxs (nxs (nxs h.nx))) 0 (2)]]) (by simp only [go_sem]) rfl (.cons (.cons (.refl _ (b0l _)) (.cons (.refl _ (b0l _)) (.cons (b42 (f := b2t) (l := ([(Crowd.mk 0 (Span.mk 6 10))])) (id := (nxs (nxs h.nx))) (by simp only [go_sem, List.length_append, List.map_append]) (by first | rfl | simp only [go_sem, List.length_append, List.map_append]) c1a d7x) (.nil)))) (.cons (.cons (.refl _ (b0l _)) (.cons (.refl _ (b0l _)) (.cons (b42 (f := b2t) (l := ([(Crowd.mk 0 (Span.mk 0 4)), (Crowd.mk 1 (Span.mk 3 3))])) (id := (nxs (nxs (nxs h.nx)))) (by simp only [go_sem, List.length_append, List.map_append]) (by first | rfl | simp only [go_sem, List.length_append, List.map_append]) c1a d7x) (.nil)))) (.nil))) (by intro d hd; obtain ⟨x, _, rfl⟩ := List.mem_map.1 hd; exact j0a x)) (.cons (.nil _) (.cons (.refl _ (b0l _)) (.nil))))))
theorem d0h (hf : Has O "newel/newellaw06.Far" x_l06_Far) : c68 O := by
 intro h_ r hm0
 unfold b8d at hm0
 refine b2k hf rfl (b0e (.agg _ (b0e (b0s fun a _ => b2m a) (b0e (b0s fun a _ => b2l a) (b0e (b0s fun a _ => b2o a) (b0e (b0l _) b0y))))) b0y) (b0l _) ?_
 refine b2h (fun t h => t 0 = .agg [.fs 5 (List.map b0p h_.Combs), .fs 3 (List.map b0o h_.Trains), .fs 3 (List.map b0q h_.Shifts), I h_.Until]) rfl fun t h s0 => ?_
 simp only [x_l06_Far]
 refine b0d fun K hK => ?_
 simp only [go_sem, s0]
 refine hK _ _ ?_
 clear hK K
 refine b03 ?_
 refine b2d (fun t h => t 1 = .fp [.fs 5 (List.map b0p h_.Combs), .fs 3 (List.map b0o h_.Trains), .fs 3 (List.map b0q h_.Shifts), I h_.Until] 0 ∧ t 29 = B ((((decide (12 < (List.length h_.Combs : Int))) || (decide (20 < (List.length h_.Trains : Int)))) || (decide (40 < (List.length h_.Shifts : Int)))) || ((decide (40 < h_.Until)) && (decide (h_.Until ≤ 100))))) (fun K hK => ?_) ?_
 ·simp only [go_sem]
  refine b0u (fun hg1 => ?_) (fun hg1 => ?_)
  ·simp only [go_sem, hg1]
   exact hK _ _ ⟨(by first | (simp only [go_sem, hg1, List.length_append, List.map_append]; done) | rfl), (by first | (simp only [go_sem, hg1, List.length_append, List.map_append]; done) | rfl)⟩
  ·simp only [go_sem, hg1]
   refine b0u (fun hg2 => ?_) (fun hg2 => ?_)
   ·simp only [go_sem, hg1, hg2]
    exact hK _ _ ⟨(by first | (simp only [go_sem, hg1, hg2, List.length_append, List.map_append]; done) | rfl), (by first | (simp only [go_sem, hg1, hg2, List.length_append, List.map_append]; done) | rfl)⟩
   ·simp only [go_sem, hg1, hg2]
    refine b0u (fun hg3 => ?_) (fun hg3 => ?_)
    ·simp only [go_sem, hg1, hg2, hg3]
     exact hK _ _ ⟨(by first | (simp only [go_sem, hg1, hg2, hg3, List.length_append, List.map_append]; done) | rfl), (by first | (simp only [go_sem, hg1, hg2, hg3, List.length_append, List.map_append]; done) | rfl)⟩
    ·simp only [go_sem, hg1, hg2, hg3]
     refine b0u (fun hg4 => ?_) (fun hg4 => ?_)
     ·simp only [go_sem, hg1, hg2, hg3, hg4]
      exact hK _ _ ⟨(by first | (simp only [go_sem, hg1, hg2, hg3, hg4, List.length_append, List.map_append]; done) | rfl), (by first | (simp only [go_sem, hg1, hg2, hg3, hg4, List.length_append, List.map_append]; done) | rfl)⟩
     ·simp only [go_sem, hg1, hg2, hg3, hg4]
      exact hK _ _ ⟨(by first | (simp only [go_sem, hg1, hg2, hg3, hg4, List.length_append, List.map_append]; done) | rfl), (by first | (simp only [go_sem, hg1, hg2, hg3, hg4, List.length_append, List.map_append]; done) | rfl)⟩
 ·rintro t h ⟨s1, s29⟩
  refine b0r fun K5 hK5 => ?_
  simp only [go_sem, s29]
  refine b0u (fun hc6 => ?_) (fun hc6 => ?_)
  ·rw [b02 hc6] at hm0
   refine b0d fun K hK => ?_
   simp only [go_sem]
   refine hK _ _ ?_
   clear hK K
   simp only [b1a, b1c, b1b, b1d]
   obtain rfl := Option.some.inj hm0
   exact b1q (by simp only [go_sem, List.length_append, List.map_append]) (b0l _)
  ·rw [b01 hc6] at hm0
   simp only [b0z, b0i, b0j]
   refine hK5 _ _ ?_
   refine b03 ?_
   refine b0d fun K hK => ?_
   simp only [go_sem]
   refine hK _ _ ?_
   clear hK K
   refine b0r fun K7 hK7 => ?_
   have J8 : ∀ (t : Slots) (h : Heap), d0r = some r → K7 t h := by
    intro t h hm0
    refine hK7 _ _ ?_
    unfold d0r at hm0
    refine b0d fun K hK => ?_
    simp only [go_sem]
    refine hK _ _ ?_
    clear hK K
    simp only [b1a, b1c, b1b, b1d]
    obtain rfl := Option.some.inj hm0
    exact b1q (by simp only [go_sem, List.length_append, List.map_append]) (b0l _)
   simp only [b00]
   obtain ⟨b9, hl9, hm0⟩ := b0h hm0
   refine b1x hl9 (fun | i_3, t, h => t 1 = .fp [.fs 5 (List.map b0p h_.Combs), .fs 3 (List.map b0o h_.Trains), .fs 3 (List.map b0q h_.Shifts), I h_.Until] 0 ∧ t 3 = I i_3) ?_ ?_
   ·exact ⟨s1, (by first | (simp only [go_sem, List.length_append, List.map_append]; done) | rfl)⟩
   ·rintro i_3 o t h ⟨s1, s3⟩ hm1 hb9
    simp only [b9x] at hm1
    rw [g0f]
    refine b03 ?_
    refine b0d fun K hK => ?_
    simp only [go_sem, s1, s3]
    refine hK _ _ ?_
    clear hK K
    refine b0r fun K10 hK10 => ?_
    simp only [go_sem]
    refine b0u (fun hc11 => ?_) (fun hc11 => ?_)
    ·rw [b02 hc11] at hm1
     simp only [b0z, b0i, b0j]
     refine hK10 _ _ ?_
     refine b0r fun K12 hK12 => ?_
     simp only [b00]
     obtain ⟨x14, h_x14, hm1⟩ := b0h hm1
     have h_x140 := b0w h_x14
     have h_x141 := b0x h_x14
     refine b0d fun K hK => ?_
     simp only [go_sem, s1, s3, b0m h_x14, b0n h_x14, h_x140, h_x141]
     refine hK _ _ ?_
     clear hK K
     simp only [go_sem]
     refine b0u (fun hc15 => ?_) (fun hc15 => ?_)
     ·rw [b02 hc15] at hm1
      refine b0d fun K hK => ?_
      simp only [go_sem]
      refine hK _ _ ?_
      clear hK K
      simp only [b1a, b1c, b1b, b1d]
      obtain rfl := Option.some.inj hm1
      obtain rfl := hb9 _ rfl
      try dsimp only at hm0
      obtain rfl := Option.some.inj hm0
      exact b1q (by simp only [go_sem, List.length_append, List.map_append]) (b0l _)
     ·rw [b01 hc15] at hm1
      simp only [b0z, b0i, b0j]
      refine hK12 _ _ ?_
      refine b1i fun K hK => ?_
      simp only [go_sem, s3]
      refine hK _ _ ?_
      clear hK K
      simp only [b0i, b0j]
      obtain rfl := Option.some.inj hm1
      refine ⟨_, rfl, ?_⟩
      exact ⟨s1, (by first | (simp only [go_sem, s3, List.length_append, List.map_append]; done) | rfl)⟩
    ·rw [b01 hc11] at hm1
     simp only [b1t, b1w, b1v, b1u, b0i, b0j, Nat.reduceEqDiff, not_false_eq_true]
     obtain rfl := Option.some.inj hm1
     obtain rfl := hb9 _ rfl
     try dsimp only at hm0
     exact J8  _ _  hm0
theorem g9y (hf : Has O "newel/newellaw06.HallsPlays" x_l06_HallsPlays) (d0h : c68 O) (d0i : c69 O) (c5l : c7b O) (c96 : c6w O) (d0m : c7e O) (c95 : c6v O) (d0l : c7d O) (b6f : b8t O) (b8c : c0m O) (c19 : c3m O) (d0j : c7a O) : d19 O := by
 intro h_ d comb r hm0
 unfold b9y at hm0
 refine b2k hf rfl (b0e (.agg _ (b0e (b0s fun a _ => b2m a) (b0e (b0s fun a _ => b2l a) (b0e (b0s fun a _ => b2o a) (b0e (b0l _) b0y))))) (b0e (.agg _ (b0e (b0s fun a _ => b2b a) (b0e (b0s fun a _ => b2v a) (b0e (b0s fun a _ => b2v a) b0y)))) (b0e (b0l _) b0y))) (b0l _) ?_
 refine b2h (fun t h => t 0 = .agg [.fs 5 (List.map b0p h_.Combs), .fs 3 (List.map b0o h_.Trains), .fs 3 (List.map b0q h_.Shifts), I h_.Until] ∧ t 1 = .agg [.fs 1 (List.map eI d.At), .fs 1 (List.map b0k d.People), .fs 1 (List.map b0k d.Walks)] ∧ t 2 = I comb) ⟨rfl, rfl, rfl⟩ fun t h ⟨s0, s1, s2⟩ => ?_
 simp only [x_l06_HallsPlays]
 refine b0d fun K hK => ?_
 simp only [go_sem, s0, s1]
 refine hK _ _ ?_
 clear hK K
 refine b03 ?_
 obtain ⟨y4, h_y4, hm0⟩ := b0h hm0
 obtain ⟨c6, h_c6, hm0⟩ := b0h hm0
 refine b2d (fun t h => t 2 = I comb ∧ t 3 = .fp [.fs 5 (List.map b0p h_.Combs), .fs 3 (List.map b0o h_.Trains), .fs 3 (List.map b0q h_.Shifts), I h_.Until] 0 ∧ t 4 = .fp [.fs 1 (List.map eI d.At), .fs 1 (List.map b0k d.People), .fs 1 (List.map b0k d.Walks)] 0 ∧ t 20 = B c6) (fun K hK => ?_) ?_
 ·simp only [go_sem]
  refine b1j (d0h h_ _ h_y4) ?_
  simp only [go_sem]
  refine b0u (fun hg7 => ?_) (fun hg7 => ?_)
  ·simp only [hg7, Bool.not_true, Bool.not_false, eq_self, if_true, if_false, Bool.true_or, Bool.or_true, Bool.false_or, Bool.or_false, Bool.true_and, Bool.and_true, Bool.false_and, Bool.and_false, Bool.false_eq_true] at h_c6
   obtain rfl := Option.some.inj h_c6
   simp only [go_sem, hg7]
   exact hK _ _ ⟨s2, (by first | (simp only [go_sem, hg7, List.length_append, List.map_append]; done) | rfl), (by first | (simp only [go_sem, hg7, List.length_append, List.map_append]; done) | rfl), (by first | (simp only [go_sem, hg7, List.length_append, List.map_append]; done) | rfl)⟩
  ·simp only [hg7, Bool.not_true, Bool.not_false, eq_self, if_true, if_false, Bool.true_or, Bool.or_true, Bool.false_or, Bool.or_false, Bool.true_and, Bool.and_true, Bool.false_and, Bool.and_false, Bool.false_eq_true] at h_c6
   obtain ⟨y5, h_y5, h_c6⟩ := b0h h_c6
   obtain rfl := Option.some.inj h_c6
   simp only [go_sem, hg7]
   refine b1j (d0i d _ h_y5) ?_
   simp only [go_sem, hg7]
   exact hK _ _ ⟨s2, (by first | (simp only [go_sem, hg7, List.length_append, List.map_append]; done) | rfl), (by first | (simp only [go_sem, hg7, List.length_append, List.map_append]; done) | rfl), (by first | (simp only [go_sem, hg7, List.length_append, List.map_append]; done) | rfl)⟩
 ·rintro t h ⟨s2, s3, s4, s20⟩
  refine b0r fun K8 hK8 => ?_
  simp only [go_sem, s20]
  refine b0u (fun hc9 => ?_) (fun hc9 => ?_)
  ·rw [b02 hc9] at hm0
   obtain ⟨y11, h_y11, hm0⟩ := b0h hm0
   refine b0d fun K hK => ?_
   simp only [go_sem]
   refine b1j (c5l  _ h_y11) ?_
   simp only [go_sem]
   refine hK _ _ ?_
   clear hK K
   simp only [b1a, b1c, b1b, b1d]
   obtain rfl := Option.some.inj hm0
   exact b1q (by simp only [go_sem, List.length_append, List.map_append]) (b0l _)
  ·rw [b01 hc9] at hm0
   simp only [b0z, b0i, b0j]
   refine hK8 _ _ ?_
   obtain ⟨y13, h_y13, hm0⟩ := b0h hm0
   refine b0d fun K hK => ?_
   simp only [go_sem, s2, s3]
   refine b1j (c96 h_ comb _ h_y13) ?_
   simp only [go_sem, s2, s3]
   refine hK _ _ ?_
   clear hK K
   obtain ⟨y15, h_y15, hm0⟩ := b0h hm0
   refine b0d fun K hK => ?_
   simp only [go_sem, s2, s3]
   refine b1j (d0m h_ comb _ h_y15) ?_
   simp only [go_sem, s2, s3]
   refine hK _ _ ?_
   clear hK K
   obtain ⟨y17, h_y17, hm0⟩ := b0h hm0
   refine b0d fun K hK => ?_
   simp only [go_sem, s3, s4]
   refine b1j (c95 h_ d _ h_y17) ?_
   simp only [go_sem, s3, s4]
   refine hK _ _ ?_
   clear hK K
   obtain ⟨y19, h_y19, hm0⟩ := b0h hm0
   refine b0d fun K hK => ?_
   simp only [go_sem, s3, s4]
   refine b1j (d0l h_ d _ h_y19) ?_
   simp only [go_sem, s3, s4]
   refine hK _ _ ?_
   clear hK K
   obtain ⟨y28, h_y28, hm0⟩ := b0h hm0
   obtain ⟨y29, h_y29, hm0⟩ := b0h hm0
   obtain ⟨c31, h_c31, hm0⟩ := b0h hm0
   obtain ⟨c33, h_c33, hm0⟩ := b0h hm0
   obtain ⟨c35, h_c35, hm0⟩ := b0h hm0
   refine b2d (fun t h => t 6 = B c35) (fun K hK => ?_) ?_
   ·simp only [go_sem, s3]
    refine b1j (b6f h_ _ h_y28) ?_
    simp only [go_sem, s3]
    refine b1j (b8c h_ _ h_y29) ?_
    simp only [go_sem, s3]
    refine b0u (fun hg36 => ?_) (fun hg36 => ?_)
    ·simp only [go_sem, s3, hg36]
     refine b0u (fun hg37 => ?_) (fun hg37 => ?_)
     ·simp only [hg36, hg37, Bool.not_true, Bool.not_false, eq_self, if_true, if_false, Bool.true_or, Bool.or_true, Bool.false_or, Bool.or_false, Bool.true_and, Bool.and_true, Bool.false_and, Bool.and_false, Bool.false_eq_true] at h_c31
      obtain ⟨y30, h_y30, h_c31⟩ := b0h h_c31
      obtain rfl := Option.some.inj h_c31
      simp only [go_sem, s3, hg36, hg37]
      refine b1j (c19 y13.1 y15.1 _ h_y30) ?_
      simp only [go_sem, s3, hg36, hg37]
      refine b0u (fun hg38 => ?_) (fun hg38 => ?_)
      ·simp only [go_sem, s3, hg36, hg37, hg38]
       refine b0u (fun hg39 => ?_) (fun hg39 => ?_)
       ·simp only [hg36, hg37, hg38, hg39, Bool.not_true, Bool.not_false, eq_self, if_true, if_false, Bool.true_or, Bool.or_true, Bool.false_or, Bool.or_false, Bool.true_and, Bool.and_true, Bool.false_and, Bool.and_false, Bool.false_eq_true] at h_c33
        obtain ⟨y32, h_y32, h_c33⟩ := b0h h_c33
        obtain rfl := Option.some.inj h_c33
        simp only [go_sem, s3, hg36, hg37, hg38, hg39]
        refine b1j (d0j y17.1 y19.1 _ h_y32) ?_
        simp only [go_sem, s3, hg36, hg37, hg38, hg39]
        refine b0u (fun hg40 => ?_) (fun hg40 => ?_)
        ·simp only [hg36, hg37, hg38, hg39, hg40, Bool.not_true, Bool.not_false, eq_self, if_true, if_false, Bool.true_or, Bool.or_true, Bool.false_or, Bool.or_false, Bool.true_and, Bool.and_true, Bool.false_and, Bool.and_false, Bool.false_eq_true] at h_c35
         obtain ⟨y34, h_y34, h_c35⟩ := b0h h_c35
         obtain rfl := Option.some.inj h_c35
         simp only [go_sem, s3, hg36, hg37, hg38, hg39, hg40]
         refine b1j (c5l  _ h_y34) ?_
         simp only [go_sem, s3, hg36, hg37, hg38, hg39, hg40]
         exact hK _ _ (by first | (simp only [go_sem, hg36, hg37, hg38, hg39, hg40, List.length_append, List.map_append]; done) | rfl)
        ·simp only [hg36, hg37, hg38, hg39, hg40, Bool.not_true, Bool.not_false, eq_self, if_true, if_false, Bool.true_or, Bool.or_true, Bool.false_or, Bool.or_false, Bool.true_and, Bool.and_true, Bool.false_and, Bool.and_false, Bool.false_eq_true] at h_c35
         obtain rfl := Option.some.inj h_c35
         simp only [go_sem, s3, hg36, hg37, hg38, hg39, hg40]
         exact hK _ _ (by first | (simp only [go_sem, hg36, hg37, hg38, hg39, hg40, List.length_append, List.map_append]; done) | rfl)
       ·simp only [hg36, hg37, hg38, hg39, Bool.not_true, Bool.not_false, eq_self, if_true, if_false, Bool.true_or, Bool.or_true, Bool.false_or, Bool.or_false, Bool.true_and, Bool.and_true, Bool.false_and, Bool.and_false, Bool.false_eq_true] at h_c33
        obtain rfl := Option.some.inj h_c33
        simp only [hg36, hg37, hg38, hg39, Bool.not_true, Bool.not_false, eq_self, if_true, if_false, Bool.true_or, Bool.or_true, Bool.false_or, Bool.or_false, Bool.true_and, Bool.and_true, Bool.false_and, Bool.and_false, Bool.false_eq_true] at h_c35
        obtain rfl := Option.some.inj h_c35
        simp only [go_sem, s3, hg36, hg37, hg38, hg39]
        exact hK _ _ (by first | (simp only [go_sem, hg36, hg37, hg38, hg39, List.length_append, List.map_append]; done) | rfl)
      ·simp only [hg36, hg37, hg38, Bool.not_true, Bool.not_false, eq_self, if_true, if_false, Bool.true_or, Bool.or_true, Bool.false_or, Bool.or_false, Bool.true_and, Bool.and_true, Bool.false_and, Bool.and_false, Bool.false_eq_true] at h_c33
       obtain rfl := Option.some.inj h_c33
       simp only [hg36, hg37, hg38, Bool.not_true, Bool.not_false, eq_self, if_true, if_false, Bool.true_or, Bool.or_true, Bool.false_or, Bool.or_false, Bool.true_and, Bool.and_true, Bool.false_and, Bool.and_false, Bool.false_eq_true] at h_c35
       obtain rfl := Option.some.inj h_c35
       simp only [go_sem, s3, hg36, hg37, hg38]
       exact hK _ _ (by first | (simp only [go_sem, hg36, hg37, hg38, List.length_append, List.map_append]; done) | rfl)
     ·simp only [hg36, hg37, Bool.not_true, Bool.not_false, eq_self, if_true, if_false, Bool.true_or, Bool.or_true, Bool.false_or, Bool.or_false, Bool.true_and, Bool.and_true, Bool.false_and, Bool.and_false, Bool.false_eq_true] at h_c31
      obtain rfl := Option.some.inj h_c31
      simp only [hg36, hg37, Bool.not_true, Bool.not_false, eq_self, if_true, if_false, Bool.true_or, Bool.or_true, Bool.false_or, Bool.or_false, Bool.true_and, Bool.and_true, Bool.false_and, Bool.and_false, Bool.false_eq_true] at h_c33
      obtain rfl := Option.some.inj h_c33
      simp only [hg36, hg37, Bool.not_true, Bool.not_false, eq_self, if_true, if_false, Bool.true_or, Bool.or_true, Bool.false_or, Bool.or_false, Bool.true_and, Bool.and_true, Bool.false_and, Bool.and_false, Bool.false_eq_true] at h_c35
      obtain rfl := Option.some.inj h_c35
      simp only [go_sem, s3, hg36, hg37]
      exact hK _ _ (by first | (simp only [go_sem, hg36, hg37, List.length_append, List.map_append]; done) | rfl)
    ·simp only [hg36, Bool.not_true, Bool.not_false, eq_self, if_true, if_false, Bool.true_or, Bool.or_true, Bool.false_or, Bool.or_false, Bool.true_and, Bool.and_true, Bool.false_and, Bool.and_false, Bool.false_eq_true] at h_c31
     obtain rfl := Option.some.inj h_c31
     simp only [hg36, Bool.not_true, Bool.not_false, eq_self, if_true, if_false, Bool.true_or, Bool.or_true, Bool.false_or, Bool.or_false, Bool.true_and, Bool.and_true, Bool.false_and, Bool.and_false, Bool.false_eq_true] at h_c33
     obtain rfl := Option.some.inj h_c33
     simp only [hg36, Bool.not_true, Bool.not_false, eq_self, if_true, if_false, Bool.true_or, Bool.or_true, Bool.false_or, Bool.or_false, Bool.true_and, Bool.and_true, Bool.false_and, Bool.and_false, Bool.false_eq_true] at h_c35
     obtain rfl := Option.some.inj h_c35
     simp only [go_sem, s3, hg36]
     exact hK _ _ (by first | (simp only [go_sem, hg36, List.length_append, List.map_append]; done) | rfl)
   ·rintro t h s6
    simp only [b1a, b1c, b1b, b1d]
    obtain rfl := Option.some.inj hm0
    exact b1q (by simp only [go_sem, s6, List.length_append, List.map_append]) (b0l _)
theorem d0i (hf : Has O "newel/newellaw06.farDay" x_l06_farDay) : c69 O := by
 intro d r hm0
 unfold b8e at hm0
 refine b2k hf rfl (b0e (.agg _ (b0e (b0s fun a _ => b2b a) (b0e (b0s fun a _ => b2v a) (b0e (b0s fun a _ => b2v a) b0y)))) b0y) (b0l _) ?_
 refine b2h (fun t h => t 0 = .agg [.fs 1 (List.map eI d.At), .fs 1 (List.map b0k d.People), .fs 1 (List.map b0k d.Walks)]) rfl fun t h s0 => ?_
 simp only [x_l06_farDay]
 refine b0d fun K hK => ?_
 simp only [go_sem, s0]
 refine hK _ _ ?_
 clear hK K
 refine b03 ?_
 refine b2d (fun t h => t 1 = .fp [.fs 1 (List.map eI d.At), .fs 1 (List.map b0k d.People), .fs 1 (List.map b0k d.Walks)] 0 ∧ t 20 = B (((decide (20 < (List.length d.At : Int))) || (decide (20 < (List.length d.People : Int)))) || (decide (20 < (List.length d.Walks : Int))))) (fun K hK => ?_) ?_
 ·simp only [go_sem]
  refine b0u (fun hg1 => ?_) (fun hg1 => ?_)
  ·simp only [go_sem, hg1]
   exact hK _ _ ⟨(by first | (simp only [go_sem, hg1, List.length_append, List.map_append]; done) | rfl), (by first | (simp only [go_sem, hg1, List.length_append, List.map_append]; done) | rfl)⟩
  ·simp only [go_sem, hg1]
   refine b0u (fun hg2 => ?_) (fun hg2 => ?_)
   ·simp only [go_sem, hg1, hg2]
    exact hK _ _ ⟨(by first | (simp only [go_sem, hg1, hg2, List.length_append, List.map_append]; done) | rfl), (by first | (simp only [go_sem, hg1, hg2, List.length_append, List.map_append]; done) | rfl)⟩
   ·simp only [go_sem, hg1, hg2]
    exact hK _ _ ⟨(by first | (simp only [go_sem, hg1, hg2, List.length_append, List.map_append]; done) | rfl), (by first | (simp only [go_sem, hg1, hg2, List.length_append, List.map_append]; done) | rfl)⟩
 ·rintro t h ⟨s1, s20⟩
  refine b0r fun K3 hK3 => ?_
  simp only [go_sem, s20]
  refine b0u (fun hc4 => ?_) (fun hc4 => ?_)
  ·rw [b02 hc4] at hm0
   refine b0d fun K hK => ?_
   simp only [go_sem]
   refine hK _ _ ?_
   clear hK K
   simp only [b1a, b1c, b1b, b1d]
   obtain rfl := Option.some.inj hm0
   exact b1q (by simp only [go_sem, List.length_append, List.map_append]) (b0l _)
  ·rw [b01 hc4] at hm0
   simp only [b0z, b0i, b0j]
   refine hK3 _ _ ?_
   refine b03 ?_
   refine b0d fun K hK => ?_
   simp only [go_sem]
   refine hK _ _ ?_
   clear hK K
   refine b0r fun K5 hK5 => ?_
   have J6 : ∀ (t : Slots) (h : Heap), t 1 = .fp [.fs 1 (List.map eI d.At), .fs 1 (List.map b0k d.People), .fs 1 (List.map b0k d.Walks)] 0 → c5n d = some r → K5 t h := by
    intro t h s1 hm0
    refine hK5 _ _ ?_
    unfold c5n at hm0
    refine b03 ?_
    refine b0d fun K hK => ?_
    simp only [go_sem]
    refine hK _ _ ?_
    clear hK K
    refine b0r fun K7 hK7 => ?_
    have J8 : ∀ (t : Slots) (h : Heap), d0s = some r → K7 t h := by
     intro t h hm0
     refine hK7 _ _ ?_
     unfold d0s at hm0
     refine b0d fun K hK => ?_
     simp only [go_sem]
     refine hK _ _ ?_
     clear hK K
     simp only [b1a, b1c, b1b, b1d]
     obtain rfl := Option.some.inj hm0
     exact b1q (by simp only [go_sem, List.length_append, List.map_append]) (b0l _)
    simp only [b00]
    obtain ⟨b9, hl9, hm0⟩ := b0h hm0
    refine b1x hl9 (fun | i_4, t, h => t 1 = .fp [.fs 1 (List.map eI d.At), .fs 1 (List.map b0k d.People), .fs 1 (List.map b0k d.Walks)] 0 ∧ t 4 = I i_4) ?_ ?_
    ·exact ⟨s1, (by first | (simp only [go_sem, List.length_append, List.map_append]; done) | rfl)⟩
    ·rintro i_4 o t h ⟨s1, s4⟩ hm1 hb9
     simp only [b9z] at hm1
     rw [g0g]
     refine b03 ?_
     refine b0d fun K hK => ?_
     simp only [go_sem, s1, s4]
     refine hK _ _ ?_
     clear hK K
     refine b0r fun K10 hK10 => ?_
     simp only [go_sem]
     refine b0u (fun hc11 => ?_) (fun hc11 => ?_)
     ·rw [b02 hc11] at hm1
      simp only [b0z, b0i, b0j]
      refine hK10 _ _ ?_
      refine b0r fun K12 hK12 => ?_
      simp only [b00]
      obtain ⟨x14, h_x14, hm1⟩ := b0h hm1
      have h_x140 := b0w h_x14
      have h_x141 := b0x h_x14
      refine b0d fun K hK => ?_
      simp only [go_sem, s1, s4, b0m h_x14, b0n h_x14, h_x140, h_x141]
      refine hK _ _ ?_
      clear hK K
      simp only [go_sem]
      refine b0u (fun hc15 => ?_) (fun hc15 => ?_)
      ·rw [b02 hc15] at hm1
       refine b0d fun K hK => ?_
       simp only [go_sem]
       refine hK _ _ ?_
       clear hK K
       simp only [b1a, b1c, b1b, b1d]
       obtain rfl := Option.some.inj hm1
       obtain rfl := hb9 _ rfl
       try dsimp only at hm0
       obtain rfl := Option.some.inj hm0
       exact b1q (by simp only [go_sem, List.length_append, List.map_append]) (b0l _)
      ·rw [b01 hc15] at hm1
       simp only [b0z, b0i, b0j]
       refine hK12 _ _ ?_
       refine b1i fun K hK => ?_
       simp only [go_sem, s4]
       refine hK _ _ ?_
       clear hK K
       simp only [b0i, b0j]
       obtain rfl := Option.some.inj hm1
       refine ⟨_, rfl, ?_⟩
       exact ⟨s1, (by first | (simp only [go_sem, s4, List.length_append, List.map_append]; done) | rfl)⟩
     ·rw [b01 hc11] at hm1
      simp only [b1t, b1w, b1v, b1u, b0i, b0j, Nat.reduceEqDiff, not_false_eq_true]
      obtain rfl := Option.some.inj hm1
      obtain rfl := hb9 _ rfl
      try dsimp only at hm0
      exact J8  _ _  hm0
   simp only [b00]
   obtain ⟨b17, hl17, hm0⟩ := b0h hm0
   refine b1x hl17 (fun | i_3, t, h => t 1 = .fp [.fs 1 (List.map eI d.At), .fs 1 (List.map b0k d.People), .fs 1 (List.map b0k d.Walks)] 0 ∧ t 3 = I i_3) ?_ ?_
   ·exact ⟨s1, (by first | (simp only [go_sem, List.length_append, List.map_append]; done) | rfl)⟩
   ·rintro i_3 o t h ⟨s1, s3⟩ hm1 hb17
    simp only [b90] at hm1
    rw [g0h]
    refine b03 ?_
    refine b0d fun K hK => ?_
    simp only [go_sem, s1, s3]
    refine hK _ _ ?_
    clear hK K
    refine b0r fun K18 hK18 => ?_
    simp only [go_sem]
    refine b0u (fun hc19 => ?_) (fun hc19 => ?_)
    ·rw [b02 hc19] at hm1
     simp only [b0z, b0i, b0j]
     refine hK18 _ _ ?_
     refine b0r fun K20 hK20 => ?_
     simp only [b00]
     obtain ⟨x22, h_x22, hm1⟩ := b0h hm1
     have h_x220 := b0w h_x22
     have h_x221 := b0x h_x22
     refine b0d fun K hK => ?_
     simp only [go_sem, s1, s3, b0m h_x22, b0n h_x22, h_x220, h_x221]
     refine hK _ _ ?_
     clear hK K
     simp only [go_sem]
     refine b0u (fun hc23 => ?_) (fun hc23 => ?_)
     ·rw [b02 hc23] at hm1
      refine b0d fun K hK => ?_
      simp only [go_sem]
      refine hK _ _ ?_
      clear hK K
      simp only [b1a, b1c, b1b, b1d]
      obtain rfl := Option.some.inj hm1
      obtain rfl := hb17 _ rfl
      try dsimp only at hm0
      obtain rfl := Option.some.inj hm0
      exact b1q (by simp only [go_sem, List.length_append, List.map_append]) (b0l _)
     ·rw [b01 hc23] at hm1
      simp only [b0z, b0i, b0j]
      refine hK20 _ _ ?_
      refine b1i fun K hK => ?_
      simp only [go_sem, s3]
      refine hK _ _ ?_
      clear hK K
      simp only [b0i, b0j]
      obtain rfl := Option.some.inj hm1
      refine ⟨_, rfl, ?_⟩
      exact ⟨s1, (by first | (simp only [go_sem, s3, List.length_append, List.map_append]; done) | rfl)⟩
    ·rw [b01 hc19] at hm1
     simp only [b1t, b1w, b1v, b1u, b0i, b0j, Nat.reduceEqDiff, not_false_eq_true]
     obtain rfl := Option.some.inj hm1
     obtain rfl := hb17 _ rfl
     try dsimp only at hm0
     exact J6  _ _ s1 hm0
theorem d0j (hf : Has O "newel/newellaw06.sameRows" x_l06_sameRows) (c19 : c3m O) : c7a O := by
 intro a b r hm0
 unfold c2d at hm0
 refine b2k hf rfl (b0e (b0s fun a _ => b2v a) (b0e (b0s fun a _ => b2v a) b0y)) (b0l _) ?_
 refine b2h (fun t h => t 0 = .fs 1 (List.map b0k a) ∧ t 1 = .fs 1 (List.map b0k b)) ⟨rfl, rfl⟩ fun t h ⟨s0, s1⟩ => ?_
 simp only [x_l06_sameRows]
 refine b0d fun K hK => ?_
 simp only [go_sem]
 refine hK _ _ ?_
 clear hK K
 refine b03 ?_
 refine b0d fun K hK => ?_
 simp only [go_sem, s0, s1]
 refine hK _ _ ?_
 clear hK K
 refine b0r fun K1 hK1 => ?_
 simp only [go_sem]
 refine b0u (fun hc2 => ?_) (fun hc2 => ?_)
 ·rw [b02 hc2] at hm0
  refine b0d fun K hK => ?_
  simp only [go_sem]
  refine hK _ _ ?_
  clear hK K
  simp only [b1a, b1c, b1b, b1d]
  obtain rfl := Option.some.inj hm0
  exact b1q (by simp only [go_sem, List.length_append, List.map_append]) (b0l _)
 ·rw [b01 hc2] at hm0
  simp only [b0z, b0i, b0j]
  refine hK1 _ _ ?_
  refine b03 ?_
  refine b0d fun K hK => ?_
  simp only [go_sem]
  refine hK _ _ ?_
  clear hK K
  refine b0r fun K3 hK3 => ?_
  have J4 : ∀ (t : Slots) (h : Heap), d0t = some r → K3 t h := by
   intro t h hm0
   refine hK3 _ _ ?_
   unfold d0t at hm0
   refine b0d fun K hK => ?_
   simp only [go_sem]
   refine hK _ _ ?_
   clear hK K
   simp only [b1a, b1c, b1b, b1d]
   obtain rfl := Option.some.inj hm0
   exact b1q (by simp only [go_sem, List.length_append, List.map_append]) (b0l _)
  simp only [b00]
  obtain ⟨b5, hl5, hm0⟩ := b0h hm0
  refine b1x hl5 (fun | i_5, t, h => t 0 = .fs 1 (List.map b0k a) ∧ t 1 = .fs 1 (List.map b0k b) ∧ t 5 = I i_5) ?_ ?_
  ·exact ⟨s0, s1, (by first | (simp only [go_sem, List.length_append, List.map_append]; done) | rfl)⟩
  ·rintro i_5 o t h ⟨s0, s1, s5⟩ hm1 hb5
   simp only [c2e] at hm1
   rw [g0i]
   refine b03 ?_
   refine b0d fun K hK => ?_
   simp only [go_sem, s0, s5]
   refine hK _ _ ?_
   clear hK K
   refine b0r fun K6 hK6 => ?_
   simp only [go_sem]
   refine b0u (fun hc7 => ?_) (fun hc7 => ?_)
   ·rw [b02 hc7] at hm1
    simp only [b0z, b0i, b0j]
    refine hK6 _ _ ?_
    refine b0r fun K8 hK8 => ?_
    simp only [b00]
    obtain ⟨x12, h_x12, hm1⟩ := b0h hm1
    have h_x120 := b0w h_x12
    have h_x121 := b0x h_x12
    obtain ⟨x13, h_x13, hm1⟩ := b0h hm1
    have h_x130 := b0w h_x13
    have h_x131 := b0x h_x13
    obtain ⟨y14, h_y14, hm1⟩ := b0h hm1
    refine b0d fun K hK => ?_
    simp only [go_sem, s0, s1, s5, b0m h_x12, b0n h_x12, h_x120, h_x121, b0m h_x13, b0n h_x13, h_x130, h_x131]
    refine b1j (c19 x12 x13 _ h_y14) ?_
    simp only [go_sem, s0, s1, s5, b0m h_x12, b0n h_x12, h_x120, h_x121, b0m h_x13, b0n h_x13, h_x130, h_x131]
    refine hK _ _ ?_
    clear hK K
    simp only [go_sem]
    refine b0u (fun hc15 => ?_) (fun hc15 => ?_)
    ·rw [b02 hc15] at hm1
     refine b0d fun K hK => ?_
     simp only [go_sem]
     refine hK _ _ ?_
     clear hK K
     simp only [b1a, b1c, b1b, b1d]
     obtain rfl := Option.some.inj hm1
     obtain rfl := hb5 _ rfl
     try dsimp only at hm0
     obtain rfl := Option.some.inj hm0
     exact b1q (by simp only [go_sem, List.length_append, List.map_append]) (b0l _)
    ·rw [b01 hc15] at hm1
     simp only [b0z, b0i, b0j]
     refine hK8 _ _ ?_
     refine b1i fun K hK => ?_
     simp only [go_sem, s5]
     refine hK _ _ ?_
     clear hK K
     simp only [b0i, b0j]
     obtain rfl := Option.some.inj hm1
     refine ⟨_, rfl, ?_⟩
     exact ⟨s0, s1, (by first | (simp only [go_sem, s5, List.length_append, List.map_append]; done) | rfl)⟩
   ·rw [b01 hc7] at hm1
    simp only [b1t, b1w, b1v, b1u, b0i, b0j, Nat.reduceEqDiff, not_false_eq_true]
    obtain rfl := Option.some.inj hm1
    obtain rfl := hb5 _ rfl
    try dsimp only at hm0
    exact J4  _ _  hm0
theorem c5l (hf : Has O "newel/newellaw06.works" x_l06_works) (c5k : c67 O) (c93 : c6t O) (c94 : c6u O) : c7b O := by
 intro r hm0
 unfold b6h at hm0
 refine b2k hf rfl b0y (b0l _) ?_
 refine b2h (fun t h => True) trivial fun t h _ => ?_
 simp only [x_l06_works]
 refine b0d fun K hK => ?_
 simp only [go_sem]
 refine hK _ _ ?_
 clear hK K
 obtain ⟨y2, h_y2, hm0⟩ := b0h hm0
 refine b0d fun K hK => ?_
 simp only [go_sem]
 refine b1j (c5k ()) ?_
 simp only [go_sem]
 refine b1j (c93 l06_Example 0 5 _ h_y2) ?_
 simp only [go_sem]
 refine hK _ _ ?_
 clear hK K
 obtain ⟨y4, h_y4, hm0⟩ := b0h hm0
 refine b0d fun K hK => ?_
 simp only [go_sem]
 refine b1j (c5k ()) ?_
 simp only [go_sem]
 refine b1j (c94 l06_Example _ h_y4) ?_
 simp only [go_sem]
 refine hK _ _ ?_
 clear hK K
 obtain ⟨c8, h_c8, hm0⟩ := b0h hm0
 refine b2d (fun t h => t 0 = B c8) (fun K hK => ?_) ?_
 ·simp only [go_sem]
  refine b0u (fun hg9 => ?_) (fun hg9 => ?_)
  ·simp only [go_sem, hg9]
   refine b0u (fun hg10 => ?_) (fun hg10 => ?_)
   ·simp only [go_sem, hg9, hg10]
    refine b0u (fun hg11 => ?_) (fun hg11 => ?_)
    ·simp only [go_sem, hg9, hg10, hg11]
     refine b0u (fun hg12 => ?_) (fun hg12 => ?_)
     ·simp only [hg9, hg10, hg11, hg12, Bool.not_true, Bool.not_false, eq_self, if_true, if_false, Bool.true_or, Bool.or_true, Bool.false_or, Bool.or_false, Bool.true_and, Bool.and_true, Bool.false_and, Bool.and_false, Bool.false_eq_true] at h_c8
      obtain ⟨x7, h_x7, h_c8⟩ := b0h h_c8
      have h_x70 := b0w h_x7
      have h_x71 := b0x h_x7
      obtain rfl := Option.some.inj h_c8
      simp only [go_sem, b0m h_x7, b0n h_x7, h_x70, h_x71, hg9, hg10, hg11, hg12]
      exact hK _ _ (by first | (simp only [go_sem, hg9, hg10, hg11, hg12, List.length_append, List.map_append]; done) | rfl)
     ·simp only [hg9, hg10, hg11, hg12, Bool.not_true, Bool.not_false, eq_self, if_true, if_false, Bool.true_or, Bool.or_true, Bool.false_or, Bool.or_false, Bool.true_and, Bool.and_true, Bool.false_and, Bool.and_false, Bool.false_eq_true] at h_c8
      obtain rfl := Option.some.inj h_c8
      simp only [go_sem, hg9, hg10, hg11, hg12]
      exact hK _ _ (by first | (simp only [go_sem, hg9, hg10, hg11, hg12, List.length_append, List.map_append]; done) | rfl)
    ·simp only [hg9, hg10, hg11, Bool.not_true, Bool.not_false, eq_self, if_true, if_false, Bool.true_or, Bool.or_true, Bool.false_or, Bool.or_false, Bool.true_and, Bool.and_true, Bool.false_and, Bool.and_false, Bool.false_eq_true] at h_c8
     obtain rfl := Option.some.inj h_c8
     simp only [go_sem, hg9, hg10, hg11]
     exact hK _ _ (by first | (simp only [go_sem, hg9, hg10, hg11, List.length_append, List.map_append]; done) | rfl)
   ·simp only [hg9, hg10, Bool.not_true, Bool.not_false, eq_self, if_true, if_false, Bool.true_or, Bool.or_true, Bool.false_or, Bool.or_false, Bool.true_and, Bool.and_true, Bool.false_and, Bool.and_false, Bool.false_eq_true] at h_c8
    obtain rfl := Option.some.inj h_c8
    simp only [go_sem, hg9, hg10]
    exact hK _ _ (by first | (simp only [go_sem, hg9, hg10, List.length_append, List.map_append]; done) | rfl)
  ·simp only [hg9, Bool.not_true, Bool.not_false, eq_self, if_true, if_false, Bool.true_or, Bool.or_true, Bool.false_or, Bool.or_false, Bool.true_and, Bool.and_true, Bool.false_and, Bool.and_false, Bool.false_eq_true] at h_c8
   obtain rfl := Option.some.inj h_c8
   simp only [go_sem, hg9]
   exact hK _ _ (by first | (simp only [go_sem, hg9, List.length_append, List.map_append]; done) | rfl)
 ·rintro t h s0
  simp only [b1a, b1c, b1b, b1d]
  obtain rfl := Option.some.inj hm0
  exact b1q (by simp only [go_sem, s0, List.length_append, List.map_append]) (b0l _)
theorem b8c (hf : Has O "newel/newelref06.Check" x_r06_Check) (b3t : c0n O) (b9w : c7h O) : c0m O := by
 intro h_ r hm0
 unfold b4m at hm0
 refine b2k hf rfl (b0e (.agg _ (b0e (b0s fun a _ => b2m a) (b0e (b0s fun a _ => b2l a) (b0e (b0s fun a _ => b2o a) (b0e (b0l _) b0y))))) b0y) (b0l _) ?_
 refine b2h (fun t h => t 0 = .agg [.fs 5 (List.map b0p h_.Combs), .fs 3 (List.map b0o h_.Trains), .fs 3 (List.map b0q h_.Shifts), I h_.Until]) rfl fun t h s0 => ?_
 simp only [x_r06_Check]
 refine b0d fun K hK => ?_
 simp only [go_sem, s0]
 refine hK _ _ ?_
 clear hK K
 refine b03 ?_
 refine b2d (fun t h => t 1 = .fp [.fs 5 (List.map b0p h_.Combs), .fs 3 (List.map b0o h_.Trains), .fs 3 (List.map b0q h_.Shifts), I h_.Until] 0 ∧ t 34 = B ((((!(b2g h_.Until 1 100)) || (!(b2g (List.length h_.Combs : Int) 1 8))) || (decide (12 < (List.length h_.Trains : Int)))) || (decide (20 < (List.length h_.Shifts : Int))))) (fun K hK => ?_) ?_
 ·simp only [go_sem]
  refine b1j (b3t h_.Until 1 100) ?_
  simp only [go_sem]
  refine b0u (fun hg1 => ?_) (fun hg1 => ?_)
  ·simp only [go_sem, hg1]
   exact hK _ _ ⟨(by first | (simp only [go_sem, hg1, List.length_append, List.map_append]; done) | rfl), (by first | (simp only [go_sem, hg1, List.length_append, List.map_append]; done) | rfl)⟩
  ·simp only [go_sem, hg1]
   refine b1j (b3t (List.length h_.Combs : Int) 1 8) ?_
   simp only [go_sem, hg1]
   refine b0u (fun hg2 => ?_) (fun hg2 => ?_)
   ·simp only [go_sem, hg1, hg2]
    exact hK _ _ ⟨(by first | (simp only [go_sem, hg1, hg2, List.length_append, List.map_append]; done) | rfl), (by first | (simp only [go_sem, hg1, hg2, List.length_append, List.map_append]; done) | rfl)⟩
   ·simp only [go_sem, hg1, hg2]
    refine b0u (fun hg3 => ?_) (fun hg3 => ?_)
    ·simp only [go_sem, hg1, hg2, hg3]
     exact hK _ _ ⟨(by first | (simp only [go_sem, hg1, hg2, hg3, List.length_append, List.map_append]; done) | rfl), (by first | (simp only [go_sem, hg1, hg2, hg3, List.length_append, List.map_append]; done) | rfl)⟩
    ·simp only [go_sem, hg1, hg2, hg3]
     exact hK _ _ ⟨(by first | (simp only [go_sem, hg1, hg2, hg3, List.length_append, List.map_append]; done) | rfl), (by first | (simp only [go_sem, hg1, hg2, hg3, List.length_append, List.map_append]; done) | rfl)⟩
 ·rintro t h ⟨s1, s34⟩
  refine b0r fun K4 hK4 => ?_
  simp only [go_sem, s34]
  refine b0u (fun hc5 => ?_) (fun hc5 => ?_)
  ·rw [b02 hc5] at hm0
   refine b0d fun K hK => ?_
   simp only [go_sem]
   refine hK _ _ ?_
   clear hK K
   simp only [b1a, b1c, b1b, b1d]
   obtain rfl := Option.some.inj hm0
   exact b1q (by simp only [go_sem, List.length_append, List.map_append]) (b0l _)
  ·rw [b01 hc5] at hm0
   simp only [b0z, b0i, b0j]
   refine hK4 _ _ ?_
   refine b0d fun K hK => ?_
   simp only [go_sem, s1]
   refine hK _ _ ?_
   clear hK K
   refine b03 ?_
   refine b0d fun K hK => ?_
   simp only [go_sem]
   refine hK _ _ ?_
   clear hK K
   refine b0r fun K6 hK6 => ?_
   have J7 : ∀ (t : Slots) (h : Heap), t 1 = .fp [.fs 5 (List.map b0p h_.Combs), .fs 3 (List.map b0o h_.Trains), .fs 3 (List.map b0q h_.Shifts), I h_.Until] 0 → t 3 = I (List.length h_.Combs : Int) → c50 h_ = some r → K6 t h := by
    intro t h s1 s3 hm0
    refine hK6 _ _ ?_
    unfold c50 at hm0
    refine b03 ?_
    refine b0d fun K hK => ?_
    simp only [go_sem]
    refine hK _ _ ?_
    clear hK K
    refine b0r fun K8 hK8 => ?_
    have J9 : ∀ (t : Slots) (h : Heap), t 1 = .fp [.fs 5 (List.map b0p h_.Combs), .fs 3 (List.map b0o h_.Trains), .fs 3 (List.map b0q h_.Shifts), I h_.Until] 0 → t 3 = I (List.length h_.Combs : Int) → c51 h_ = some r → K8 t h := by
     intro t h s1 s3 hm0
     refine hK8 _ _ ?_
     unfold c51 at hm0
     refine b03 ?_
     refine b0d fun K hK => ?_
     simp only [go_sem]
     refine hK _ _ ?_
     clear hK K
     refine b0r fun K10 hK10 => ?_
     have J11 : ∀ (t : Slots) (h : Heap), d1e = some r → K10 t h := by
      intro t h hm0
      refine hK10 _ _ ?_
      unfold d1e at hm0
      refine b0d fun K hK => ?_
      simp only [go_sem]
      refine hK _ _ ?_
      clear hK K
      simp only [b1a, b1c, b1b, b1d]
      obtain rfl := Option.some.inj hm0
      exact b1q (by simp only [go_sem, List.length_append, List.map_append]) (b0l _)
     simp only [b00]
     obtain ⟨b12, hl12, hm0⟩ := b0h hm0
     refine b1x hl12 (fun | i_10, t, h => t 1 = .fp [.fs 5 (List.map b0p h_.Combs), .fs 3 (List.map b0o h_.Trains), .fs 3 (List.map b0q h_.Shifts), I h_.Until] 0 ∧ t 3 = I (List.length h_.Combs : Int) ∧ t 10 = I i_10) ?_ ?_
     ·exact ⟨s1, s3, (by first | (simp only [go_sem, List.length_append, List.map_append]; done) | rfl)⟩
     ·rintro i_10 o t h ⟨s1, s3, s10⟩ hm1 hb12
      simp only [b94] at hm1
      rw [g0m]
      refine b03 ?_
      refine b0d fun K hK => ?_
      simp only [go_sem, s1, s10]
      refine hK _ _ ?_
      clear hK K
      refine b0r fun K13 hK13 => ?_
      simp only [go_sem]
      refine b0u (fun hc14 => ?_) (fun hc14 => ?_)
      ·rw [b02 hc14] at hm1
       simp only [b0z, b0i, b0j]
       refine hK13 _ _ ?_
       refine b0r fun K15 hK15 => ?_
       simp only [b00]
       obtain ⟨x17, h_x17, hm1⟩ := b0h hm1
       have h_x170 := b0w h_x17
       have h_x171 := b0x h_x17
       refine b0d fun K hK => ?_
       simp only [go_sem, s1, s10, b0m h_x17, b0n h_x17, h_x170, h_x171]
       refine hK _ _ ?_
       clear hK K
       obtain ⟨c23, h_c23, hm1⟩ := b0h hm1
       refine b2d (fun t h => t 1 = .fp [.fs 5 (List.map b0p h_.Combs), .fs 3 (List.map b0o h_.Trains), .fs 3 (List.map b0q h_.Shifts), I h_.Until] 0 ∧ t 3 = I (List.length h_.Combs : Int) ∧ t 10 = I i_10 ∧ t 187 = B c23) (fun K hK => ?_) ?_
       ·simp only [go_sem, s1, s3, s10]
        refine b1j (b3t x17.At 0 (wr (h_.Until - 1))) ?_
        simp only [go_sem, s1, s3, s10]
        refine b0u (fun hg24 => ?_) (fun hg24 => ?_)
        ·simp only [hg24, Bool.not_true, Bool.not_false, eq_self, if_true, if_false, Bool.true_or, Bool.or_true, Bool.false_or, Bool.or_false, Bool.true_and, Bool.and_true, Bool.false_and, Bool.and_false, Bool.false_eq_true] at h_c23
         obtain rfl := Option.some.inj h_c23
         simp only [go_sem, s1, s3, s10, hg24]
         exact hK _ _ ⟨s1, s3, s10, (by first | (simp only [go_sem, hg24, List.length_append, List.map_append]; done) | rfl)⟩
        ·simp only [go_sem, s1, s3, s10, hg24]
         refine b1j (b3t x17.Comb 0 (wr ((List.length h_.Combs : Int) - 1))) ?_
         simp only [go_sem, s1, s3, s10, hg24]
         refine b0u (fun hg25 => ?_) (fun hg25 => ?_)
         ·simp only [hg24, hg25, Bool.not_true, Bool.not_false, eq_self, if_true, if_false, Bool.true_or, Bool.or_true, Bool.false_or, Bool.or_false, Bool.true_and, Bool.and_true, Bool.false_and, Bool.and_false, Bool.false_eq_true] at h_c23
          obtain rfl := Option.some.inj h_c23
          simp only [go_sem, s1, s3, s10, hg24, hg25]
          exact hK _ _ ⟨s1, s3, s10, (by first | (simp only [go_sem, hg24, hg25, List.length_append, List.map_append]; done) | rfl)⟩
         ·simp only [go_sem, s1, s3, s10, hg24, hg25]
          refine b1j (b3t x17.Rate 0 1000) ?_
          simp only [go_sem, s1, s3, s10, hg24, hg25]
          refine b0u (fun hg26 => ?_) (fun hg26 => ?_)
          ·simp only [hg24, hg25, hg26, Bool.not_true, Bool.not_false, eq_self, if_true, if_false, Bool.true_or, Bool.or_true, Bool.false_or, Bool.or_false, Bool.true_and, Bool.and_true, Bool.false_and, Bool.and_false, Bool.false_eq_true] at h_c23
           obtain rfl := Option.some.inj h_c23
           simp only [go_sem, s1, s3, s10, hg24, hg25, hg26]
           exact hK _ _ ⟨s1, s3, s10, (by first | (simp only [go_sem, hg24, hg25, hg26, List.length_append, List.map_append]; done) | rfl)⟩
          ·simp only [hg24, hg25, hg26, Bool.not_true, Bool.not_false, eq_self, if_true, if_false, Bool.true_or, Bool.or_true, Bool.false_or, Bool.or_false, Bool.true_and, Bool.and_true, Bool.false_and, Bool.and_false, Bool.false_eq_true] at h_c23
           obtain ⟨c22, h_c22, h_c23⟩ := b0h h_c23
           obtain rfl := Option.some.inj h_c23
           simp only [go_sem, s1, s3, s10, hg24, hg25, hg26]
           refine b0u (fun hg27 => ?_) (fun hg27 => ?_)
           ·simp only [hg24, hg25, hg26, hg27, Bool.not_true, Bool.not_false, eq_self, if_true, if_false, Bool.true_or, Bool.or_true, Bool.false_or, Bool.or_false, Bool.true_and, Bool.and_true, Bool.false_and, Bool.and_false, Bool.false_eq_true] at h_c22
            obtain ⟨x21, h_x21, h_c22⟩ := b0h h_c22
            have h_x210 := b0w h_x21
            have h_x211 := b0x h_x21
            obtain rfl := Option.some.inj h_c22
            simp only [go_sem, s1, s3, s10, b0m h_x21, b0n h_x21, h_x210, h_x211, hg24, hg25, hg26, hg27]
            exact hK _ _ ⟨s1, s3, s10, (by first | (simp only [go_sem, hg24, hg25, hg26, hg27, List.length_append, List.map_append]; done) | rfl)⟩
           ·simp only [hg24, hg25, hg26, hg27, Bool.not_true, Bool.not_false, eq_self, if_true, if_false, Bool.true_or, Bool.or_true, Bool.false_or, Bool.or_false, Bool.true_and, Bool.and_true, Bool.false_and, Bool.and_false, Bool.false_eq_true] at h_c22
            obtain rfl := Option.some.inj h_c22
            simp only [go_sem, s1, s3, s10, hg24, hg25, hg26, hg27]
            exact hK _ _ ⟨s1, s3, s10, (by first | (simp only [go_sem, hg24, hg25, hg26, hg27, List.length_append, List.map_append]; done) | rfl)⟩
       ·rintro t h ⟨s1, s3, s10, s187⟩
        simp only [go_sem, s187]
        refine b0u (fun hc28 => ?_) (fun hc28 => ?_)
        ·rw [b02 hc28] at hm1
         refine b0d fun K hK => ?_
         simp only [go_sem]
         refine hK _ _ ?_
         clear hK K
         simp only [b1a, b1c, b1b, b1d]
         obtain rfl := Option.some.inj hm1
         obtain rfl := hb12 _ rfl
         try dsimp only at hm0
         obtain rfl := Option.some.inj hm0
         exact b1q (by simp only [go_sem, List.length_append, List.map_append]) (b0l _)
        ·rw [b01 hc28] at hm1
         simp only [b0z, b0i, b0j]
         refine hK15 _ _ ?_
         refine b1i fun K hK => ?_
         simp only [go_sem, s10]
         refine hK _ _ ?_
         clear hK K
         simp only [b0i, b0j]
         obtain rfl := Option.some.inj hm1
         refine ⟨_, rfl, ?_⟩
         exact ⟨s1, s3, (by first | (simp only [go_sem, s10, List.length_append, List.map_append]; done) | rfl)⟩
      ·rw [b01 hc14] at hm1
       simp only [b1t, b1w, b1v, b1u, b0i, b0j, Nat.reduceEqDiff, not_false_eq_true]
       obtain rfl := Option.some.inj hm1
       obtain rfl := hb12 _ rfl
       try dsimp only at hm0
       exact J11  _ _  hm0
    simp only [b00]
    obtain ⟨b30, hl30, hm0⟩ := b0h hm0
    refine b1x hl30 (fun | i_6, t, h => t 1 = .fp [.fs 5 (List.map b0p h_.Combs), .fs 3 (List.map b0o h_.Trains), .fs 3 (List.map b0q h_.Shifts), I h_.Until] 0 ∧ t 3 = I (List.length h_.Combs : Int) ∧ t 6 = I i_6) ?_ ?_
    ·exact ⟨s1, s3, (by first | (simp only [go_sem, List.length_append, List.map_append]; done) | rfl)⟩
    ·rintro i_6 o t h ⟨s1, s3, s6⟩ hm1 hb30
     simp only [b93] at hm1
     rw [g0l]
     refine b03 ?_
     refine b0d fun K hK => ?_
     simp only [go_sem, s1, s6]
     refine hK _ _ ?_
     clear hK K
     refine b0r fun K31 hK31 => ?_
     simp only [go_sem]
     refine b0u (fun hc32 => ?_) (fun hc32 => ?_)
     ·rw [b02 hc32] at hm1
      simp only [b0z, b0i, b0j]
      refine hK31 _ _ ?_
      refine b0r fun K33 hK33 => ?_
      have J34 : ∀ (t : Slots) (h : Heap), t 1 = .fp [.fs 5 (List.map b0p h_.Combs), .fs 3 (List.map b0o h_.Trains), .fs 3 (List.map b0q h_.Shifts), I h_.Until] 0 → t 3 = I (List.length h_.Combs : Int) → t 6 = I i_6 → c5z i_6 = some o → K33 t h := by
       intro t h s1 s3 s6 hm1
       refine hK33 _ _ ?_
       unfold c5z at hm1
       refine b1i fun K hK => ?_
       simp only [go_sem, s6]
       refine hK _ _ ?_
       clear hK K
       simp only [b0i, b0j]
       obtain rfl := Option.some.inj hm1
       refine ⟨_, rfl, ?_⟩
       exact ⟨s1, s3, (by first | (simp only [go_sem, s6, List.length_append, List.map_append]; done) | rfl)⟩
      simp only [b00]
      obtain ⟨x36, h_x36, hm1⟩ := b0h hm1
      have h_x360 := b0w h_x36
      have h_x361 := b0x h_x36
      refine b0d fun K hK => ?_
      simp only [go_sem, s1, s6, b0m h_x36, b0n h_x36, h_x360, h_x361]
      refine hK _ _ ?_
      clear hK K
      refine b03 ?_
      refine b2d (fun t h => ∃ i7 : Nat, t 1 = .fp [.fs 5 (List.map b0p h_.Combs), .fs 3 (List.map b0o h_.Trains), .fs 3 (List.map b0q h_.Shifts), I h_.Until] 0 ∧ t 3 = I (List.length h_.Combs : Int) ∧ t 6 = I i_6 ∧ t 7 = .rp i7 0 0 ∧ t 103 = B ((!(b4a x36.At 0 (wr (h_.Until - 1)))) || (decide (4 < (List.length x36.Crowds : Int)))) ∧ h.ob i7 = some (3, [[I x36.At.Low, I x36.At.High, .fs 3 (List.map b2t x36.Crowds)]]) ∧ i7 < h.nx) (fun K hK => ?_) ?_
      ·simp only [go_sem, s1]
       refine b1j (b9w x36.At 0 (wr (h_.Until - 1))) ?_
       simp only [go_sem, s1]
       refine b0u (fun hg37 => ?_) (fun hg37 => ?_)
       ·simp only [go_sem, s1, hg37]
        exact hK _ _ ⟨h.nx, s1, s3, s6, (by first | (simp only [go_sem, hg37, List.length_append, List.map_append]; done) | rfl), (by first | (simp only [go_sem, hg37, List.length_append, List.map_append]; done) | rfl), (by simp only [go_sem, hg37, List.length_append, List.map_append]), (by simp only [go_sem])⟩
       ·simp only [go_sem, s1, hg37]
        exact hK _ _ ⟨h.nx, s1, s3, s6, (by first | (simp only [go_sem, hg37, List.length_append, List.map_append]; done) | rfl), (by first | (simp only [go_sem, hg37, List.length_append, List.map_append]; done) | rfl), (by simp only [go_sem, hg37, List.length_append, List.map_append]), (by simp only [go_sem])⟩
      ·rintro t h ⟨i7, s1, s3, s6, s7, s103, qa, q0⟩
       refine b0r fun K38 hK38 => ?_
       simp only [go_sem, s103]
       refine b0u (fun hc39 => ?_) (fun hc39 => ?_)
       ·rw [b02 hc39] at hm1
        refine b0d fun K hK => ?_
        simp only [go_sem, q0]
        refine hK _ _ ?_
        clear hK K
        simp only [b1a, b1c, b1b, b1d]
        obtain rfl := Option.some.inj hm1
        obtain rfl := hb30 _ rfl
        try dsimp only at hm0
        obtain rfl := Option.some.inj hm0
        exact b1q (by simp only [go_sem, qa, q0, List.length_append, List.map_append]) (b0l _)
       ·rw [b01 hc39] at hm1
        simp only [b0z, b0i, b0j]
        refine hK38 _ _ ?_
        refine b0d fun K hK => ?_
        simp only [go_sem, q0]
        refine hK _ _ ?_
        clear hK K
        refine b0d fun K hK => ?_
        simp only [go_sem, q0]
        refine hK _ _ ?_
        clear hK K
        simp only [b00]
        obtain ⟨b40, hl40, hm1⟩ := b0h hm1
        refine b1x hl40 (fun | (last_8, k_9), t, h => t 1 = .fp [.fs 5 (List.map b0p h_.Combs), .fs 3 (List.map b0o h_.Trains), .fs 3 (List.map b0q h_.Shifts), I h_.Until] 0 ∧ t 3 = I (List.length h_.Combs : Int) ∧ t 6 = I i_6 ∧ t 7 = .rp i7 0 0 ∧ t 8 = I last_8 ∧ t 9 = I k_9 ∧ h.ob i7 = some (3, [[I x36.At.Low, I x36.At.High, .fs 3 (List.map b2t x36.Crowds)]]) ∧ i7 < h.nx) ?_ ?_
        ·exact ⟨s1, s3, s6, s7, (by first | (simp only [go_sem, List.length_append, List.map_append]; done) | rfl), (by first | (simp only [go_sem, List.length_append, List.map_append]; done) | rfl), qa, q0⟩
        ·rintro ⟨last_8, k_9⟩ o t h ⟨s1, s3, s6, s7, s8, s9, qa, q0⟩ hm2 hb40
         simp only [b69] at hm2
         rw [g0k]
         refine b03 ?_
         refine b0d fun K hK => ?_
         simp only [go_sem, s7, s9, qa, q0]
         refine hK _ _ ?_
         clear hK K
         refine b0r fun K41 hK41 => ?_
         simp only [go_sem]
         refine b0u (fun hc42 => ?_) (fun hc42 => ?_)
         ·rw [b02 hc42] at hm2
          simp only [b0z, b0i, b0j]
          refine hK41 _ _ ?_
          refine b0r fun K43 hK43 => ?_
          simp only [b00]
          refine b03 ?_
          obtain ⟨x45, h_x45, hm2⟩ := b0h hm2
          have h_x450 := b0w h_x45
          have h_x451 := b0x h_x45
          refine b2d (fun t h => t 1 = .fp [.fs 5 (List.map b0p h_.Combs), .fs 3 (List.map b0o h_.Trains), .fs 3 (List.map b0q h_.Shifts), I h_.Until] 0 ∧ t 3 = I (List.length h_.Combs : Int) ∧ t 6 = I i_6 ∧ t 7 = .rp i7 0 0 ∧ t 9 = I k_9 ∧ t 132 = B ((!(b2g x45.Comb (wr (last_8 + 1)) (wr ((List.length h_.Combs : Int) - 1)))) || (!(b4a x45.People 0 1000))) ∧ h.ob i7 = some (3, [[I x36.At.Low, I x36.At.High, .fs 3 (List.map b2t x36.Crowds)]]) ∧ i7 < h.nx) (fun K hK => ?_) ?_
          ·simp only [go_sem, s3, s7, s8, s9, qa, q0, b0m h_x45, b0n h_x45, h_x450, h_x451]
           refine b1j (b3t x45.Comb (wr (last_8 + 1)) (wr ((List.length h_.Combs : Int) - 1))) ?_
           simp only [go_sem, s3, s7, s8, s9, qa, q0, b0m h_x45, b0n h_x45, h_x450, h_x451]
           refine b0u (fun hg46 => ?_) (fun hg46 => ?_)
           ·simp only [go_sem, s3, s7, s8, s9, qa, q0, b0m h_x45, b0n h_x45, h_x450, h_x451, hg46]
            exact hK _ _ ⟨s1, s3, s6, s7, s9, (by first | (simp only [go_sem, hg46, List.length_append, List.map_append]; done) | rfl), qa, q0⟩
           ·simp only [go_sem, s3, s7, s8, s9, qa, q0, b0m h_x45, b0n h_x45, h_x450, h_x451, hg46]
            refine b1j (b9w x45.People 0 1000) ?_
            simp only [go_sem, s3, s7, s8, s9, qa, q0, b0m h_x45, b0n h_x45, h_x450, h_x451, hg46]
            exact hK _ _ ⟨s1, s3, s6, s7, s9, (by first | (simp only [go_sem, hg46, List.length_append, List.map_append]; done) | rfl), qa, q0⟩
          ·rintro t h ⟨s1, s3, s6, s7, s9, s132, qa, q0⟩
           refine b0r fun K47 hK47 => ?_
           simp only [go_sem, s132]
           refine b0u (fun hc48 => ?_) (fun hc48 => ?_)
           ·rw [b02 hc48] at hm2
            refine b0d fun K hK => ?_
            simp only [go_sem, q0]
            refine hK _ _ ?_
            clear hK K
            simp only [b1a, b1c, b1b, b1d]
            obtain rfl := Option.some.inj hm2
            obtain rfl := hb40 _ rfl
            try dsimp only at hm1
            obtain rfl := Option.some.inj hm1
            obtain rfl := hb30 _ rfl
            try dsimp only at hm0
            obtain rfl := Option.some.inj hm0
            exact b1q (by simp only [go_sem, qa, q0, List.length_append, List.map_append]) (b0l _)
           ·rw [b01 hc48] at hm2
            simp only [b0z, b0i, b0j]
            refine hK47 _ _ ?_
            refine b1i fun K hK => ?_
            simp only [go_sem, s7, s9, qa, q0, b0m h_x45, b0n h_x45, h_x450, h_x451]
            refine hK _ _ ?_
            clear hK K
            simp only [b0i, b0j]
            refine hK43 _ _ ?_
            refine b1i fun K hK => ?_
            simp only [go_sem, s9, q0]
            refine hK _ _ ?_
            clear hK K
            simp only [b0i, b0j]
            obtain rfl := Option.some.inj hm2
            refine ⟨_, rfl, ?_⟩
            exact ⟨s1, s3, s6, s7, (by first | (simp only [go_sem, List.length_append, List.map_append]; done) | rfl), (by first | (simp only [go_sem, s9, List.length_append, List.map_append]; done) | rfl), qa, q0⟩
         ·rw [b01 hc42] at hm2
          simp only [b1t, b1w, b1v, b1u, b0i, b0j, Nat.reduceEqDiff, not_false_eq_true]
          obtain rfl := Option.some.inj hm2
          obtain rfl := hb40 _ rfl
          try dsimp only at hm1
          exact J34  _ _ s1 s3 s6 hm1
     ·rw [b01 hc32] at hm1
      simp only [b1t, b1w, b1v, b1u, b0i, b0j, Nat.reduceEqDiff, not_false_eq_true]
      obtain rfl := Option.some.inj hm1
      obtain rfl := hb30 _ rfl
      try dsimp only at hm0
      exact J9  _ _ s1 s3 hm0
   simp only [b00]
   obtain ⟨b51, hl51, hm0⟩ := b0h hm0
   refine b1x hl51 (fun | i_4, t, h => t 1 = .fp [.fs 5 (List.map b0p h_.Combs), .fs 3 (List.map b0o h_.Trains), .fs 3 (List.map b0q h_.Shifts), I h_.Until] 0 ∧ t 3 = I (List.length h_.Combs : Int) ∧ t 4 = I i_4) ?_ ?_
   ·exact ⟨s1, (by first | (simp only [go_sem, List.length_append, List.map_append]; done) | rfl), (by first | (simp only [go_sem, List.length_append, List.map_append]; done) | rfl)⟩
   ·rintro i_4 o t h ⟨s1, s3, s4⟩ hm1 hb51
    simp only [b92] at hm1
    rw [g0j]
    refine b03 ?_
    refine b0d fun K hK => ?_
    simp only [go_sem, s3, s4]
    refine hK _ _ ?_
    clear hK K
    refine b0r fun K52 hK52 => ?_
    simp only [go_sem]
    refine b0u (fun hc53 => ?_) (fun hc53 => ?_)
    ·rw [b02 hc53] at hm1
     simp only [b0z, b0i, b0j]
     refine hK52 _ _ ?_
     refine b0r fun K54 hK54 => ?_
     simp only [b00]
     obtain ⟨x56, h_x56, hm1⟩ := b0h hm1
     have h_x560 := b0w h_x56
     have h_x561 := b0x h_x56
     refine b0d fun K hK => ?_
     simp only [go_sem, s1, s4, b0m h_x56, b0n h_x56, h_x560, h_x561]
     refine hK _ _ ?_
     clear hK K
     refine b2d (fun t h => t 1 = .fp [.fs 5 (List.map b0p h_.Combs), .fs 3 (List.map b0o h_.Trains), .fs 3 (List.map b0q h_.Shifts), I h_.Until] 0 ∧ t 3 = I (List.length h_.Combs : Int) ∧ t 4 = I i_4 ∧ t 78 = B ((((!(b2g x56.Rate 0 1000)) || (!(b2g x56.Limit 0 100000))) || ((decide (¬x56.Next = (-1))) && (!(b2g x56.Next (wr (i_4 + 1)) (wr ((List.length h_.Combs : Int) - 1)))))) || (!(b4a x56.Walk 1 20)))) (fun K hK => ?_) ?_
     ·simp only [go_sem, s3, s4]
      refine b1j (b3t x56.Rate 0 1000) ?_
      simp only [go_sem, s3, s4]
      refine b0u (fun hg57 => ?_) (fun hg57 => ?_)
      ·simp only [go_sem, s3, s4, hg57]
       exact hK _ _ ⟨s1, s3, s4, (by first | (simp only [go_sem, hg57, List.length_append, List.map_append]; done) | rfl)⟩
      ·simp only [go_sem, s3, s4, hg57]
       refine b1j (b3t x56.Limit 0 100000) ?_
       simp only [go_sem, s3, s4, hg57]
       refine b0u (fun hg58 => ?_) (fun hg58 => ?_)
       ·simp only [go_sem, s3, s4, hg57, hg58]
        exact hK _ _ ⟨s1, s3, s4, (by first | (simp only [go_sem, hg57, hg58, List.length_append, List.map_append]; done) | rfl)⟩
       ·simp only [go_sem, s3, s4, hg57, hg58]
        refine b0u (fun hg59 => ?_) (fun hg59 => ?_)
        ·simp only [go_sem, s3, s4, hg57, hg58, hg59]
         refine b1j (b3t x56.Next (wr (i_4 + 1)) (wr ((List.length h_.Combs : Int) - 1))) ?_
         simp only [go_sem, s3, s4, hg57, hg58, hg59]
         refine b0u (fun hg60 => ?_) (fun hg60 => ?_)
         ·simp only [go_sem, s3, s4, hg57, hg58, hg59, hg60]
          exact hK _ _ ⟨s1, s3, s4, (by first | (simp only [go_sem, hg57, hg58, hg59, hg60, List.length_append, List.map_append]; done) | rfl)⟩
         ·simp only [go_sem, s3, s4, hg57, hg58, hg59, hg60]
          refine b1j (b9w x56.Walk 1 20) ?_
          simp only [go_sem, s3, s4, hg57, hg58, hg59, hg60]
          exact hK _ _ ⟨s1, s3, s4, (by first | (simp only [go_sem, hg57, hg58, hg59, hg60, List.length_append, List.map_append]; done) | rfl)⟩
        ·simp only [go_sem, s3, s4, hg57, hg58, hg59]
         refine b1j (b9w x56.Walk 1 20) ?_
         simp only [go_sem, s3, s4, hg57, hg58, hg59]
         exact hK _ _ ⟨s1, s3, s4, (by first | (simp only [go_sem, hg57, hg58, hg59, List.length_append, List.map_append]; done) | rfl)⟩
     ·rintro t h ⟨s1, s3, s4, s78⟩
      simp only [go_sem, s78]
      refine b0u (fun hc61 => ?_) (fun hc61 => ?_)
      ·rw [b02 hc61] at hm1
       refine b0d fun K hK => ?_
       simp only [go_sem]
       refine hK _ _ ?_
       clear hK K
       simp only [b1a, b1c, b1b, b1d]
       obtain rfl := Option.some.inj hm1
       obtain rfl := hb51 _ rfl
       try dsimp only at hm0
       obtain rfl := Option.some.inj hm0
       exact b1q (by simp only [go_sem, List.length_append, List.map_append]) (b0l _)
      ·rw [b01 hc61] at hm1
       simp only [b0z, b0i, b0j]
       refine hK54 _ _ ?_
       refine b1i fun K hK => ?_
       simp only [go_sem, s4]
       refine hK _ _ ?_
       clear hK K
       simp only [b0i, b0j]
       obtain rfl := Option.some.inj hm1
       refine ⟨_, rfl, ?_⟩
       exact ⟨s1, s3, (by first | (simp only [go_sem, s4, List.length_append, List.map_append]; done) | rfl)⟩
    ·rw [b01 hc53] at hm1
     simp only [b1t, b1w, b1v, b1u, b0i, b0j, Nat.reduceEqDiff, not_false_eq_true]
     obtain rfl := Option.some.inj hm1
     obtain rfl := hb51 _ rfl
     try dsimp only at hm0
     exact J7  _ _ s1 s3 hm0
theorem d0k (hf : Has O "newel/newelref06.Fits" x_r06_Fits) (b3t : c0n O) : c7c O := by
 intro h_ d r hm0
 unfold b95 at hm0
 refine b2k hf rfl (b0e (.agg _ (b0e (b0s fun a _ => b2m a) (b0e (b0s fun a _ => b2l a) (b0e (b0s fun a _ => b2o a) (b0e (b0l _) b0y))))) (b0e (.agg _ (b0e (b0s fun a _ => b2b a) (b0e (b0s fun a _ => b2v a) (b0e (b0s fun a _ => b2v a) b0y)))) b0y)) (b0l _) ?_
 refine b2h (fun t h => t 0 = .agg [.fs 5 (List.map b0p h_.Combs), .fs 3 (List.map b0o h_.Trains), .fs 3 (List.map b0q h_.Shifts), I h_.Until] ∧ t 1 = .agg [.fs 1 (List.map eI d.At), .fs 1 (List.map b0k d.People), .fs 1 (List.map b0k d.Walks)]) ⟨rfl, rfl⟩ fun t h ⟨s0, s1⟩ => ?_
 simp only [x_r06_Fits]
 refine b0d fun K hK => ?_
 simp only [go_sem, s0, s1]
 refine hK _ _ ?_
 clear hK K
 refine b03 ?_
 refine b2d (fun t h => t 2 = .fp [.fs 5 (List.map b0p h_.Combs), .fs 3 (List.map b0o h_.Trains), .fs 3 (List.map b0q h_.Shifts), I h_.Until] 0 ∧ t 3 = .fp [.fs 1 (List.map eI d.At), .fs 1 (List.map b0k d.People), .fs 1 (List.map b0k d.Walks)] 0 ∧ t 34 = B (((decide (¬(List.length d.At : Int) = (List.length h_.Trains : Int))) || (decide (¬(List.length d.People : Int) = (List.length h_.Trains : Int)))) || (decide (¬(List.length d.Walks : Int) = (List.length h_.Combs : Int))))) (fun K hK => ?_) ?_
 ·simp only [go_sem]
  refine b0u (fun hg1 => ?_) (fun hg1 => ?_)
  ·simp only [go_sem, hg1]
   exact hK _ _ ⟨(by first | (simp only [go_sem, hg1, List.length_append, List.map_append]; done) | rfl), (by first | (simp only [go_sem, hg1, List.length_append, List.map_append]; done) | rfl), (by first | (simp only [go_sem, hg1, List.length_append, List.map_append]; done) | rfl)⟩
  ·simp only [go_sem, hg1]
   refine b0u (fun hg2 => ?_) (fun hg2 => ?_)
   ·simp only [go_sem, hg1, hg2]
    exact hK _ _ ⟨(by first | (simp only [go_sem, hg1, hg2, List.length_append, List.map_append]; done) | rfl), (by first | (simp only [go_sem, hg1, hg2, List.length_append, List.map_append]; done) | rfl), (by first | (simp only [go_sem, hg1, hg2, List.length_append, List.map_append]; done) | rfl)⟩
   ·simp only [go_sem, hg1, hg2]
    exact hK _ _ ⟨(by first | (simp only [go_sem, hg1, hg2, List.length_append, List.map_append]; done) | rfl), (by first | (simp only [go_sem, hg1, hg2, List.length_append, List.map_append]; done) | rfl), (by first | (simp only [go_sem, hg1, hg2, List.length_append, List.map_append]; done) | rfl)⟩
 ·rintro t h ⟨s2, s3, s34⟩
  refine b0r fun K3 hK3 => ?_
  simp only [go_sem, s34]
  refine b0u (fun hc4 => ?_) (fun hc4 => ?_)
  ·rw [b02 hc4] at hm0
   refine b0d fun K hK => ?_
   simp only [go_sem]
   refine hK _ _ ?_
   clear hK K
   simp only [b1a, b1c, b1b, b1d]
   obtain rfl := Option.some.inj hm0
   exact b1q (by simp only [go_sem, List.length_append, List.map_append]) (b0l _)
  ·rw [b01 hc4] at hm0
   simp only [b0z, b0i, b0j]
   refine hK3 _ _ ?_
   refine b03 ?_
   refine b0d fun K hK => ?_
   simp only [go_sem]
   refine hK _ _ ?_
   clear hK K
   refine b0r fun K5 hK5 => ?_
   have J6 : ∀ (t : Slots) (h : Heap), t 2 = .fp [.fs 5 (List.map b0p h_.Combs), .fs 3 (List.map b0o h_.Trains), .fs 3 (List.map b0q h_.Shifts), I h_.Until] 0 → t 3 = .fp [.fs 1 (List.map eI d.At), .fs 1 (List.map b0k d.People), .fs 1 (List.map b0k d.Walks)] 0 → c54 h_ d = some r → K5 t h := by
    intro t h s2 s3 hm0
    refine hK5 _ _ ?_
    unfold c54 at hm0
    refine b03 ?_
    refine b0d fun K hK => ?_
    simp only [go_sem]
    refine hK _ _ ?_
    clear hK K
    refine b0r fun K7 hK7 => ?_
    have J8 : ∀ (t : Slots) (h : Heap), d1f = some r → K7 t h := by
     intro t h hm0
     refine hK7 _ _ ?_
     unfold d1f at hm0
     refine b0d fun K hK => ?_
     simp only [go_sem]
     refine hK _ _ ?_
     clear hK K
     simp only [b1a, b1c, b1b, b1d]
     obtain rfl := Option.some.inj hm0
     exact b1q (by simp only [go_sem, List.length_append, List.map_append]) (b0l _)
    simp only [b00]
    obtain ⟨b9, hl9, hm0⟩ := b0h hm0
    refine b1x hl9 (fun | i_8, t, h => t 2 = .fp [.fs 5 (List.map b0p h_.Combs), .fs 3 (List.map b0o h_.Trains), .fs 3 (List.map b0q h_.Shifts), I h_.Until] 0 ∧ t 3 = .fp [.fs 1 (List.map eI d.At), .fs 1 (List.map b0k d.People), .fs 1 (List.map b0k d.Walks)] 0 ∧ t 8 = I i_8) ?_ ?_
    ·exact ⟨s2, s3, (by first | (simp only [go_sem, List.length_append, List.map_append]; done) | rfl)⟩
    ·rintro i_8 o t h ⟨s2, s3, s8⟩ hm1 hb9
     simp only [b98] at hm1
     rw [g0q]
     refine b03 ?_
     refine b0d fun K hK => ?_
     simp only [go_sem, s2, s8]
     refine hK _ _ ?_
     clear hK K
     refine b0r fun K10 hK10 => ?_
     simp only [go_sem]
     refine b0u (fun hc11 => ?_) (fun hc11 => ?_)
     ·rw [b02 hc11] at hm1
      simp only [b0z, b0i, b0j]
      refine hK10 _ _ ?_
      refine b0r fun K12 hK12 => ?_
      have J13 : ∀ (t : Slots) (h : Heap), t 2 = .fp [.fs 5 (List.map b0p h_.Combs), .fs 3 (List.map b0o h_.Trains), .fs 3 (List.map b0q h_.Shifts), I h_.Until] 0 → t 3 = .fp [.fs 1 (List.map eI d.At), .fs 1 (List.map b0k d.People), .fs 1 (List.map b0k d.Walks)] 0 → t 8 = I i_8 → c52 i_8 = some o → K12 t h := by
       intro t h s2 s3 s8 hm1
       refine hK12 _ _ ?_
       unfold c52 at hm1
       refine b1i fun K hK => ?_
       simp only [go_sem, s8]
       refine hK _ _ ?_
       clear hK K
       simp only [b0i, b0j]
       obtain rfl := Option.some.inj hm1
       refine ⟨_, rfl, ?_⟩
       exact ⟨s2, s3, (by first | (simp only [go_sem, s8, List.length_append, List.map_append]; done) | rfl)⟩
      simp only [b00]
      refine b03 ?_
      obtain ⟨x15, h_x15, hm1⟩ := b0h hm1
      have h_x150 := b0w h_x15
      have h_x151 := b0x h_x15
      refine b0d fun K hK => ?_
      simp only [go_sem, s3, s8, b0m h_x15, b0n h_x15, h_x150, h_x151]
      refine b1j (b3t (List.length x15 : Int) 1 20) ?_
      simp only [go_sem, s3, s8, b0m h_x15, b0n h_x15, h_x150, h_x151]
      refine hK _ _ ?_
      clear hK K
      refine b0r fun K16 hK16 => ?_
      simp only [go_sem]
      refine b0u (fun hc17 => ?_) (fun hc17 => ?_)
      ·rw [b02 hc17] at hm1
       refine b0d fun K hK => ?_
       simp only [go_sem]
       refine hK _ _ ?_
       clear hK K
       simp only [b1a, b1c, b1b, b1d]
       obtain rfl := Option.some.inj hm1
       obtain rfl := hb9 _ rfl
       try dsimp only at hm0
       obtain rfl := Option.some.inj hm0
       exact b1q (by simp only [go_sem, List.length_append, List.map_append]) (b0l _)
      ·rw [b01 hc17] at hm1
       simp only [b0z, b0i, b0j]
       refine hK16 _ _ ?_
       refine b0d fun K hK => ?_
       simp only [go_sem]
       refine hK _ _ ?_
       clear hK K
       simp only [b00]
       obtain ⟨b18, hl18, hm1⟩ := b0h hm1
       refine b1x hl18 (fun | k_9, t, h => t 2 = .fp [.fs 5 (List.map b0p h_.Combs), .fs 3 (List.map b0o h_.Trains), .fs 3 (List.map b0q h_.Shifts), I h_.Until] 0 ∧ t 3 = .fp [.fs 1 (List.map eI d.At), .fs 1 (List.map b0k d.People), .fs 1 (List.map b0k d.Walks)] 0 ∧ t 8 = I i_8 ∧ t 9 = I k_9) ?_ ?_
       ·exact ⟨s2, s3, s8, (by first | (simp only [go_sem, List.length_append, List.map_append]; done) | rfl)⟩
       ·rintro k_9 o t h ⟨s2, s3, s8, s9⟩ hm2 hb18
        simp only [b7b] at hm2
        rw [g0p]
        refine b03 ?_
        obtain ⟨x20, h_x20, hm2⟩ := b0h hm2
        have h_x200 := b0w h_x20
        have h_x201 := b0x h_x20
        refine b0d fun K hK => ?_
        simp only [go_sem, s3, s8, s9, b0m h_x20, b0n h_x20, h_x200, h_x201]
        refine hK _ _ ?_
        clear hK K
        refine b0r fun K21 hK21 => ?_
        simp only [go_sem]
        refine b0u (fun hc22 => ?_) (fun hc22 => ?_)
        ·rw [b02 hc22] at hm2
         simp only [b0z, b0i, b0j]
         refine hK21 _ _ ?_
         refine b0r fun K23 hK23 => ?_
         simp only [b00]
         obtain ⟨x26, h_x26, hm2⟩ := b0h hm2
         have h_x260 := b0w h_x26
         have h_x261 := b0x h_x26
         obtain ⟨x27, h_x27, hm2⟩ := b0h hm2
         have h_x270 := b0w h_x27
         have h_x271 := b0x h_x27
         refine b0d fun K hK => ?_
         simp only [go_sem, s2, s3, s8, s9, b0m h_x26, b0n h_x26, h_x260, h_x261, b0m h_x27, b0n h_x27, h_x270, h_x271, b0m h_x20, b0n h_x20, h_x200, h_x201]
         refine b1j (b3t x26 x27.Walk.Low x27.Walk.High) ?_
         simp only [go_sem, s2, s3, s8, s9, b0m h_x26, b0n h_x26, h_x260, h_x261, b0m h_x27, b0n h_x27, h_x270, h_x271, b0m h_x20, b0n h_x20, h_x200, h_x201]
         refine hK _ _ ?_
         clear hK K
         simp only [go_sem]
         refine b0u (fun hc28 => ?_) (fun hc28 => ?_)
         ·rw [b02 hc28] at hm2
          refine b0d fun K hK => ?_
          simp only [go_sem]
          refine hK _ _ ?_
          clear hK K
          simp only [b1a, b1c, b1b, b1d]
          obtain rfl := Option.some.inj hm2
          obtain rfl := hb18 _ rfl
          try dsimp only at hm1
          obtain rfl := Option.some.inj hm1
          obtain rfl := hb9 _ rfl
          try dsimp only at hm0
          obtain rfl := Option.some.inj hm0
          exact b1q (by simp only [go_sem, List.length_append, List.map_append]) (b0l _)
         ·rw [b01 hc28] at hm2
          simp only [b0z, b0i, b0j]
          refine hK23 _ _ ?_
          refine b1i fun K hK => ?_
          simp only [go_sem, s9]
          refine hK _ _ ?_
          clear hK K
          simp only [b0i, b0j]
          obtain rfl := Option.some.inj hm2
          refine ⟨_, rfl, ?_⟩
          exact ⟨s2, s3, s8, (by first | (simp only [go_sem, s9, List.length_append, List.map_append]; done) | rfl)⟩
        ·rw [b01 hc22] at hm2
         simp only [b1t, b1w, b1v, b1u, b0i, b0j, Nat.reduceEqDiff, not_false_eq_true]
         obtain rfl := Option.some.inj hm2
         obtain rfl := hb18 _ rfl
         try dsimp only at hm1
         exact J13  _ _ s2 s3 s8 hm1
     ·rw [b01 hc11] at hm1
      simp only [b1t, b1w, b1v, b1u, b0i, b0j, Nat.reduceEqDiff, not_false_eq_true]
      obtain rfl := Option.some.inj hm1
      obtain rfl := hb9 _ rfl
      try dsimp only at hm0
      exact J8  _ _  hm0
   simp only [b00]
   obtain ⟨b31, hl31, hm0⟩ := b0h hm0
   refine b1x hl31 (fun | i_5, t, h => t 2 = .fp [.fs 5 (List.map b0p h_.Combs), .fs 3 (List.map b0o h_.Trains), .fs 3 (List.map b0q h_.Shifts), I h_.Until] 0 ∧ t 3 = .fp [.fs 1 (List.map eI d.At), .fs 1 (List.map b0k d.People), .fs 1 (List.map b0k d.Walks)] 0 ∧ t 5 = I i_5) ?_ ?_
   ·exact ⟨s2, s3, (by first | (simp only [go_sem, List.length_append, List.map_append]; done) | rfl)⟩
   ·rintro i_5 o t h ⟨s2, s3, s5⟩ hm1 hb31
    simp only [b97] at hm1
    rw [g0o]
    refine b03 ?_
    refine b0d fun K hK => ?_
    simp only [go_sem, s2, s5]
    refine hK _ _ ?_
    clear hK K
    refine b0r fun K32 hK32 => ?_
    simp only [go_sem]
    refine b0u (fun hc33 => ?_) (fun hc33 => ?_)
    ·rw [b02 hc33] at hm1
     simp only [b0z, b0i, b0j]
     refine hK32 _ _ ?_
     refine b0r fun K34 hK34 => ?_
     have J35 : ∀ (t : Slots) (h : Heap), t 2 = .fp [.fs 5 (List.map b0p h_.Combs), .fs 3 (List.map b0o h_.Trains), .fs 3 (List.map b0q h_.Shifts), I h_.Until] 0 → t 3 = .fp [.fs 1 (List.map eI d.At), .fs 1 (List.map b0k d.People), .fs 1 (List.map b0k d.Walks)] 0 → t 5 = I i_5 → c53 i_5 = some o → K34 t h := by
      intro t h s2 s3 s5 hm1
      refine hK34 _ _ ?_
      unfold c53 at hm1
      refine b1i fun K hK => ?_
      simp only [go_sem, s5]
      refine hK _ _ ?_
      clear hK K
      simp only [b0i, b0j]
      obtain rfl := Option.some.inj hm1
      refine ⟨_, rfl, ?_⟩
      exact ⟨s2, s3, (by first | (simp only [go_sem, s5, List.length_append, List.map_append]; done) | rfl)⟩
     simp only [b00]
     obtain ⟨x37, h_x37, hm1⟩ := b0h hm1
     have h_x370 := b0w h_x37
     have h_x371 := b0x h_x37
     refine b0d fun K hK => ?_
     simp only [go_sem, s2, s5, b0m h_x37, b0n h_x37, h_x370, h_x371]
     refine hK _ _ ?_
     clear hK K
     refine b03 ?_
     obtain ⟨x41, h_x41, hm1⟩ := b0h hm1
     have h_x410 := b0w h_x41
     have h_x411 := b0x h_x41
     obtain ⟨c43, h_c43, hm1⟩ := b0h hm1
     refine b2d (fun t h => ∃ i6 : Nat, t 2 = .fp [.fs 5 (List.map b0p h_.Combs), .fs 3 (List.map b0o h_.Trains), .fs 3 (List.map b0q h_.Shifts), I h_.Until] 0 ∧ t 3 = .fp [.fs 1 (List.map eI d.At), .fs 1 (List.map b0k d.People), .fs 1 (List.map b0k d.Walks)] 0 ∧ t 5 = I i_5 ∧ t 6 = .rp i6 0 0 ∧ t 71 = B c43 ∧ h.ob i6 = some (3, [[I x37.At.Low, I x37.At.High, .fs 3 (List.map b2t x37.Crowds)]]) ∧ i6 < h.nx) (fun K hK => ?_) ?_
     ·simp only [go_sem, s3, s5, b0m h_x41, b0n h_x41, h_x410, h_x411]
      refine b1j (b3t x41 x37.At.Low x37.At.High) ?_
      simp only [go_sem, s3, s5, b0m h_x41, b0n h_x41, h_x410, h_x411]
      refine b0u (fun hg44 => ?_) (fun hg44 => ?_)
      ·simp only [hg44, Bool.not_true, Bool.not_false, eq_self, if_true, if_false, Bool.true_or, Bool.or_true, Bool.false_or, Bool.or_false, Bool.true_and, Bool.and_true, Bool.false_and, Bool.and_false, Bool.false_eq_true] at h_c43
       obtain rfl := Option.some.inj h_c43
       simp only [go_sem, s3, s5, b0m h_x41, b0n h_x41, h_x410, h_x411, hg44]
       exact hK _ _ ⟨h.nx, s2, s3, s5, (by first | (simp only [go_sem, hg44, List.length_append, List.map_append]; done) | rfl), (by first | (simp only [go_sem, hg44, List.length_append, List.map_append]; done) | rfl), (by simp only [go_sem, hg44, List.length_append, List.map_append]), (by simp only [go_sem])⟩
      ·simp only [hg44, Bool.not_true, Bool.not_false, eq_self, if_true, if_false, Bool.true_or, Bool.or_true, Bool.false_or, Bool.or_false, Bool.true_and, Bool.and_true, Bool.false_and, Bool.and_false, Bool.false_eq_true] at h_c43
       obtain ⟨x42, h_x42, h_c43⟩ := b0h h_c43
       have h_x420 := b0w h_x42
       have h_x421 := b0x h_x42
       obtain rfl := Option.some.inj h_c43
       simp only [go_sem, s3, s5, b0m h_x41, b0n h_x41, h_x410, h_x411, b0m h_x42, b0n h_x42, h_x420, h_x421, hg44]
       exact hK _ _ ⟨h.nx, s2, s3, s5, (by first | (simp only [go_sem, hg44, List.length_append, List.map_append]; done) | rfl), (by first | (simp only [go_sem, hg44, List.length_append, List.map_append]; done) | rfl), (by simp only [go_sem, hg44, List.length_append, List.map_append]), (by simp only [go_sem])⟩
     ·rintro t h ⟨i6, s2, s3, s5, s6, s71, q1j, q1g⟩
      refine b0r fun K45 hK45 => ?_
      simp only [go_sem, s71]
      refine b0u (fun hc46 => ?_) (fun hc46 => ?_)
      ·rw [b02 hc46] at hm1
       refine b0d fun K hK => ?_
       simp only [go_sem, q1g]
       refine hK _ _ ?_
       clear hK K
       simp only [b1a, b1c, b1b, b1d]
       obtain rfl := Option.some.inj hm1
       obtain rfl := hb31 _ rfl
       try dsimp only at hm0
       obtain rfl := Option.some.inj hm0
       exact b1q (by simp only [go_sem, q1j, q1g, List.length_append, List.map_append]) (b0l _)
      ·rw [b01 hc46] at hm1
       simp only [b0z, b0i, b0j]
       refine hK45 _ _ ?_
       refine b0d fun K hK => ?_
       simp only [go_sem, q1g]
       refine hK _ _ ?_
       clear hK K
       simp only [b00]
       obtain ⟨b47, hl47, hm1⟩ := b0h hm1
       refine b1x hl47 (fun | k_7, t, h => t 2 = .fp [.fs 5 (List.map b0p h_.Combs), .fs 3 (List.map b0o h_.Trains), .fs 3 (List.map b0q h_.Shifts), I h_.Until] 0 ∧ t 3 = .fp [.fs 1 (List.map eI d.At), .fs 1 (List.map b0k d.People), .fs 1 (List.map b0k d.Walks)] 0 ∧ t 5 = I i_5 ∧ t 6 = .rp i6 0 0 ∧ t 7 = I k_7 ∧ h.ob i6 = some (3, [[I x37.At.Low, I x37.At.High, .fs 3 (List.map b2t x37.Crowds)]]) ∧ i6 < h.nx) ?_ ?_
       ·exact ⟨s2, s3, s5, s6, (by first | (simp only [go_sem, List.length_append, List.map_append]; done) | rfl), q1j, q1g⟩
       ·rintro k_7 o t h ⟨s2, s3, s5, s6, s7, q1j, q1g⟩ hm2 hb47
        simp only [b7a] at hm2
        rw [g0n]
        refine b03 ?_
        refine b0d fun K hK => ?_
        simp only [go_sem, s6, s7, q1j, q1g]
        refine hK _ _ ?_
        clear hK K
        refine b0r fun K48 hK48 => ?_
        simp only [go_sem]
        refine b0u (fun hc49 => ?_) (fun hc49 => ?_)
        ·rw [b02 hc49] at hm2
         simp only [b0z, b0i, b0j]
         refine hK48 _ _ ?_
         refine b0r fun K50 hK50 => ?_
         simp only [b00]
         obtain ⟨x54, h_x54, hm2⟩ := b0h hm2
         have h_x540 := b0w h_x54
         have h_x541 := b0x h_x54
         obtain ⟨x55, h_x55, hm2⟩ := b0h hm2
         have h_x550 := b0w h_x55
         have h_x551 := b0x h_x55
         obtain ⟨x56, h_x56, hm2⟩ := b0h hm2
         have h_x560 := b0w h_x56
         have h_x561 := b0x h_x56
         refine b0d fun K hK => ?_
         simp only [go_sem, s3, s5, s6, s7, q1j, q1g, b0m h_x54, b0n h_x54, h_x540, h_x541, b0m h_x55, b0n h_x55, h_x550, h_x551, b0m h_x56, b0n h_x56, h_x560, h_x561]
         refine b1j (b3t x55 x56.People.Low x56.People.High) ?_
         simp only [go_sem, s3, s5, s6, s7, q1j, q1g, b0m h_x54, b0n h_x54, h_x540, h_x541, b0m h_x55, b0n h_x55, h_x550, h_x551, b0m h_x56, b0n h_x56, h_x560, h_x561]
         refine hK _ _ ?_
         clear hK K
         simp only [go_sem]
         refine b0u (fun hc57 => ?_) (fun hc57 => ?_)
         ·rw [b02 hc57] at hm2
          refine b0d fun K hK => ?_
          simp only [go_sem, q1g]
          refine hK _ _ ?_
          clear hK K
          simp only [b1a, b1c, b1b, b1d]
          obtain rfl := Option.some.inj hm2
          obtain rfl := hb47 _ rfl
          try dsimp only at hm1
          obtain rfl := Option.some.inj hm1
          obtain rfl := hb31 _ rfl
          try dsimp only at hm0
          obtain rfl := Option.some.inj hm0
          exact b1q (by simp only [go_sem, q1j, q1g, List.length_append, List.map_append]) (b0l _)
         ·rw [b01 hc57] at hm2
          simp only [b0z, b0i, b0j]
          refine hK50 _ _ ?_
          refine b1i fun K hK => ?_
          simp only [go_sem, s7, q1g]
          refine hK _ _ ?_
          clear hK K
          simp only [b0i, b0j]
          obtain rfl := Option.some.inj hm2
          refine ⟨_, rfl, ?_⟩
          exact ⟨s2, s3, s5, s6, (by first | (simp only [go_sem, s7, List.length_append, List.map_append]; done) | rfl), q1j, q1g⟩
        ·rw [b01 hc49] at hm2
         simp only [b1t, b1w, b1v, b1u, b0i, b0j, Nat.reduceEqDiff, not_false_eq_true]
         obtain rfl := Option.some.inj hm2
         obtain rfl := hb47 _ rfl
         try dsimp only at hm1
         exact J35  _ _ s2 s3 s5 hm1
    ·rw [b01 hc33] at hm1
     simp only [b1t, b1w, b1v, b1u, b0i, b0j, Nat.reduceEqDiff, not_false_eq_true]
     obtain rfl := Option.some.inj hm1
     obtain rfl := hb31 _ rfl
     try dsimp only at hm0
     exact J6  _ _ s2 s3 hm0
theorem b9w (hf : Has O "newel/newelref06.spanned" x_r06_spanned) : c7h O := by
 intro s low high
 generalize hm0 : b4a s low high = r
 unfold b4a at hm0
 refine b2k hf rfl (b0e (.agg _ (b0e (b0l _) (b0e (b0l _) b0y))) (b0e (b0l _) (b0e (b0l _) b0y))) (b0l _) ?_
 refine b2h (fun t h => t 0 = .agg [I s.Low, I s.High] ∧ t 1 = I low ∧ t 2 = I high) ⟨rfl, rfl, rfl⟩ fun t h ⟨s0, s1, s2⟩ => ?_
 simp only [x_r06_spanned]
 refine b0d fun K hK => ?_
 simp only [go_sem, s0]
 refine hK _ _ ?_
 clear hK K
 refine b2d (fun t h => t 6 = B (((decide (low ≤ s.Low)) && (decide (s.Low ≤ s.High))) && (decide (s.High ≤ high)))) (fun K hK => ?_) ?_
 ·simp only [go_sem, s1, s2]
  refine b0u (fun hg1 => ?_) (fun hg1 => ?_)
  ·simp only [go_sem, s1, s2, hg1]
   refine b0u (fun hg2 => ?_) (fun hg2 => ?_)
   ·simp only [go_sem, s1, s2, hg1, hg2]
    exact hK _ _ (by first | (simp only [go_sem, hg1, hg2, List.length_append, List.map_append]; done) | rfl)
   ·simp only [go_sem, s1, s2, hg1, hg2]
    exact hK _ _ (by first | (simp only [go_sem, hg1, hg2, List.length_append, List.map_append]; done) | rfl)
  ·simp only [go_sem, s1, s2, hg1]
   exact hK _ _ (by first | (simp only [go_sem, hg1, List.length_append, List.map_append]; done) | rfl)
 ·rintro t h s6
  simp only [b1a, b1c, b1b, b1d]
  obtain rfl := hm0
  exact b1q (by simp only [go_sem, s6, List.length_append, List.map_append]) (b0l _)
theorem c2b (hf : Has O "slices.ContainsFunc[[]int,int]" x_slices_ContainsFunc___int_int_) (c2c : c3p O) : c3o O := by
 intro s f_n f_a f_b f f_z f_h r hm0
 unfold b8n at hm0
 refine b2k hf rfl (b0e (b0s fun a _ => b2b a) (b0e f_z b0y)) (b0l _) ?_
 refine b2h (fun t h => t 0 = .fs 1 (List.map eI s) ∧ t 1 = .fn f_n f_a f_b) ⟨rfl, rfl⟩ fun t h ⟨s0, s1⟩ => ?_
 simp only [x_slices_ContainsFunc___int_int_]
 refine b0d fun K hK => ?_
 simp only [go_sem]
 refine hK _ _ ?_
 clear hK K
 obtain ⟨y2, h_y2, hm0⟩ := b0h hm0
 refine b0d fun K hK => ?_
 simp only [go_sem, s0, s1]
 refine b1j (c2c s f_n f_a f_b f f_z f_h _ h_y2) ?_
 simp only [go_sem, s0, s1]
 refine hK _ _ ?_
 clear hK K
 simp only [b1a, b1c, b1b, b1d]
 obtain rfl := Option.some.inj hm0
 exact b1q (by simp only [go_sem, List.length_append, List.map_append]) (b0l _)
end Go.Nw.HM
