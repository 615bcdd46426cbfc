/- That the texts make what their models say: printed by a program. -/
import Derived.Test.YteoedeeljnboeaaHM
set_option linter.all false
set_option linter.unusedVariables false
set_option linter.unusedSimpArgs false
set_option linter.unusedSectionVars false
namespace Go.Nw.HM
open Go.Nw.Halls
set_option linter.unusedSimpArgs false
set_option linter.unusedVariables false
set_option maxHeartbeats 4000000
variable {O : Orac}
theorem b84 (hf : Has O "newel/halls.bounds" x_halls_bounds) (c3a : c4b O) (c27 : c4a O) : c1m O := by
 intro h_ open_ r hm0
 unfold b44 at hm0
 refine b2k hf rfl (b0e (.agg _ (b0e (b0w fun a _ => b2l a) (b0e (b0w fun a _ => b2n a) (b0e (b0w fun a _ => b2p a) (b0e (b0j _) b0z))))) (b0e (b0w fun a _ => b3g a) b0z)) (b0w fun a _ => c2e a) ?_
 refine b2f (fun t h => t 0 = .agg [.fs 5 (List.map b0n h_.Combs), .fs 3 (List.map b0k h_.Trains), .fs 3 (List.map b0s h_.Shifts), I h_.Until] ∧ t 1 = .fs 1 (List.map b0o open_)) ⟨rfl, rfl⟩ fun t h ⟨s0, s1⟩ => ?_
 simp only [x_halls_bounds]
 refine b0d fun K hK => ?_
 simp only [go_sem, s0]
 refine hK _ _ ?_
 clear hK K
 refine b0d fun K hK => ?_
 simp only [go_sem]
 refine hK _ _ ?_
 clear hK K
 refine b06 ?_
 refine b0d fun K hK => ?_
 simp only [go_sem]
 refine hK _ _ ?_
 clear hK K
 refine b0u fun K1 hK1 => ?_
 have J2 : ∀ (all_5 : List halls_bound) (v5 : AV) (t : Slots) (h : Heap), t 5 = v5 → b01 h v5 1 (List.map b2a all_5) → b8t all_5 = some r → K1 t h := by
  intro all_5 v5 t h s5 qa hm0
  refine hK1 _ _ ?_
  unfold b8t at hm0
  refine b06 ?_
  refine c15 (s := 5) (v := v5) (f := b2a) (l := all_5) (by simp only [go_sem, s5, b0q qa, List.length_append, List.map_append]) (b1t qa (by intro j hj hl; first | rfl | simp only [go_sem, hl]) (by first | omega | exact Nat.le_refl _ | (simp only [go_sem, nxs] <;> omega))) c2e d8s ?_
  skip
  refine b0d fun K hK => ?_
  simp only [go_sem, s5, b0a v5]
  refine hK _ _ ?_
  clear hK K
  simp only [b1c, b1e, b1d, b1f]
  obtain rfl := Option.some.inj hm0
  exact b1s (by simp only [go_sem, b0q qa, List.length_append, List.map_append]) (b0w fun a _ => c2e a)
 simp only [b05]
 obtain ⟨b3, hl3, hm0⟩ := b0g hm0
 refine b10 hl3 (fun | (all_5, x_19), t, h => ∃ v5 : AV, t 1 = .fs 1 (List.map b0o open_) ∧ t 2 = .fp [.fs 5 (List.map b0n h_.Combs), .fs 3 (List.map b0k h_.Trains), .fs 3 (List.map b0s h_.Shifts), I h_.Until] 0 ∧ t 5 = v5 ∧ t 18 = I (List.length h_.Combs : Int) ∧ t 19 = I x_19 ∧ b01 h v5 1 (List.map b2a all_5)) ?_ ?_
 ·exact ⟨(.v (.slice none 0 0)), s1, (by first | (simp only [go_sem, List.length_append, List.map_append]; done) | rfl), (by first | (simp only [go_sem, List.length_append, List.map_append]; done) | rfl), (by first | (simp only [go_sem, List.length_append, List.map_append]; done) | rfl), (by first | (simp only [go_sem, List.length_append, List.map_append]; done) | rfl), b54⟩
 ·rintro ⟨all_5, x_19⟩ o t h ⟨v5, s1, s2, s5, s18, s19, qa⟩ hm1 hb3
  simp only [b7k] at hm1
  rw [d2y]
  refine b0d fun K hK => ?_
  simp only [go_sem, s18, s19, b0a v5]
  refine hK _ _ ?_
  clear hK K
  refine b0u fun K4 hK4 => ?_
  simp only [go_sem]
  refine b0r (fun hc5 => ?_) (fun hc5 => ?_)
  ·rw [b04 hc5] at hm1
   simp only [b02, b0h, b0i]
   refine hK4 _ _ ?_
   refine b0u fun K6 hK6 => ?_
   have J7 : ∀ (all_5_1 : List halls_bound) (i5 : Nat) (t : Slots) (h : Heap), t 1 = .fs 1 (List.map b0o open_) → t 2 = .fp [.fs 5 (List.map b0n h_.Combs), .fs 3 (List.map b0k h_.Trains), .fs 3 (List.map b0s h_.Shifts), I h_.Until] 0 → t 5 = .rs i5 0 (List.length all_5_1) → t 18 = I (List.length h_.Combs : Int) → t 19 = I x_19 → h.ob i5 = some (1, List.map b2a all_5_1) → i5 < h.nx → b7q x_19 all_5_1 = some o → K6 t h := by
    intro all_5_1 i5 t h s1 s2 s5 s18 s19 q16 q10 hm1
    refine hK6 _ _ ?_
    unfold b7q at hm1
    refine b1n fun K hK => ?_
    simp only [go_sem, s19, q10, b0a v5]
    refine hK _ _ ?_
    clear hK K
    simp only [b0h, b0i]
    obtain rfl := Option.some.inj hm1
    refine ⟨_, rfl, ?_⟩
    exact ⟨(.rs i5 0 (List.length all_5_1)), s1, s2, (by first | exact s5 | simp only [go_sem, s5, List.length_append, List.map_append]), s18, (by first | (simp only [go_sem, s19, List.length_append, List.map_append]; done) | rfl), (b3e (by simp only [go_sem, q16, q10, List.length_append, List.map_append]) (by first | rfl | simp only [go_sem, List.length_append, List.map_append]) (by simp only [go_sem, q10]))⟩
   simp only [b05]
   refine b0d fun K hK => ?_
   simp only [go_sem, s19, b0a v5]
   refine hK _ _ ?_
   clear hK K
   refine b0d fun K hK => ?_
   simp only [go_sem, b0a v5]
   refine hK _ _ ?_
   clear hK K
   refine b06 ?_
   refine b0d fun K hK => ?_
   simp only [go_sem, s2, b0a v5]
   refine hK _ _ ?_
   clear hK K
   refine b0u fun K8 hK8 => ?_
   have J9 : ∀ (b_7_0 : List Int) (b_7_3 : List (List Int)) (v5_1 : AV) (i7 : Nat) (i7_1 : Nat) (i7_2 : Nat) (v7 : AV) (t : Slots) (h : Heap), t 1 = .fs 1 (List.map b0o open_) → t 2 = .fp [.fs 5 (List.map b0n h_.Combs), .fs 3 (List.map b0k h_.Trains), .fs 3 (List.map b0s h_.Shifts), I h_.Until] 0 → t 5 = v5_1 → t 6 = I x_19 → t 7 = .rp i7 0 0 → t 18 = I (List.length h_.Combs : Int) → t 19 = I x_19 → b01 h v5_1 1 (List.map b2a all_5) → h.ob i7 = some (4, [[.rs i7_1 0 (List.length b_7_0), .rs i7_2 0 (List.length ([0])), .v (.slice none 0 0), v7]]) → i7 < h.nx → h.ob i7_1 = some (1, List.map eI b_7_0) → i7_1 < h.nx → h.ob i7_2 = some (1, List.map eI ([0])) → i7_2 < h.nx → b01 h v7 1 (List.map b0o b_7_3) → b0b v5_1 i7 → b0b v5_1 i7_1 → b0b v5_1 i7_2 → (∀ j, ¬b0b v5_1 j → b0b v7 j) → ¬i7 = i7_1 → ¬i7 = i7_2 → b0b v7 i7 → ¬i7_1 = i7_2 → b0b v7 i7_1 → b0b v7 i7_2 → b7s h_ open_ all_5 x_19 b_7_0 b_7_3 = some o → K8 t h := by
    intro b_7_0 b_7_3 v5_1 i7 i7_1 i7_2 v7 t h s1 s2 s5 s6 s7 s18 s19 qa qb q0 qf q2 qg q1 q6 q7 q8 q9 qp q3 q4 qc q5 qd qe hm1
    refine hK8 _ _ ?_
    unfold b7s at hm1
    refine b06 ?_
    refine b0d fun K hK => ?_
    simp only [go_sem, s2, q0, q2, q1, b0a v5, b0a v5_1, b0a v7]
    refine hK _ _ ?_
    clear hK K
    refine b0u fun K10 hK10 => ?_
    have J11 : ∀ (b_7_1 : List Int) (b_7_2 : List Int) (i7_3 : Nat) (v7_1 : AV) (v7_2 : AV) (t : Slots) (h : Heap), t 1 = .fs 1 (List.map b0o open_) → t 2 = .fp [.fs 5 (List.map b0n h_.Combs), .fs 3 (List.map b0k h_.Trains), .fs 3 (List.map b0s h_.Shifts), I h_.Until] 0 → t 5 = v5_1 → t 7 = .rp i7 0 0 → t 18 = I (List.length h_.Combs : Int) → t 19 = I x_19 → b01 h v5_1 1 (List.map b2a all_5) → h.ob i7 = some (4, [[.rs i7_1 0 (List.length b_7_0), .rs i7_3 0 (List.length b_7_1), v7_1, v7_2]]) → i7 < h.nx → h.ob i7_1 = some (1, List.map eI b_7_0) → i7_1 < h.nx → h.ob i7_3 = some (1, List.map eI b_7_1) → i7_3 < h.nx → b01 h v7_1 1 (List.map eI b_7_2) → b01 h v7_2 1 (List.map b0o b_7_3) → b0b v5_1 i7 → b0b v5_1 i7_1 → b0b v5_1 i7_3 → (∀ j, ¬b0b v5_1 j → b0b v7_1 j) → (∀ j, ¬b0b v5_1 j → b0b v7_2 j) → ¬i7 = i7_1 → ¬i7 = i7_3 → b0b v7_1 i7 → b0b v7_2 i7 → ¬i7_1 = i7_3 → b0b v7_1 i7_1 → b0b v7_2 i7_1 → b0b v7_1 i7_3 → b0b v7_2 i7_3 → (∀ j, ¬b0b v7_1 j → b0b v7_2 j) → b7l all_5 x_19 b_7_0 b_7_3 b_7_1 b_7_2 = some o → K10 t h := by
     try clear s1 s2 s5 s6 s7 s18 s19 qa qb q0 qf q2 qg q1 q6 q7 q8 q9 qp q3 q4 qc q5 qd qe
     intro b_7_1 b_7_2 i7_3 v7_1 v7_2 t h s1 s2 s5 s7 s18 s19 qa qb q0 qf q2 qg q1 q6 qq q7 q8 q9 qp q17 q3 q4 qc qs q5 qd qt qe qu q19 hm1
     refine hK10 _ _ ?_
     unfold b7l at hm1
     refine d4g (s := 7) (v := .rp i7 0 0) (y := .fp [.fs 1 (List.map eI b_7_0), .fs 1 (List.map eI b_7_1), .fs 1 (List.map eI b_7_2), .fs 1 (List.map b0o b_7_3)] 0) (fun j => j == i7 || j == i7_1 || j == i7_3 || b6o v7_1 j || b6o v7_2 j) (by simp only [go_sem, s7, b0q qa, qb, q0, qf, q2, qg, q1, b0q q6, b0q qq, q7, q8, q9, q3, b0c q3, q4, b0c q4, qc, qs, q5, b0c q5, qd, qt, qe, qu, List.length_append, List.map_append]) (c46 (id := i7) (sz := 4) (xs := [.rs i7_1 0 (List.length b_7_0), .rs i7_3 0 (List.length b_7_1), v7_1, v7_2]) (by rw [b6l (by simp)]; simp only [go_sem, b0q qa, qb, q0, qf, q2, qg, q1, b0q q6, b0q qq, q7, q8, q9, q3, b0c q3, q4, b0c q4, qc, qs, q5, b0c q5, qd, qt, qe, qu, List.length_append, List.map_append]) (.cons (b5j (f := eI) (l := b_7_0) (id := i7_1) (by rw [b6l (by simp)]; simp only [go_sem, b0q qa, qb, q0, qf, q2, qg, q1, b0q q6, b0q qq, q7, q8, q9, q3, b0c q3, q4, b0c q4, qc, qs, q5, b0c q5, qd, qt, qe, qu, List.length_append, List.map_append]) (by first | rfl | simp only [go_sem, List.length_append, List.map_append]) b2i b4v) (.cons (b5j (f := eI) (l := b_7_1) (id := i7_3) (by rw [b6l (by simp)]; simp only [go_sem, b0q qa, qb, q0, qf, q2, qg, q1, b0q q6, b0q qq, q7, q8, q9, q3, b0c q3, q4, b0c q4, qc, qs, q5, b0c q5, qd, qt, qe, qu, List.length_append, List.map_append]) (by first | rfl | simp only [go_sem, List.length_append, List.map_append]) b2i b4v) (.cons (b6c (f := eI) (l := b_7_2) (c6l (b1t q6 (by intro j hj hl; first | rfl | simp only [go_sem, hl, b3w qp j hj, b1m hj qc, b1m hj qd, b1m hj qe, q19 j hj]) (by first | omega | exact Nat.le_refl _ | (simp only [go_sem, nxs] <;> omega))) (by intro j hj; simp [c1k hj])) b2i b4v) (.cons (b6c (f := b0o) (l := b_7_3) (c6l (b1t qq (by intro j hj hl; first | rfl | simp only [go_sem, hl, b3w q17 j hj, b1m hj qs, b1m hj qt, b1m hj qu, b3w q19 j hj]) (by first | omega | exact Nat.le_refl _ | (simp only [go_sem, nxs] <;> omega))) (by intro j hj; simp [c1k hj])) b3g b9a) (.nil)))))) (.fp _ _ (b0e (b0w fun a _ => b2i a) (b0e (b0w fun a _ => b2i a) (b0e (b0w fun a _ => b2i a) (b0e (b0w fun a _ => b3g a) b0z))))) ?_
     obtain ⟨l13, h_l13, hm1⟩ := b0g hm1
     refine b1n fun K hK => ?_
     simp only [go_sem, s5, s7, q0, q2, q1, q7, q8, q9, Bool.or_eq_false_iff, beq_eq_false_iff_ne, ne_eq, not_false_eq_true, and_self, b1v q6 qc, b1v qq qs, b1v q6 qd, b1v qq qt, b1v q6 qe, b1v qq qu, b0a v5, b0a v5_1, b0a v7, b0a v7_1, b0a v7_2]
     refine b5d (f := b2a) (l := all_5) (m := ([(halls_bound.mk b_7_0 b_7_1 b_7_2 b_7_3)])) ?_ ?_ ?_ ?_ h_l13 ?_
     ·exact (b1t qa (by intro j hj hl; first | rfl | simp only [go_sem, hl, b1m hj q7, b1m hj q8, b1m hj q9, qp j hj, b1v q6 (qp j hj), q17 j hj, b1v qq (q17 j hj), Bool.or_eq_false_iff, beq_eq_false_iff_ne, ne_eq, not_false_eq_true, and_self]) (by first | omega | exact Nat.le_refl _ | (simp only [go_sem, nxs] <;> omega)))
     ·exact (b5f (by simp only [go_sem, Bool.or_eq_false_iff, beq_eq_false_iff_ne, ne_eq, not_false_eq_true, and_self, b1v q6 qc, b1v qq qs, b1v q6 qd, b1v qq qt, b1v q6 qe, b1v qq qu, b0q qa, qb, q0, qf, q2, qg, q1, b0q q6, b0q qq, q7, q8, q9, q3, b0c q3, q4, b0c q4, qc, qs, q5, b0c q5, qd, qt, qe, qu, List.length_append, List.map_append]) (by simp only [go_sem, Bool.or_eq_false_iff, beq_eq_false_iff_ne, ne_eq, not_false_eq_true, and_self, b1v q6 qc, b1v qq qs, b1v q6 qd, b1v qq qt, b1v q6 qe, b1v qq qu, b0q qa, qb, q0, qf, q2, qg, q1, b0q q6, b0q qq, q7, q8, q9, q3, b0c q3, q4, b0c q4, qc, qs, q5, b0c q5, qd, qt, qe, qu, List.length_append, List.map_append]))
     ·exact (b2u (by first | exact b1h | exact b1i (by first | omega | (simp only [nxs] <;> omega)) | assumption | exact b00 (by assumption) (by first | omega | (simp only [go_sem, nxs] <;> omega))))
     ·exact (fun _ => by simp)
     simp only [go_sem, s5, s7, q0, q2, q1, q7, q8, q9, Bool.or_eq_false_iff, beq_eq_false_iff_ne, ne_eq, not_false_eq_true, and_self, b1v q6 qc, b1v qq qs, b1v q6 qd, b1v qq qt, b1v q6 qe, b1v qq qu, b0a v5, b0a v5_1, b0a v7, b0a v7_1, b0a v7_2]
     refine hK _ _ ?_
     clear hK K
     simp only [b0h, b0i]
     exact J7 l13 (nxs h.nx) _ _ s1 s2 (by first | (simp only [go_sem, s5, List.length_append, List.map_append]; done) | rfl) s18 s19 (by simp only [go_sem, Bool.or_eq_false_iff, beq_eq_false_iff_ne, ne_eq, not_false_eq_true, and_self, b0q qa, q0, q2, q1, b0q q6, b0q qq, List.length_append, List.map_append]) (by simp only [go_sem]) hm1
    simp only [b05]
    obtain ⟨b14, hl14, hm1⟩ := b0g hm1
    refine b10 hl14 (fun | (b_7_1, b_7_2, x_122), t, h => ∃ i7_3 : Nat, ∃ v7_1 : AV, ∃ v7_2 : AV, t 1 = .fs 1 (List.map b0o open_) ∧ t 2 = .fp [.fs 5 (List.map b0n h_.Combs), .fs 3 (List.map b0k h_.Trains), .fs 3 (List.map b0s h_.Shifts), I h_.Until] 0 ∧ t 5 = v5_1 ∧ t 6 = I x_19 ∧ t 7 = .rp i7 0 0 ∧ t 18 = I (List.length h_.Combs : Int) ∧ t 19 = I x_19 ∧ t 121 = I h_.Until ∧ t 122 = I x_122 ∧ b01 h v5_1 1 (List.map b2a all_5) ∧ h.ob i7 = some (4, [[.rs i7_1 0 (List.length b_7_0), .rs i7_3 0 (List.length b_7_1), v7_1, v7_2]]) ∧ i7 < h.nx ∧ h.ob i7_1 = some (1, List.map eI b_7_0) ∧ i7_1 < h.nx ∧ h.ob i7_3 = some (1, List.map eI b_7_1) ∧ i7_3 < h.nx ∧ b01 h v7_1 1 (List.map eI b_7_2) ∧ b01 h v7_2 1 (List.map b0o b_7_3) ∧ b0b v5_1 i7 ∧ b0b v5_1 i7_1 ∧ b0b v5_1 i7_3 ∧ (∀ j, ¬b0b v5_1 j → b0b v7_1 j) ∧ (∀ j, ¬b0b v5_1 j → b0b v7_2 j) ∧ ¬i7 = i7_1 ∧ ¬i7 = i7_3 ∧ b0b v7_1 i7 ∧ b0b v7_2 i7 ∧ ¬i7_1 = i7_3 ∧ b0b v7_1 i7_1 ∧ b0b v7_2 i7_1 ∧ b0b v7_1 i7_3 ∧ b0b v7_2 i7_3 ∧ (∀ j, ¬b0b v7_1 j → b0b v7_2 j)) ?_ ?_
    ·exact ⟨i7_2, (.v (.slice none 0 0)), v7, s1, s2, s5, s6, s7, s18, s19, (by first | (simp only [go_sem, List.length_append, List.map_append]; done) | rfl), (by first | (simp only [go_sem, List.length_append, List.map_append]; done) | rfl), qa, qb, q0, qf, q2, qg, q1, b54, q6, q7, q8, q9, (by first | exact b3x | exact b3y | assumption | (refine b3z ?_; first | assumption | exact b00 (by assumption) (by first | assumption | omega | (simp only [nxs] <;> omega))) | (refine b2u ?_; first | assumption | exact b00 (by assumption) (by first | assumption | omega | (simp only [nxs] <;> omega)))), qp, q3, q4, (by first | exact b1h | exact b1i (by first | assumption | omega | (simp only [nxs] <;> omega)) | assumption | exact b00 (by assumption) (by first | assumption | omega | (simp only [nxs] <;> omega))), qc, q5, (by first | exact b1h | exact b1i (by first | assumption | omega | (simp only [nxs] <;> omega)) | assumption | exact b00 (by assumption) (by first | assumption | omega | (simp only [nxs] <;> omega))), qd, (by first | exact b1h | exact b1i (by first | assumption | omega | (simp only [nxs] <;> omega)) | assumption | exact b00 (by assumption) (by first | assumption | omega | (simp only [nxs] <;> omega))), qe, (by first | exact b3x | exact b3y | assumption | (refine b3z ?_; first | assumption | exact b00 (by assumption) (by first | assumption | omega | (simp only [nxs] <;> omega))) | (refine b2u ?_; first | assumption | exact b00 (by assumption) (by first | assumption | omega | (simp only [nxs] <;> omega))))⟩
    ·try clear s1 s2 s5 s6 s7 s18 s19 qa qb q0 qf q2 qg q1 q6 q7 q8 q9 qp q3 q4 qc q5 qd qe
     rintro ⟨b_7_1, b_7_2, x_122⟩ o t h ⟨i7_3, v7_1, v7_2, s1, s2, s5, s6, s7, s18, s19, s121, s122, qa, qb, q0, qf, q2, qg, q1, q6, qq, q7, q8, q9, qp, q17, q3, q4, qc, qs, q5, qd, qt, qe, qu, q19⟩ hm2 hb14
     simp only [b6v] at hm2
     rw [d2x]
     refine b0d fun K hK => ?_
     simp only [go_sem, s121, s122, q0, q2, q1, b0a v5, b0a v5_1, b0a v7, b0a v7_1, b0a v7_2]
     refine hK _ _ ?_
     clear hK K
     refine b0u fun K15 hK15 => ?_
     simp only [go_sem]
     refine b0r (fun hc16 => ?_) (fun hc16 => ?_)
     ·rw [b04 hc16] at hm2
      simp only [b02, b0h, b0i]
      refine hK15 _ _ ?_
      refine b0u fun K17 hK17 => ?_
      have J18 : ∀ (b_7_1_1 : List Int) (b_7_2_1 : List Int) (i7_4 : Nat) (i7_5 : Nat) (v7_3 : AV) (t : Slots) (h : Heap), t 1 = .fs 1 (List.map b0o open_) → t 2 = .fp [.fs 5 (List.map b0n h_.Combs), .fs 3 (List.map b0k h_.Trains), .fs 3 (List.map b0s h_.Shifts), I h_.Until] 0 → t 5 = v5_1 → t 6 = I x_19 → t 7 = .rp i7 0 0 → t 18 = I (List.length h_.Combs : Int) → t 19 = I x_19 → t 121 = I h_.Until → t 122 = I x_122 → b01 h v5_1 1 (List.map b2a all_5) → h.ob i7 = some (4, [[.rs i7_1 0 (List.length b_7_0), .rs i7_4 0 (List.length b_7_1_1), .rs i7_5 0 (List.length b_7_2_1), v7_3]]) → i7 < h.nx → h.ob i7_1 = some (1, List.map eI b_7_0) → i7_1 < h.nx → h.ob i7_4 = some (1, List.map eI b_7_1_1) → i7_4 < h.nx → h.ob i7_5 = some (1, List.map eI b_7_2_1) → i7_5 < h.nx → b01 h v7_3 1 (List.map b0o b_7_3) → b0b v5_1 i7 → b0b v5_1 i7_1 → b0b v5_1 i7_4 → b0b v5_1 i7_5 → (∀ j, ¬b0b v5_1 j → b0b v7_3 j) → ¬i7 = i7_1 → ¬i7 = i7_4 → ¬i7 = i7_5 → b0b v7_3 i7 → ¬i7_1 = i7_4 → ¬i7_1 = i7_5 → b0b v7_3 i7_1 → ¬i7_4 = i7_5 → b0b v7_3 i7_4 → b0b v7_3 i7_5 → b7m x_122 b_7_1_1 b_7_2_1 = some o → K17 t h := by
       try clear s1 s2 s5 s6 s7 s18 s19 s121 s122 qa qb q0 qf q2 qg q1 q6 qq q7 q8 q9 qp q17 q3 q4 qc qs q5 qd qt qe qu q19
       intro b_7_1_1 b_7_2_1 i7_4 i7_5 v7_3 t h s1 s2 s5 s6 s7 s18 s19 s121 s122 qa qb q0 qf q2 qg q1 q1f q1a qq q7 q8 q9 q1h q17 q3 q4 q1i qs q5 q1j qt q1k qu q1n hm2
       refine hK17 _ _ ?_
       unfold b7m at hm2
       refine b1n fun K hK => ?_
       simp only [go_sem, s122, q0, q2, q1, q1a, b0a v5, b0a v5_1, b0a v7, b0a v7_1, b0a v7_2, b0a v7_3]
       refine hK _ _ ?_
       clear hK K
       simp only [b0h, b0i]
       obtain rfl := Option.some.inj hm2
       refine ⟨_, rfl, ?_⟩
       exact ⟨i7_4, (.rs i7_5 0 (List.length b_7_2_1)), v7_3, s1, s2, s5, s6, s7, s18, s19, s121, (by first | (simp only [go_sem, s122, List.length_append, List.map_append]; done) | rfl), qa, qb, q0, qf, q2, qg, q1, (b3e (by simp only [go_sem, q1f, q1a, List.length_append, List.map_append]) (by first | rfl | simp only [go_sem, List.length_append, List.map_append]) (by simp only [go_sem, q1a])), qq, q7, q8, q9, (by first | exact b3x | exact b3y | assumption | (refine b3z ?_; first | assumption | exact b00 (by assumption) (by first | assumption | omega | (simp only [nxs] <;> omega))) | (refine b2u ?_; first | assumption | exact b00 (by assumption) (by first | assumption | omega | (simp only [nxs] <;> omega)))), q17, q3, q4, (by first | exact b1h | exact b1i (by first | assumption | omega | (simp only [nxs] <;> omega)) | assumption | exact b00 (by assumption) (by first | assumption | omega | (simp only [nxs] <;> omega))), qs, q5, (by first | exact b1h | exact b1i (by first | assumption | omega | (simp only [nxs] <;> omega)) | assumption | exact b00 (by assumption) (by first | assumption | omega | (simp only [nxs] <;> omega))), qt, (by first | exact b1h | exact b1i (by first | assumption | omega | (simp only [nxs] <;> omega)) | assumption | exact b00 (by assumption) (by first | assumption | omega | (simp only [nxs] <;> omega))), qu, (by first | exact b3x | exact b3y | assumption | (refine b3z ?_; first | assumption | exact b00 (by assumption) (by first | assumption | omega | (simp only [nxs] <;> omega))) | (refine b2u ?_; first | assumption | exact b00 (by assumption) (by first | assumption | omega | (simp only [nxs] <;> omega))))⟩
      simp only [b05]
      refine b0d fun K hK => ?_
      simp only [go_sem, s122, q0, q2, q1, b0a v5, b0a v5_1, b0a v7, b0a v7_1, b0a v7_2]
      refine hK _ _ ?_
      clear hK K
      refine b0d fun K hK => ?_
      simp only [go_sem, q0, q2, q1, b0a v5, b0a v5_1, b0a v7, b0a v7_1, b0a v7_2]
      refine hK _ _ ?_
      clear hK K
      refine b06 ?_
      refine b0d fun K hK => ?_
      simp only [go_sem, q0, q2, q1, b0a v5, b0a v5_1, b0a v7, b0a v7_1, b0a v7_2]
      refine hK _ _ ?_
      clear hK K
      refine b0u fun K19 hK19 => ?_
      have J20 : ∀ (most_14 : Int) (v7_3 : AV) (t : Slots) (h : Heap), t 1 = .fs 1 (List.map b0o open_) → t 2 = .fp [.fs 5 (List.map b0n h_.Combs), .fs 3 (List.map b0k h_.Trains), .fs 3 (List.map b0s h_.Shifts), I h_.Until] 0 → t 5 = v5_1 → t 6 = I x_19 → t 7 = .rp i7 0 0 → t 13 = I x_122 → t 14 = I most_14 → t 18 = I (List.length h_.Combs : Int) → t 19 = I x_19 → t 121 = I h_.Until → t 122 = I x_122 → b01 h v5_1 1 (List.map b2a all_5) → h.ob i7 = some (4, [[.rs i7_1 0 (List.length b_7_0), .rs i7_3 0 (List.length b_7_1), v7_1, v7_3]]) → i7 < h.nx → h.ob i7_1 = some (1, List.map eI b_7_0) → i7_1 < h.nx → h.ob i7_3 = some (1, List.map eI b_7_1) → i7_3 < h.nx → b01 h v7_1 1 (List.map eI b_7_2) → b01 h v7_3 1 (List.map b0o b_7_3) → b0b v5_1 i7 → b0b v5_1 i7_1 → b0b v5_1 i7_3 → (∀ j, ¬b0b v5_1 j → b0b v7_1 j) → (∀ j, ¬b0b v5_1 j → b0b v7_3 j) → ¬i7 = i7_1 → ¬i7 = i7_3 → b0b v7_1 i7 → b0b v7_3 i7 → ¬i7_1 = i7_3 → b0b v7_1 i7_1 → b0b v7_3 i7_1 → b0b v7_1 i7_3 → b0b v7_3 i7_3 → (∀ j, ¬b0b v7_1 j → b0b v7_3 j) → b7n open_ x_19 b_7_1 b_7_2 x_122 most_14 = some o → K19 t h := by
       try clear s1 s2 s5 s6 s7 s18 s19 s121 s122 qa qb q0 qf q2 qg q1 q6 qq q7 q8 q9 qp q17 q3 q4 qc qs q5 qd qt qe qu q19
       intro most_14 v7_3 t h s1 s2 s5 s6 s7 s13 s14 s18 s19 s121 s122 qa qb q0 qf q2 qg q1 q6 qq q7 q8 q9 qp q17 q3 q4 qc qs q5 qd qt qe qu q19 hm2
       refine hK19 _ _ ?_
       unfold b7n at hm2
       obtain ⟨l22, h_l22, hm2⟩ := b0g hm2
       refine b0d fun K hK => ?_
       simp only [go_sem, s7, s14, qb, q0, qf, q2, qg, q1, q7, q8, q9, q3, b0c q3, q4, b0c q4, qc, qs, q5, b0c q5, qd, qt, qe, qu, b0a v5, b0a v5_1, b0a v7, b0a v7_1, b0a v7_2, b0a v7_3]
       refine b5d (f := eI) (l := b_7_2) (m := ([most_14])) ?_ ?_ ?_ ?_ h_l22 ?_
       ·exact (b1t q6 (by intro j hj hl; first | rfl | simp only [go_sem, hl, b3w qp j hj, b1m hj qc, b1m hj qd, b1m hj qe, q19 j hj]) (by first | omega | exact Nat.le_refl _ | (simp only [go_sem, nxs] <;> omega)))
       ·exact (b5f (by simp only [go_sem, b0q qa, qb, q0, qf, q2, qg, q1, b0q q6, b0q qq, q7, q8, q9, q3, b0c q3, q4, b0c q4, qc, qs, q5, b0c q5, qd, qt, qe, qu, List.length_append, List.map_append]) (by simp only [go_sem, b0q qa, qb, q0, qf, q2, qg, q1, b0q q6, b0q qq, q7, q8, q9, q3, b0c q3, q4, b0c q4, qc, qs, q5, b0c q5, qd, qt, qe, qu, List.length_append, List.map_append]))
       ·exact (b2u (by first | exact b1h | exact b1i (by first | omega | (simp only [nxs] <;> omega)) | assumption | exact b00 (by assumption) (by first | omega | (simp only [go_sem, nxs] <;> omega))))
       ·exact (fun _ => by simp)
       simp only [go_sem, s7, s14, qb, q0, qf, q2, qg, q1, q7, q8, q9, q3, b0c q3, q4, b0c q4, qc, qs, q5, b0c q5, qd, qt, qe, qu, b0a v5, b0a v5_1, b0a v7, b0a v7_1, b0a v7_2, b0a v7_3]
       refine hK _ _ ?_
       clear hK K
       obtain ⟨x27, h_x27, hm2⟩ := b0g hm2
       have h_x270 := b0x h_x27
       have h_x271 := b0y h_x27
       obtain ⟨x28, h_x28, hm2⟩ := b0g hm2
       have h_x280 := b0x h_x28
       have h_x281 := b0y h_x28
       obtain ⟨x29, h_x29, hm2⟩ := b0g hm2
       have h_x290 := b0x h_x29
       have h_x291 := b0y h_x29
       obtain ⟨l30, h_l30, hm2⟩ := b0g hm2
       refine b1n fun K hK => ?_
       simp only [go_sem, s1, s6, s7, s13, s14, qb, q0, qf, q2, qg, q1, q7, q8, q9, q3, b0c q3, q4, b0c q4, qc, qs, q5, b0c q5, qd, qt, qe, qu, b0l h_x27, b0m h_x27, h_x270, h_x271, b0l h_x28, b0m h_x28, h_x280, h_x281, b0l h_x29, b0m h_x29, h_x290, h_x291, b0a v5, b0a v5_1, b0a v7, b0a v7_1, b0a v7_2, b0a v7_3]
       refine b5d (f := eI) (l := b_7_1) (m := ([wr (x27 + (mn most_14 x29))])) ?_ ?_ ?_ ?_ h_l30 ?_
       ·exact (b3e (by simp only [go_sem, b0q qa, qb, q0, qf, q2, qg, q1, b0q q6, b0q qq, q7, q8, q9, q3, b0c q3, q4, b0c q4, qc, qs, q5, b0c q5, qd, qt, qe, qu, List.length_append, List.map_append]) (by simp only [go_sem, b0q qa, qb, q0, qf, q2, qg, q1, b0q q6, b0q qq, q7, q8, q9, q3, b0c q3, q4, b0c q4, qc, qs, q5, b0c q5, qd, qt, qe, qu, List.length_append, List.map_append]) (by simp only [go_sem, q0, q2, q1]))
       ·exact (b5f (by simp only [go_sem, b0q qa, qb, q0, qf, q2, qg, q1, b0q q6, b0q qq, q7, q8, q9, q3, b0c q3, q4, b0c q4, qc, qs, q5, b0c q5, qd, qt, qe, qu, List.length_append, List.map_append]) (by simp only [go_sem, b0q qa, qb, q0, qf, q2, qg, q1, b0q q6, b0q qq, q7, q8, q9, q3, b0c q3, q4, b0c q4, qc, qs, q5, b0c q5, qd, qt, qe, qu, List.length_append, List.map_append]))
       ·exact (b2u (by first | exact b1h | exact b1i (by first | omega | (simp only [nxs] <;> omega)) | assumption | exact b00 (by assumption) (by first | omega | (simp only [go_sem, nxs] <;> omega))))
       ·exact (fun _ => by simp)
       simp only [go_sem, s1, s6, s7, s13, s14, qb, q0, qf, q2, qg, q1, q7, q8, q9, q3, b0c q3, q4, b0c q4, qc, qs, q5, b0c q5, qd, qt, qe, qu, b0l h_x27, b0m h_x27, h_x270, h_x271, b0l h_x28, b0m h_x28, h_x280, h_x281, b0l h_x29, b0m h_x29, h_x290, h_x291, b0a v5, b0a v5_1, b0a v7, b0a v7_1, b0a v7_2, b0a v7_3]
       refine hK _ _ ?_
       clear hK K
       simp only [b0h, b0i]
       exact J18 l30 l22 (nxs (nxs (nxs h.nx))) (nxs h.nx) v7_3 _ _ s1 s2 s5 s6 s7 s18 s19 s121 s122 (b1t qa (by intro j hj hl; first | rfl | simp only [go_sem, hl, q0, q1, b1m hj q7, b1m hj q9, qp j hj]) (by first | omega | exact Nat.le_refl _ | (simp only [go_sem, nxs] <;> omega))) (by simp only [go_sem, qb, q0, q1, b0q q6, q4, b0c q4, qc, List.length_append, List.map_append]) (by simp only [go_sem, q0]) (by simp only [go_sem, q0, qf, q2, q1, b0q q6, q3, b0c q3, q5, b0c q5, qd, List.length_append, List.map_append]) (by simp only [go_sem, q2]) (by simp only [go_sem, q0, q1, b0q q6, List.length_append, List.map_append]) (by simp only [go_sem]) (by simp only [go_sem, q0, q1, b0q q6, List.length_append, List.map_append]) (by simp only [go_sem]) (b1t qq (by intro j hj hl; first | rfl | simp only [go_sem, hl, q0, q1, b1m hj qs, b1m hj qu, b3w q19 j hj]) (by first | omega | exact Nat.le_refl _ | (simp only [go_sem, nxs] <;> omega))) q7 q8 (by first | exact b1h | exact b1i (by first | assumption | omega | (simp only [nxs] <;> omega)) | assumption | exact b00 (by assumption) (by first | assumption | omega | (simp only [nxs] <;> omega))) (by first | exact b1h | exact b1i (by first | assumption | omega | (simp only [nxs] <;> omega)) | assumption | exact b00 (by assumption) (by first | assumption | omega | (simp only [nxs] <;> omega))) q17 q3 (by first | first | assumption | omega | (simp only [nxs] <;> omega)) (by first | first | assumption | omega | (simp only [nxs] <;> omega)) qs (by first | first | assumption | omega | (simp only [nxs] <;> omega)) (by first | first | assumption | omega | (simp only [nxs] <;> omega)) qt (by first | first | assumption | omega | (simp only [nxs] <;> omega)) (by first | exact b1h | exact b1i (by first | assumption | omega | (simp only [nxs] <;> omega)) | assumption | exact b00 (by assumption) (by first | assumption | omega | (simp only [nxs] <;> omega))) (by first | exact b1h | exact b1i (by first | assumption | omega | (simp only [nxs] <;> omega)) | assumption | exact b00 (by assumption) (by first | assumption | omega | (simp only [nxs] <;> omega))) hm2
      simp only [b05]
      obtain ⟨b31, hl31, hm2⟩ := b0g hm2
      refine b10 hl31 (fun | (most_14, x_127), t, h => ∃ v7_3 : AV, t 1 = .fs 1 (List.map b0o open_) ∧ t 2 = .fp [.fs 5 (List.map b0n h_.Combs), .fs 3 (List.map b0k h_.Trains), .fs 3 (List.map b0s h_.Shifts), I h_.Until] 0 ∧ t 5 = v5_1 ∧ t 6 = I x_19 ∧ t 7 = .rp i7 0 0 ∧ t 13 = I x_122 ∧ t 14 = I most_14 ∧ t 18 = I (List.length h_.Combs : Int) ∧ t 19 = I x_19 ∧ t 121 = I h_.Until ∧ t 122 = I x_122 ∧ t 126 = I (wr (x_122 + 1)) ∧ t 127 = I x_127 ∧ b01 h v5_1 1 (List.map b2a all_5) ∧ h.ob i7 = some (4, [[.rs i7_1 0 (List.length b_7_0), .rs i7_3 0 (List.length b_7_1), v7_1, v7_3]]) ∧ i7 < h.nx ∧ h.ob i7_1 = some (1, List.map eI b_7_0) ∧ i7_1 < h.nx ∧ h.ob i7_3 = some (1, List.map eI b_7_1) ∧ i7_3 < h.nx ∧ b01 h v7_1 1 (List.map eI b_7_2) ∧ b01 h v7_3 1 (List.map b0o b_7_3) ∧ b0b v5_1 i7 ∧ b0b v5_1 i7_1 ∧ b0b v5_1 i7_3 ∧ (∀ j, ¬b0b v5_1 j → b0b v7_1 j) ∧ (∀ j, ¬b0b v5_1 j → b0b v7_3 j) ∧ ¬i7 = i7_1 ∧ ¬i7 = i7_3 ∧ b0b v7_1 i7 ∧ b0b v7_3 i7 ∧ ¬i7_1 = i7_3 ∧ b0b v7_1 i7_1 ∧ b0b v7_3 i7_1 ∧ b0b v7_1 i7_3 ∧ b0b v7_3 i7_3 ∧ (∀ j, ¬b0b v7_1 j → b0b v7_3 j)) ?_ ?_
      ·exact ⟨v7_2, s1, s2, s5, s6, s7, (by first | (simp only [go_sem, List.length_append, List.map_append]; done) | rfl), (by first | (simp only [go_sem, List.length_append, List.map_append]; done) | rfl), s18, s19, s121, s122, (by first | (simp only [go_sem, List.length_append, List.map_append]; done) | rfl), (by first | (simp only [go_sem, List.length_append, List.map_append]; done) | rfl), qa, qb, q0, qf, q2, qg, q1, q6, qq, q7, q8, q9, qp, q17, q3, q4, qc, qs, q5, qd, qt, qe, qu, q19⟩
      ·try clear s1 s2 s5 s6 s7 s18 s19 s121 s122 qa qb q0 qf q2 qg q1 q6 qq q7 q8 q9 qp q17 q3 q4 qc qs q5 qd qt qe qu q19
       rintro ⟨most_14, x_127⟩ o t h ⟨v7_3, s1, s2, s5, s6, s7, s13, s14, s18, s19, s121, s122, s126, s127, qa, qb, q0, qf, q2, qg, q1, q6, qq, q7, q8, q9, qp, q17, q3, q4, qc, qs, q5, qd, qt, qe, qu, q19⟩ hm3 hb31
       simp only [b6u] at hm3
       rw [d2w]
       refine b0d fun K hK => ?_
       simp only [go_sem, s126, s127, q0, q2, q1, b0a v5, b0a v5_1, b0a v7, b0a v7_1, b0a v7_2, b0a v7_3]
       refine hK _ _ ?_
       clear hK K
       refine b0u fun K32 hK32 => ?_
       simp only [go_sem]
       refine b0r (fun hc33 => ?_) (fun hc33 => ?_)
       ·rw [b04 hc33] at hm3
        simp only [b02, b0h, b0i]
        refine hK32 _ _ ?_
        refine b0u fun K34 hK34 => ?_
        simp only [b05]
        refine b0d fun K hK => ?_
        simp only [go_sem, s127, q0, q2, q1, b0a v5, b0a v5_1, b0a v7, b0a v7_1, b0a v7_2, b0a v7_3]
        refine hK _ _ ?_
        clear hK K
        obtain ⟨x40, h_x40, hm3⟩ := b0g hm3
        have h_x400 := b0x h_x40
        have h_x401 := b0y h_x40
        obtain ⟨iq41, rfl, q1m, q1g⟩ := b5o qq h_x40
        obtain ⟨x42, h_x42, hm3⟩ := b0g hm3
        have h_x420 := b0x h_x42
        have h_x421 := b0y h_x42
        obtain ⟨x43, h_x43, hm3⟩ := b0g hm3
        have h_x430 := b0x h_x43
        have h_x431 := b0y h_x43
        obtain ⟨x44, h_x44, hm3⟩ := b0g hm3
        have h_x440 := b0x h_x44
        have h_x441 := b0y h_x44
        refine b1n fun K hK => ?_
        simp only [go_sem, s7, s13, s14, qb, q0, qf, q2, qg, q1, q1m, q1g, q7, q8, q9, q3, b0c q3, q4, b0c q4, qc, qs, q5, b0c q5, qd, qt, qe, qu, b0l h_x40, b0m h_x40, h_x400, h_x401, b0l h_x42, b0m h_x42, h_x420, h_x421, b0l h_x43, b0m h_x43, h_x430, h_x431, b0l h_x44, b0m h_x44, h_x440, h_x441, b0a v5, b0a v5_1, b0a v7, b0a v7_1, b0a v7_2]
        refine hK _ _ ?_
        clear hK K
        simp only [b0h, b0i]
        refine hK34 _ _ ?_
        refine b1n fun K hK => ?_
        simp only [go_sem, s127, q0, q2, q1, q1g, b0a v5, b0a v5_1, b0a v7, b0a v7_1, b0a v7_2]
        refine hK _ _ ?_
        clear hK K
        simp only [b0h, b0i]
        obtain rfl := Option.some.inj hm3
        refine ⟨_, rfl, ?_⟩
        exact ⟨(.rs iq41 0 (List.length b_7_3)), s1, s2, s5, s6, s7, s13, (by first | (simp only [go_sem, s14, List.length_append, List.map_append]; done) | rfl), s18, s19, s121, s122, s126, (by first | (simp only [go_sem, s127, List.length_append, List.map_append]; done) | rfl), qa, (by simp only [go_sem, qb, q0, List.length_append, List.map_append]), (by simp only [go_sem, q0]), qf, q2, qg, q1, q6, (b3e (by simp only [go_sem, q1m, q1g, List.length_append, List.map_append]) (by first | rfl | simp only [go_sem, List.length_append, List.map_append]) (by simp only [go_sem, q1g])), q7, q8, q9, qp, q17, q3, q4, qc, qs, q5, qd, qt, qe, qu, q19⟩
       ·rw [b03 hc33] at hm3
        simp only [b1w, b1z, b1y, b1x, b0h, b0i, Nat.reduceEqDiff, not_false_eq_true]
        obtain rfl := Option.some.inj hm3
        obtain rfl := hb31 _ rfl
        try dsimp only at hm2
        exact J20 most_14 v7_3 _ _ s1 s2 s5 s6 s7 s13 s14 s18 s19 s121 s122 qa qb q0 qf q2 qg q1 q6 qq q7 q8 q9 qp q17 q3 q4 qc qs q5 qd qt qe qu q19 hm2
     ·rw [b03 hc16] at hm2
      simp only [b1w, b1z, b1y, b1x, b0h, b0i, Nat.reduceEqDiff, not_false_eq_true]
      obtain rfl := Option.some.inj hm2
      obtain rfl := hb14 _ rfl
      try dsimp only at hm1
      exact J11 b_7_1 b_7_2 i7_3 v7_1 v7_2 _ _ s1 s2 s5 s7 s18 s19 qa qb q0 qf q2 qg q1 q6 qq q7 q8 q9 qp q17 q3 q4 qc qs q5 qd qt qe qu q19 hm1
   simp only [b05]
   obtain ⟨b47, hl47, hm1⟩ := b0g hm1
   refine b10 hl47 (fun | (b_7_0, b_7_3, x_28), t, h => ∃ v5_1 : AV, ∃ i7 : Nat, ∃ i7_1 : Nat, ∃ i7_2 : Nat, ∃ v7 : AV, t 1 = .fs 1 (List.map b0o open_) ∧ t 2 = .fp [.fs 5 (List.map b0n h_.Combs), .fs 3 (List.map b0k h_.Trains), .fs 3 (List.map b0s h_.Shifts), I h_.Until] 0 ∧ t 5 = v5_1 ∧ t 6 = I x_19 ∧ t 7 = .rp i7 0 0 ∧ t 18 = I (List.length h_.Combs : Int) ∧ t 19 = I x_19 ∧ t 27 = I h_.Until ∧ t 28 = I x_28 ∧ b01 h v5_1 1 (List.map b2a all_5) ∧ h.ob i7 = some (4, [[.rs i7_1 0 (List.length b_7_0), .rs i7_2 0 (List.length ([0])), .v (.slice none 0 0), v7]]) ∧ i7 < h.nx ∧ h.ob i7_1 = some (1, List.map eI b_7_0) ∧ i7_1 < h.nx ∧ h.ob i7_2 = some (1, List.map eI ([0])) ∧ i7_2 < h.nx ∧ b01 h v7 1 (List.map b0o b_7_3) ∧ b0b v5_1 i7 ∧ b0b v5_1 i7_1 ∧ b0b v5_1 i7_2 ∧ (∀ j, ¬b0b v5_1 j → b0b v7 j) ∧ ¬i7 = i7_1 ∧ ¬i7 = i7_2 ∧ b0b v7 i7 ∧ ¬i7_1 = i7_2 ∧ b0b v7 i7_1 ∧ b0b v7 i7_2) ?_ ?_
   ·exact ⟨v5, (nxs (nxs h.nx)), h.nx, (nxs h.nx), (.v (.slice none 0 0)), s1, s2, s5, (by first | (simp only [go_sem, List.length_append, List.map_append]; done) | rfl), (by first | (simp only [go_sem, List.length_append, List.map_append]; done) | rfl), s18, s19, (by first | (simp only [go_sem, List.length_append, List.map_append]; done) | rfl), (by first | (simp only [go_sem, List.length_append, List.map_append]; done) | rfl), (b1t qa (by intro j hj hl; first | rfl | simp only [go_sem, hl]) (by first | omega | exact Nat.le_refl _ | (simp only [go_sem, nxs] <;> omega))), (by simp only [go_sem, List.length_append, List.map_append]), (by simp only [go_sem]), (by simp only [go_sem, List.length_append, List.map_append]), (by simp only [go_sem]), (by simp only [go_sem, List.length_append, List.map_append]), (by simp only [go_sem]), b54, (by first | exact b1h | exact b1i (by first | assumption | omega | (simp only [nxs] <;> omega)) | assumption | exact b00 (by assumption) (by first | assumption | omega | (simp only [nxs] <;> omega))), (by first | exact b1h | exact b1i (by first | assumption | omega | (simp only [nxs] <;> omega)) | assumption | exact b00 (by assumption) (by first | assumption | omega | (simp only [nxs] <;> omega))), (by first | exact b1h | exact b1i (by first | assumption | omega | (simp only [nxs] <;> omega)) | assumption | exact b00 (by assumption) (by first | assumption | omega | (simp only [nxs] <;> omega))), (by first | exact b3x | exact b3y | assumption | (refine b3z ?_; first | assumption | exact b00 (by assumption) (by first | assumption | omega | (simp only [nxs] <;> omega))) | (refine b2u ?_; first | assumption | exact b00 (by assumption) (by first | assumption | omega | (simp only [nxs] <;> omega)))), (by first | first | assumption | omega | (simp only [nxs] <;> omega)), (by first | first | assumption | omega | (simp only [nxs] <;> omega)), (by first | exact b1h | exact b1i (by first | assumption | omega | (simp only [nxs] <;> omega)) | assumption | exact b00 (by assumption) (by first | assumption | omega | (simp only [nxs] <;> omega))), (by first | first | assumption | omega | (simp only [nxs] <;> omega)), (by first | exact b1h | exact b1i (by first | assumption | omega | (simp only [nxs] <;> omega)) | assumption | exact b00 (by assumption) (by first | assumption | omega | (simp only [nxs] <;> omega))), (by first | exact b1h | exact b1i (by first | assumption | omega | (simp only [nxs] <;> omega)) | assumption | exact b00 (by assumption) (by first | assumption | omega | (simp only [nxs] <;> omega)))⟩
   ·rintro ⟨b_7_0, b_7_3, x_28⟩ o t h ⟨v5_1, i7, i7_1, i7_2, v7, s1, s2, s5, s6, s7, s18, s19, s27, s28, qa, qb, q0, qf, q2, qg, q1, q6, q7, q8, q9, qp, q3, q4, qc, q5, qd, qe⟩ hm2 hb47
    simp only [b6t] at hm2
    rw [d2v]
    refine b0d fun K hK => ?_
    simp only [go_sem, s27, s28, q0, q2, q1, b0a v5, b0a v5_1, b0a v7]
    refine hK _ _ ?_
    clear hK K
    refine b0u fun K48 hK48 => ?_
    simp only [go_sem]
    refine b0r (fun hc49 => ?_) (fun hc49 => ?_)
    ·rw [b04 hc49] at hm2
     simp only [b02, b0h, b0i]
     refine hK48 _ _ ?_
     refine b0u fun K50 hK50 => ?_
     have J51 : ∀ (b_7_0_1 : List Int) (b_7_3_1 : List (List Int)) (v5_2 : AV) (i7_3 : Nat) (i7_4 : Nat) (t : Slots) (h : Heap), t 1 = .fs 1 (List.map b0o open_) → t 2 = .fp [.fs 5 (List.map b0n h_.Combs), .fs 3 (List.map b0k h_.Trains), .fs 3 (List.map b0s h_.Shifts), I h_.Until] 0 → t 5 = v5_2 → t 6 = I x_19 → t 7 = .rp i7 0 0 → t 18 = I (List.length h_.Combs : Int) → t 19 = I x_19 → t 27 = I h_.Until → t 28 = I x_28 → b01 h v5_2 1 (List.map b2a all_5) → h.ob i7 = some (4, [[.rs i7_3 0 (List.length b_7_0_1), .rs i7_2 0 (List.length ([0])), .v (.slice none 0 0), .rs i7_4 0 (List.length b_7_3_1)]]) → i7 < h.nx → h.ob i7_3 = some (1, List.map eI b_7_0_1) → i7_3 < h.nx → h.ob i7_2 = some (1, List.map eI ([0])) → i7_2 < h.nx → h.ob i7_4 = some (1, List.map b0o b_7_3_1) → i7_4 < h.nx → b0b v5_2 i7 → b0b v5_2 i7_3 → b0b v5_2 i7_2 → b0b v5_2 i7_4 → ¬i7 = i7_3 → ¬i7 = i7_2 → ¬i7 = i7_4 → ¬i7_3 = i7_2 → ¬i7_3 = i7_4 → ¬i7_2 = i7_4 → b7o x_28 b_7_0_1 b_7_3_1 = some o → K50 t h := by
      try clear s1 s2 s5 s6 s7 s18 s19 s27 s28 qa qb q0 qf q2 qg q1 q6 q7 q8 q9 qp q3 q4 qc q5 qd qe
      intro b_7_0_1 b_7_3_1 v5_2 i7_3 i7_4 t h s1 s2 s5 s6 s7 s18 s19 s27 s28 qa qb q0 qf q2 qg q1 q1f q1a q7 q8 q9 q1h q3 q4 q1i q5 q1j q1k hm2
      refine hK50 _ _ ?_
      unfold b7o at hm2
      refine b1n fun K hK => ?_
      simp only [go_sem, s28, q0, q2, q1, q1a, b0a v5, b0a v5_1, b0a v7, b0a v5_2]
      refine hK _ _ ?_
      clear hK K
      simp only [b0h, b0i]
      obtain rfl := Option.some.inj hm2
      refine ⟨_, rfl, ?_⟩
      exact ⟨v5_2, i7, i7_3, i7_2, (.rs i7_4 0 (List.length b_7_3_1)), s1, s2, s5, s6, s7, s18, s19, s27, (by first | (simp only [go_sem, s28, List.length_append, List.map_append]; done) | rfl), qa, qb, q0, qf, q2, qg, q1, (b3e (by simp only [go_sem, q1f, q1a, List.length_append, List.map_append]) (by first | rfl | simp only [go_sem, List.length_append, List.map_append]) (by simp only [go_sem, q1a])), q7, q8, q9, (by first | exact b3x | exact b3y | assumption | (refine b3z ?_; first | assumption | exact b00 (by assumption) (by first | assumption | omega | (simp only [nxs] <;> omega))) | (refine b2u ?_; first | assumption | exact b00 (by assumption) (by first | assumption | omega | (simp only [nxs] <;> omega)))), q3, q4, (by first | exact b1h | exact b1i (by first | assumption | omega | (simp only [nxs] <;> omega)) | assumption | exact b00 (by assumption) (by first | assumption | omega | (simp only [nxs] <;> omega))), q5, (by first | exact b1h | exact b1i (by first | assumption | omega | (simp only [nxs] <;> omega)) | assumption | exact b00 (by assumption) (by first | assumption | omega | (simp only [nxs] <;> omega))), (by first | exact b1h | exact b1i (by first | assumption | omega | (simp only [nxs] <;> omega)) | assumption | exact b00 (by assumption) (by first | assumption | omega | (simp only [nxs] <;> omega)))⟩
     simp only [b05]
     refine b0d fun K hK => ?_
     simp only [go_sem, s28, q0, q2, q1, b0a v5, b0a v5_1, b0a v7]
     refine hK _ _ ?_
     clear hK K
     obtain ⟨l53, h_l53, hm2⟩ := b0g hm2
     refine b0d fun K hK => ?_
     simp only [go_sem, s2, q0, q2, q1, b0a v5, b0a v5_1, b0a v7]
     refine c0x (f := eI) (z := 0) rfl h_l53 ?_
     simp only [go_sem, s2, q0, q2, q1, b0a v5, b0a v5_1, b0a v7]
     refine hK _ _ ?_
     clear hK K
     refine b06 ?_
     refine b0d fun K hK => ?_
     simp only [go_sem, q0, q2, q1, b0a v5, b0a v5_1, b0a v7]
     refine hK _ _ ?_
     clear hK K
     refine b0u fun K54 hK54 => ?_
     have J55 : ∀ (row_9 : List Int) (v5_2 : AV) (i9 : Nat) (t : Slots) (h : Heap), t 1 = .fs 1 (List.map b0o open_) → t 2 = .fp [.fs 5 (List.map b0n h_.Combs), .fs 3 (List.map b0k h_.Trains), .fs 3 (List.map b0s h_.Shifts), I h_.Until] 0 → t 5 = v5_2 → t 6 = I x_19 → t 7 = .rp i7 0 0 → t 8 = I x_28 → t 9 = .rs i9 0 (List.length row_9) → t 18 = I (List.length h_.Combs : Int) → t 19 = I x_19 → t 27 = I h_.Until → t 28 = I x_28 → b01 h v5_2 1 (List.map b2a all_5) → h.ob i7 = some (4, [[.rs i7_1 0 (List.length b_7_0), .rs i7_2 0 (List.length ([0])), .v (.slice none 0 0), v7]]) → i7 < h.nx → h.ob i7_1 = some (1, List.map eI b_7_0) → i7_1 < h.nx → h.ob i7_2 = some (1, List.map eI ([0])) → i7_2 < h.nx → b01 h v7 1 (List.map b0o b_7_3) → h.ob i9 = some (1, List.map eI row_9) → i9 < h.nx → b0b v5_2 i7 → b0b v5_2 i7_1 → b0b v5_2 i7_2 → (∀ j, ¬b0b v5_2 j → b0b v7 j) → b0b v5_2 i9 → ¬i7 = i7_1 → ¬i7 = i7_2 → b0b v7 i7 → ¬i7 = i9 → ¬i7_1 = i7_2 → b0b v7 i7_1 → ¬i7_1 = i9 → b0b v7 i7_2 → ¬i7_2 = i9 → b0b v7 i9 → b7p open_ x_19 b_7_0 b_7_3 x_28 row_9 = some o → K54 t h := by
      try clear s1 s2 s5 s6 s7 s18 s19 s27 s28 qa qb q0 qf q2 qg q1 q6 q7 q8 q9 qp q3 q4 qc q5 qd qe
      intro row_9 v5_2 i9 t h s1 s2 s5 s6 s7 s8 s9 s18 s19 s27 s28 qa qb q0 qf q2 qg q1 q6 qz qh q7 q8 q9 qp qw q3 q4 qc ql q5 qd qo qe qm qx hm2
      refine hK54 _ _ ?_
      unfold b7p at hm2
      refine b06 ?_
      refine c15 (s := 9) (v := .rs i9 0 (List.length row_9)) (f := eI) (l := row_9) (by simp only [go_sem, s9, b0q qa, qb, q0, qf, q2, qg, q1, b0q q6, qz, qh, q7, q8, q9, qw, q3, b0c q3, q4, b0c q4, qc, ql, b0c ql, q5, b0c q5, qd, qo, b0c qo, qe, qm, b0c qm, qx, List.length_append, List.map_append]) (b3e (by simp only [go_sem, s9, b0q qa, qb, q0, qf, q2, qg, q1, b0q q6, qz, qh, q7, q8, q9, qw, q3, b0c q3, q4, b0c q4, qc, ql, b0c ql, q5, b0c q5, qd, qo, b0c qo, qe, qm, b0c qm, qx, List.length_append, List.map_append]) (by simp only [go_sem, s9, b0q qa, qb, q0, qf, q2, qg, q1, b0q q6, qz, qh, q7, q8, q9, qw, q3, b0c q3, q4, b0c q4, qc, ql, b0c ql, q5, b0c q5, qd, qo, b0c qo, qe, qm, b0c qm, qx, List.length_append, List.map_append]) (by simp only [go_sem, q0, q2, q1, qh])) b2i b4v ?_
      simp only [c41, c42]
      obtain ⟨l57, h_l57, hm2⟩ := b0g hm2
      refine b0d fun K hK => ?_
      simp only [go_sem, s7, s9, qb, q0, qf, q2, qg, q1, qh, q7, q8, q9, q3, b0c q3, q4, b0c q4, qc, ql, b0c ql, q5, b0c q5, qd, qo, b0c qo, qe, qm, b0c qm, qx, b0a v5, b0a v5_1, b0a v7, b0a v5_2]
      refine b5d (f := b0o) (l := b_7_3) (m := ([row_9])) ?_ ?_ ?_ ?_ h_l57 ?_
      ·exact (b1t q6 (by intro j hj hl; first | rfl | simp only [go_sem, hl, b3w qp j hj, b1m hj qc, b1m hj qd, b1m hj qe, b1m hj qx]) (by first | omega | exact Nat.le_refl _ | (simp only [go_sem, nxs] <;> omega)))
      ·exact (b5f (by simp only [go_sem, b0q qa, qb, q0, qf, q2, qg, q1, b0q q6, qz, qh, q7, q8, q9, qw, q3, b0c q3, q4, b0c q4, qc, ql, b0c ql, q5, b0c q5, qd, qo, b0c qo, qe, qm, b0c qm, qx, List.length_append, List.map_append]) (by simp only [go_sem, b0q qa, qb, q0, qf, q2, qg, q1, b0q q6, qz, qh, q7, q8, q9, qw, q3, b0c q3, q4, b0c q4, qc, ql, b0c ql, q5, b0c q5, qd, qo, b0c qo, qe, qm, b0c qm, qx, List.length_append, List.map_append]))
      ·exact (b2u (by first | exact b1h | exact b1i (by first | omega | (simp only [nxs] <;> omega)) | assumption | exact b00 (by assumption) (by first | omega | (simp only [go_sem, nxs] <;> omega))))
      ·exact (fun _ => by simp)
      simp only [go_sem, s7, s9, qb, q0, qf, q2, qg, q1, qh, q7, q8, q9, q3, b0c q3, q4, b0c q4, qc, ql, b0c ql, q5, b0c q5, qd, qo, b0c qo, qe, qm, b0c qm, qx, b0a v5, b0a v5_1, b0a v7, b0a v5_2]
      refine hK _ _ ?_
      clear hK K
      obtain ⟨x62, h_x62, hm2⟩ := b0g hm2
      have h_x620 := b0x h_x62
      have h_x621 := b0y h_x62
      obtain ⟨x63, h_x63, hm2⟩ := b0g hm2
      have h_x630 := b0x h_x63
      have h_x631 := b0y h_x63
      obtain ⟨x64, h_x64, hm2⟩ := b0g hm2
      have h_x640 := b0x h_x64
      have h_x641 := b0y h_x64
      obtain ⟨l65, h_l65, hm2⟩ := b0g hm2
      refine b1n fun K hK => ?_
      simp only [go_sem, s1, s6, s7, s8, qb, q0, qf, q2, qg, q1, qh, q7, q8, q9, q3, b0c q3, q4, b0c q4, qc, ql, b0c ql, q5, b0c q5, qd, qo, b0c qo, qe, qm, b0c qm, b0l h_x62, b0m h_x62, h_x620, h_x621, b0l h_x63, b0m h_x63, h_x630, h_x631, b0l h_x64, b0m h_x64, h_x640, h_x641, b0a v5, b0a v5_1, b0a v7, b0a v5_2]
      refine b5d (f := eI) (l := b_7_0) (m := ([wr (x62 + x64)])) ?_ ?_ ?_ ?_ h_l65 ?_
      ·exact (b3e (by simp only [go_sem, b0q qa, qb, q0, qf, q2, qg, q1, b0q q6, qz, qh, q7, q8, q9, qw, q3, b0c q3, q4, b0c q4, qc, ql, b0c ql, q5, b0c q5, qd, qo, b0c qo, qe, qm, b0c qm, qx, List.length_append, List.map_append]) (by simp only [go_sem, b0q qa, qb, q0, qf, q2, qg, q1, b0q q6, qz, qh, q7, q8, q9, qw, q3, b0c q3, q4, b0c q4, qc, ql, b0c ql, q5, b0c q5, qd, qo, b0c qo, qe, qm, b0c qm, qx, List.length_append, List.map_append]) (by simp only [go_sem, q0, q2, q1, qh]))
      ·exact (b5f (by simp only [go_sem, b0q qa, qb, q0, qf, q2, qg, q1, b0q q6, qz, qh, q7, q8, q9, qw, q3, b0c q3, q4, b0c q4, qc, ql, b0c ql, q5, b0c q5, qd, qo, b0c qo, qe, qm, b0c qm, qx, List.length_append, List.map_append]) (by simp only [go_sem, b0q qa, qb, q0, qf, q2, qg, q1, b0q q6, qz, qh, q7, q8, q9, qw, q3, b0c q3, q4, b0c q4, qc, ql, b0c ql, q5, b0c q5, qd, qo, b0c qo, qe, qm, b0c qm, qx, List.length_append, List.map_append]))
      ·exact (b2u (by first | exact b1h | exact b1i (by first | omega | (simp only [nxs] <;> omega)) | assumption | exact b00 (by assumption) (by first | omega | (simp only [go_sem, nxs] <;> omega))))
      ·exact (fun _ => by simp)
      simp only [go_sem, s1, s6, s7, s8, qb, q0, qf, q2, qg, q1, qh, q7, q8, q9, q3, b0c q3, q4, b0c q4, qc, ql, b0c ql, q5, b0c q5, qd, qo, b0c qo, qe, qm, b0c qm, b0l h_x62, b0m h_x62, h_x620, h_x621, b0l h_x63, b0m h_x63, h_x630, h_x631, b0l h_x64, b0m h_x64, h_x640, h_x641, b0a v5, b0a v5_1, b0a v7, b0a v5_2]
      refine hK _ _ ?_
      clear hK K
      simp only [b0h, b0i]
      exact J51 l65 l57 v5_2 (nxs (nxs (nxs h.nx))) (nxs h.nx) _ _ s1 s2 s5 s6 s7 s18 s19 s27 s28 (b1t qa (by intro j hj hl; first | rfl | simp only [go_sem, hl, q0, q2, qh, b1m hj q7, b1m hj q8, qp j hj, b1m hj qw]) (by first | omega | exact Nat.le_refl _ | (simp only [go_sem, nxs] <;> omega))) (by simp only [go_sem, qb, q0, q2, b0q q6, qh, q3, b0c q3, qc, ql, b0c ql, List.length_append, List.map_append]) (by simp only [go_sem, q0]) (by simp only [go_sem, q0, q2, b0q q6, qh, List.length_append, List.map_append]) (by simp only [go_sem]) (by simp only [go_sem, q0, q2, qg, q1, b0q q6, qh, q4, b0c q4, q5, b0c q5, qe, qm, b0c qm, List.length_append, List.map_append]) (by simp only [go_sem, q1]) (by simp only [go_sem, q0, q2, b0q q6, qh, List.length_append, List.map_append]) (by simp only [go_sem]) q7 (by first | exact b1h | exact b1i (by first | assumption | omega | (simp only [nxs] <;> omega)) | assumption | exact b00 (by assumption) (by first | assumption | omega | (simp only [nxs] <;> omega))) q9 (by first | exact b1h | exact b1i (by first | assumption | omega | (simp only [nxs] <;> omega)) | assumption | exact b00 (by assumption) (by first | assumption | omega | (simp only [nxs] <;> omega))) (by first | first | assumption | omega | (simp only [nxs] <;> omega)) q4 (by first | first | assumption | omega | (simp only [nxs] <;> omega)) (by first | first | assumption | omega | (simp only [nxs] <;> omega)) (by first | first | assumption | omega | (simp only [nxs] <;> omega)) (by first | first | assumption | omega | (simp only [nxs] <;> omega)) hm2
     simp only [b05]
     obtain ⟨b66, hl66, hm2⟩ := b0g hm2
     refine b10 hl66 (fun | (row_9, t_10), t, h => ∃ v5_2 : AV, ∃ i9 : Nat, t 1 = .fs 1 (List.map b0o open_) ∧ t 2 = .fp [.fs 5 (List.map b0n h_.Combs), .fs 3 (List.map b0k h_.Trains), .fs 3 (List.map b0s h_.Shifts), I h_.Until] 0 ∧ t 5 = v5_2 ∧ t 6 = I x_19 ∧ t 7 = .rp i7 0 0 ∧ t 8 = I x_28 ∧ t 9 = .rs i9 0 (List.length row_9) ∧ t 10 = I t_10 ∧ t 18 = I (List.length h_.Combs : Int) ∧ t 19 = I x_19 ∧ t 27 = I h_.Until ∧ t 28 = I x_28 ∧ b01 h v5_2 1 (List.map b2a all_5) ∧ h.ob i7 = some (4, [[.rs i7_1 0 (List.length b_7_0), .rs i7_2 0 (List.length ([0])), .v (.slice none 0 0), v7]]) ∧ i7 < h.nx ∧ h.ob i7_1 = some (1, List.map eI b_7_0) ∧ i7_1 < h.nx ∧ h.ob i7_2 = some (1, List.map eI ([0])) ∧ i7_2 < h.nx ∧ b01 h v7 1 (List.map b0o b_7_3) ∧ h.ob i9 = some (1, List.map eI row_9) ∧ i9 < h.nx ∧ b0b v5_2 i7 ∧ b0b v5_2 i7_1 ∧ b0b v5_2 i7_2 ∧ (∀ j, ¬b0b v5_2 j → b0b v7 j) ∧ b0b v5_2 i9 ∧ ¬i7 = i7_1 ∧ ¬i7 = i7_2 ∧ b0b v7 i7 ∧ ¬i7 = i9 ∧ ¬i7_1 = i7_2 ∧ b0b v7 i7_1 ∧ ¬i7_1 = i9 ∧ b0b v7 i7_2 ∧ ¬i7_2 = i9 ∧ b0b v7 i9) ?_ ?_
     ·exact ⟨v5_1, h.nx, s1, s2, s5, s6, s7, (by first | (simp only [go_sem, List.length_append, List.map_append]; done) | rfl), (by first | (simp only [go_sem, List.length_append, List.map_append]; done) | rfl), (by first | (simp only [go_sem, List.length_append, List.map_append]; done) | rfl), s18, s19, s27, s28, (b1t qa (by intro j hj hl; first | rfl | simp only [go_sem, hl]) (by first | omega | exact Nat.le_refl _ | (simp only [go_sem, nxs] <;> omega))), (by simp only [go_sem, qb, q0, List.length_append, List.map_append]), (by simp only [go_sem, q0]), (by simp only [go_sem, qf, q2, List.length_append, List.map_append]), (by simp only [go_sem, q2]), (by simp only [go_sem, qg, q1, List.length_append, List.map_append]), (by simp only [go_sem, q1]), (b1t q6 (by intro j hj hl; first | rfl | simp only [go_sem, hl]) (by first | omega | exact Nat.le_refl _ | (simp only [go_sem, nxs] <;> omega))), (by simp only [go_sem, List.length_append, List.map_append]), (by simp only [go_sem]), q7, q8, q9, qp, (by first | exact b1h | exact b1i (by first | assumption | omega | (simp only [nxs] <;> omega)) | assumption | exact b00 (by assumption) (by first | assumption | omega | (simp only [nxs] <;> omega))), q3, q4, qc, (by first | first | assumption | omega | (simp only [nxs] <;> omega)), q5, qd, (by first | first | assumption | omega | (simp only [nxs] <;> omega)), qe, (by first | first | assumption | omega | (simp only [nxs] <;> omega)), (by first | exact b1h | exact b1i (by first | assumption | omega | (simp only [nxs] <;> omega)) | assumption | exact b00 (by assumption) (by first | assumption | omega | (simp only [nxs] <;> omega)))⟩
     ·try clear s1 s2 s5 s6 s7 s18 s19 s27 s28 qa qb q0 qf q2 qg q1 q6 q7 q8 q9 qp q3 q4 qc q5 qd qe
      rintro ⟨row_9, t_10⟩ o t h ⟨v5_2, i9, s1, s2, s5, s6, s7, s8, s9, s10, s18, s19, s27, s28, qa, qb, q0, qf, q2, qg, q1, q6, qz, qh, q7, q8, q9, qp, qw, q3, q4, qc, ql, q5, qd, qo, qe, qm, qx⟩ hm3 hb66
      simp only [b6s] at hm3
      rw [d2u]
      refine b06 ?_
      refine b0d fun K hK => ?_
      simp only [go_sem, s2, s10, q0, q2, q1, qh, b0a v5, b0a v5_1, b0a v7, b0a v5_2]
      refine hK _ _ ?_
      clear hK K
      refine b0u fun K67 hK67 => ?_
      simp only [go_sem]
      refine b0r (fun hc68 => ?_) (fun hc68 => ?_)
      ·rw [b04 hc68] at hm3
       simp only [b02, b0h, b0i]
       refine hK67 _ _ ?_
       refine b0u fun K69 hK69 => ?_
       have J70 : ∀ (row_9_1 : List Int) (v5_3 : AV) (t : Slots) (h : Heap), t 1 = .fs 1 (List.map b0o open_) → t 2 = .fp [.fs 5 (List.map b0n h_.Combs), .fs 3 (List.map b0k h_.Trains), .fs 3 (List.map b0s h_.Shifts), I h_.Until] 0 → t 5 = v5_3 → t 6 = I x_19 → t 7 = .rp i7 0 0 → t 8 = I x_28 → t 9 = .rs i9 0 (List.length row_9_1) → t 10 = I t_10 → t 18 = I (List.length h_.Combs : Int) → t 19 = I x_19 → t 27 = I h_.Until → t 28 = I x_28 → b01 h v5_3 1 (List.map b2a all_5) → h.ob i7 = some (4, [[.rs i7_1 0 (List.length b_7_0), .rs i7_2 0 (List.length ([0])), .v (.slice none 0 0), v7]]) → i7 < h.nx → h.ob i7_1 = some (1, List.map eI b_7_0) → i7_1 < h.nx → h.ob i7_2 = some (1, List.map eI ([0])) → i7_2 < h.nx → b01 h v7 1 (List.map b0o b_7_3) → h.ob i9 = some (1, List.map eI row_9_1) → i9 < h.nx → b0b v5_3 i7 → b0b v5_3 i7_1 → b0b v5_3 i7_2 → (∀ j, ¬b0b v5_3 j → b0b v7 j) → b0b v5_3 i9 → ¬i7 = i7_1 → ¬i7 = i7_2 → b0b v7 i7 → ¬i7 = i9 → ¬i7_1 = i7_2 → b0b v7 i7_1 → ¬i7_1 = i9 → b0b v7 i7_2 → ¬i7_2 = i9 → b0b v7 i9 → b7r t_10 row_9_1 = some o → K69 t h := by
        try clear s1 s2 s5 s6 s7 s8 s9 s10 s18 s19 s27 s28 qa qb q0 qf q2 qg q1 q6 qz qh q7 q8 q9 qp qw q3 q4 qc ql q5 qd qo qe qm qx
        intro row_9_1 v5_3 t h s1 s2 s5 s6 s7 s8 s9 s10 s18 s19 s27 s28 qa qb q0 qf q2 qg q1 q6 qz qh q7 q8 q9 qp qw q3 q4 qc ql q5 qd qo qe qm qx hm3
        refine hK69 _ _ ?_
        unfold b7r at hm3
        refine b1n fun K hK => ?_
        simp only [go_sem, s10, q0, q2, q1, qh, b0a v5, b0a v5_1, b0a v7, b0a v5_2, b0a v5_3]
        refine hK _ _ ?_
        clear hK K
        simp only [b0h, b0i]
        obtain rfl := Option.some.inj hm3
        refine ⟨_, rfl, ?_⟩
        exact ⟨v5_3, i9, s1, s2, s5, s6, s7, s8, (by first | exact s9 | simp only [go_sem, s9, List.length_append, List.map_append]), (by first | (simp only [go_sem, s10, List.length_append, List.map_append]; done) | rfl), s18, s19, s27, s28, qa, qb, q0, qf, q2, qg, q1, q6, qz, qh, q7, q8, q9, qp, qw, q3, q4, qc, ql, q5, qd, qo, qe, qm, qx⟩
       simp only [b05]
       obtain ⟨y73, h_y73, hm3⟩ := b0g hm3
       obtain ⟨x74, h_x74, hm3⟩ := b0g hm3
       have h_x740 := b0x h_x74
       have h_x741 := b0y h_x74
       refine b0d fun K hK => ?_
       simp only [go_sem, s2, s6, s8, s9, s10, qz, qh, q0, q2, q1, qw, ql, b0c ql, qo, b0c qo, qm, b0c qm, qx, b0l h_x74, b0m h_x74, h_x740, h_x741, b0a v5, b0a v5_1, b0a v7, b0a v5_2]
       refine b1o (c3a h_ x_19 x_28 t_10 _ h_y73) ?_
       simp only [go_sem, s2, s6, s8, s9, s10, qz, qh, q0, q2, q1, qw, ql, b0c ql, qo, b0c qo, qm, b0c qm, qx, b0l h_x74, b0m h_x74, h_x740, h_x741, b0a v5, b0a v5_1, b0a v7, b0a v5_2]
       refine hK _ _ ?_
       clear hK K
       obtain ⟨l76, h_l76, hm3⟩ := b0g hm3
       refine b0d fun K hK => ?_
       simp only [go_sem, s2, s6, q0, q2, q1, qh, b0a v5, b0a v5_1, b0a v7, b0a v5_2]
       refine d8e (f := b0n) (l := h_.Combs) (lo := none) (hi := some x_19) h_l76 ?_
       simp only [go_sem, s2, s6, q0, q2, q1, qh, b0a v5, b0a v5_1, b0a v7, b0a v5_2]
       refine hK _ _ ?_
       clear hK K
       simp only [b05]
       obtain ⟨b77, hl77, hm3⟩ := b0g hm3
       refine b10 hl77 (fun | (row_9_1, x_54), t, h => ∃ v5_3 : AV, t 1 = .fs 1 (List.map b0o open_) ∧ t 2 = .fp [.fs 5 (List.map b0n h_.Combs), .fs 3 (List.map b0k h_.Trains), .fs 3 (List.map b0s h_.Shifts), I h_.Until] 0 ∧ t 5 = v5_3 ∧ t 6 = I x_19 ∧ t 7 = .rp i7 0 0 ∧ t 8 = I x_28 ∧ t 9 = .rs i9 0 (List.length row_9_1) ∧ t 10 = I t_10 ∧ t 18 = I (List.length h_.Combs : Int) ∧ t 19 = I x_19 ∧ t 27 = I h_.Until ∧ t 28 = I x_28 ∧ t 52 = .fs 5 (List.map b0n l76) ∧ t 53 = I (List.length l76 : Int) ∧ t 54 = I x_54 ∧ b01 h v5_3 1 (List.map b2a all_5) ∧ h.ob i7 = some (4, [[.rs i7_1 0 (List.length b_7_0), .rs i7_2 0 (List.length ([0])), .v (.slice none 0 0), v7]]) ∧ i7 < h.nx ∧ h.ob i7_1 = some (1, List.map eI b_7_0) ∧ i7_1 < h.nx ∧ h.ob i7_2 = some (1, List.map eI ([0])) ∧ i7_2 < h.nx ∧ b01 h v7 1 (List.map b0o b_7_3) ∧ h.ob i9 = some (1, List.map eI row_9_1) ∧ i9 < h.nx ∧ b0b v5_3 i7 ∧ b0b v5_3 i7_1 ∧ b0b v5_3 i7_2 ∧ (∀ j, ¬b0b v5_3 j → b0b v7 j) ∧ b0b v5_3 i9 ∧ ¬i7 = i7_1 ∧ ¬i7 = i7_2 ∧ b0b v7 i7 ∧ ¬i7 = i9 ∧ ¬i7_1 = i7_2 ∧ b0b v7 i7_1 ∧ ¬i7_1 = i9 ∧ b0b v7 i7_2 ∧ ¬i7_2 = i9 ∧ b0b v7 i9) ?_ ?_
       ·exact ⟨v5_2, s1, s2, s5, s6, s7, s8, (by first | exact s9 | simp only [go_sem, s9, List.length_append, List.map_append]), s10, s18, s19, s27, s28, (by first | (simp only [go_sem, List.length_append, List.map_append]; done) | rfl), (by first | (simp only [go_sem, List.length_append, List.map_append]; done) | rfl), (by first | (simp only [go_sem, List.length_append, List.map_append]; done) | rfl), (b1t qa (by intro j hj hl; first | rfl | simp only [go_sem, hl, qh, b1m hj qw]) (by first | omega | exact Nat.le_refl _ | (simp only [go_sem, nxs] <;> omega))), (by simp only [go_sem, qb, q0, qh, ql, b0c ql, List.length_append, List.map_append]), (by simp only [go_sem, q0]), (by simp only [go_sem, qf, q2, qh, qo, b0c qo, List.length_append, List.map_append]), (by simp only [go_sem, q2]), (by simp only [go_sem, qg, q1, qh, qm, b0c qm, List.length_append, List.map_append]), (by simp only [go_sem, q1]), (b1t q6 (by intro j hj hl; first | rfl | simp only [go_sem, hl, qh, b1m hj qx]) (by first | omega | exact Nat.le_refl _ | (simp only [go_sem, nxs] <;> omega))), (by simp only [go_sem, qz, qh, List.length_append, List.map_append]), (by simp only [go_sem, qh]), q7, q8, q9, qp, qw, q3, q4, qc, ql, q5, qd, qo, qe, qm, qx⟩
       ·try clear s1 s2 s5 s6 s7 s8 s9 s10 s18 s19 s27 s28 qa qb q0 qf q2 qg q1 q6 qz qh q7 q8 q9 qp qw q3 q4 qc ql q5 qd qo qe qm qx
        rintro ⟨row_9_1, x_54⟩ o t h ⟨v5_3, s1, s2, s5, s6, s7, s8, s9, s10, s18, s19, s27, s28, s52, s53, s54, qa, qb, q0, qf, q2, qg, q1, q6, qz, qh, q7, q8, q9, qp, qw, q3, q4, qc, ql, q5, qd, qo, qe, qm, qx⟩ hm4 hb77
        simp only [b7j] at hm4
        rw [d2t]
        refine b0d fun K hK => ?_
        simp only [go_sem, s53, s54, q0, q2, q1, qh, b0a v5, b0a v5_1, b0a v7, b0a v5_2, b0a v5_3]
        refine hK _ _ ?_
        clear hK K
        refine b0u fun K78 hK78 => ?_
        simp only [go_sem]
        refine b0r (fun hc79 => ?_) (fun hc79 => ?_)
        ·rw [b04 hc79] at hm4
         simp only [b02, b0h, b0i]
         refine hK78 _ _ ?_
         refine b0u fun K80 hK80 => ?_
         have J81 : ∀ (row_9_2 : List Int) (v5_4 : AV) (t : Slots) (h : Heap), t 1 = .fs 1 (List.map b0o open_) → t 2 = .fp [.fs 5 (List.map b0n h_.Combs), .fs 3 (List.map b0k h_.Trains), .fs 3 (List.map b0s h_.Shifts), I h_.Until] 0 → t 5 = v5_4 → t 6 = I x_19 → t 7 = .rp i7 0 0 → t 8 = I x_28 → t 9 = .rs i9 0 (List.length row_9_2) → t 10 = I t_10 → t 18 = I (List.length h_.Combs : Int) → t 19 = I x_19 → t 27 = I h_.Until → t 28 = I x_28 → t 52 = .fs 5 (List.map b0n l76) → t 53 = I (List.length l76 : Int) → t 54 = I x_54 → b01 h v5_4 1 (List.map b2a all_5) → h.ob i7 = some (4, [[.rs i7_1 0 (List.length b_7_0), .rs i7_2 0 (List.length ([0])), .v (.slice none 0 0), v7]]) → i7 < h.nx → h.ob i7_1 = some (1, List.map eI b_7_0) → i7_1 < h.nx → h.ob i7_2 = some (1, List.map eI ([0])) → i7_2 < h.nx → b01 h v7 1 (List.map b0o b_7_3) → h.ob i9 = some (1, List.map eI row_9_2) → i9 < h.nx → b0b v5_4 i7 → b0b v5_4 i7_1 → b0b v5_4 i7_2 → (∀ j, ¬b0b v5_4 j → b0b v7 j) → b0b v5_4 i9 → ¬i7 = i7_1 → ¬i7 = i7_2 → b0b v7 i7 → ¬i7 = i9 → ¬i7_1 = i7_2 → b0b v7 i7_1 → ¬i7_1 = i9 → b0b v7 i7_2 → ¬i7_2 = i9 → b0b v7 i9 → b6e x_54 row_9_2 = some o → K80 t h := by
          try clear s1 s2 s5 s6 s7 s8 s9 s10 s18 s19 s27 s28 s52 s53 s54 qa qb q0 qf q2 qg q1 q6 qz qh q7 q8 q9 qp qw q3 q4 qc ql q5 qd qo qe qm qx
          intro row_9_2 v5_4 t h s1 s2 s5 s6 s7 s8 s9 s10 s18 s19 s27 s28 s52 s53 s54 qa qb q0 qf q2 qg q1 q6 qz qh q7 q8 q9 qp qw q3 q4 qc ql q5 qd qo qe qm qx hm4
          refine hK80 _ _ ?_
          unfold b6e at hm4
          refine b1n fun K hK => ?_
          simp only [go_sem, s54, q0, q2, q1, qh, b0a v5, b0a v5_1, b0a v7, b0a v5_2, b0a v5_3, b0a v5_4]
          refine hK _ _ ?_
          clear hK K
          simp only [b0h, b0i]
          obtain rfl := Option.some.inj hm4
          refine ⟨_, rfl, ?_⟩
          exact ⟨v5_4, s1, s2, s5, s6, s7, s8, (by first | exact s9 | simp only [go_sem, s9, List.length_append, List.map_append]), s10, s18, s19, s27, s28, s52, s53, (by first | (simp only [go_sem, s54, List.length_append, List.map_append]; done) | rfl), qa, qb, q0, qf, q2, qg, q1, q6, qz, qh, q7, q8, q9, qp, qw, q3, q4, qc, ql, q5, qd, qo, qe, qm, qx⟩
         simp only [b05]
         obtain ⟨x83, h_x83, hm4⟩ := b0g hm4
         have h_x830 := b0x h_x83
         have h_x831 := b0y h_x83
         refine b0d fun K hK => ?_
         simp only [go_sem, s52, s54, q0, q2, q1, qh, b0l h_x83, b0m h_x83, h_x830, h_x831, b0a v5, b0a v5_1, b0a v7, b0a v5_2, b0a v5_3]
         refine hK _ _ ?_
         clear hK K
         refine b0d fun K hK => ?_
         simp only [go_sem, s6, q0, q2, q1, qh, b0a v5, b0a v5_1, b0a v7, b0a v5_2, b0a v5_3]
         refine hK _ _ ?_
         clear hK K
         simp only [go_sem]
         refine b0r (fun hc84 => ?_) (fun hc84 => ?_)
         ·rw [b04 hc84] at hm4
          obtain ⟨x89, h_x89, hm4⟩ := b0g hm4
          have h_x890 := b0x h_x89
          have h_x891 := b0y h_x89
          obtain ⟨x90, h_x90, hm4⟩ := b0g hm4
          have h_x900 := b0x h_x90
          have h_x901 := b0y h_x90
          obtain ⟨iq91, rfl, q16, q10⟩ := b5o qa h_x90
          obtain ⟨y92, h_y92, hm4⟩ := b0g hm4
          refine b1n fun K hK => ?_
          simp only [go_sem, s5, s8, s9, s10, q16, q10, qz, qh, q0, q2, q1, q7, q8, q9, qw, ql, b0c ql, qo, b0c qo, qm, b0c qm, qx, b0l h_x89, b0m h_x89, h_x890, h_x891, b0l h_x90, b0m h_x90, h_x900, h_x901, b0a v5, b0a v5_1, b0a v7, b0a v5_2]
          refine b1o (c27 x90 (wr (x_28 - x83.Walk.High)) (wr (t_10 - x83.Walk.Low)) _ h_y92) ?_
          simp only [go_sem, s5, s8, s9, s10, q16, q10, qz, qh, q0, q2, q1, q7, q8, q9, qw, ql, b0c ql, qo, b0c qo, qm, b0c qm, qx, b0l h_x89, b0m h_x89, h_x890, h_x891, b0l h_x90, b0m h_x90, h_x900, h_x901, b0a v5, b0a v5_1, b0a v7, b0a v5_2]
          refine hK _ _ ?_
          clear hK K
          simp only [b0h, b0i]
          exact J81 (List.set row_9_1 (Int.toNat t_10) (wr (x89 + y92))) (.rs iq91 0 (List.length all_5)) _ _ s1 s2 (by first | (simp only [go_sem, s5, List.length_append, List.map_append]; done) | rfl) s6 s7 s8 (by first | exact s9 | simp only [go_sem, s9, List.length_append, List.map_append]) s10 s18 s19 s27 s28 s52 s53 s54 (b3e (by simp only [go_sem, qh, qw, c6j qw, b0c (c6j qw), q16, q10, List.length_append, List.map_append]) (by first | rfl | simp only [go_sem, List.length_append, List.map_append]) (by simp only [go_sem, q10])) (by simp only [go_sem, qb, q0, qh, ql, b0c ql, List.length_append, List.map_append]) (by simp only [go_sem, q0]) (by simp only [go_sem, qf, q2, qh, qo, b0c qo, List.length_append, List.map_append]) (by simp only [go_sem, q2]) (by simp only [go_sem, qg, q1, qh, qm, b0c qm, List.length_append, List.map_append]) (by simp only [go_sem, q1]) (b1t q6 (by intro j hj hl; first | rfl | simp only [go_sem, hl, qh, b1m hj qx]) (by first | omega | exact Nat.le_refl _ | (simp only [go_sem, nxs] <;> omega))) (by simp only [go_sem, qz, qh, List.length_append, List.map_append]) (by simp only [go_sem, qh]) q7 q8 q9 qp qw q3 q4 qc ql q5 qd qo qe qm qx hm4
         ·rw [b03 hc84] at hm4
          simp only [b02, b0h, b0i]
          exact J81 row_9_1 v5_3 _ _ s1 s2 s5 s6 s7 s8 (by first | exact s9 | simp only [go_sem, s9, List.length_append, List.map_append]) s10 s18 s19 s27 s28 s52 s53 s54 (b1t qa (by intro j hj hl; first | rfl | simp only [go_sem, hl]) (by first | omega | exact Nat.le_refl _ | (simp only [go_sem, nxs] <;> omega))) (by simp only [go_sem, qb, q0, List.length_append, List.map_append]) (by simp only [go_sem, q0]) (by simp only [go_sem, qf, q2, List.length_append, List.map_append]) (by simp only [go_sem, q2]) (by simp only [go_sem, qg, q1, List.length_append, List.map_append]) (by simp only [go_sem, q1]) (b1t q6 (by intro j hj hl; first | rfl | simp only [go_sem, hl]) (by first | omega | exact Nat.le_refl _ | (simp only [go_sem, nxs] <;> omega))) (by simp only [go_sem, qz, qh, List.length_append, List.map_append]) (by simp only [go_sem, qh]) q7 q8 q9 qp qw q3 q4 qc ql q5 qd qo qe qm qx hm4
        ·rw [b03 hc79] at hm4
         simp only [b1w, b1z, b1y, b1x, b0h, b0i, Nat.reduceEqDiff, not_false_eq_true]
         obtain rfl := Option.some.inj hm4
         obtain rfl := hb77 _ rfl
         try dsimp only at hm3
         exact J70 row_9_1 v5_3 _ _ s1 s2 s5 s6 s7 s8 (by first | exact s9 | simp only [go_sem, s9, List.length_append, List.map_append]) s10 s18 s19 s27 s28 qa qb q0 qf q2 qg q1 q6 qz qh q7 q8 q9 qp qw q3 q4 qc ql q5 qd qo qe qm qx hm3
      ·rw [b03 hc68] at hm3
       simp only [b1w, b1z, b1y, b1x, b0h, b0i, Nat.reduceEqDiff, not_false_eq_true]
       obtain rfl := Option.some.inj hm3
       obtain rfl := hb66 _ rfl
       try dsimp only at hm2
       exact J55 row_9 v5_2 i9 _ _ s1 s2 s5 s6 s7 s8 (by first | exact s9 | simp only [go_sem, s9, List.length_append, List.map_append]) s18 s19 s27 s28 qa qb q0 qf q2 qg q1 q6 qz qh q7 q8 q9 qp qw q3 q4 qc ql q5 qd qo qe qm qx hm2
    ·rw [b03 hc49] at hm2
     simp only [b1w, b1z, b1y, b1x, b0h, b0i, Nat.reduceEqDiff, not_false_eq_true]
     obtain rfl := Option.some.inj hm2
     obtain rfl := hb47 _ rfl
     try dsimp only at hm1
     exact J9 b_7_0 b_7_3 v5_1 i7 i7_1 i7_2 v7 _ _ s1 s2 s5 s6 s7 s18 s19 qa qb q0 qf q2 qg q1 q6 q7 q8 q9 qp q3 q4 qc q5 qd qe hm1
  ·rw [b03 hc5] at hm1
   simp only [b1w, b1z, b1y, b1x, b0h, b0i, Nat.reduceEqDiff, not_false_eq_true]
   obtain rfl := Option.some.inj hm1
   obtain rfl := hb3 _ rfl
   try dsimp only at hm0
   exact J2 all_5 v5 _ _ s5 qa hm0
theorem d0w (hf : Has O "newel/halls.bounds" x_halls_bounds) (c3a : c4b O) (c27 : c4a O) : c7m O := by
 intro h_ open_ v_1 hs_1 h0 rr_p1 r hm0
 unfold b44 at hm0
 refine d6a hf rfl ?_
 refine b2f (fun t h => t 0 = .agg [.fs 5 (List.map b0n h_.Combs), .fs 3 (List.map b0k h_.Trains), .fs 3 (List.map b0s h_.Shifts), I h_.Until] ∧ t 1 = v_1 ∧ RR h v_1 hs_1 1 eI open_ ∧ (∀ j, j < h0.nx → h.ob j = h0.ob j) ∧ h0.nx ≤ h.nx) ⟨rfl, rfl, rr_p1, fun _ _ => rfl, Nat.le_refl _⟩ fun t h ⟨s0, s1, rr_p1, fr, fx⟩ => ?_
 simp only [x_halls_bounds]
 refine b0d fun K hK => ?_
 simp only [go_sem, s0]
 refine hK _ _ ?_
 clear hK K
 refine b0d fun K hK => ?_
 simp only [go_sem]
 refine hK _ _ ?_
 clear hK K
 refine b06 ?_
 refine b0d fun K hK => ?_
 simp only [go_sem]
 refine hK _ _ ?_
 clear hK K
 refine b0u fun K1 hK1 => ?_
 have J2 : ∀ (all_5 : List halls_bound) (v5 : AV) (t : Slots) (h : Heap), t 5 = v5 → b01 h v5 1 (List.map b2a all_5) → (∀ j, j < h0.nx → h.ob j = h0.ob j) → h0.nx ≤ h.nx → (∀ j, ¬b0b v5 j → h0.nx ≤ j) → b8t all_5 = some r → K1 t h := by
  intro all_5 v5 t h s5 qa fr fx qy hm0
  refine hK1 _ _ ?_
  unfold b8t at hm0
  refine b06 ?_
  refine c15 (s := 5) (v := v5) (f := b2a) (l := all_5) (by simp only [go_sem, s5, b0q qa, List.length_append, List.map_append]) (b1t qa (by intro j hj hl; first | rfl | simp only [go_sem, hl]) (by first | omega | exact Nat.le_refl _ | (simp only [go_sem, nxs] <;> omega))) c2e d8s ?_
  skip
  refine b0d fun K hK => ?_
  simp only [go_sem, s5, b0a v5]
  refine hK _ _ ?_
  clear hK K
  simp only [b1c, b1e, b1d, b1f]
  obtain rfl := Option.some.inj hm0
  exact d9s (Post := fun v h => v = .fs 1 (List.map b2a all_5) ∧ (∀ j, j < h0.nx → h.ob j = h0.ob j) ∧ h0.nx ≤ h.nx) (v := .fs 1 (List.map b2a all_5)) (by simp only [go_sem, b0q qa, List.length_append, List.map_append]) ⟨rfl, (by intro j hj; first | exact fr j hj | (refine Eq.trans ?_ (fr j hj); first | rfl | simp only [go_sem, Nat.lt_of_lt_of_le hj fx, b5k qy hj, b1v qa (b5k qy hj), c8y qa (b5k qy hj)])), (by first | exact fx | omega | (simp only [go_sem, nxs] <;> omega))⟩
 simp only [b05]
 obtain ⟨b3, hl3, hm0⟩ := b0g hm0
 refine b10 hl3 (fun | (all_5, x_19), t, h => ∃ v1 : AV, ∃ v5 : AV, t 1 = v1 ∧ t 2 = .fp [.fs 5 (List.map b0n h_.Combs), .fs 3 (List.map b0k h_.Trains), .fs 3 (List.map b0s h_.Shifts), I h_.Until] 0 ∧ t 5 = v5 ∧ t 18 = I (List.length h_.Combs : Int) ∧ t 19 = I x_19 ∧ RR h v1 hs_1 1 eI open_ ∧ b01 h v5 1 (List.map b2a all_5) ∧ (∀ j, ¬b0b v5 j → b0v v1 hs_1 j) ∧ (∀ j, j < h0.nx → h.ob j = h0.ob j) ∧ h0.nx ≤ h.nx ∧ (∀ j, ¬b0b v5 j → h0.nx ≤ j)) ?_ ?_
 ·exact ⟨v_1, (.v (.slice none 0 0)), s1, (by first | (simp only [go_sem, List.length_append, List.map_append]; done) | rfl), (by first | (simp only [go_sem, List.length_append, List.map_append]; done) | rfl), (by first | (simp only [go_sem, List.length_append, List.map_append]; done) | rfl), (by first | (simp only [go_sem, List.length_append, List.map_append]; done) | rfl), rr_p1, b54, b95, fr, fx, b95⟩
 ·rintro ⟨all_5, x_19⟩ o t h ⟨v1, v5, s1, s2, s5, s18, s19, qn, qa, qr, fr, fx, qy⟩ hm1 hb3
  simp only [b7k] at hm1
  rw [d2y]
  refine b0d fun K hK => ?_
  simp only [go_sem, s18, s19, b0a v1, b0a v5]
  refine hK _ _ ?_
  clear hK K
  refine b0u fun K4 hK4 => ?_
  simp only [go_sem]
  refine b0r (fun hc5 => ?_) (fun hc5 => ?_)
  ·rw [b04 hc5] at hm1
   simp only [b02, b0h, b0i]
   refine hK4 _ _ ?_
   refine b0u fun K6 hK6 => ?_
   have J7 : ∀ (all_5_1 : List halls_bound) (v1_1 : AV) (i5 : Nat) (t : Slots) (h : Heap), t 1 = v1_1 → t 2 = .fp [.fs 5 (List.map b0n h_.Combs), .fs 3 (List.map b0k h_.Trains), .fs 3 (List.map b0s h_.Shifts), I h_.Until] 0 → t 5 = .rs i5 0 (List.length all_5_1) → t 18 = I (List.length h_.Combs : Int) → t 19 = I x_19 → RR h v1_1 hs_1 1 eI open_ → h.ob i5 = some (1, List.map b2a all_5_1) → i5 < h.nx → b0v v1_1 hs_1 i5 → (∀ j, j < h0.nx → h.ob j = h0.ob j) → h0.nx ≤ h.nx → h0.nx ≤ i5 → b7q x_19 all_5_1 = some o → K6 t h := by
    try clear s1 s2 s5 s18 s19 qn qa qr fr fx qy
    intro all_5_1 v1_1 i5 t h s1 s2 s5 s18 s19 qn q16 q10 q1o fr fx qy hm1
    refine hK6 _ _ ?_
    unfold b7q at hm1
    refine b1n fun K hK => ?_
    simp only [go_sem, s19, q10, b0a v1, b0a v5, b0a v1_1]
    refine hK _ _ ?_
    clear hK K
    simp only [b0h, b0i]
    obtain rfl := Option.some.inj hm1
    refine ⟨_, rfl, ?_⟩
    exact ⟨v1_1, (.rs i5 0 (List.length all_5_1)), s1, s2, (by first | exact s5 | simp only [go_sem, s5, List.length_append, List.map_append]), s18, (by first | (simp only [go_sem, s19, List.length_append, List.map_append]; done) | rfl), qn, (b3e (by simp only [go_sem, q16, q10, List.length_append, List.map_append]) (by first | rfl | simp only [go_sem, List.length_append, List.map_append]) (by simp only [go_sem, q10])), (b97 q1o), fr, fx, (c47 qy)⟩
   simp only [b05]
   refine b0d fun K hK => ?_
   simp only [go_sem, s19, b0a v1, b0a v5]
   refine hK _ _ ?_
   clear hK K
   refine b0d fun K hK => ?_
   simp only [go_sem, b0a v1, b0a v5]
   refine hK _ _ ?_
   clear hK K
   refine b06 ?_
   refine b0d fun K hK => ?_
   simp only [go_sem, s2, b0a v1, b0a v5]
   refine hK _ _ ?_
   clear hK K
   refine b0u fun K8 hK8 => ?_
   have J9 : ∀ (b_7_0 : List Int) (b_7_3 : List (List Int)) (v1_1 : AV) (v5_1 : AV) (i7 : Nat) (i7_1 : Nat) (i7_2 : Nat) (v7 : AV) (t : Slots) (h : Heap), t 1 = v1_1 → t 2 = .fp [.fs 5 (List.map b0n h_.Combs), .fs 3 (List.map b0k h_.Trains), .fs 3 (List.map b0s h_.Shifts), I h_.Until] 0 → t 5 = v5_1 → t 6 = I x_19 → t 7 = .rp i7 0 0 → t 18 = I (List.length h_.Combs : Int) → t 19 = I x_19 → RR h v1_1 hs_1 1 eI open_ → b01 h v5_1 1 (List.map b2a all_5) → h.ob i7 = some (4, [[.rs i7_1 0 (List.length b_7_0), .rs i7_2 0 (List.length ([0])), .v (.slice none 0 0), v7]]) → i7 < h.nx → h.ob i7_1 = some (1, List.map eI b_7_0) → i7_1 < h.nx → h.ob i7_2 = some (1, List.map eI ([0])) → i7_2 < h.nx → b01 h v7 1 (List.map b0o b_7_3) → (∀ j, ¬b0b v5_1 j → b0v v1_1 hs_1 j) → b0v v1_1 hs_1 i7 → b0v v1_1 hs_1 i7_1 → b0v v1_1 hs_1 i7_2 → (∀ j, ¬b0b v7 j → b0v v1_1 hs_1 j) → b0b v5_1 i7 → b0b v5_1 i7_1 → b0b v5_1 i7_2 → (∀ j, ¬b0b v5_1 j → b0b v7 j) → ¬i7 = i7_1 → ¬i7 = i7_2 → b0b v7 i7 → ¬i7_1 = i7_2 → b0b v7 i7_1 → b0b v7 i7_2 → (∀ j, j < h0.nx → h.ob j = h0.ob j) → h0.nx ≤ h.nx → (∀ j, ¬b0b v5_1 j → h0.nx ≤ j) → h0.nx ≤ i7 → h0.nx ≤ i7_1 → h0.nx ≤ i7_2 → (∀ j, ¬b0b v7 j → h0.nx ≤ j) → b7s h_ open_ all_5 x_19 b_7_0 b_7_3 = some o → K8 t h := by
    try clear s1 s2 s5 s18 s19 qn qa qr fr fx qy
    intro b_7_0 b_7_3 v1_1 v5_1 i7 i7_1 i7_2 v7 t h s1 s2 s5 s6 s7 s18 s19 qn qa qb q0 qf q2 qg q1 q6 qr qi qj qk qv q7 q8 q9 qp q3 q4 qc q5 qd qe fr fx qy q12 q14 q15 q13 hm1
    refine hK8 _ _ ?_
    unfold b7s at hm1
    refine b06 ?_
    refine b0d fun K hK => ?_
    simp only [go_sem, s2, q0, q2, q1, b0a v1, b0a v5, b0a v1_1, b0a v5_1, b0a v7]
    refine hK _ _ ?_
    clear hK K
    refine b0u fun K10 hK10 => ?_
    have J11 : ∀ (b_7_1 : List Int) (b_7_2 : List Int) (v1_2 : AV) (i7_3 : Nat) (v7_1 : AV) (v7_2 : AV) (t : Slots) (h : Heap), t 1 = v1_2 → t 2 = .fp [.fs 5 (List.map b0n h_.Combs), .fs 3 (List.map b0k h_.Trains), .fs 3 (List.map b0s h_.Shifts), I h_.Until] 0 → t 5 = v5_1 → t 7 = .rp i7 0 0 → t 18 = I (List.length h_.Combs : Int) → t 19 = I x_19 → RR h v1_2 hs_1 1 eI open_ → b01 h v5_1 1 (List.map b2a all_5) → h.ob i7 = some (4, [[.rs i7_1 0 (List.length b_7_0), .rs i7_3 0 (List.length b_7_1), v7_1, v7_2]]) → i7 < h.nx → h.ob i7_1 = some (1, List.map eI b_7_0) → i7_1 < h.nx → h.ob i7_3 = some (1, List.map eI b_7_1) → i7_3 < h.nx → b01 h v7_1 1 (List.map eI b_7_2) → b01 h v7_2 1 (List.map b0o b_7_3) → (∀ j, ¬b0b v5_1 j → b0v v1_2 hs_1 j) → b0v v1_2 hs_1 i7 → b0v v1_2 hs_1 i7_1 → b0v v1_2 hs_1 i7_3 → (∀ j, ¬b0b v7_1 j → b0v v1_2 hs_1 j) → (∀ j, ¬b0b v7_2 j → b0v v1_2 hs_1 j) → b0b v5_1 i7 → b0b v5_1 i7_1 → b0b v5_1 i7_3 → (∀ j, ¬b0b v5_1 j → b0b v7_1 j) → (∀ j, ¬b0b v5_1 j → b0b v7_2 j) → ¬i7 = i7_1 → ¬i7 = i7_3 → b0b v7_1 i7 → b0b v7_2 i7 → ¬i7_1 = i7_3 → b0b v7_1 i7_1 → b0b v7_2 i7_1 → b0b v7_1 i7_3 → b0b v7_2 i7_3 → (∀ j, ¬b0b v7_1 j → b0b v7_2 j) → (∀ j, j < h0.nx → h.ob j = h0.ob j) → h0.nx ≤ h.nx → (∀ j, ¬b0b v5_1 j → h0.nx ≤ j) → h0.nx ≤ i7 → h0.nx ≤ i7_1 → h0.nx ≤ i7_3 → (∀ j, ¬b0b v7_1 j → h0.nx ≤ j) → (∀ j, ¬b0b v7_2 j → h0.nx ≤ j) → b7l all_5 x_19 b_7_0 b_7_3 b_7_1 b_7_2 = some o → K10 t h := by
     try clear s1 s2 s5 s6 s7 s18 s19 qn qa qb q0 qf q2 qg q1 q6 qr qi qj qk qv q7 q8 q9 qp q3 q4 qc q5 qd qe fr fx qy q12 q14 q15 q13
     intro b_7_1 b_7_2 v1_2 i7_3 v7_1 v7_2 t h s1 s2 s5 s7 s18 s19 qn qa qb q0 qf q2 qg q1 q6 qq qr qi qj qk qv q18 q7 q8 q9 qp q17 q3 q4 qc qs q5 qd qt qe qu q19 fr fx qy q12 q14 q15 q13 q1b hm1
     refine hK10 _ _ ?_
     unfold b7l at hm1
     refine d4g (s := 7) (v := .rp i7 0 0) (y := .fp [.fs 1 (List.map eI b_7_0), .fs 1 (List.map eI b_7_1), .fs 1 (List.map eI b_7_2), .fs 1 (List.map b0o b_7_3)] 0) (fun j => j == i7 || j == i7_1 || j == i7_3 || b6o v7_1 j || b6o v7_2 j) (by simp only [go_sem, s7, b2c qn, b0q qa, qb, q0, qf, q2, qg, q1, b0q q6, b0q qq, b1k qi, b1k qj, b1k qk, q7, q8, q9, q3, b0c q3, q4, b0c q4, qc, qs, q5, b0c q5, qd, qt, qe, qu, List.length_append, List.map_append]) (c46 (id := i7) (sz := 4) (xs := [.rs i7_1 0 (List.length b_7_0), .rs i7_3 0 (List.length b_7_1), v7_1, v7_2]) (by rw [b6l (by simp)]; simp only [go_sem, b2c qn, b0q qa, qb, q0, qf, q2, qg, q1, b0q q6, b0q qq, b1k qi, b1k qj, b1k qk, q7, q8, q9, q3, b0c q3, q4, b0c q4, qc, qs, q5, b0c q5, qd, qt, qe, qu, List.length_append, List.map_append]) (.cons (b5j (f := eI) (l := b_7_0) (id := i7_1) (by rw [b6l (by simp)]; simp only [go_sem, b2c qn, b0q qa, qb, q0, qf, q2, qg, q1, b0q q6, b0q qq, b1k qi, b1k qj, b1k qk, q7, q8, q9, q3, b0c q3, q4, b0c q4, qc, qs, q5, b0c q5, qd, qt, qe, qu, List.length_append, List.map_append]) (by first | rfl | simp only [go_sem, List.length_append, List.map_append]) b2i b4v) (.cons (b5j (f := eI) (l := b_7_1) (id := i7_3) (by rw [b6l (by simp)]; simp only [go_sem, b2c qn, b0q qa, qb, q0, qf, q2, qg, q1, b0q q6, b0q qq, b1k qi, b1k qj, b1k qk, q7, q8, q9, q3, b0c q3, q4, b0c q4, qc, qs, q5, b0c q5, qd, qt, qe, qu, List.length_append, List.map_append]) (by first | rfl | simp only [go_sem, List.length_append, List.map_append]) b2i b4v) (.cons (b6c (f := eI) (l := b_7_2) (c6l (b1t q6 (by intro j hj hl; first | rfl | simp only [go_sem, hl, b1k (qv j hj), b3w qp j hj, b1m hj qc, b1m hj qd, b1m hj qe, q19 j hj]) (by first | omega | exact Nat.le_refl _ | (simp only [go_sem, nxs] <;> omega))) (by intro j hj; simp [c1k hj])) b2i b4v) (.cons (b6c (f := b0o) (l := b_7_3) (c6l (b1t qq (by intro j hj hl; first | rfl | simp only [go_sem, hl, b1k (q18 j hj), b3w q17 j hj, b1m hj qs, b1m hj qt, b1m hj qu, b3w q19 j hj]) (by first | omega | exact Nat.le_refl _ | (simp only [go_sem, nxs] <;> omega))) (by intro j hj; simp [c1k hj])) b3g b9a) (.nil)))))) (.fp _ _ (b0e (b0w fun a _ => b2i a) (b0e (b0w fun a _ => b2i a) (b0e (b0w fun a _ => b2i a) (b0e (b0w fun a _ => b3g a) b0z))))) ?_
     obtain ⟨l13, h_l13, hm1⟩ := b0g hm1
     refine b1n fun K hK => ?_
     simp only [go_sem, s5, s7, q0, q2, q1, q7, q8, q9, Bool.or_eq_false_iff, beq_eq_false_iff_ne, ne_eq, not_false_eq_true, and_self, b1v q6 qc, b1v qq qs, b1v q6 qd, b1v qq qt, b1v q6 qe, b1v qq qu, b0a v1, b0a v5, b0a v1_1, b0a v5_1, b0a v7, b0a v1_2, b0a v7_1, b0a v7_2]
     refine b5d (f := b2a) (l := all_5) (m := ([(halls_bound.mk b_7_0 b_7_1 b_7_2 b_7_3)])) ?_ ?_ ?_ ?_ h_l13 ?_
     ·exact (b1t qa (by intro j hj hl; first | rfl | simp only [go_sem, hl, b1k (qr j hj), b1m hj q7, b1m hj q8, b1m hj q9, qp j hj, b1v q6 (qp j hj), q17 j hj, b1v qq (q17 j hj), Bool.or_eq_false_iff, beq_eq_false_iff_ne, ne_eq, not_false_eq_true, and_self]) (by first | omega | exact Nat.le_refl _ | (simp only [go_sem, nxs] <;> omega)))
     ·exact (b5f (by simp only [go_sem, Bool.or_eq_false_iff, beq_eq_false_iff_ne, ne_eq, not_false_eq_true, and_self, b1v q6 qc, b1v qq qs, b1v q6 qd, b1v qq qt, b1v q6 qe, b1v qq qu, b2c qn, b0q qa, qb, q0, qf, q2, qg, q1, b0q q6, b0q qq, b1k qi, b1k qj, b1k qk, q7, q8, q9, q3, b0c q3, q4, b0c q4, qc, qs, q5, b0c q5, qd, qt, qe, qu, List.length_append, List.map_append]) (by simp only [go_sem, Bool.or_eq_false_iff, beq_eq_false_iff_ne, ne_eq, not_false_eq_true, and_self, b1v q6 qc, b1v qq qs, b1v q6 qd, b1v qq qt, b1v q6 qe, b1v qq qu, b2c qn, b0q qa, qb, q0, qf, q2, qg, q1, b0q q6, b0q qq, b1k qi, b1k qj, b1k qk, q7, q8, q9, q3, b0c q3, q4, b0c q4, qc, qs, q5, b0c q5, qd, qt, qe, qu, List.length_append, List.map_append]))
     ·exact (b2u (by first | exact b1h | exact b1i (by first | omega | (simp only [nxs] <;> omega)) | assumption | exact b00 (by assumption) (by first | omega | (simp only [go_sem, nxs] <;> omega))))
     ·exact (fun _ => by simp)
     simp only [go_sem, s5, s7, q0, q2, q1, q7, q8, q9, Bool.or_eq_false_iff, beq_eq_false_iff_ne, ne_eq, not_false_eq_true, and_self, b1v q6 qc, b1v qq qs, b1v q6 qd, b1v qq qt, b1v q6 qe, b1v qq qu, b0a v1, b0a v5, b0a v1_1, b0a v5_1, b0a v7, b0a v1_2, b0a v7_1, b0a v7_2]
     refine hK _ _ ?_
     clear hK K
     simp only [b0h, b0i]
     exact J7 l13 v1_2 (nxs h.nx) _ _ s1 s2 (by first | (simp only [go_sem, s5, List.length_append, List.map_append]; done) | rfl) s18 s19 (b3k qn (by intro j hj  hl; first | rfl | simp only [go_sem, hl, b8d qr j hj, b5p hj qi, b5p hj qj, b5p hj qk, b8d qv j hj, b1v q6 (b8d qv j hj), b8d q18 j hj, b1v qq (b8d q18 j hj), Bool.or_eq_false_iff, beq_eq_false_iff_ne, ne_eq, not_false_eq_true, and_self, q0, q2, q1]) (by first | omega | exact Nat.le_refl _ | (simp only [go_sem, nxs] <;> omega))) (by simp only [go_sem, Bool.or_eq_false_iff, beq_eq_false_iff_ne, ne_eq, not_false_eq_true, and_self, b0q qa, q0, q2, q1, b0q q6, b0q qq, List.length_append, List.map_append]) (by simp only [go_sem]) (by first | assumption | exact b4d qn (by first | assumption | omega | (simp only [nxs] <;> omega))) (by intro j hj; first | exact fr j hj | (refine Eq.trans ?_ (fr j hj); first | rfl | simp only [go_sem, Nat.lt_of_lt_of_le hj fx, b5k qy hj, b6d q12 hj, b6d q14 hj, b6d q15 hj, b5k q13 hj, b1v q6 (b5k q13 hj), c8y q6 (b5k q13 hj), b5k q1b hj, b1v qq (b5k q1b hj), c8y qq (b5k q1b hj), Bool.or_eq_false_iff, beq_eq_false_iff_ne, ne_eq, not_false_eq_true, and_self])) (by first | exact fx | omega | (simp only [go_sem, nxs] <;> omega)) (by first | assumption | omega | (simp only [nxs] <;> omega)) hm1
    simp only [b05]
    obtain ⟨b14, hl14, hm1⟩ := b0g hm1
    refine b10 hl14 (fun | (b_7_1, b_7_2, x_122), t, h => ∃ v1_2 : AV, ∃ i7_3 : Nat, ∃ v7_1 : AV, ∃ v7_2 : AV, t 1 = v1_2 ∧ t 2 = .fp [.fs 5 (List.map b0n h_.Combs), .fs 3 (List.map b0k h_.Trains), .fs 3 (List.map b0s h_.Shifts), I h_.Until] 0 ∧ t 5 = v5_1 ∧ t 6 = I x_19 ∧ t 7 = .rp i7 0 0 ∧ t 18 = I (List.length h_.Combs : Int) ∧ t 19 = I x_19 ∧ t 121 = I h_.Until ∧ t 122 = I x_122 ∧ RR h v1_2 hs_1 1 eI open_ ∧ b01 h v5_1 1 (List.map b2a all_5) ∧ h.ob i7 = some (4, [[.rs i7_1 0 (List.length b_7_0), .rs i7_3 0 (List.length b_7_1), v7_1, v7_2]]) ∧ i7 < h.nx ∧ h.ob i7_1 = some (1, List.map eI b_7_0) ∧ i7_1 < h.nx ∧ h.ob i7_3 = some (1, List.map eI b_7_1) ∧ i7_3 < h.nx ∧ b01 h v7_1 1 (List.map eI b_7_2) ∧ b01 h v7_2 1 (List.map b0o b_7_3) ∧ (∀ j, ¬b0b v5_1 j → b0v v1_2 hs_1 j) ∧ b0v v1_2 hs_1 i7 ∧ b0v v1_2 hs_1 i7_1 ∧ b0v v1_2 hs_1 i7_3 ∧ (∀ j, ¬b0b v7_1 j → b0v v1_2 hs_1 j) ∧ (∀ j, ¬b0b v7_2 j → b0v v1_2 hs_1 j) ∧ b0b v5_1 i7 ∧ b0b v5_1 i7_1 ∧ b0b v5_1 i7_3 ∧ (∀ j, ¬b0b v5_1 j → b0b v7_1 j) ∧ (∀ j, ¬b0b v5_1 j → b0b v7_2 j) ∧ ¬i7 = i7_1 ∧ ¬i7 = i7_3 ∧ b0b v7_1 i7 ∧ b0b v7_2 i7 ∧ ¬i7_1 = i7_3 ∧ b0b v7_1 i7_1 ∧ b0b v7_2 i7_1 ∧ b0b v7_1 i7_3 ∧ b0b v7_2 i7_3 ∧ (∀ j, ¬b0b v7_1 j → b0b v7_2 j) ∧ (∀ j, j < h0.nx → h.ob j = h0.ob j) ∧ h0.nx ≤ h.nx ∧ (∀ j, ¬b0b v5_1 j → h0.nx ≤ j) ∧ h0.nx ≤ i7 ∧ h0.nx ≤ i7_1 ∧ h0.nx ≤ i7_3 ∧ (∀ j, ¬b0b v7_1 j → h0.nx ≤ j) ∧ (∀ j, ¬b0b v7_2 j → h0.nx ≤ j)) ?_ ?_
    ·exact ⟨v1_1, i7_2, (.v (.slice none 0 0)), v7, s1, s2, s5, s6, s7, s18, s19, (by first | (simp only [go_sem, List.length_append, List.map_append]; done) | rfl), (by first | (simp only [go_sem, List.length_append, List.map_append]; done) | rfl), qn, qa, qb, q0, qf, q2, qg, q1, b54, q6, qr, qi, qj, qk, b95, qv, q7, q8, q9, (by first | exact b3x | exact b3y | assumption | (refine b3z ?_; first | assumption | exact b00 (by assumption) (by first | assumption | omega | (simp only [nxs] <;> omega))) | (refine b2u ?_; first | assumption | exact b00 (by assumption) (by first | assumption | omega | (simp only [nxs] <;> omega)))), qp, q3, q4, (by first | exact b1h | exact b1i (by first | assumption | omega | (simp only [nxs] <;> omega)) | assumption | exact b00 (by assumption) (by first | assumption | omega | (simp only [nxs] <;> omega))), qc, q5, (by first | exact b1h | exact b1i (by first | assumption | omega | (simp only [nxs] <;> omega)) | assumption | exact b00 (by assumption) (by first | assumption | omega | (simp only [nxs] <;> omega))), qd, (by first | exact b1h | exact b1i (by first | assumption | omega | (simp only [nxs] <;> omega)) | assumption | exact b00 (by assumption) (by first | assumption | omega | (simp only [nxs] <;> omega))), qe, (by first | exact b3x | exact b3y | assumption | (refine b3z ?_; first | assumption | exact b00 (by assumption) (by first | assumption | omega | (simp only [nxs] <;> omega))) | (refine b2u ?_; first | assumption | exact b00 (by assumption) (by first | assumption | omega | (simp only [nxs] <;> omega)))), fr, fx, qy, q12, q14, q15, b95, q13⟩
    ·try clear s1 s2 s5 s6 s7 s18 s19 qn qa qb q0 qf q2 qg q1 q6 qr qi qj qk qv q7 q8 q9 qp q3 q4 qc q5 qd qe fr fx qy q12 q14 q15 q13
     rintro ⟨b_7_1, b_7_2, x_122⟩ o t h ⟨v1_2, i7_3, v7_1, v7_2, s1, s2, s5, s6, s7, s18, s19, s121, s122, qn, qa, qb, q0, qf, q2, qg, q1, q6, qq, qr, qi, qj, qk, qv, q18, q7, q8, q9, qp, q17, q3, q4, qc, qs, q5, qd, qt, qe, qu, q19, fr, fx, qy, q12, q14, q15, q13, q1b⟩ hm2 hb14
     simp only [b6v] at hm2
     rw [d2x]
     refine b0d fun K hK => ?_
     simp only [go_sem, s121, s122, q0, q2, q1, b0a v1, b0a v5, b0a v1_1, b0a v5_1, b0a v7, b0a v1_2, b0a v7_1, b0a v7_2]
     refine hK _ _ ?_
     clear hK K
     refine b0u fun K15 hK15 => ?_
     simp only [go_sem]
     refine b0r (fun hc16 => ?_) (fun hc16 => ?_)
     ·rw [b04 hc16] at hm2
      simp only [b02, b0h, b0i]
      refine hK15 _ _ ?_
      refine b0u fun K17 hK17 => ?_
      have J18 : ∀ (b_7_1_1 : List Int) (b_7_2_1 : List Int) (v1_3 : AV) (i7_4 : Nat) (i7_5 : Nat) (v7_3 : AV) (t : Slots) (h : Heap), t 1 = v1_3 → t 2 = .fp [.fs 5 (List.map b0n h_.Combs), .fs 3 (List.map b0k h_.Trains), .fs 3 (List.map b0s h_.Shifts), I h_.Until] 0 → t 5 = v5_1 → t 6 = I x_19 → t 7 = .rp i7 0 0 → t 18 = I (List.length h_.Combs : Int) → t 19 = I x_19 → t 121 = I h_.Until → t 122 = I x_122 → RR h v1_3 hs_1 1 eI open_ → b01 h v5_1 1 (List.map b2a all_5) → h.ob i7 = some (4, [[.rs i7_1 0 (List.length b_7_0), .rs i7_4 0 (List.length b_7_1_1), .rs i7_5 0 (List.length b_7_2_1), v7_3]]) → i7 < h.nx → h.ob i7_1 = some (1, List.map eI b_7_0) → i7_1 < h.nx → h.ob i7_4 = some (1, List.map eI b_7_1_1) → i7_4 < h.nx → h.ob i7_5 = some (1, List.map eI b_7_2_1) → i7_5 < h.nx → b01 h v7_3 1 (List.map b0o b_7_3) → (∀ j, ¬b0b v5_1 j → b0v v1_3 hs_1 j) → b0v v1_3 hs_1 i7 → b0v v1_3 hs_1 i7_1 → b0v v1_3 hs_1 i7_4 → b0v v1_3 hs_1 i7_5 → (∀ j, ¬b0b v7_3 j → b0v v1_3 hs_1 j) → b0b v5_1 i7 → b0b v5_1 i7_1 → b0b v5_1 i7_4 → b0b v5_1 i7_5 → (∀ j, ¬b0b v5_1 j → b0b v7_3 j) → ¬i7 = i7_1 → ¬i7 = i7_4 → ¬i7 = i7_5 → b0b v7_3 i7 → ¬i7_1 = i7_4 → ¬i7_1 = i7_5 → b0b v7_3 i7_1 → ¬i7_4 = i7_5 → b0b v7_3 i7_4 → b0b v7_3 i7_5 → (∀ j, j < h0.nx → h.ob j = h0.ob j) → h0.nx ≤ h.nx → (∀ j, ¬b0b v5_1 j → h0.nx ≤ j) → h0.nx ≤ i7 → h0.nx ≤ i7_1 → h0.nx ≤ i7_4 → h0.nx ≤ i7_5 → (∀ j, ¬b0b v7_3 j → h0.nx ≤ j) → b7m x_122 b_7_1_1 b_7_2_1 = some o → K17 t h := by
       try clear s1 s2 s5 s6 s7 s18 s19 s121 s122 qn qa qb q0 qf q2 qg q1 q6 qq qr qi qj qk qv q18 q7 q8 q9 qp q17 q3 q4 qc qs q5 qd qt qe qu q19 fr fx qy q12 q14 q15 q13 q1b
       intro b_7_1_1 b_7_2_1 v1_3 i7_4 i7_5 v7_3 t h s1 s2 s5 s6 s7 s18 s19 s121 s122 qn qa qb q0 qf q2 qg q1 q1f q1a qq qr qi qj qk q1l q18 q7 q8 q9 q1h q17 q3 q4 q1i qs q5 q1j qt q1k qu q1n fr fx qy q12 q14 q15 q13 q1b hm2
       refine hK17 _ _ ?_
       unfold b7m at hm2
       refine b1n fun K hK => ?_
       simp only [go_sem, s122, q0, q2, q1, q1a, b0a v1, b0a v5, b0a v1_1, b0a v5_1, b0a v7, b0a v1_2, b0a v7_1, b0a v7_2, b0a v1_3, b0a v7_3]
       refine hK _ _ ?_
       clear hK K
       simp only [b0h, b0i]
       obtain rfl := Option.some.inj hm2
       refine ⟨_, rfl, ?_⟩
       exact ⟨v1_3, i7_4, (.rs i7_5 0 (List.length b_7_2_1)), v7_3, s1, s2, s5, s6, s7, s18, s19, s121, (by first | (simp only [go_sem, s122, List.length_append, List.map_append]; done) | rfl), qn, qa, qb, q0, qf, q2, qg, q1, (b3e (by simp only [go_sem, q1f, q1a, List.length_append, List.map_append]) (by first | rfl | simp only [go_sem, List.length_append, List.map_append]) (by simp only [go_sem, q1a])), qq, qr, qi, qj, qk, (b97 q1l), q18, q7, q8, q9, (by first | exact b3x | exact b3y | assumption | (refine b3z ?_; first | assumption | exact b00 (by assumption) (by first | assumption | omega | (simp only [nxs] <;> omega))) | (refine b2u ?_; first | assumption | exact b00 (by assumption) (by first | assumption | omega | (simp only [nxs] <;> omega)))), q17, q3, q4, (by first | exact b1h | exact b1i (by first | assumption | omega | (simp only [nxs] <;> omega)) | assumption | exact b00 (by assumption) (by first | assumption | omega | (simp only [nxs] <;> omega))), qs, q5, (by first | exact b1h | exact b1i (by first | assumption | omega | (simp only [nxs] <;> omega)) | assumption | exact b00 (by assumption) (by first | assumption | omega | (simp only [nxs] <;> omega))), qt, (by first | exact b1h | exact b1i (by first | assumption | omega | (simp only [nxs] <;> omega)) | assumption | exact b00 (by assumption) (by first | assumption | omega | (simp only [nxs] <;> omega))), qu, (by first | exact b3x | exact b3y | assumption | (refine b3z ?_; first | assumption | exact b00 (by assumption) (by first | assumption | omega | (simp only [nxs] <;> omega))) | (refine b2u ?_; first | assumption | exact b00 (by assumption) (by first | assumption | omega | (simp only [nxs] <;> omega)))), fr, fx, qy, q12, q14, q15, (c47 q13), q1b⟩
      simp only [b05]
      refine b0d fun K hK => ?_
      simp only [go_sem, s122, q0, q2, q1, b0a v1, b0a v5, b0a v1_1, b0a v5_1, b0a v7, b0a v1_2, b0a v7_1, b0a v7_2]
      refine hK _ _ ?_
      clear hK K
      refine b0d fun K hK => ?_
      simp only [go_sem, q0, q2, q1, b0a v1, b0a v5, b0a v1_1, b0a v5_1, b0a v7, b0a v1_2, b0a v7_1, b0a v7_2]
      refine hK _ _ ?_
      clear hK K
      refine b06 ?_
      refine b0d fun K hK => ?_
      simp only [go_sem, q0, q2, q1, b0a v1, b0a v5, b0a v1_1, b0a v5_1, b0a v7, b0a v1_2, b0a v7_1, b0a v7_2]
      refine hK _ _ ?_
      clear hK K
      refine b0u fun K19 hK19 => ?_
      have J20 : ∀ (most_14 : Int) (v7_3 : AV) (t : Slots) (h : Heap), t 1 = v1_2 → t 2 = .fp [.fs 5 (List.map b0n h_.Combs), .fs 3 (List.map b0k h_.Trains), .fs 3 (List.map b0s h_.Shifts), I h_.Until] 0 → t 5 = v5_1 → t 6 = I x_19 → t 7 = .rp i7 0 0 → t 13 = I x_122 → t 14 = I most_14 → t 18 = I (List.length h_.Combs : Int) → t 19 = I x_19 → t 121 = I h_.Until → t 122 = I x_122 → RR h v1_2 hs_1 1 eI open_ → b01 h v5_1 1 (List.map b2a all_5) → h.ob i7 = some (4, [[.rs i7_1 0 (List.length b_7_0), .rs i7_3 0 (List.length b_7_1), v7_1, v7_3]]) → i7 < h.nx → h.ob i7_1 = some (1, List.map eI b_7_0) → i7_1 < h.nx → h.ob i7_3 = some (1, List.map eI b_7_1) → i7_3 < h.nx → b01 h v7_1 1 (List.map eI b_7_2) → b01 h v7_3 1 (List.map b0o b_7_3) → (∀ j, ¬b0b v5_1 j → b0v v1_2 hs_1 j) → b0v v1_2 hs_1 i7 → b0v v1_2 hs_1 i7_1 → b0v v1_2 hs_1 i7_3 → (∀ j, ¬b0b v7_1 j → b0v v1_2 hs_1 j) → (∀ j, ¬b0b v7_3 j → b0v v1_2 hs_1 j) → b0b v5_1 i7 → b0b v5_1 i7_1 → b0b v5_1 i7_3 → (∀ j, ¬b0b v5_1 j → b0b v7_1 j) → (∀ j, ¬b0b v5_1 j → b0b v7_3 j) → ¬i7 = i7_1 → ¬i7 = i7_3 → b0b v7_1 i7 → b0b v7_3 i7 → ¬i7_1 = i7_3 → b0b v7_1 i7_1 → b0b v7_3 i7_1 → b0b v7_1 i7_3 → b0b v7_3 i7_3 → (∀ j, ¬b0b v7_1 j → b0b v7_3 j) → (∀ j, j < h0.nx → h.ob j = h0.ob j) → h0.nx ≤ h.nx → (∀ j, ¬b0b v5_1 j → h0.nx ≤ j) → h0.nx ≤ i7 → h0.nx ≤ i7_1 → h0.nx ≤ i7_3 → (∀ j, ¬b0b v7_1 j → h0.nx ≤ j) → (∀ j, ¬b0b v7_3 j → h0.nx ≤ j) → b7n open_ x_19 b_7_1 b_7_2 x_122 most_14 = some o → K19 t h := by
       try clear s1 s2 s5 s6 s7 s18 s19 s121 s122 qn qa qb q0 qf q2 qg q1 q6 qq qr qi qj qk qv q18 q7 q8 q9 qp q17 q3 q4 qc qs q5 qd qt qe qu q19 fr fx qy q12 q14 q15 q13 q1b
       intro most_14 v7_3 t h s1 s2 s5 s6 s7 s13 s14 s18 s19 s121 s122 qn qa qb q0 qf q2 qg q1 q6 qq qr qi qj qk qv q18 q7 q8 q9 qp q17 q3 q4 qc qs q5 qd qt qe qu q19 fr fx qy q12 q14 q15 q13 q1b hm2
       refine hK19 _ _ ?_
       unfold b7n at hm2
       obtain ⟨l22, h_l22, hm2⟩ := b0g hm2
       refine b0d fun K hK => ?_
       simp only [go_sem, s7, s14, qb, q0, qf, q2, qg, q1, q7, q8, q9, q3, b0c q3, q4, b0c q4, qc, qs, q5, b0c q5, qd, qt, qe, qu, b0a v1, b0a v5, b0a v1_1, b0a v5_1, b0a v7, b0a v1_2, b0a v7_1, b0a v7_2, b0a v7_3]
       refine b5d (f := eI) (l := b_7_2) (m := ([most_14])) ?_ ?_ ?_ ?_ h_l22 ?_
       ·exact (b1t q6 (by intro j hj hl; first | rfl | simp only [go_sem, hl, b1k (qv j hj), b3w qp j hj, b1m hj qc, b1m hj qd, b1m hj qe, q19 j hj]) (by first | omega | exact Nat.le_refl _ | (simp only [go_sem, nxs] <;> omega)))
       ·exact (b5f (by simp only [go_sem, b2c qn, b0q qa, qb, q0, qf, q2, qg, q1, b0q q6, b0q qq, b1k qi, b1k qj, b1k qk, q7, q8, q9, q3, b0c q3, q4, b0c q4, qc, qs, q5, b0c q5, qd, qt, qe, qu, List.length_append, List.map_append]) (by simp only [go_sem, b2c qn, b0q qa, qb, q0, qf, q2, qg, q1, b0q q6, b0q qq, b1k qi, b1k qj, b1k qk, q7, q8, q9, q3, b0c q3, q4, b0c q4, qc, qs, q5, b0c q5, qd, qt, qe, qu, List.length_append, List.map_append]))
       ·exact (b2u (by first | exact b1h | exact b1i (by first | omega | (simp only [nxs] <;> omega)) | assumption | exact b00 (by assumption) (by first | omega | (simp only [go_sem, nxs] <;> omega))))
       ·exact (fun _ => by simp)
       simp only [go_sem, s7, s14, qb, q0, qf, q2, qg, q1, q7, q8, q9, q3, b0c q3, q4, b0c q4, qc, qs, q5, b0c q5, qd, qt, qe, qu, b0a v1, b0a v5, b0a v1_1, b0a v5_1, b0a v7, b0a v1_2, b0a v7_1, b0a v7_2, b0a v7_3]
       refine hK _ _ ?_
       clear hK K
       obtain ⟨x27, h_x27, hm2⟩ := b0g hm2
       have h_x270 := b0x h_x27
       have h_x271 := b0y h_x27
       obtain ⟨x28, h_x28, hm2⟩ := b0g hm2
       have h_x280 := b0x h_x28
       have h_x281 := b0y h_x28
       obtain ⟨iqp946, rfl, q1e, q1d⟩ := b67 qn h_x28
       obtain ⟨wp947, hw_wp947, os_wp947⟩ := b64 qn h_x28
       obtain ⟨x29, h_x29, hm2⟩ := b0g hm2
       have h_x290 := b0x h_x29
       have h_x291 := b0y h_x29
       obtain ⟨irp948, rfl, obr_irp948, ltr_irp948⟩ := b5o os_wp947 h_x29
       obtain ⟨l30, h_l30, hm2⟩ := b0g hm2
       refine b7c (fun t h => ∃ v1_3 : AV, ∃ i7_4 : Nat, ∃ i7_5 : Nat, t 1 = v1_3 ∧ t 2 = .fp [.fs 5 (List.map b0n h_.Combs), .fs 3 (List.map b0k h_.Trains), .fs 3 (List.map b0s h_.Shifts), I h_.Until] 0 ∧ t 5 = v5_1 ∧ t 6 = I x_19 ∧ t 7 = .rp i7 0 0 ∧ t 18 = I (List.length h_.Combs : Int) ∧ t 19 = I x_19 ∧ t 121 = I h_.Until ∧ t 122 = I x_122 ∧ RR h v1_3 hs_1 1 eI open_ ∧ b01 h v5_1 1 (List.map b2a all_5) ∧ h.ob i7 = some (4, [[.rs i7_1 0 (List.length b_7_0), .rs i7_4 0 (List.length l30), .rs i7_5 0 (List.length l22), v7_3]]) ∧ i7 < h.nx ∧ h.ob i7_1 = some (1, List.map eI b_7_0) ∧ i7_1 < h.nx ∧ h.ob i7_4 = some (1, List.map eI l30) ∧ i7_4 < h.nx ∧ h.ob i7_5 = some (1, List.map eI l22) ∧ i7_5 < h.nx ∧ b01 h v7_3 1 (List.map b0o b_7_3) ∧ (∀ j, ¬b0b v5_1 j → b0v v1_3 hs_1 j) ∧ b0v v1_3 hs_1 i7 ∧ b0v v1_3 hs_1 i7_1 ∧ b0v v1_3 hs_1 i7_4 ∧ b0v v1_3 hs_1 i7_5 ∧ (∀ j, ¬b0b v7_3 j → b0v v1_3 hs_1 j) ∧ b0b v5_1 i7 ∧ b0b v5_1 i7_1 ∧ b0b v5_1 i7_4 ∧ b0b v5_1 i7_5 ∧ (∀ j, ¬b0b v5_1 j → b0b v7_3 j) ∧ ¬i7 = i7_1 ∧ ¬i7 = i7_4 ∧ ¬i7 = i7_5 ∧ b0b v7_3 i7 ∧ ¬i7_1 = i7_4 ∧ ¬i7_1 = i7_5 ∧ b0b v7_3 i7_1 ∧ ¬i7_4 = i7_5 ∧ b0b v7_3 i7_4 ∧ b0b v7_3 i7_5 ∧ (∀ j, j < h0.nx → h.ob j = h0.ob j) ∧ h0.nx ≤ h.nx ∧ (∀ j, ¬b0b v5_1 j → h0.nx ≤ j) ∧ h0.nx ≤ i7 ∧ h0.nx ≤ i7_1 ∧ h0.nx ≤ i7_4 ∧ h0.nx ≤ i7_5 ∧ (∀ j, ¬b0b v7_3 j → h0.nx ≤ j)) (fun K hK => ?_) ?_
       ·simp only [go_sem, s1, b3b qn, s6, s7, s13, s14, q1e, q1d, qb, q0, qf, q2, qg, q1, b2y qr, b2x qr hw_wp947, b09 (qi), b0c (b09 (qi)), b1a (qi) hw_wp947, b0c (b1a (qi) hw_wp947), b09 (qj), b0c (b09 (qj)), b1a (qj) hw_wp947, b0c (b1a (qj) hw_wp947), b09 (qk), b0c (b09 (qk)), b1a (qk) hw_wp947, b0c (b1a (qk) hw_wp947), b2y qv, b2x qv hw_wp947, b2y q18, b2x q18 hw_wp947, q7, q8, q9, q3, b0c q3, q4, b0c q4, qc, qs, q5, b0c q5, qd, qt, qe, qu, b0l h_x27, b0m h_x27, h_x270, h_x271, b0l h_x28, b0m h_x28, h_x280, h_x281, b0l hw_wp947, b0m hw_wp947, b46 os_wp947, b0l h_x29, b0m h_x29, h_x290, h_x291, obr_irp948, ltr_irp948, b0a v1, b0a v5, b0a v1_1, b0a v5_1, b0a v7, b0a v7_1, b0a v7_2, b0a v7_3]
        refine b5d (f := eI) (l := b_7_1) (m := ([wr (x27 + (mn most_14 x29))])) ?_ ?_ ?_ ?_ h_l30 ?_
        ·exact (b3e (by simp only [go_sem, b2c qn, b0q qa, qb, q0, qf, q2, qg, q1, b0q q6, b0q qq, b2y qr, b2x qr hw_wp947, b1k qi, b09 (qi), b0c (b09 (qi)), b1a (qi) hw_wp947, b0c (b1a (qi) hw_wp947), b1k qj, b09 (qj), b0c (b09 (qj)), b1a (qj) hw_wp947, b0c (b1a (qj) hw_wp947), b1k qk, b09 (qk), b0c (b09 (qk)), b1a (qk) hw_wp947, b0c (b1a (qk) hw_wp947), b2y qv, b2x qv hw_wp947, b2y q18, b2x q18 hw_wp947, q7, q8, q9, q3, b0c q3, q4, b0c q4, qc, qs, q5, b0c q5, qd, qt, qe, qu, q1e, q1d, b3h qn hw_wp947, b0c (b3h qn hw_wp947), List.length_append, List.map_append]) (by simp only [go_sem, b2c qn, b0q qa, qb, q0, qf, q2, qg, q1, b0q q6, b0q qq, b2y qr, b2x qr hw_wp947, b1k qi, b09 (qi), b0c (b09 (qi)), b1a (qi) hw_wp947, b0c (b1a (qi) hw_wp947), b1k qj, b09 (qj), b0c (b09 (qj)), b1a (qj) hw_wp947, b0c (b1a (qj) hw_wp947), b1k qk, b09 (qk), b0c (b09 (qk)), b1a (qk) hw_wp947, b0c (b1a (qk) hw_wp947), b2y qv, b2x qv hw_wp947, b2y q18, b2x q18 hw_wp947, q7, q8, q9, q3, b0c q3, q4, b0c q4, qc, qs, q5, b0c q5, qd, qt, qe, qu, q1e, q1d, b3h qn hw_wp947, b0c (b3h qn hw_wp947), List.length_append, List.map_append]) (by simp only [go_sem, q0, q2, q1, q1d]))
        ·exact (b5f (by simp only [go_sem, b2c qn, b0q qa, qb, q0, qf, q2, qg, q1, b0q q6, b0q qq, b2y qr, b2x qr hw_wp947, b1k qi, b09 (qi), b0c (b09 (qi)), b1a (qi) hw_wp947, b0c (b1a (qi) hw_wp947), b1k qj, b09 (qj), b0c (b09 (qj)), b1a (qj) hw_wp947, b0c (b1a (qj) hw_wp947), b1k qk, b09 (qk), b0c (b09 (qk)), b1a (qk) hw_wp947, b0c (b1a (qk) hw_wp947), b2y qv, b2x qv hw_wp947, b2y q18, b2x q18 hw_wp947, q7, q8, q9, q3, b0c q3, q4, b0c q4, qc, qs, q5, b0c q5, qd, qt, qe, qu, q1e, q1d, b3h qn hw_wp947, b0c (b3h qn hw_wp947), List.length_append, List.map_append]) (by simp only [go_sem, b2c qn, b0q qa, qb, q0, qf, q2, qg, q1, b0q q6, b0q qq, b2y qr, b2x qr hw_wp947, b1k qi, b09 (qi), b0c (b09 (qi)), b1a (qi) hw_wp947, b0c (b1a (qi) hw_wp947), b1k qj, b09 (qj), b0c (b09 (qj)), b1a (qj) hw_wp947, b0c (b1a (qj) hw_wp947), b1k qk, b09 (qk), b0c (b09 (qk)), b1a (qk) hw_wp947, b0c (b1a (qk) hw_wp947), b2y qv, b2x qv hw_wp947, b2y q18, b2x q18 hw_wp947, q7, q8, q9, q3, b0c q3, q4, b0c q4, qc, qs, q5, b0c q5, qd, qt, qe, qu, q1e, q1d, b3h qn hw_wp947, b0c (b3h qn hw_wp947), List.length_append, List.map_append]))
        ·exact (b2u (by first | exact b1h | exact b1i (by first | omega | (simp only [nxs] <;> omega)) | assumption | exact b00 (by assumption) (by first | omega | (simp only [go_sem, nxs] <;> omega))))
        ·exact (fun _ => by simp)
        simp only [go_sem, s1, b3b qn, s6, s7, s13, s14, q1e, q1d, qb, q0, qf, q2, qg, q1, b2y qr, b2x qr hw_wp947, b09 (qi), b0c (b09 (qi)), b1a (qi) hw_wp947, b0c (b1a (qi) hw_wp947), b09 (qj), b0c (b09 (qj)), b1a (qj) hw_wp947, b0c (b1a (qj) hw_wp947), b09 (qk), b0c (b09 (qk)), b1a (qk) hw_wp947, b0c (b1a (qk) hw_wp947), b2y qv, b2x qv hw_wp947, b2y q18, b2x q18 hw_wp947, q7, q8, q9, q3, b0c q3, q4, b0c q4, qc, qs, q5, b0c q5, qd, qt, qe, qu, b0l h_x27, b0m h_x27, h_x270, h_x271, b0l h_x28, b0m h_x28, h_x280, h_x281, b0l hw_wp947, b0m hw_wp947, b46 os_wp947, b0l h_x29, b0m h_x29, h_x290, h_x291, obr_irp948, ltr_irp948, b0a v1, b0a v5, b0a v1_1, b0a v5_1, b0a v7, b0a v7_1, b0a v7_2, b0a v7_3]
        exact hK _ _ ⟨(.rs iqp946 0 (List.length open_)), (nxs (nxs (nxs h.nx))), (nxs h.nx), (by first | (simp only [go_sem, s1, List.length_append, List.map_append]; done) | rfl), s2, s5, s6, s7, s18, s19, s121, s122, (b3k qn (by intro j hj  hl; first | rfl | simp only [go_sem, hl, b5p hj qi, b5p hj qk, b8d qv j hj, q0, q1]) (by first | omega | exact Nat.le_refl _ | (simp only [go_sem, nxs] <;> omega))), (b1t qa (by intro j hj hl; first | rfl | simp only [go_sem, hl, q0, q1, b1m hj q7, b1m hj q9, qp j hj]) (by first | omega | exact Nat.le_refl _ | (simp only [go_sem, nxs] <;> omega))), (by simp only [go_sem, qb, q0, q1, b0q q6, q4, b0c q4, qc, List.length_append, List.map_append]), (by simp only [go_sem, q0]), (by simp only [go_sem, q0, qf, q2, q1, b0q q6, q3, b0c q3, q5, b0c q5, qd, List.length_append, List.map_append]), (by simp only [go_sem, q2]), (by simp only [go_sem, q0, q1, b0q q6, List.length_append, List.map_append]), (by simp only [go_sem]), (by simp only [go_sem, q0, q1, b0q q6, List.length_append, List.map_append]), (by simp only [go_sem]), (b1t qq (by intro j hj hl; first | rfl | simp only [go_sem, hl, q0, q1, b1m hj qs, b1m hj qu, b3w q19 j hj]) (by first | omega | exact Nat.le_refl _ | (simp only [go_sem, nxs] <;> omega))), qr, qi, qj, (by first | assumption | exact b4d qn (by first | assumption | omega | (simp only [nxs] <;> omega))), (by first | assumption | exact b4d qn (by first | assumption | omega | (simp only [nxs] <;> omega))), q18, q7, q8, (by first | exact b1h | exact b1i (by first | assumption | omega | (simp only [nxs] <;> omega)) | assumption | exact b00 (by assumption) (by first | assumption | omega | (simp only [nxs] <;> omega))), (by first | exact b1h | exact b1i (by first | assumption | omega | (simp only [nxs] <;> omega)) | assumption | exact b00 (by assumption) (by first | assumption | omega | (simp only [nxs] <;> omega))), q17, q3, (by first | first | assumption | omega | (simp only [nxs] <;> omega)), (by first | first | assumption | omega | (simp only [nxs] <;> omega)), qs, (by first | first | assumption | omega | (simp only [nxs] <;> omega)), (by first | first | assumption | omega | (simp only [nxs] <;> omega)), qt, (by first | first | assumption | omega | (simp only [nxs] <;> omega)), (by first | exact b1h | exact b1i (by first | assumption | omega | (simp only [nxs] <;> omega)) | assumption | exact b00 (by assumption) (by first | assumption | omega | (simp only [nxs] <;> omega))), (by first | exact b1h | exact b1i (by first | assumption | omega | (simp only [nxs] <;> omega)) | assumption | exact b00 (by assumption) (by first | assumption | omega | (simp only [nxs] <;> omega))), (by intro j hj; first | exact fr j hj | (refine Eq.trans ?_ (fr j hj); first | rfl | simp only [go_sem, Nat.lt_of_lt_of_le hj fx, b6d q12 hj, b6d q15 hj, b5k q13 hj])), (by first | exact fx | omega | (simp only [go_sem, nxs] <;> omega)), qy, q12, q14, (by first | assumption | omega | (simp only [nxs] <;> omega)), (by first | assumption | omega | (simp only [nxs] <;> omega)), q1b⟩
       ·try clear s1 s2 s5 s6 s7 s13 s14 s18 s19 s121 s122 qn qa qb q0 qf q2 qg q1 q6 qq qr qi qj qk qv q18 q7 q8 q9 qp q17 q3 q4 qc qs q5 qd qt qe qu q19 fr fx qy q12 q14 q15 q13 q1b q1e q1d
        rintro t h ⟨v1_3, i7_4, i7_5, s1, s2, s5, s6, s7, s18, s19, s121, s122, qn, qa, qb, q0, qf, q2, qg, q1, q1f, q1a, qq, qr, qi, qj, qk, q1l, q18, q7, q8, q9, q1h, q17, q3, q4, q1i, qs, q5, q1j, qt, q1k, qu, q1n, fr, fx, qy, q12, q14, q15, q13, q1b⟩
        simp only [b0h, b0i]
        exact J18 l30 l22 v1_3 i7_4 i7_5 v7_3 _ _ s1 s2 s5 s6 s7 s18 s19 s121 s122 qn qa qb q0 qf q2 qg q1 q1f q1a qq qr qi qj qk q1l q18 q7 q8 q9 q1h q17 q3 q4 q1i qs q5 q1j qt q1k qu q1n fr fx qy q12 q14 q15 q13 q1b hm2
      simp only [b05]
      obtain ⟨b31, hl31, hm2⟩ := b0g hm2
      refine b10 hl31 (fun | (most_14, x_127), t, h => ∃ v7_3 : AV, t 1 = v1_2 ∧ t 2 = .fp [.fs 5 (List.map b0n h_.Combs), .fs 3 (List.map b0k h_.Trains), .fs 3 (List.map b0s h_.Shifts), I h_.Until] 0 ∧ t 5 = v5_1 ∧ t 6 = I x_19 ∧ t 7 = .rp i7 0 0 ∧ t 13 = I x_122 ∧ t 14 = I most_14 ∧ t 18 = I (List.length h_.Combs : Int) ∧ t 19 = I x_19 ∧ t 121 = I h_.Until ∧ t 122 = I x_122 ∧ t 126 = I (wr (x_122 + 1)) ∧ t 127 = I x_127 ∧ RR h v1_2 hs_1 1 eI open_ ∧ b01 h v5_1 1 (List.map b2a all_5) ∧ h.ob i7 = some (4, [[.rs i7_1 0 (List.length b_7_0), .rs i7_3 0 (List.length b_7_1), v7_1, v7_3]]) ∧ i7 < h.nx ∧ h.ob i7_1 = some (1, List.map eI b_7_0) ∧ i7_1 < h.nx ∧ h.ob i7_3 = some (1, List.map eI b_7_1) ∧ i7_3 < h.nx ∧ b01 h v7_1 1 (List.map eI b_7_2) ∧ b01 h v7_3 1 (List.map b0o b_7_3) ∧ (∀ j, ¬b0b v5_1 j → b0v v1_2 hs_1 j) ∧ b0v v1_2 hs_1 i7 ∧ b0v v1_2 hs_1 i7_1 ∧ b0v v1_2 hs_1 i7_3 ∧ (∀ j, ¬b0b v7_1 j → b0v v1_2 hs_1 j) ∧ (∀ j, ¬b0b v7_3 j → b0v v1_2 hs_1 j) ∧ b0b v5_1 i7 ∧ b0b v5_1 i7_1 ∧ b0b v5_1 i7_3 ∧ (∀ j, ¬b0b v5_1 j → b0b v7_1 j) ∧ (∀ j, ¬b0b v5_1 j → b0b v7_3 j) ∧ ¬i7 = i7_1 ∧ ¬i7 = i7_3 ∧ b0b v7_1 i7 ∧ b0b v7_3 i7 ∧ ¬i7_1 = i7_3 ∧ b0b v7_1 i7_1 ∧ b0b v7_3 i7_1 ∧ b0b v7_1 i7_3 ∧ b0b v7_3 i7_3 ∧ (∀ j, ¬b0b v7_1 j → b0b v7_3 j) ∧ (∀ j, j < h0.nx → h.ob j = h0.ob j) ∧ h0.nx ≤ h.nx ∧ (∀ j, ¬b0b v5_1 j → h0.nx ≤ j) ∧ h0.nx ≤ i7 ∧ h0.nx ≤ i7_1 ∧ h0.nx ≤ i7_3 ∧ (∀ j, ¬b0b v7_1 j → h0.nx ≤ j) ∧ (∀ j, ¬b0b v7_3 j → h0.nx ≤ j)) ?_ ?_
      ·exact ⟨v7_2, s1, s2, s5, s6, s7, (by first | (simp only [go_sem, List.length_append, List.map_append]; done) | rfl), (by first | (simp only [go_sem, List.length_append, List.map_append]; done) | rfl), s18, s19, s121, s122, (by first | (simp only [go_sem, List.length_append, List.map_append]; done) | rfl), (by first | (simp only [go_sem, List.length_append, List.map_append]; done) | rfl), qn, qa, qb, q0, qf, q2, qg, q1, q6, qq, qr, qi, qj, qk, qv, q18, q7, q8, q9, qp, q17, q3, q4, qc, qs, q5, qd, qt, qe, qu, q19, fr, fx, qy, q12, q14, q15, q13, q1b⟩
      ·try clear s1 s2 s5 s6 s7 s18 s19 s121 s122 qn qa qb q0 qf q2 qg q1 q6 qq qr qi qj qk qv q18 q7 q8 q9 qp q17 q3 q4 qc qs q5 qd qt qe qu q19 fr fx qy q12 q14 q15 q13 q1b
       rintro ⟨most_14, x_127⟩ o t h ⟨v7_3, s1, s2, s5, s6, s7, s13, s14, s18, s19, s121, s122, s126, s127, qn, qa, qb, q0, qf, q2, qg, q1, q6, qq, qr, qi, qj, qk, qv, q18, q7, q8, q9, qp, q17, q3, q4, qc, qs, q5, qd, qt, qe, qu, q19, fr, fx, qy, q12, q14, q15, q13, q1b⟩ hm3 hb31
       simp only [b6u] at hm3
       rw [d2w]
       refine b0d fun K hK => ?_
       simp only [go_sem, s126, s127, q0, q2, q1, b0a v1, b0a v5, b0a v1_1, b0a v5_1, b0a v7, b0a v1_2, b0a v7_1, b0a v7_2, b0a v7_3]
       refine hK _ _ ?_
       clear hK K
       refine b0u fun K32 hK32 => ?_
       simp only [go_sem]
       refine b0r (fun hc33 => ?_) (fun hc33 => ?_)
       ·rw [b04 hc33] at hm3
        simp only [b02, b0h, b0i]
        refine hK32 _ _ ?_
        refine b0u fun K34 hK34 => ?_
        simp only [b05]
        refine b0d fun K hK => ?_
        simp only [go_sem, s127, q0, q2, q1, b0a v1, b0a v5, b0a v1_1, b0a v5_1, b0a v7, b0a v1_2, b0a v7_1, b0a v7_2, b0a v7_3]
        refine hK _ _ ?_
        clear hK K
        obtain ⟨x40, h_x40, hm3⟩ := b0g hm3
        have h_x400 := b0x h_x40
        have h_x401 := b0y h_x40
        obtain ⟨iq41, rfl, q1m, q1g⟩ := b5o qq h_x40
        obtain ⟨x42, h_x42, hm3⟩ := b0g hm3
        have h_x420 := b0x h_x42
        have h_x421 := b0y h_x42
        obtain ⟨x43, h_x43, hm3⟩ := b0g hm3
        have h_x430 := b0x h_x43
        have h_x431 := b0y h_x43
        obtain ⟨x44, h_x44, hm3⟩ := b0g hm3
        have h_x440 := b0x h_x44
        have h_x441 := b0y h_x44
        refine b1n fun K hK => ?_
        simp only [go_sem, s7, s13, s14, qb, q0, qf, q2, qg, q1, q1m, q1g, q7, q8, q9, q3, b0c q3, q4, b0c q4, qc, qs, q5, b0c q5, qd, qt, qe, qu, b0l h_x40, b0m h_x40, h_x400, h_x401, b0l h_x42, b0m h_x42, h_x420, h_x421, b0l h_x43, b0m h_x43, h_x430, h_x431, b0l h_x44, b0m h_x44, h_x440, h_x441, b0a v1, b0a v5, b0a v1_1, b0a v5_1, b0a v7, b0a v1_2, b0a v7_1, b0a v7_2]
        refine hK _ _ ?_
        clear hK K
        simp only [b0h, b0i]
        refine hK34 _ _ ?_
        refine b1n fun K hK => ?_
        simp only [go_sem, s127, q0, q2, q1, q1g, b0a v1, b0a v5, b0a v1_1, b0a v5_1, b0a v7, b0a v1_2, b0a v7_1, b0a v7_2]
        refine hK _ _ ?_
        clear hK K
        simp only [b0h, b0i]
        obtain rfl := Option.some.inj hm3
        refine ⟨_, rfl, ?_⟩
        exact ⟨(.rs iq41 0 (List.length b_7_3)), s1, s2, s5, s6, s7, s13, (by first | (simp only [go_sem, s14, List.length_append, List.map_append]; done) | rfl), s18, s19, s121, s122, s126, (by first | (simp only [go_sem, s127, List.length_append, List.map_append]; done) | rfl), qn, qa, (by simp only [go_sem, qb, q0, List.length_append, List.map_append]), (by simp only [go_sem, q0]), qf, q2, qg, q1, q6, (b3e (by simp only [go_sem, q1m, q1g, List.length_append, List.map_append]) (by first | rfl | simp only [go_sem, List.length_append, List.map_append]) (by simp only [go_sem, q1g])), qr, qi, qj, qk, qv, q18, q7, q8, q9, qp, q17, q3, q4, qc, qs, q5, qd, qt, qe, qu, q19, fr, fx, qy, q12, q14, q15, q13, q1b⟩
       ·rw [b03 hc33] at hm3
        simp only [b1w, b1z, b1y, b1x, b0h, b0i, Nat.reduceEqDiff, not_false_eq_true]
        obtain rfl := Option.some.inj hm3
        obtain rfl := hb31 _ rfl
        try dsimp only at hm2
        exact J20 most_14 v7_3 _ _ s1 s2 s5 s6 s7 s13 s14 s18 s19 s121 s122 qn qa qb q0 qf q2 qg q1 q6 qq qr qi qj qk qv q18 q7 q8 q9 qp q17 q3 q4 qc qs q5 qd qt qe qu q19 fr fx qy q12 q14 q15 q13 q1b hm2
     ·rw [b03 hc16] at hm2
      simp only [b1w, b1z, b1y, b1x, b0h, b0i, Nat.reduceEqDiff, not_false_eq_true]
      obtain rfl := Option.some.inj hm2
      obtain rfl := hb14 _ rfl
      try dsimp only at hm1
      exact J11 b_7_1 b_7_2 v1_2 i7_3 v7_1 v7_2 _ _ s1 s2 s5 s7 s18 s19 qn qa qb q0 qf q2 qg q1 q6 qq qr qi qj qk qv q18 q7 q8 q9 qp q17 q3 q4 qc qs q5 qd qt qe qu q19 fr fx qy q12 q14 q15 q13 q1b hm1
   simp only [b05]
   obtain ⟨b47, hl47, hm1⟩ := b0g hm1
   refine b10 hl47 (fun | (b_7_0, b_7_3, x_28), t, h => ∃ v1_1 : AV, ∃ v5_1 : AV, ∃ i7 : Nat, ∃ i7_1 : Nat, ∃ i7_2 : Nat, ∃ v7 : AV, t 1 = v1_1 ∧ t 2 = .fp [.fs 5 (List.map b0n h_.Combs), .fs 3 (List.map b0k h_.Trains), .fs 3 (List.map b0s h_.Shifts), I h_.Until] 0 ∧ t 5 = v5_1 ∧ t 6 = I x_19 ∧ t 7 = .rp i7 0 0 ∧ t 18 = I (List.length h_.Combs : Int) ∧ t 19 = I x_19 ∧ t 27 = I h_.Until ∧ t 28 = I x_28 ∧ RR h v1_1 hs_1 1 eI open_ ∧ b01 h v5_1 1 (List.map b2a all_5) ∧ h.ob i7 = some (4, [[.rs i7_1 0 (List.length b_7_0), .rs i7_2 0 (List.length ([0])), .v (.slice none 0 0), v7]]) ∧ i7 < h.nx ∧ h.ob i7_1 = some (1, List.map eI b_7_0) ∧ i7_1 < h.nx ∧ h.ob i7_2 = some (1, List.map eI ([0])) ∧ i7_2 < h.nx ∧ b01 h v7 1 (List.map b0o b_7_3) ∧ (∀ j, ¬b0b v5_1 j → b0v v1_1 hs_1 j) ∧ b0v v1_1 hs_1 i7 ∧ b0v v1_1 hs_1 i7_1 ∧ b0v v1_1 hs_1 i7_2 ∧ (∀ j, ¬b0b v7 j → b0v v1_1 hs_1 j) ∧ b0b v5_1 i7 ∧ b0b v5_1 i7_1 ∧ b0b v5_1 i7_2 ∧ (∀ j, ¬b0b v5_1 j → b0b v7 j) ∧ ¬i7 = i7_1 ∧ ¬i7 = i7_2 ∧ b0b v7 i7 ∧ ¬i7_1 = i7_2 ∧ b0b v7 i7_1 ∧ b0b v7 i7_2 ∧ (∀ j, j < h0.nx → h.ob j = h0.ob j) ∧ h0.nx ≤ h.nx ∧ (∀ j, ¬b0b v5_1 j → h0.nx ≤ j) ∧ h0.nx ≤ i7 ∧ h0.nx ≤ i7_1 ∧ h0.nx ≤ i7_2 ∧ (∀ j, ¬b0b v7 j → h0.nx ≤ j)) ?_ ?_
   ·exact ⟨v1, v5, (nxs (nxs h.nx)), h.nx, (nxs h.nx), (.v (.slice none 0 0)), s1, s2, s5, (by first | (simp only [go_sem, List.length_append, List.map_append]; done) | rfl), (by first | (simp only [go_sem, List.length_append, List.map_append]; done) | rfl), s18, s19, (by first | (simp only [go_sem, List.length_append, List.map_append]; done) | rfl), (by first | (simp only [go_sem, List.length_append, List.map_append]; done) | rfl), (b3k qn (by intro j hj  hl; first | rfl | simp only [go_sem, hl]) (by first | omega | exact Nat.le_refl _ | (simp only [go_sem, nxs] <;> omega))), (b1t qa (by intro j hj hl; first | rfl | simp only [go_sem, hl]) (by first | omega | exact Nat.le_refl _ | (simp only [go_sem, nxs] <;> omega))), (by simp only [go_sem, List.length_append, List.map_append]), (by simp only [go_sem]), (by simp only [go_sem, List.length_append, List.map_append]), (by simp only [go_sem]), (by simp only [go_sem, List.length_append, List.map_append]), (by simp only [go_sem]), b54, qr, (by first | assumption | exact b4d qn (by first | assumption | omega | (simp only [nxs] <;> omega))), (by first | assumption | exact b4d qn (by first | assumption | omega | (simp only [nxs] <;> omega))), (by first | assumption | exact b4d qn (by first | assumption | omega | (simp only [nxs] <;> omega))), b95, (by first | exact b1h | exact b1i (by first | assumption | omega | (simp only [nxs] <;> omega)) | assumption | exact b00 (by assumption) (by first | assumption | omega | (simp only [nxs] <;> omega))), (by first | exact b1h | exact b1i (by first | assumption | omega | (simp only [nxs] <;> omega)) | assumption | exact b00 (by assumption) (by first | assumption | omega | (simp only [nxs] <;> omega))), (by first | exact b1h | exact b1i (by first | assumption | omega | (simp only [nxs] <;> omega)) | assumption | exact b00 (by assumption) (by first | assumption | omega | (simp only [nxs] <;> omega))), (by first | exact b3x | exact b3y | assumption | (refine b3z ?_; first | assumption | exact b00 (by assumption) (by first | assumption | omega | (simp only [nxs] <;> omega))) | (refine b2u ?_; first | assumption | exact b00 (by assumption) (by first | assumption | omega | (simp only [nxs] <;> omega)))), (by first | first | assumption | omega | (simp only [nxs] <;> omega)), (by first | first | assumption | omega | (simp only [nxs] <;> omega)), (by first | exact b1h | exact b1i (by first | assumption | omega | (simp only [nxs] <;> omega)) | assumption | exact b00 (by assumption) (by first | assumption | omega | (simp only [nxs] <;> omega))), (by first | first | assumption | omega | (simp only [nxs] <;> omega)), (by first | exact b1h | exact b1i (by first | assumption | omega | (simp only [nxs] <;> omega)) | assumption | exact b00 (by assumption) (by first | assumption | omega | (simp only [nxs] <;> omega))), (by first | exact b1h | exact b1i (by first | assumption | omega | (simp only [nxs] <;> omega)) | assumption | exact b00 (by assumption) (by first | assumption | omega | (simp only [nxs] <;> omega))), (by intro j hj; first | exact fr j hj | (refine Eq.trans ?_ (fr j hj); first | rfl | simp only [go_sem, Nat.lt_of_lt_of_le hj fx])), (by first | exact fx | omega | (simp only [go_sem, nxs] <;> omega)), qy, (by first | assumption | omega | (simp only [nxs] <;> omega)), (by first | assumption | omega | (simp only [nxs] <;> omega)), (by first | assumption | omega | (simp only [nxs] <;> omega)), b95⟩
   ·try clear s1 s2 s5 s18 s19 qn qa qr fr fx qy
    rintro ⟨b_7_0, b_7_3, x_28⟩ o t h ⟨v1_1, v5_1, i7, i7_1, i7_2, v7, s1, s2, s5, s6, s7, s18, s19, s27, s28, qn, qa, qb, q0, qf, q2, qg, q1, q6, qr, qi, qj, qk, qv, q7, q8, q9, qp, q3, q4, qc, q5, qd, qe, fr, fx, qy, q12, q14, q15, q13⟩ hm2 hb47
    simp only [b6t] at hm2
    rw [d2v]
    refine b0d fun K hK => ?_
    simp only [go_sem, s27, s28, q0, q2, q1, b0a v1, b0a v5, b0a v1_1, b0a v5_1, b0a v7]
    refine hK _ _ ?_
    clear hK K
    refine b0u fun K48 hK48 => ?_
    simp only [go_sem]
    refine b0r (fun hc49 => ?_) (fun hc49 => ?_)
    ·rw [b04 hc49] at hm2
     simp only [b02, b0h, b0i]
     refine hK48 _ _ ?_
     refine b0u fun K50 hK50 => ?_
     have J51 : ∀ (b_7_0_1 : List Int) (b_7_3_1 : List (List Int)) (v1_2 : AV) (v5_2 : AV) (i7_3 : Nat) (i7_4 : Nat) (t : Slots) (h : Heap), t 1 = v1_2 → t 2 = .fp [.fs 5 (List.map b0n h_.Combs), .fs 3 (List.map b0k h_.Trains), .fs 3 (List.map b0s h_.Shifts), I h_.Until] 0 → t 5 = v5_2 → t 6 = I x_19 → t 7 = .rp i7 0 0 → t 18 = I (List.length h_.Combs : Int) → t 19 = I x_19 → t 27 = I h_.Until → t 28 = I x_28 → RR h v1_2 hs_1 1 eI open_ → b01 h v5_2 1 (List.map b2a all_5) → h.ob i7 = some (4, [[.rs i7_3 0 (List.length b_7_0_1), .rs i7_2 0 (List.length ([0])), .v (.slice none 0 0), .rs i7_4 0 (List.length b_7_3_1)]]) → i7 < h.nx → h.ob i7_3 = some (1, List.map eI b_7_0_1) → i7_3 < h.nx → h.ob i7_2 = some (1, List.map eI ([0])) → i7_2 < h.nx → h.ob i7_4 = some (1, List.map b0o b_7_3_1) → i7_4 < h.nx → (∀ j, ¬b0b v5_2 j → b0v v1_2 hs_1 j) → b0v v1_2 hs_1 i7 → b0v v1_2 hs_1 i7_3 → b0v v1_2 hs_1 i7_2 → b0v v1_2 hs_1 i7_4 → b0b v5_2 i7 → b0b v5_2 i7_3 → b0b v5_2 i7_2 → b0b v5_2 i7_4 → ¬i7 = i7_3 → ¬i7 = i7_2 → ¬i7 = i7_4 → ¬i7_3 = i7_2 → ¬i7_3 = i7_4 → ¬i7_2 = i7_4 → (∀ j, j < h0.nx → h.ob j = h0.ob j) → h0.nx ≤ h.nx → (∀ j, ¬b0b v5_2 j → h0.nx ≤ j) → h0.nx ≤ i7 → h0.nx ≤ i7_3 → h0.nx ≤ i7_2 → h0.nx ≤ i7_4 → b7o x_28 b_7_0_1 b_7_3_1 = some o → K50 t h := by
      try clear s1 s2 s5 s6 s7 s18 s19 s27 s28 qn qa qb q0 qf q2 qg q1 q6 qr qi qj qk qv q7 q8 q9 qp q3 q4 qc q5 qd qe fr fx qy q12 q14 q15 q13
      intro b_7_0_1 b_7_3_1 v1_2 v5_2 i7_3 i7_4 t h s1 s2 s5 s6 s7 s18 s19 s27 s28 qn qa qb q0 qf q2 qg q1 q1f q1a qr qi qj qk q1l q7 q8 q9 q1h q3 q4 q1i q5 q1j q1k fr fx qy q12 q14 q15 q13 hm2
      refine hK50 _ _ ?_
      unfold b7o at hm2
      refine b1n fun K hK => ?_
      simp only [go_sem, s28, q0, q2, q1, q1a, b0a v1, b0a v5, b0a v1_1, b0a v5_1, b0a v7, b0a v1_2, b0a v5_2]
      refine hK _ _ ?_
      clear hK K
      simp only [b0h, b0i]
      obtain rfl := Option.some.inj hm2
      refine ⟨_, rfl, ?_⟩
      exact ⟨v1_2, v5_2, i7, i7_3, i7_2, (.rs i7_4 0 (List.length b_7_3_1)), s1, s2, s5, s6, s7, s18, s19, s27, (by first | (simp only [go_sem, s28, List.length_append, List.map_append]; done) | rfl), qn, qa, qb, q0, qf, q2, qg, q1, (b3e (by simp only [go_sem, q1f, q1a, List.length_append, List.map_append]) (by first | rfl | simp only [go_sem, List.length_append, List.map_append]) (by simp only [go_sem, q1a])), qr, qi, qj, qk, (b97 q1l), q7, q8, q9, (by first | exact b3x | exact b3y | assumption | (refine b3z ?_; first | assumption | exact b00 (by assumption) (by first | assumption | omega | (simp only [nxs] <;> omega))) | (refine b2u ?_; first | assumption | exact b00 (by assumption) (by first | assumption | omega | (simp only [nxs] <;> omega)))), q3, q4, (by first | exact b1h | exact b1i (by first | assumption | omega | (simp only [nxs] <;> omega)) | assumption | exact b00 (by assumption) (by first | assumption | omega | (simp only [nxs] <;> omega))), q5, (by first | exact b1h | exact b1i (by first | assumption | omega | (simp only [nxs] <;> omega)) | assumption | exact b00 (by assumption) (by first | assumption | omega | (simp only [nxs] <;> omega))), (by first | exact b1h | exact b1i (by first | assumption | omega | (simp only [nxs] <;> omega)) | assumption | exact b00 (by assumption) (by first | assumption | omega | (simp only [nxs] <;> omega))), fr, fx, qy, q12, q14, q15, (c47 q13)⟩
     simp only [b05]
     refine b0d fun K hK => ?_
     simp only [go_sem, s28, q0, q2, q1, b0a v1, b0a v5, b0a v1_1, b0a v5_1, b0a v7]
     refine hK _ _ ?_
     clear hK K
     obtain ⟨l53, h_l53, hm2⟩ := b0g hm2
     refine b0d fun K hK => ?_
     simp only [go_sem, s2, q0, q2, q1, b0a v1, b0a v5, b0a v1_1, b0a v5_1, b0a v7]
     refine c0x (f := eI) (z := 0) rfl h_l53 ?_
     simp only [go_sem, s2, q0, q2, q1, b0a v1, b0a v5, b0a v1_1, b0a v5_1, b0a v7]
     refine hK _ _ ?_
     clear hK K
     refine b06 ?_
     refine b0d fun K hK => ?_
     simp only [go_sem, q0, q2, q1, b0a v1, b0a v5, b0a v1_1, b0a v5_1, b0a v7]
     refine hK _ _ ?_
     clear hK K
     refine b0u fun K54 hK54 => ?_
     have J55 : ∀ (row_9 : List Int) (v5_2 : AV) (i9 : Nat) (t : Slots) (h : Heap), t 1 = v1_1 → t 2 = .fp [.fs 5 (List.map b0n h_.Combs), .fs 3 (List.map b0k h_.Trains), .fs 3 (List.map b0s h_.Shifts), I h_.Until] 0 → t 5 = v5_2 → t 6 = I x_19 → t 7 = .rp i7 0 0 → t 8 = I x_28 → t 9 = .rs i9 0 (List.length row_9) → t 18 = I (List.length h_.Combs : Int) → t 19 = I x_19 → t 27 = I h_.Until → t 28 = I x_28 → RR h v1_1 hs_1 1 eI open_ → b01 h v5_2 1 (List.map b2a all_5) → h.ob i7 = some (4, [[.rs i7_1 0 (List.length b_7_0), .rs i7_2 0 (List.length ([0])), .v (.slice none 0 0), v7]]) → i7 < h.nx → h.ob i7_1 = some (1, List.map eI b_7_0) → i7_1 < h.nx → h.ob i7_2 = some (1, List.map eI ([0])) → i7_2 < h.nx → b01 h v7 1 (List.map b0o b_7_3) → h.ob i9 = some (1, List.map eI row_9) → i9 < h.nx → (∀ j, ¬b0b v5_2 j → b0v v1_1 hs_1 j) → b0v v1_1 hs_1 i7 → b0v v1_1 hs_1 i7_1 → b0v v1_1 hs_1 i7_2 → (∀ j, ¬b0b v7 j → b0v v1_1 hs_1 j) → b0v v1_1 hs_1 i9 → b0b v5_2 i7 → b0b v5_2 i7_1 → b0b v5_2 i7_2 → (∀ j, ¬b0b v5_2 j → b0b v7 j) → b0b v5_2 i9 → ¬i7 = i7_1 → ¬i7 = i7_2 → b0b v7 i7 → ¬i7 = i9 → ¬i7_1 = i7_2 → b0b v7 i7_1 → ¬i7_1 = i9 → b0b v7 i7_2 → ¬i7_2 = i9 → b0b v7 i9 → (∀ j, j < h0.nx → h.ob j = h0.ob j) → h0.nx ≤ h.nx → (∀ j, ¬b0b v5_2 j → h0.nx ≤ j) → h0.nx ≤ i7 → h0.nx ≤ i7_1 → h0.nx ≤ i7_2 → (∀ j, ¬b0b v7 j → h0.nx ≤ j) → h0.nx ≤ i9 → b7p open_ x_19 b_7_0 b_7_3 x_28 row_9 = some o → K54 t h := by
      try clear s1 s2 s5 s6 s7 s18 s19 s27 s28 qn qa qb q0 qf q2 qg q1 q6 qr qi qj qk qv q7 q8 q9 qp q3 q4 qc q5 qd qe fr fx qy q12 q14 q15 q13
      intro row_9 v5_2 i9 t h s1 s2 s5 s6 s7 s8 s9 s18 s19 s27 s28 qn qa qb q0 qf q2 qg q1 q6 qz qh qr qi qj qk qv q11 q7 q8 q9 qp qw q3 q4 qc ql q5 qd qo qe qm qx fr fx qy q12 q14 q15 q13 q1c hm2
      refine hK54 _ _ ?_
      unfold b7p at hm2
      refine b06 ?_
      refine c15 (s := 9) (v := .rs i9 0 (List.length row_9)) (f := eI) (l := row_9) (by simp only [go_sem, s9, b2c qn, b0q qa, qb, q0, qf, q2, qg, q1, b0q q6, qz, qh, b1k qi, b1k qj, b1k qk, b1k q11, q7, q8, q9, qw, q3, b0c q3, q4, b0c q4, qc, ql, b0c ql, q5, b0c q5, qd, qo, b0c qo, qe, qm, b0c qm, qx, List.length_append, List.map_append]) (b3e (by simp only [go_sem, s9, b2c qn, b0q qa, qb, q0, qf, q2, qg, q1, b0q q6, qz, qh, b1k qi, b1k qj, b1k qk, b1k q11, q7, q8, q9, qw, q3, b0c q3, q4, b0c q4, qc, ql, b0c ql, q5, b0c q5, qd, qo, b0c qo, qe, qm, b0c qm, qx, List.length_append, List.map_append]) (by simp only [go_sem, s9, b2c qn, b0q qa, qb, q0, qf, q2, qg, q1, b0q q6, qz, qh, b1k qi, b1k qj, b1k qk, b1k q11, q7, q8, q9, qw, q3, b0c q3, q4, b0c q4, qc, ql, b0c ql, q5, b0c q5, qd, qo, b0c qo, qe, qm, b0c qm, qx, List.length_append, List.map_append]) (by simp only [go_sem, q0, q2, q1, qh])) b2i b4v ?_
      simp only [c41, c42]
      obtain ⟨l57, h_l57, hm2⟩ := b0g hm2
      refine b0d fun K hK => ?_
      simp only [go_sem, s7, s9, qb, q0, qf, q2, qg, q1, qh, q7, q8, q9, q3, b0c q3, q4, b0c q4, qc, ql, b0c ql, q5, b0c q5, qd, qo, b0c qo, qe, qm, b0c qm, qx, b0a v1, b0a v5, b0a v1_1, b0a v5_1, b0a v7, b0a v5_2]
      refine b5d (f := b0o) (l := b_7_3) (m := ([row_9])) ?_ ?_ ?_ ?_ h_l57 ?_
      ·exact (b1t q6 (by intro j hj hl; first | rfl | simp only [go_sem, hl, b1k (qv j hj), b3w qp j hj, b1m hj qc, b1m hj qd, b1m hj qe, b1m hj qx]) (by first | omega | exact Nat.le_refl _ | (simp only [go_sem, nxs] <;> omega)))
      ·exact (b5f (by simp only [go_sem, b2c qn, b0q qa, qb, q0, qf, q2, qg, q1, b0q q6, qz, qh, b1k qi, b1k qj, b1k qk, b1k q11, q7, q8, q9, qw, q3, b0c q3, q4, b0c q4, qc, ql, b0c ql, q5, b0c q5, qd, qo, b0c qo, qe, qm, b0c qm, qx, List.length_append, List.map_append]) (by simp only [go_sem, b2c qn, b0q qa, qb, q0, qf, q2, qg, q1, b0q q6, qz, qh, b1k qi, b1k qj, b1k qk, b1k q11, q7, q8, q9, qw, q3, b0c q3, q4, b0c q4, qc, ql, b0c ql, q5, b0c q5, qd, qo, b0c qo, qe, qm, b0c qm, qx, List.length_append, List.map_append]))
      ·exact (b2u (by first | exact b1h | exact b1i (by first | omega | (simp only [nxs] <;> omega)) | assumption | exact b00 (by assumption) (by first | omega | (simp only [go_sem, nxs] <;> omega))))
      ·exact (fun _ => by simp)
      simp only [go_sem, s7, s9, qb, q0, qf, q2, qg, q1, qh, q7, q8, q9, q3, b0c q3, q4, b0c q4, qc, ql, b0c ql, q5, b0c q5, qd, qo, b0c qo, qe, qm, b0c qm, qx, b0a v1, b0a v5, b0a v1_1, b0a v5_1, b0a v7, b0a v5_2]
      refine hK _ _ ?_
      clear hK K
      obtain ⟨x62, h_x62, hm2⟩ := b0g hm2
      have h_x620 := b0x h_x62
      have h_x621 := b0y h_x62
      obtain ⟨x63, h_x63, hm2⟩ := b0g hm2
      have h_x630 := b0x h_x63
      have h_x631 := b0y h_x63
      obtain ⟨iqp982, rfl, q1e, q1d⟩ := b67 qn h_x63
      obtain ⟨wp983, hw_wp983, os_wp983⟩ := b64 qn h_x63
      obtain ⟨x64, h_x64, hm2⟩ := b0g hm2
      have h_x640 := b0x h_x64
      have h_x641 := b0y h_x64
      obtain ⟨irp984, rfl, obr_irp984, ltr_irp984⟩ := b5o os_wp983 h_x64
      obtain ⟨l65, h_l65, hm2⟩ := b0g hm2
      refine b7c (fun t h => ∃ v1_2 : AV, ∃ i7_3 : Nat, ∃ i7_4 : Nat, t 1 = v1_2 ∧ t 2 = .fp [.fs 5 (List.map b0n h_.Combs), .fs 3 (List.map b0k h_.Trains), .fs 3 (List.map b0s h_.Shifts), I h_.Until] 0 ∧ t 5 = v5_2 ∧ t 6 = I x_19 ∧ t 7 = .rp i7 0 0 ∧ t 18 = I (List.length h_.Combs : Int) ∧ t 19 = I x_19 ∧ t 27 = I h_.Until ∧ t 28 = I x_28 ∧ RR h v1_2 hs_1 1 eI open_ ∧ b01 h v5_2 1 (List.map b2a all_5) ∧ h.ob i7 = some (4, [[.rs i7_3 0 (List.length l65), .rs i7_2 0 (List.length ([0])), .v (.slice none 0 0), .rs i7_4 0 (List.length l57)]]) ∧ i7 < h.nx ∧ h.ob i7_3 = some (1, List.map eI l65) ∧ i7_3 < h.nx ∧ h.ob i7_2 = some (1, List.map eI ([0])) ∧ i7_2 < h.nx ∧ h.ob i7_4 = some (1, List.map b0o l57) ∧ i7_4 < h.nx ∧ (∀ j, ¬b0b v5_2 j → b0v v1_2 hs_1 j) ∧ b0v v1_2 hs_1 i7 ∧ b0v v1_2 hs_1 i7_3 ∧ b0v v1_2 hs_1 i7_2 ∧ b0v v1_2 hs_1 i7_4 ∧ b0b v5_2 i7 ∧ b0b v5_2 i7_3 ∧ b0b v5_2 i7_2 ∧ b0b v5_2 i7_4 ∧ ¬i7 = i7_3 ∧ ¬i7 = i7_2 ∧ ¬i7 = i7_4 ∧ ¬i7_3 = i7_2 ∧ ¬i7_3 = i7_4 ∧ ¬i7_2 = i7_4 ∧ (∀ j, j < h0.nx → h.ob j = h0.ob j) ∧ h0.nx ≤ h.nx ∧ (∀ j, ¬b0b v5_2 j → h0.nx ≤ j) ∧ h0.nx ≤ i7 ∧ h0.nx ≤ i7_3 ∧ h0.nx ≤ i7_2 ∧ h0.nx ≤ i7_4) (fun K hK => ?_) ?_
      ·simp only [go_sem, s1, b3b qn, s6, s7, s8, q1e, q1d, qb, q0, qf, q2, qg, q1, qh, b2y qr, b2x qr hw_wp983, b09 (qi), b0c (b09 (qi)), b1a (qi) hw_wp983, b0c (b1a (qi) hw_wp983), b09 (qj), b0c (b09 (qj)), b1a (qj) hw_wp983, b0c (b1a (qj) hw_wp983), b09 (qk), b0c (b09 (qk)), b1a (qk) hw_wp983, b0c (b1a (qk) hw_wp983), b2y qv, b2x qv hw_wp983, b09 (q11), b0c (b09 (q11)), b1a (q11) hw_wp983, b0c (b1a (q11) hw_wp983), q7, q8, q9, q3, b0c q3, q4, b0c q4, qc, ql, b0c ql, q5, b0c q5, qd, qo, b0c qo, qe, qm, b0c qm, b0l h_x62, b0m h_x62, h_x620, h_x621, b0l h_x63, b0m h_x63, h_x630, h_x631, b0l hw_wp983, b0m hw_wp983, b46 os_wp983, b0l h_x64, b0m h_x64, h_x640, h_x641, obr_irp984, ltr_irp984, b0a v1, b0a v5, b0a v5_1, b0a v7, b0a v5_2]
       refine b5d (f := eI) (l := b_7_0) (m := ([wr (x62 + x64)])) ?_ ?_ ?_ ?_ h_l65 ?_
       ·exact (b3e (by simp only [go_sem, b2c qn, b0q qa, qb, q0, qf, q2, qg, q1, b0q q6, qz, qh, b2y qr, b2x qr hw_wp983, b1k qi, b09 (qi), b0c (b09 (qi)), b1a (qi) hw_wp983, b0c (b1a (qi) hw_wp983), b1k qj, b09 (qj), b0c (b09 (qj)), b1a (qj) hw_wp983, b0c (b1a (qj) hw_wp983), b1k qk, b09 (qk), b0c (b09 (qk)), b1a (qk) hw_wp983, b0c (b1a (qk) hw_wp983), b2y qv, b2x qv hw_wp983, b1k q11, b09 (q11), b0c (b09 (q11)), b1a (q11) hw_wp983, b0c (b1a (q11) hw_wp983), q7, q8, q9, qw, q3, b0c q3, q4, b0c q4, qc, ql, b0c ql, q5, b0c q5, qd, qo, b0c qo, qe, qm, b0c qm, qx, q1e, q1d, b3h qn hw_wp983, b0c (b3h qn hw_wp983), List.length_append, List.map_append]) (by simp only [go_sem, b2c qn, b0q qa, qb, q0, qf, q2, qg, q1, b0q q6, qz, qh, b2y qr, b2x qr hw_wp983, b1k qi, b09 (qi), b0c (b09 (qi)), b1a (qi) hw_wp983, b0c (b1a (qi) hw_wp983), b1k qj, b09 (qj), b0c (b09 (qj)), b1a (qj) hw_wp983, b0c (b1a (qj) hw_wp983), b1k qk, b09 (qk), b0c (b09 (qk)), b1a (qk) hw_wp983, b0c (b1a (qk) hw_wp983), b2y qv, b2x qv hw_wp983, b1k q11, b09 (q11), b0c (b09 (q11)), b1a (q11) hw_wp983, b0c (b1a (q11) hw_wp983), q7, q8, q9, qw, q3, b0c q3, q4, b0c q4, qc, ql, b0c ql, q5, b0c q5, qd, qo, b0c qo, qe, qm, b0c qm, qx, q1e, q1d, b3h qn hw_wp983, b0c (b3h qn hw_wp983), List.length_append, List.map_append]) (by simp only [go_sem, q0, q2, q1, qh, q1d]))
       ·exact (b5f (by simp only [go_sem, b2c qn, b0q qa, qb, q0, qf, q2, qg, q1, b0q q6, qz, qh, b2y qr, b2x qr hw_wp983, b1k qi, b09 (qi), b0c (b09 (qi)), b1a (qi) hw_wp983, b0c (b1a (qi) hw_wp983), b1k qj, b09 (qj), b0c (b09 (qj)), b1a (qj) hw_wp983, b0c (b1a (qj) hw_wp983), b1k qk, b09 (qk), b0c (b09 (qk)), b1a (qk) hw_wp983, b0c (b1a (qk) hw_wp983), b2y qv, b2x qv hw_wp983, b1k q11, b09 (q11), b0c (b09 (q11)), b1a (q11) hw_wp983, b0c (b1a (q11) hw_wp983), q7, q8, q9, qw, q3, b0c q3, q4, b0c q4, qc, ql, b0c ql, q5, b0c q5, qd, qo, b0c qo, qe, qm, b0c qm, qx, q1e, q1d, b3h qn hw_wp983, b0c (b3h qn hw_wp983), List.length_append, List.map_append]) (by simp only [go_sem, b2c qn, b0q qa, qb, q0, qf, q2, qg, q1, b0q q6, qz, qh, b2y qr, b2x qr hw_wp983, b1k qi, b09 (qi), b0c (b09 (qi)), b1a (qi) hw_wp983, b0c (b1a (qi) hw_wp983), b1k qj, b09 (qj), b0c (b09 (qj)), b1a (qj) hw_wp983, b0c (b1a (qj) hw_wp983), b1k qk, b09 (qk), b0c (b09 (qk)), b1a (qk) hw_wp983, b0c (b1a (qk) hw_wp983), b2y qv, b2x qv hw_wp983, b1k q11, b09 (q11), b0c (b09 (q11)), b1a (q11) hw_wp983, b0c (b1a (q11) hw_wp983), q7, q8, q9, qw, q3, b0c q3, q4, b0c q4, qc, ql, b0c ql, q5, b0c q5, qd, qo, b0c qo, qe, qm, b0c qm, qx, q1e, q1d, b3h qn hw_wp983, b0c (b3h qn hw_wp983), List.length_append, List.map_append]))
       ·exact (b2u (by first | exact b1h | exact b1i (by first | omega | (simp only [nxs] <;> omega)) | assumption | exact b00 (by assumption) (by first | omega | (simp only [go_sem, nxs] <;> omega))))
       ·exact (fun _ => by simp)
       simp only [go_sem, s1, b3b qn, s6, s7, s8, q1e, q1d, qb, q0, qf, q2, qg, q1, qh, b2y qr, b2x qr hw_wp983, b09 (qi), b0c (b09 (qi)), b1a (qi) hw_wp983, b0c (b1a (qi) hw_wp983), b09 (qj), b0c (b09 (qj)), b1a (qj) hw_wp983, b0c (b1a (qj) hw_wp983), b09 (qk), b0c (b09 (qk)), b1a (qk) hw_wp983, b0c (b1a (qk) hw_wp983), b2y qv, b2x qv hw_wp983, b09 (q11), b0c (b09 (q11)), b1a (q11) hw_wp983, b0c (b1a (q11) hw_wp983), q7, q8, q9, q3, b0c q3, q4, b0c q4, qc, ql, b0c ql, q5, b0c q5, qd, qo, b0c qo, qe, qm, b0c qm, b0l h_x62, b0m h_x62, h_x620, h_x621, b0l h_x63, b0m h_x63, h_x630, h_x631, b0l hw_wp983, b0m hw_wp983, b46 os_wp983, b0l h_x64, b0m h_x64, h_x640, h_x641, obr_irp984, ltr_irp984, b0a v1, b0a v5, b0a v5_1, b0a v7, b0a v5_2]
       exact hK _ _ ⟨(.rs iqp982 0 (List.length open_)), (nxs (nxs (nxs h.nx))), (nxs h.nx), (by first | (simp only [go_sem, s1, List.length_append, List.map_append]; done) | rfl), s2, s5, s6, s7, s18, s19, s27, s28, (b3k qn (by intro j hj  hl; first | rfl | simp only [go_sem, hl, b5p hj qi, b5p hj qj, b8d qv j hj, b5p hj q11, q0, q2, qh]) (by first | omega | exact Nat.le_refl _ | (simp only [go_sem, nxs] <;> omega))), (b1t qa (by intro j hj hl; first | rfl | simp only [go_sem, hl, q0, q2, qh, b1m hj q7, b1m hj q8, qp j hj, b1m hj qw]) (by first | omega | exact Nat.le_refl _ | (simp only [go_sem, nxs] <;> omega))), (by simp only [go_sem, qb, q0, q2, b0q q6, qh, q3, b0c q3, qc, ql, b0c ql, List.length_append, List.map_append]), (by simp only [go_sem, q0]), (by simp only [go_sem, q0, q2, b0q q6, qh, List.length_append, List.map_append]), (by simp only [go_sem]), (by simp only [go_sem, q0, q2, qg, q1, b0q q6, qh, q4, b0c q4, q5, b0c q5, qe, qm, b0c qm, List.length_append, List.map_append]), (by simp only [go_sem, q1]), (by simp only [go_sem, q0, q2, b0q q6, qh, List.length_append, List.map_append]), (by simp only [go_sem]), qr, qi, (by first | assumption | exact b4d qn (by first | assumption | omega | (simp only [nxs] <;> omega))), qk, (by first | assumption | exact b4d qn (by first | assumption | omega | (simp only [nxs] <;> omega))), q7, (by first | exact b1h | exact b1i (by first | assumption | omega | (simp only [nxs] <;> omega)) | assumption | exact b00 (by assumption) (by first | assumption | omega | (simp only [nxs] <;> omega))), q9, (by first | exact b1h | exact b1i (by first | assumption | omega | (simp only [nxs] <;> omega)) | assumption | exact b00 (by assumption) (by first | assumption | omega | (simp only [nxs] <;> omega))), (by first | first | assumption | omega | (simp only [nxs] <;> omega)), q4, (by first | first | assumption | omega | (simp only [nxs] <;> omega)), (by first | first | assumption | omega | (simp only [nxs] <;> omega)), (by first | first | assumption | omega | (simp only [nxs] <;> omega)), (by first | first | assumption | omega | (simp only [nxs] <;> omega)), (by intro j hj; first | exact fr j hj | (refine Eq.trans ?_ (fr j hj); first | rfl | simp only [go_sem, Nat.lt_of_lt_of_le hj fx, b6d q12 hj, b6d q14 hj, b5k q13 hj, b6d q1c hj])), (by first | exact fx | omega | (simp only [go_sem, nxs] <;> omega)), qy, q12, (by first | assumption | omega | (simp only [nxs] <;> omega)), q15, (by first | assumption | omega | (simp only [nxs] <;> omega))⟩
      ·try clear s1 s2 s5 s6 s7 s8 s9 s18 s19 s27 s28 qn qa qb q0 qf q2 qg q1 q6 qz qh qr qi qj qk qv q11 q7 q8 q9 qp qw q3 q4 qc ql q5 qd qo qe qm qx fr fx qy q12 q14 q15 q13 q1c q1e q1d
       rintro t h ⟨v1_2, i7_3, i7_4, s1, s2, s5, s6, s7, s18, s19, s27, s28, qn, qa, qb, q0, qf, q2, qg, q1, q1f, q1a, qr, qi, qj, qk, q1l, q7, q8, q9, q1h, q3, q4, q1i, q5, q1j, q1k, fr, fx, qy, q12, q14, q15, q13⟩
       simp only [b0h, b0i]
       exact J51 l65 l57 v1_2 v5_2 i7_3 i7_4 _ _ s1 s2 s5 s6 s7 s18 s19 s27 s28 qn qa qb q0 qf q2 qg q1 q1f q1a qr qi qj qk q1l q7 q8 q9 q1h q3 q4 q1i q5 q1j q1k fr fx qy q12 q14 q15 q13 hm2
     simp only [b05]
     obtain ⟨b66, hl66, hm2⟩ := b0g hm2
     refine b10 hl66 (fun | (row_9, t_10), t, h => ∃ v5_2 : AV, ∃ i9 : Nat, t 1 = v1_1 ∧ t 2 = .fp [.fs 5 (List.map b0n h_.Combs), .fs 3 (List.map b0k h_.Trains), .fs 3 (List.map b0s h_.Shifts), I h_.Until] 0 ∧ t 5 = v5_2 ∧ t 6 = I x_19 ∧ t 7 = .rp i7 0 0 ∧ t 8 = I x_28 ∧ t 9 = .rs i9 0 (List.length row_9) ∧ t 10 = I t_10 ∧ t 18 = I (List.length h_.Combs : Int) ∧ t 19 = I x_19 ∧ t 27 = I h_.Until ∧ t 28 = I x_28 ∧ RR h v1_1 hs_1 1 eI open_ ∧ b01 h v5_2 1 (List.map b2a all_5) ∧ h.ob i7 = some (4, [[.rs i7_1 0 (List.length b_7_0), .rs i7_2 0 (List.length ([0])), .v (.slice none 0 0), v7]]) ∧ i7 < h.nx ∧ h.ob i7_1 = some (1, List.map eI b_7_0) ∧ i7_1 < h.nx ∧ h.ob i7_2 = some (1, List.map eI ([0])) ∧ i7_2 < h.nx ∧ b01 h v7 1 (List.map b0o b_7_3) ∧ h.ob i9 = some (1, List.map eI row_9) ∧ i9 < h.nx ∧ (∀ j, ¬b0b v5_2 j → b0v v1_1 hs_1 j) ∧ b0v v1_1 hs_1 i7 ∧ b0v v1_1 hs_1 i7_1 ∧ b0v v1_1 hs_1 i7_2 ∧ (∀ j, ¬b0b v7 j → b0v v1_1 hs_1 j) ∧ b0v v1_1 hs_1 i9 ∧ b0b v5_2 i7 ∧ b0b v5_2 i7_1 ∧ b0b v5_2 i7_2 ∧ (∀ j, ¬b0b v5_2 j → b0b v7 j) ∧ b0b v5_2 i9 ∧ ¬i7 = i7_1 ∧ ¬i7 = i7_2 ∧ b0b v7 i7 ∧ ¬i7 = i9 ∧ ¬i7_1 = i7_2 ∧ b0b v7 i7_1 ∧ ¬i7_1 = i9 ∧ b0b v7 i7_2 ∧ ¬i7_2 = i9 ∧ b0b v7 i9 ∧ (∀ j, j < h0.nx → h.ob j = h0.ob j) ∧ h0.nx ≤ h.nx ∧ (∀ j, ¬b0b v5_2 j → h0.nx ≤ j) ∧ h0.nx ≤ i7 ∧ h0.nx ≤ i7_1 ∧ h0.nx ≤ i7_2 ∧ (∀ j, ¬b0b v7 j → h0.nx ≤ j) ∧ h0.nx ≤ i9) ?_ ?_
     ·exact ⟨v5_1, h.nx, s1, s2, s5, s6, s7, (by first | (simp only [go_sem, List.length_append, List.map_append]; done) | rfl), (by first | (simp only [go_sem, List.length_append, List.map_append]; done) | rfl), (by first | (simp only [go_sem, List.length_append, List.map_append]; done) | rfl), s18, s19, s27, s28, (b3k qn (by intro j hj  hl; first | rfl | simp only [go_sem, hl]) (by first | omega | exact Nat.le_refl _ | (simp only [go_sem, nxs] <;> omega))), (b1t qa (by intro j hj hl; first | rfl | simp only [go_sem, hl]) (by first | omega | exact Nat.le_refl _ | (simp only [go_sem, nxs] <;> omega))), (by simp only [go_sem, qb, q0, List.length_append, List.map_append]), (by simp only [go_sem, q0]), (by simp only [go_sem, qf, q2, List.length_append, List.map_append]), (by simp only [go_sem, q2]), (by simp only [go_sem, qg, q1, List.length_append, List.map_append]), (by simp only [go_sem, q1]), (b1t q6 (by intro j hj hl; first | rfl | simp only [go_sem, hl]) (by first | omega | exact Nat.le_refl _ | (simp only [go_sem, nxs] <;> omega))), (by simp only [go_sem, List.length_append, List.map_append]), (by simp only [go_sem]), qr, qi, qj, qk, qv, (by first | assumption | exact b4d qn (by first | assumption | omega | (simp only [nxs] <;> omega))), q7, q8, q9, qp, (by first | exact b1h | exact b1i (by first | assumption | omega | (simp only [nxs] <;> omega)) | assumption | exact b00 (by assumption) (by first | assumption | omega | (simp only [nxs] <;> omega))), q3, q4, qc, (by first | first | assumption | omega | (simp only [nxs] <;> omega)), q5, qd, (by first | first | assumption | omega | (simp only [nxs] <;> omega)), qe, (by first | first | assumption | omega | (simp only [nxs] <;> omega)), (by first | exact b1h | exact b1i (by first | assumption | omega | (simp only [nxs] <;> omega)) | assumption | exact b00 (by assumption) (by first | assumption | omega | (simp only [nxs] <;> omega))), (by intro j hj; first | exact fr j hj | (refine Eq.trans ?_ (fr j hj); first | rfl | simp only [go_sem, Nat.lt_of_lt_of_le hj fx])), (by first | exact fx | omega | (simp only [go_sem, nxs] <;> omega)), qy, q12, q14, q15, q13, (by first | assumption | omega | (simp only [nxs] <;> omega))⟩
     ·try clear s1 s2 s5 s6 s7 s18 s19 s27 s28 qn qa qb q0 qf q2 qg q1 q6 qr qi qj qk qv q7 q8 q9 qp q3 q4 qc q5 qd qe fr fx qy q12 q14 q15 q13
      rintro ⟨row_9, t_10⟩ o t h ⟨v5_2, i9, s1, s2, s5, s6, s7, s8, s9, s10, s18, s19, s27, s28, qn, qa, qb, q0, qf, q2, qg, q1, q6, qz, qh, qr, qi, qj, qk, qv, q11, q7, q8, q9, qp, qw, q3, q4, qc, ql, q5, qd, qo, qe, qm, qx, fr, fx, qy, q12, q14, q15, q13, q1c⟩ hm3 hb66
      simp only [b6s] at hm3
      rw [d2u]
      refine b06 ?_
      refine b0d fun K hK => ?_
      simp only [go_sem, s2, s10, q0, q2, q1, qh, b0a v1, b0a v5, b0a v1_1, b0a v5_1, b0a v7, b0a v5_2]
      refine hK _ _ ?_
      clear hK K
      refine b0u fun K67 hK67 => ?_
      simp only [go_sem]
      refine b0r (fun hc68 => ?_) (fun hc68 => ?_)
      ·rw [b04 hc68] at hm3
       simp only [b02, b0h, b0i]
       refine hK67 _ _ ?_
       refine b0u fun K69 hK69 => ?_
       have J70 : ∀ (row_9_1 : List Int) (v5_3 : AV) (t : Slots) (h : Heap), t 1 = v1_1 → t 2 = .fp [.fs 5 (List.map b0n h_.Combs), .fs 3 (List.map b0k h_.Trains), .fs 3 (List.map b0s h_.Shifts), I h_.Until] 0 → t 5 = v5_3 → t 6 = I x_19 → t 7 = .rp i7 0 0 → t 8 = I x_28 → t 9 = .rs i9 0 (List.length row_9_1) → t 10 = I t_10 → t 18 = I (List.length h_.Combs : Int) → t 19 = I x_19 → t 27 = I h_.Until → t 28 = I x_28 → RR h v1_1 hs_1 1 eI open_ → b01 h v5_3 1 (List.map b2a all_5) → h.ob i7 = some (4, [[.rs i7_1 0 (List.length b_7_0), .rs i7_2 0 (List.length ([0])), .v (.slice none 0 0), v7]]) → i7 < h.nx → h.ob i7_1 = some (1, List.map eI b_7_0) → i7_1 < h.nx → h.ob i7_2 = some (1, List.map eI ([0])) → i7_2 < h.nx → b01 h v7 1 (List.map b0o b_7_3) → h.ob i9 = some (1, List.map eI row_9_1) → i9 < h.nx → (∀ j, ¬b0b v5_3 j → b0v v1_1 hs_1 j) → b0v v1_1 hs_1 i7 → b0v v1_1 hs_1 i7_1 → b0v v1_1 hs_1 i7_2 → (∀ j, ¬b0b v7 j → b0v v1_1 hs_1 j) → b0v v1_1 hs_1 i9 → b0b v5_3 i7 → b0b v5_3 i7_1 → b0b v5_3 i7_2 → (∀ j, ¬b0b v5_3 j → b0b v7 j) → b0b v5_3 i9 → ¬i7 = i7_1 → ¬i7 = i7_2 → b0b v7 i7 → ¬i7 = i9 → ¬i7_1 = i7_2 → b0b v7 i7_1 → ¬i7_1 = i9 → b0b v7 i7_2 → ¬i7_2 = i9 → b0b v7 i9 → (∀ j, j < h0.nx → h.ob j = h0.ob j) → h0.nx ≤ h.nx → (∀ j, ¬b0b v5_3 j → h0.nx ≤ j) → h0.nx ≤ i7 → h0.nx ≤ i7_1 → h0.nx ≤ i7_2 → (∀ j, ¬b0b v7 j → h0.nx ≤ j) → h0.nx ≤ i9 → b7r t_10 row_9_1 = some o → K69 t h := by
        try clear s1 s2 s5 s6 s7 s8 s9 s10 s18 s19 s27 s28 qn qa qb q0 qf q2 qg q1 q6 qz qh qr qi qj qk qv q11 q7 q8 q9 qp qw q3 q4 qc ql q5 qd qo qe qm qx fr fx qy q12 q14 q15 q13 q1c
        intro row_9_1 v5_3 t h s1 s2 s5 s6 s7 s8 s9 s10 s18 s19 s27 s28 qn qa qb q0 qf q2 qg q1 q6 qz qh qr qi qj qk qv q11 q7 q8 q9 qp qw q3 q4 qc ql q5 qd qo qe qm qx fr fx qy q12 q14 q15 q13 q1c hm3
        refine hK69 _ _ ?_
        unfold b7r at hm3
        refine b1n fun K hK => ?_
        simp only [go_sem, s10, q0, q2, q1, qh, b0a v1, b0a v5, b0a v1_1, b0a v5_1, b0a v7, b0a v5_2, b0a v5_3]
        refine hK _ _ ?_
        clear hK K
        simp only [b0h, b0i]
        obtain rfl := Option.some.inj hm3
        refine ⟨_, rfl, ?_⟩
        exact ⟨v5_3, i9, s1, s2, s5, s6, s7, s8, (by first | exact s9 | simp only [go_sem, s9, List.length_append, List.map_append]), (by first | (simp only [go_sem, s10, List.length_append, List.map_append]; done) | rfl), s18, s19, s27, s28, qn, qa, qb, q0, qf, q2, qg, q1, q6, qz, qh, qr, qi, qj, qk, qv, q11, q7, q8, q9, qp, qw, q3, q4, qc, ql, q5, qd, qo, qe, qm, qx, fr, fx, qy, q12, q14, q15, q13, q1c⟩
       simp only [b05]
       obtain ⟨y73, h_y73, hm3⟩ := b0g hm3
       obtain ⟨x74, h_x74, hm3⟩ := b0g hm3
       have h_x740 := b0x h_x74
       have h_x741 := b0y h_x74
       refine b0d fun K hK => ?_
       simp only [go_sem, s2, s6, s8, s9, s10, qz, qh, q0, q2, q1, qw, ql, b0c ql, qo, b0c qo, qm, b0c qm, qx, b0l h_x74, b0m h_x74, h_x740, h_x741, b0a v1, b0a v5, b0a v1_1, b0a v5_1, b0a v7, b0a v5_2]
       refine b1o (c3a h_ x_19 x_28 t_10 _ h_y73) ?_
       simp only [go_sem, s2, s6, s8, s9, s10, qz, qh, q0, q2, q1, qw, ql, b0c ql, qo, b0c qo, qm, b0c qm, qx, b0l h_x74, b0m h_x74, h_x740, h_x741, b0a v1, b0a v5, b0a v1_1, b0a v5_1, b0a v7, b0a v5_2]
       refine hK _ _ ?_
       clear hK K
       obtain ⟨l76, h_l76, hm3⟩ := b0g hm3
       refine b0d fun K hK => ?_
       simp only [go_sem, s2, s6, q0, q2, q1, qh, b0a v1, b0a v5, b0a v1_1, b0a v5_1, b0a v7, b0a v5_2]
       refine d8e (f := b0n) (l := h_.Combs) (lo := none) (hi := some x_19) h_l76 ?_
       simp only [go_sem, s2, s6, q0, q2, q1, qh, b0a v1, b0a v5, b0a v1_1, b0a v5_1, b0a v7, b0a v5_2]
       refine hK _ _ ?_
       clear hK K
       simp only [b05]
       obtain ⟨b77, hl77, hm3⟩ := b0g hm3
       refine b10 hl77 (fun | (row_9_1, x_54), t, h => ∃ v5_3 : AV, t 1 = v1_1 ∧ t 2 = .fp [.fs 5 (List.map b0n h_.Combs), .fs 3 (List.map b0k h_.Trains), .fs 3 (List.map b0s h_.Shifts), I h_.Until] 0 ∧ t 5 = v5_3 ∧ t 6 = I x_19 ∧ t 7 = .rp i7 0 0 ∧ t 8 = I x_28 ∧ t 9 = .rs i9 0 (List.length row_9_1) ∧ t 10 = I t_10 ∧ t 18 = I (List.length h_.Combs : Int) ∧ t 19 = I x_19 ∧ t 27 = I h_.Until ∧ t 28 = I x_28 ∧ t 52 = .fs 5 (List.map b0n l76) ∧ t 53 = I (List.length l76 : Int) ∧ t 54 = I x_54 ∧ RR h v1_1 hs_1 1 eI open_ ∧ b01 h v5_3 1 (List.map b2a all_5) ∧ h.ob i7 = some (4, [[.rs i7_1 0 (List.length b_7_0), .rs i7_2 0 (List.length ([0])), .v (.slice none 0 0), v7]]) ∧ i7 < h.nx ∧ h.ob i7_1 = some (1, List.map eI b_7_0) ∧ i7_1 < h.nx ∧ h.ob i7_2 = some (1, List.map eI ([0])) ∧ i7_2 < h.nx ∧ b01 h v7 1 (List.map b0o b_7_3) ∧ h.ob i9 = some (1, List.map eI row_9_1) ∧ i9 < h.nx ∧ (∀ j, ¬b0b v5_3 j → b0v v1_1 hs_1 j) ∧ b0v v1_1 hs_1 i7 ∧ b0v v1_1 hs_1 i7_1 ∧ b0v v1_1 hs_1 i7_2 ∧ (∀ j, ¬b0b v7 j → b0v v1_1 hs_1 j) ∧ b0v v1_1 hs_1 i9 ∧ b0b v5_3 i7 ∧ b0b v5_3 i7_1 ∧ b0b v5_3 i7_2 ∧ (∀ j, ¬b0b v5_3 j → b0b v7 j) ∧ b0b v5_3 i9 ∧ ¬i7 = i7_1 ∧ ¬i7 = i7_2 ∧ b0b v7 i7 ∧ ¬i7 = i9 ∧ ¬i7_1 = i7_2 ∧ b0b v7 i7_1 ∧ ¬i7_1 = i9 ∧ b0b v7 i7_2 ∧ ¬i7_2 = i9 ∧ b0b v7 i9 ∧ (∀ j, j < h0.nx → h.ob j = h0.ob j) ∧ h0.nx ≤ h.nx ∧ (∀ j, ¬b0b v5_3 j → h0.nx ≤ j) ∧ h0.nx ≤ i7 ∧ h0.nx ≤ i7_1 ∧ h0.nx ≤ i7_2 ∧ (∀ j, ¬b0b v7 j → h0.nx ≤ j) ∧ h0.nx ≤ i9) ?_ ?_
       ·exact ⟨v5_2, s1, s2, s5, s6, s7, s8, (by first | exact s9 | simp only [go_sem, s9, List.length_append, List.map_append]), s10, s18, s19, s27, s28, (by first | (simp only [go_sem, List.length_append, List.map_append]; done) | rfl), (by first | (simp only [go_sem, List.length_append, List.map_append]; done) | rfl), (by first | (simp only [go_sem, List.length_append, List.map_append]; done) | rfl), (b3k qn (by intro j hj  hl; first | rfl | simp only [go_sem, hl, b5p hj q11, qh]) (by first | omega | exact Nat.le_refl _ | (simp only [go_sem, nxs] <;> omega))), (b1t qa (by intro j hj hl; first | rfl | simp only [go_sem, hl, qh, b1m hj qw]) (by first | omega | exact Nat.le_refl _ | (simp only [go_sem, nxs] <;> omega))), (by simp only [go_sem, qb, q0, qh, ql, b0c ql, List.length_append, List.map_append]), (by simp only [go_sem, q0]), (by simp only [go_sem, qf, q2, qh, qo, b0c qo, List.length_append, List.map_append]), (by simp only [go_sem, q2]), (by simp only [go_sem, qg, q1, qh, qm, b0c qm, List.length_append, List.map_append]), (by simp only [go_sem, q1]), (b1t q6 (by intro j hj hl; first | rfl | simp only [go_sem, hl, qh, b1m hj qx]) (by first | omega | exact Nat.le_refl _ | (simp only [go_sem, nxs] <;> omega))), (by simp only [go_sem, qz, qh, List.length_append, List.map_append]), (by simp only [go_sem, qh]), qr, qi, qj, qk, qv, q11, q7, q8, q9, qp, qw, q3, q4, qc, ql, q5, qd, qo, qe, qm, qx, (by intro j hj; first | exact fr j hj | (refine Eq.trans ?_ (fr j hj); first | rfl | simp only [go_sem, Nat.lt_of_lt_of_le hj fx, b6d q1c hj])), (by first | exact fx | omega | (simp only [go_sem, nxs] <;> omega)), qy, q12, q14, q15, q13, q1c⟩
       ·try clear s1 s2 s5 s6 s7 s8 s9 s10 s18 s19 s27 s28 qn qa qb q0 qf q2 qg q1 q6 qz qh qr qi qj qk qv q11 q7 q8 q9 qp qw q3 q4 qc ql q5 qd qo qe qm qx fr fx qy q12 q14 q15 q13 q1c
        rintro ⟨row_9_1, x_54⟩ o t h ⟨v5_3, s1, s2, s5, s6, s7, s8, s9, s10, s18, s19, s27, s28, s52, s53, s54, qn, qa, qb, q0, qf, q2, qg, q1, q6, qz, qh, qr, qi, qj, qk, qv, q11, q7, q8, q9, qp, qw, q3, q4, qc, ql, q5, qd, qo, qe, qm, qx, fr, fx, qy, q12, q14, q15, q13, q1c⟩ hm4 hb77
        simp only [b7j] at hm4
        rw [d2t]
        refine b0d fun K hK => ?_
        simp only [go_sem, s53, s54, q0, q2, q1, qh, b0a v1, b0a v5, b0a v1_1, b0a v5_1, b0a v7, b0a v5_2, b0a v5_3]
        refine hK _ _ ?_
        clear hK K
        refine b0u fun K78 hK78 => ?_
        simp only [go_sem]
        refine b0r (fun hc79 => ?_) (fun hc79 => ?_)
        ·rw [b04 hc79] at hm4
         simp only [b02, b0h, b0i]
         refine hK78 _ _ ?_
         refine b0u fun K80 hK80 => ?_
         have J81 : ∀ (row_9_2 : List Int) (v5_4 : AV) (t : Slots) (h : Heap), t 1 = v1_1 → t 2 = .fp [.fs 5 (List.map b0n h_.Combs), .fs 3 (List.map b0k h_.Trains), .fs 3 (List.map b0s h_.Shifts), I h_.Until] 0 → t 5 = v5_4 → t 6 = I x_19 → t 7 = .rp i7 0 0 → t 8 = I x_28 → t 9 = .rs i9 0 (List.length row_9_2) → t 10 = I t_10 → t 18 = I (List.length h_.Combs : Int) → t 19 = I x_19 → t 27 = I h_.Until → t 28 = I x_28 → t 52 = .fs 5 (List.map b0n l76) → t 53 = I (List.length l76 : Int) → t 54 = I x_54 → RR h v1_1 hs_1 1 eI open_ → b01 h v5_4 1 (List.map b2a all_5) → h.ob i7 = some (4, [[.rs i7_1 0 (List.length b_7_0), .rs i7_2 0 (List.length ([0])), .v (.slice none 0 0), v7]]) → i7 < h.nx → h.ob i7_1 = some (1, List.map eI b_7_0) → i7_1 < h.nx → h.ob i7_2 = some (1, List.map eI ([0])) → i7_2 < h.nx → b01 h v7 1 (List.map b0o b_7_3) → h.ob i9 = some (1, List.map eI row_9_2) → i9 < h.nx → (∀ j, ¬b0b v5_4 j → b0v v1_1 hs_1 j) → b0v v1_1 hs_1 i7 → b0v v1_1 hs_1 i7_1 → b0v v1_1 hs_1 i7_2 → (∀ j, ¬b0b v7 j → b0v v1_1 hs_1 j) → b0v v1_1 hs_1 i9 → b0b v5_4 i7 → b0b v5_4 i7_1 → b0b v5_4 i7_2 → (∀ j, ¬b0b v5_4 j → b0b v7 j) → b0b v5_4 i9 → ¬i7 = i7_1 → ¬i7 = i7_2 → b0b v7 i7 → ¬i7 = i9 → ¬i7_1 = i7_2 → b0b v7 i7_1 → ¬i7_1 = i9 → b0b v7 i7_2 → ¬i7_2 = i9 → b0b v7 i9 → (∀ j, j < h0.nx → h.ob j = h0.ob j) → h0.nx ≤ h.nx → (∀ j, ¬b0b v5_4 j → h0.nx ≤ j) → h0.nx ≤ i7 → h0.nx ≤ i7_1 → h0.nx ≤ i7_2 → (∀ j, ¬b0b v7 j → h0.nx ≤ j) → h0.nx ≤ i9 → b6e x_54 row_9_2 = some o → K80 t h := by
          try clear s1 s2 s5 s6 s7 s8 s9 s10 s18 s19 s27 s28 s52 s53 s54 qn qa qb q0 qf q2 qg q1 q6 qz qh qr qi qj qk qv q11 q7 q8 q9 qp qw q3 q4 qc ql q5 qd qo qe qm qx fr fx qy q12 q14 q15 q13 q1c
          intro row_9_2 v5_4 t h s1 s2 s5 s6 s7 s8 s9 s10 s18 s19 s27 s28 s52 s53 s54 qn qa qb q0 qf q2 qg q1 q6 qz qh qr qi qj qk qv q11 q7 q8 q9 qp qw q3 q4 qc ql q5 qd qo qe qm qx fr fx qy q12 q14 q15 q13 q1c hm4
          refine hK80 _ _ ?_
          unfold b6e at hm4
          refine b1n fun K hK => ?_
          simp only [go_sem, s54, q0, q2, q1, qh, b0a v1, b0a v5, b0a v1_1, b0a v5_1, b0a v7, b0a v5_2, b0a v5_3, b0a v5_4]
          refine hK _ _ ?_
          clear hK K
          simp only [b0h, b0i]
          obtain rfl := Option.some.inj hm4
          refine ⟨_, rfl, ?_⟩
          exact ⟨v5_4, s1, s2, s5, s6, s7, s8, (by first | exact s9 | simp only [go_sem, s9, List.length_append, List.map_append]), s10, s18, s19, s27, s28, s52, s53, (by first | (simp only [go_sem, s54, List.length_append, List.map_append]; done) | rfl), qn, qa, qb, q0, qf, q2, qg, q1, q6, qz, qh, qr, qi, qj, qk, qv, q11, q7, q8, q9, qp, qw, q3, q4, qc, ql, q5, qd, qo, qe, qm, qx, fr, fx, qy, q12, q14, q15, q13, q1c⟩
         simp only [b05]
         obtain ⟨x83, h_x83, hm4⟩ := b0g hm4
         have h_x830 := b0x h_x83
         have h_x831 := b0y h_x83
         refine b0d fun K hK => ?_
         simp only [go_sem, s52, s54, q0, q2, q1, qh, b0l h_x83, b0m h_x83, h_x830, h_x831, b0a v1, b0a v5, b0a v1_1, b0a v5_1, b0a v7, b0a v5_2, b0a v5_3]
         refine hK _ _ ?_
         clear hK K
         refine b0d fun K hK => ?_
         simp only [go_sem, s6, q0, q2, q1, qh, b0a v1, b0a v5, b0a v1_1, b0a v5_1, b0a v7, b0a v5_2, b0a v5_3]
         refine hK _ _ ?_
         clear hK K
         simp only [go_sem]
         refine b0r (fun hc84 => ?_) (fun hc84 => ?_)
         ·rw [b04 hc84] at hm4
          obtain ⟨x89, h_x89, hm4⟩ := b0g hm4
          have h_x890 := b0x h_x89
          have h_x891 := b0y h_x89
          obtain ⟨x90, h_x90, hm4⟩ := b0g hm4
          have h_x900 := b0x h_x90
          have h_x901 := b0y h_x90
          obtain ⟨iq91, rfl, q16, q10⟩ := b5o qa h_x90
          obtain ⟨y92, h_y92, hm4⟩ := b0g hm4
          refine b1n fun K hK => ?_
          simp only [go_sem, s5, s8, s9, s10, q16, q10, qz, qh, q0, q2, q1, q7, q8, q9, qw, ql, b0c ql, qo, b0c qo, qm, b0c qm, qx, b0l h_x89, b0m h_x89, h_x890, h_x891, b0l h_x90, b0m h_x90, h_x900, h_x901, b0a v1, b0a v5, b0a v1_1, b0a v5_1, b0a v7, b0a v5_2]
          refine b1o (c27 x90 (wr (x_28 - x83.Walk.High)) (wr (t_10 - x83.Walk.Low)) _ h_y92) ?_
          simp only [go_sem, s5, s8, s9, s10, q16, q10, qz, qh, q0, q2, q1, q7, q8, q9, qw, ql, b0c ql, qo, b0c qo, qm, b0c qm, qx, b0l h_x89, b0m h_x89, h_x890, h_x891, b0l h_x90, b0m h_x90, h_x900, h_x901, b0a v1, b0a v5, b0a v1_1, b0a v5_1, b0a v7, b0a v5_2]
          refine hK _ _ ?_
          clear hK K
          simp only [b0h, b0i]
          exact J81 (List.set row_9_1 (Int.toNat t_10) (wr (x89 + y92))) (.rs iq91 0 (List.length all_5)) _ _ s1 s2 (by first | (simp only [go_sem, s5, List.length_append, List.map_append]; done) | rfl) s6 s7 s8 (by first | exact s9 | simp only [go_sem, s9, List.length_append, List.map_append]) s10 s18 s19 s27 s28 s52 s53 s54 (b3k qn (by intro j hj  hl; first | rfl | simp only [go_sem, hl, b5p hj q11, qh]) (by first | omega | exact Nat.le_refl _ | (simp only [go_sem, nxs] <;> omega))) (b3e (by simp only [go_sem, qh, qw, c6j qw, b0c (c6j qw), q16, q10, List.length_append, List.map_append]) (by first | rfl | simp only [go_sem, List.length_append, List.map_append]) (by simp only [go_sem, q10])) (by simp only [go_sem, qb, q0, qh, ql, b0c ql, List.length_append, List.map_append]) (by simp only [go_sem, q0]) (by simp only [go_sem, qf, q2, qh, qo, b0c qo, List.length_append, List.map_append]) (by simp only [go_sem, q2]) (by simp only [go_sem, qg, q1, qh, qm, b0c qm, List.length_append, List.map_append]) (by simp only [go_sem, q1]) (b1t q6 (by intro j hj hl; first | rfl | simp only [go_sem, hl, qh, b1m hj qx]) (by first | omega | exact Nat.le_refl _ | (simp only [go_sem, nxs] <;> omega))) (by simp only [go_sem, qz, qh, List.length_append, List.map_append]) (by simp only [go_sem, qh]) qr qi qj qk qv q11 q7 q8 q9 qp qw q3 q4 qc ql q5 qd qo qe qm qx (by intro j hj; first | exact fr j hj | (refine Eq.trans ?_ (fr j hj); first | rfl | simp only [go_sem, Nat.lt_of_lt_of_le hj fx, b6d q1c hj])) (by first | exact fx | omega | (simp only [go_sem, nxs] <;> omega)) qy q12 q14 q15 q13 q1c hm4
         ·rw [b03 hc84] at hm4
          simp only [b02, b0h, b0i]
          exact J81 row_9_1 v5_3 _ _ s1 s2 s5 s6 s7 s8 (by first | exact s9 | simp only [go_sem, s9, List.length_append, List.map_append]) s10 s18 s19 s27 s28 s52 s53 s54 (b3k qn (by intro j hj  hl; first | rfl | simp only [go_sem, hl]) (by first | omega | exact Nat.le_refl _ | (simp only [go_sem, nxs] <;> omega))) (b1t qa (by intro j hj hl; first | rfl | simp only [go_sem, hl]) (by first | omega | exact Nat.le_refl _ | (simp only [go_sem, nxs] <;> omega))) (by simp only [go_sem, qb, q0, List.length_append, List.map_append]) (by simp only [go_sem, q0]) (by simp only [go_sem, qf, q2, List.length_append, List.map_append]) (by simp only [go_sem, q2]) (by simp only [go_sem, qg, q1, List.length_append, List.map_append]) (by simp only [go_sem, q1]) (b1t q6 (by intro j hj hl; first | rfl | simp only [go_sem, hl]) (by first | omega | exact Nat.le_refl _ | (simp only [go_sem, nxs] <;> omega))) (by simp only [go_sem, qz, qh, List.length_append, List.map_append]) (by simp only [go_sem, qh]) qr qi qj qk qv q11 q7 q8 q9 qp qw q3 q4 qc ql q5 qd qo qe qm qx (by intro j hj; first | exact fr j hj | (refine Eq.trans ?_ (fr j hj); first | rfl | simp only [go_sem, Nat.lt_of_lt_of_le hj fx])) (by first | exact fx | omega | (simp only [go_sem, nxs] <;> omega)) qy q12 q14 q15 q13 q1c hm4
        ·rw [b03 hc79] at hm4
         simp only [b1w, b1z, b1y, b1x, b0h, b0i, Nat.reduceEqDiff, not_false_eq_true]
         obtain rfl := Option.some.inj hm4
         obtain rfl := hb77 _ rfl
         try dsimp only at hm3
         exact J70 row_9_1 v5_3 _ _ s1 s2 s5 s6 s7 s8 (by first | exact s9 | simp only [go_sem, s9, List.length_append, List.map_append]) s10 s18 s19 s27 s28 qn qa qb q0 qf q2 qg q1 q6 qz qh qr qi qj qk qv q11 q7 q8 q9 qp qw q3 q4 qc ql q5 qd qo qe qm qx fr fx qy q12 q14 q15 q13 q1c hm3
      ·rw [b03 hc68] at hm3
       simp only [b1w, b1z, b1y, b1x, b0h, b0i, Nat.reduceEqDiff, not_false_eq_true]
       obtain rfl := Option.some.inj hm3
       obtain rfl := hb66 _ rfl
       try dsimp only at hm2
       exact J55 row_9 v5_2 i9 _ _ s1 s2 s5 s6 s7 s8 (by first | exact s9 | simp only [go_sem, s9, List.length_append, List.map_append]) s18 s19 s27 s28 qn qa qb q0 qf q2 qg q1 q6 qz qh qr qi qj qk qv q11 q7 q8 q9 qp qw q3 q4 qc ql q5 qd qo qe qm qx fr fx qy q12 q14 q15 q13 q1c hm2
    ·rw [b03 hc49] at hm2
     simp only [b1w, b1z, b1y, b1x, b0h, b0i, Nat.reduceEqDiff, not_false_eq_true]
     obtain rfl := Option.some.inj hm2
     obtain rfl := hb47 _ rfl
     try dsimp only at hm1
     exact J9 b_7_0 b_7_3 v1_1 v5_1 i7 i7_1 i7_2 v7 _ _ s1 s2 s5 s6 s7 s18 s19 qn qa qb q0 qf q2 qg q1 q6 qr qi qj qk qv q7 q8 q9 qp q3 q4 qc q5 qd qe fr fx qy q12 q14 q15 q13 hm1
  ·rw [b03 hc5] at hm1
   simp only [b1w, b1z, b1y, b1x, b0h, b0i, Nat.reduceEqDiff, not_false_eq_true]
   obtain rfl := Option.some.inj hm1
   obtain rfl := hb3 _ rfl
   try dsimp only at hm0
   exact J2 all_5 v5 _ _ s5 qa fr fx qy hm0
theorem b87 (hf : Has O "newel/halls.rates" x_halls_rates) : c1p O := by
 intro h_ comb r hm0
 unfold b7x at hm0
 refine g51 hf rfl (b0e (.agg _ (b0e (b0w fun a _ => b2l a) (b0e (b0w fun a _ => b2n a) (b0e (b0w fun a _ => b2p a) (b0e (b0j _) b0z))))) (b0e (b0j _) b0z)) (by first | exact d9k | exact d9j) ?_
 refine b2f (fun t h => t 0 = .agg [.fs 5 (List.map b0n h_.Combs), .fs 3 (List.map b0k h_.Trains), .fs 3 (List.map b0s h_.Shifts), I h_.Until] ∧ t 1 = I comb) ⟨rfl, rfl⟩ fun t h ⟨s0, s1⟩ => ?_
 simp only [x_halls_rates]
 refine b0d fun K hK => ?_
 simp only [go_sem, s0]
 refine hK _ _ ?_
 clear hK K
 obtain ⟨l2, h_l2, hm0⟩ := b0g hm0
 refine b0d fun K hK => ?_
 simp only [go_sem]
 refine c0x (f := eI) (z := 0) rfl h_l2 ?_
 simp only [go_sem]
 refine hK _ _ ?_
 clear hK K
 obtain ⟨x4, h_x4, hm0⟩ := b0g hm0
 have h_x40 := b0x h_x4
 have h_x41 := b0y h_x4
 refine b0d fun K hK => ?_
 simp only [go_sem, s1, b0l h_x4, b0m h_x4, h_x40, h_x41]
 refine hK _ _ ?_
 clear hK K
 refine b06 ?_
 refine b0d fun K hK => ?_
 simp only [go_sem]
 refine hK _ _ ?_
 clear hK K
 refine b0u fun K5 hK5 => ?_
 have J6 : ∀ (out_5 : List Int) (i5 : Nat) (t : Slots) (h : Heap), t 5 = .rs i5 0 (List.length out_5) → h.ob i5 = some (1, List.map eI out_5) → i5 < h.nx → c2x out_5 = some r → K5 t h := by
  intro out_5 i5 t h s5 q16 q10 hm0
  refine hK5 _ _ ?_
  unfold c2x at hm0
  refine b0d fun K hK => ?_
  simp only [go_sem, s5, q16, q10]
  refine hK _ _ ?_
  clear hK K
  simp only [b1c, b1e, b1d, b1f]
  obtain rfl := Option.some.inj hm0
  exact g5i (id := i5) (by simp only [go_sem, List.length_append, List.map_append]) (by simp only [go_sem, q16, q10, List.length_append, List.map_append]) (by first | exact d9k | exact d9j)
 simp only [b05]
 obtain ⟨b7, hl7, hm0⟩ := b0g hm0
 refine b10 hl7 (fun | (out_5, now_6, at_7, x_20), t, h => ∃ i5 : Nat, t 1 = I comb ∧ t 2 = .fp [.fs 5 (List.map b0n h_.Combs), .fs 3 (List.map b0k h_.Trains), .fs 3 (List.map b0s h_.Shifts), I h_.Until] 0 ∧ t 5 = .rs i5 0 (List.length out_5) ∧ t 6 = I now_6 ∧ t 7 = I at_7 ∧ t 19 = I ((List.length l2 : Nat) : Int) ∧ t 20 = I x_20 ∧ h.ob i5 = some (1, List.map eI out_5) ∧ i5 < h.nx) ?_ ?_
 ·exact ⟨h.nx, s1, (by first | (simp only [go_sem, List.length_append, List.map_append]; done) | rfl), (by first | (simp only [go_sem, List.length_append, List.map_append]; done) | rfl), (by first | (simp only [go_sem, List.length_append, List.map_append]; done) | rfl), (by first | (simp only [go_sem, List.length_append, List.map_append]; done) | rfl), (by first | (simp only [go_sem, List.length_append, List.map_append]; done) | rfl), (by first | (simp only [go_sem, List.length_append, List.map_append]; done) | rfl), (by simp only [go_sem, List.length_append, List.map_append]), (by simp only [go_sem])⟩
 ·rintro ⟨out_5, now_6, at_7, x_20⟩ o t h ⟨i5, s1, s2, s5, s6, s7, s19, s20, q16, q10⟩ hm1 hb7
  simp only [b81] at hm1
  rw [g1h]
  refine b0d fun K hK => ?_
  simp only [go_sem, s19, s20, q10]
  refine hK _ _ ?_
  clear hK K
  refine b0u fun K8 hK8 => ?_
  simp only [go_sem]
  refine b0r (fun hc9 => ?_) (fun hc9 => ?_)
  ·rw [b04 hc9] at hm1
   simp only [b02, b0h, b0i]
   refine hK8 _ _ ?_
   refine b0u fun K10 hK10 => ?_
   have J11 : ∀ (out_5_1 : List Int) (now_6_1 : Int) (at_7_1 : Int) (t : Slots) (h : Heap), t 1 = I comb → t 2 = .fp [.fs 5 (List.map b0n h_.Combs), .fs 3 (List.map b0k h_.Trains), .fs 3 (List.map b0s h_.Shifts), I h_.Until] 0 → t 5 = .rs i5 0 (List.length out_5_1) → t 6 = I now_6_1 → t 7 = I at_7_1 → t 19 = I ((List.length l2 : Nat) : Int) → t 20 = I x_20 → h.ob i5 = some (1, List.map eI out_5_1) → i5 < h.nx → c0r x_20 out_5_1 now_6_1 at_7_1 = some o → K10 t h := by
    try clear s1 s2 s5 s6 s7 s19 s20 q16 q10
    intro out_5_1 now_6_1 at_7_1 t h s1 s2 s5 s6 s7 s19 s20 q16 q10 hm1
    refine hK10 _ _ ?_
    unfold c0r at hm1
    refine b1n fun K hK => ?_
    simp only [go_sem, s20, q10]
    refine hK _ _ ?_
    clear hK K
    simp only [b0h, b0i]
    obtain rfl := Option.some.inj hm1
    refine ⟨_, rfl, ?_⟩
    exact ⟨i5, s1, s2, (by first | exact s5 | simp only [go_sem, s5, List.length_append, List.map_append]), s6, s7, s19, (by first | (simp only [go_sem, s20, List.length_append, List.map_append]; done) | rfl), q16, q10⟩
   simp only [b05]
   refine b0d fun K hK => ?_
   simp only [go_sem, s20, q10]
   refine hK _ _ ?_
   clear hK K
   refine b0u fun K12 hK12 => ?_
   have J13 : ∀ (now_6_1 : Int) (at_7_1 : Int) (t : Slots) (h : Heap), t 1 = I comb → t 2 = .fp [.fs 5 (List.map b0n h_.Combs), .fs 3 (List.map b0k h_.Trains), .fs 3 (List.map b0s h_.Shifts), I h_.Until] 0 → t 5 = .rs i5 0 (List.length out_5) → t 6 = I now_6_1 → t 7 = I at_7_1 → t 8 = I x_20 → t 19 = I ((List.length l2 : Nat) : Int) → t 20 = I x_20 → h.ob i5 = some (1, List.map eI out_5) → i5 < h.nx → c0s out_5 x_20 now_6_1 at_7_1 = some o → K12 t h := by
    try clear s1 s2 s5 s6 s7 s19 s20 q16 q10
    intro now_6_1 at_7_1 t h s1 s2 s5 s6 s7 s8 s19 s20 q16 q10 hm1
    refine hK12 _ _ ?_
    unfold c0s at hm1
    obtain ⟨x15, h_x15, hm1⟩ := b0g hm1
    have h_x150 := b0x h_x15
    have h_x151 := b0y h_x15
    refine b1n fun K hK => ?_
    simp only [go_sem, s5, s6, s8, q16, q10, b0l h_x15, b0m h_x15, h_x150, h_x151]
    refine hK _ _ ?_
    clear hK K
    simp only [b0h, b0i]
    exact J11 (List.set out_5 (Int.toNat x_20) now_6_1) now_6_1 at_7_1 _ _ s1 s2 (by first | exact s5 | simp only [go_sem, s5, List.length_append, List.map_append]) s6 s7 s19 s20 (by simp only [go_sem, q16, q10, List.length_append, List.map_append]) (by simp only [go_sem, q10]) hm1
   simp only [b05]
   obtain ⟨b16, hl16, hm1⟩ := b0g hm1
   refine b10 hl16 (fun | (now_6_1, at_7_1), t, h => t 1 = I comb ∧ t 2 = .fp [.fs 5 (List.map b0n h_.Combs), .fs 3 (List.map b0k h_.Trains), .fs 3 (List.map b0s h_.Shifts), I h_.Until] 0 ∧ t 5 = .rs i5 0 (List.length out_5) ∧ t 6 = I now_6_1 ∧ t 7 = I at_7_1 ∧ t 8 = I x_20 ∧ t 19 = I ((List.length l2 : Nat) : Int) ∧ t 20 = I x_20 ∧ h.ob i5 = some (1, List.map eI out_5) ∧ i5 < h.nx) ?_ ?_
   ·exact ⟨s1, s2, (by first | exact s5 | simp only [go_sem, s5, List.length_append, List.map_append]), s6, s7, (by first | (simp only [go_sem, List.length_append, List.map_append]; done) | rfl), s19, s20, q16, q10⟩
   ·try clear s1 s2 s5 s6 s7 s19 s20 q16 q10
    rintro ⟨now_6_1, at_7_1⟩ o t h ⟨s1, s2, s5, s6, s7, s8, s19, s20, q16, q10⟩ hm2 hb16
    simp only [b7y] at hm2
    rw [g1g]
    refine b06 ?_
    obtain ⟨c20, h_c20, hm2⟩ := b0g hm2
    refine b2e (fun t h => t 1 = I comb ∧ t 2 = .fp [.fs 5 (List.map b0n h_.Combs), .fs 3 (List.map b0k h_.Trains), .fs 3 (List.map b0s h_.Shifts), I h_.Until] 0 ∧ t 5 = .rs i5 0 (List.length out_5) ∧ t 6 = I now_6_1 ∧ t 7 = I at_7_1 ∧ t 8 = I x_20 ∧ t 19 = I ((List.length l2 : Nat) : Int) ∧ t 20 = I x_20 ∧ t 37 = B c20 ∧ h.ob i5 = some (1, List.map eI out_5) ∧ i5 < h.nx) (fun K hK => ?_) ?_
    ·simp only [go_sem, s2, s7, s8, q10]
     refine b0r (fun hg21 => ?_) (fun hg21 => ?_)
     ·simp only [hg21, Bool.not_true, Bool.not_false, eq_self, if_true, if_false, Bool.true_or, Bool.or_true, Bool.false_or, Bool.or_false, Bool.true_and, Bool.and_true, Bool.false_and, Bool.and_false, Bool.false_eq_true] at h_c20
      obtain ⟨x19, h_x19, h_c20⟩ := b0g h_c20
      have h_x190 := b0x h_x19
      have h_x191 := b0y h_x19
      obtain rfl := Option.some.inj h_c20
      simp only [go_sem, s2, s7, s8, q10, b0l h_x19, b0m h_x19, h_x190, h_x191, hg21]
      exact hK _ _ ⟨s1, s2, (by first | exact s5 | simp only [go_sem, s5, List.length_append, List.map_append]), s6, s7, s8, s19, s20, (by first | (simp only [go_sem, hg21, List.length_append, List.map_append]; done) | rfl), q16, q10⟩
     ·simp only [hg21, Bool.not_true, Bool.not_false, eq_self, if_true, if_false, Bool.true_or, Bool.or_true, Bool.false_or, Bool.or_false, Bool.true_and, Bool.and_true, Bool.false_and, Bool.and_false, Bool.false_eq_true] at h_c20
      obtain rfl := Option.some.inj h_c20
      simp only [go_sem, s2, s7, s8, q10, hg21]
      exact hK _ _ ⟨s1, s2, (by first | exact s5 | simp only [go_sem, s5, List.length_append, List.map_append]), s6, s7, s8, s19, s20, (by first | (simp only [go_sem, hg21, List.length_append, List.map_append]; done) | rfl), q16, q10⟩
    ·try clear s1 s2 s5 s6 s7 s8 s19 s20 q16 q10
     rintro t h ⟨s1, s2, s5, s6, s7, s8, s19, s20, s37, q16, q10⟩
     refine b0u fun K22 hK22 => ?_
     simp only [go_sem, s37]
     refine b0r (fun hc23 => ?_) (fun hc23 => ?_)
     ·rw [b04 hc23] at hm2
      simp only [b02, b0h, b0i]
      refine hK22 _ _ ?_
      refine b0u fun K24 hK24 => ?_
      have J25 : ∀ (now_6_2 : Int) (t : Slots) (h : Heap), t 1 = I comb → t 2 = .fp [.fs 5 (List.map b0n h_.Combs), .fs 3 (List.map b0k h_.Trains), .fs 3 (List.map b0s h_.Shifts), I h_.Until] 0 → t 5 = .rs i5 0 (List.length out_5) → t 6 = I now_6_2 → t 7 = I at_7_1 → t 8 = I x_20 → t 19 = I ((List.length l2 : Nat) : Int) → t 20 = I x_20 → h.ob i5 = some (1, List.map eI out_5) → i5 < h.nx → b82 at_7_1 now_6_2 = some o → K24 t h := by
       try clear s1 s2 s5 s6 s7 s8 s19 s20 s37 q16 q10
       intro now_6_2 t h s1 s2 s5 s6 s7 s8 s19 s20 q16 q10 hm2
       refine hK24 _ _ ?_
       unfold b82 at hm2
       refine b1n fun K hK => ?_
       simp only [go_sem, s7, q10]
       refine hK _ _ ?_
       clear hK K
       simp only [b0h, b0i]
       obtain rfl := Option.some.inj hm2
       refine ⟨_, rfl, ?_⟩
       exact ⟨s1, s2, (by first | exact s5 | simp only [go_sem, s5, List.length_append, List.map_append]), s6, (by first | (simp only [go_sem, s7, List.length_append, List.map_append]; done) | rfl), s8, s19, s20, q16, q10⟩
      simp only [b05]
      obtain ⟨x27, h_x27, hm2⟩ := b0g hm2
      have h_x270 := b0x h_x27
      have h_x271 := b0y h_x27
      refine b0d fun K hK => ?_
      simp only [go_sem, s1, s2, s7, q10, b0l h_x27, b0m h_x27, h_x270, h_x271]
      refine hK _ _ ?_
      clear hK K
      simp only [go_sem]
      refine b0r (fun hc28 => ?_) (fun hc28 => ?_)
      ·rw [b04 hc28] at hm2
       refine b1n fun K hK => ?_
       simp only [go_sem, s2, s7, q10, b0l h_x27, b0m h_x27, h_x270, h_x271]
       refine hK _ _ ?_
       clear hK K
       simp only [b0h, b0i]
       exact J25 x27.Rate _ _ s1 s2 (by first | exact s5 | simp only [go_sem, s5, List.length_append, List.map_append]) (by first | (simp only [go_sem, s6, List.length_append, List.map_append]; done) | rfl) s7 s8 s19 s20 q16 q10 hm2
      ·rw [b03 hc28] at hm2
       simp only [b02, b0h, b0i]
       exact J25 now_6_1 _ _ s1 s2 (by first | exact s5 | simp only [go_sem, s5, List.length_append, List.map_append]) s6 s7 s8 s19 s20 q16 q10 hm2
     ·rw [b03 hc23] at hm2
      simp only [b1w, b1z, b1y, b1x, b0h, b0i, Nat.reduceEqDiff, not_false_eq_true]
      obtain rfl := Option.some.inj hm2
      obtain rfl := hb16 _ rfl
      try dsimp only at hm1
      exact J13 now_6_1 at_7_1 _ _ s1 s2 (by first | exact s5 | simp only [go_sem, s5, List.length_append, List.map_append]) s6 s7 s8 s19 s20 q16 q10 hm1
  ·rw [b03 hc9] at hm1
   simp only [b1w, b1z, b1y, b1x, b0h, b0i, Nat.reduceEqDiff, not_false_eq_true]
   obtain rfl := Option.some.inj hm1
   obtain rfl := hb7 _ rfl
   try dsimp only at hm0
   exact J6 out_5 i5 _ _ (by first | exact s5 | simp only [go_sem, s5, List.length_append, List.map_append]) q16 q10 hm0
theorem c6b (hf : Has O "newel/newellaw06.Example" x_l06_Example) : c7u O := by
 intro _
 generalize hm0 : l06_Example = r
 unfold l06_Example at hm0
 refine b2k hf rfl b0z (.agg _ (b0e (b0w fun a _ => b2l a) (b0e (b0w fun a _ => b2n a) (b0e (b0w fun a _ => b2p a) (b0e (b0j _) b0z))))) ?_
 refine b2f (fun t h => True) trivial fun t h _ => ?_
 simp only [x_l06_Example]
 refine b0d fun K hK => ?_
 simp only [go_sem]
 refine hK _ _ ?_
 clear hK K
 refine b0d fun K hK => ?_
 simp only [go_sem]
 refine hK _ _ ?_
 clear hK K
 simp only [b1c, b1e, b1d, b1f]
 obtain rfl := hm0
 exact g5f (id := h.nx) (m := 4) (cs := [.rs (nxs h.nx) 0 (2), .rs (nxs (nxs (nxs (nxs h.nx)))) 0 2, .v (.slice none 0 0), I 20]) (by simp only [go_sem, List.length_append, List.map_append]) (by simp only [go_sem, List.length_append, List.map_append]) rfl (c44 (.cons (b5j (f := b0n) (l := ([(Comb.mk 3 12 1 (Span.mk 2 3)), (Comb.mk 2 10 (-1) (Span.mk 1 1))])) (id := (nxs h.nx)) (by simp only [go_sem, List.length_append, List.map_append]) (by first | rfl | simp only [go_sem, List.length_append, List.map_append]) b2l j1a) (.cons (g57 (id := (nxs (nxs (nxs (nxs h.nx))))) (sz := 3) (rows := [[I 2, I 4, .rs (nxs (nxs h.nx)) 0 (1)], [I 5, I 5, .rs (nxs (nxs (nxs h.nx))) 0 (2)]]) (by simp only [go_sem]) rfl (.cons (.cons (.refl _ (b0j _)) (.cons (.refl _ (b0j _)) (.cons (b5j (f := b2j) (l := ([(Crowd.mk 0 (Span.mk 6 10))])) (id := (nxs (nxs h.nx))) (by simp only [go_sem, List.length_append, List.map_append]) (by first | rfl | simp only [go_sem, List.length_append, List.map_append]) c2d d8r) (.nil)))) (.cons (.cons (.refl _ (b0j _)) (.cons (.refl _ (b0j _)) (.cons (b5j (f := b2j) (l := ([(Crowd.mk 0 (Span.mk 0 4)), (Crowd.mk 1 (Span.mk 3 3))])) (id := (nxs (nxs (nxs h.nx)))) (by simp only [go_sem, List.length_append, List.map_append]) (by first | rfl | simp only [go_sem, List.length_append, List.map_append]) c2d d8r) (.nil)))) (.nil))) (by intro d hd; obtain ⟨x, _, rfl⟩ := List.mem_map.1 hd; exact j1b x)) (.cons (.nil _) (.cons (.refl _ (b0j _)) (.nil))))))
theorem d04 (hf : Has O "newel/newellaw06.Far" x_l06_Far) : c7v O := by
 intro h_ r hm0
 unfold b89 at hm0
 refine b2k hf rfl (b0e (.agg _ (b0e (b0w fun a _ => b2l a) (b0e (b0w fun a _ => b2n a) (b0e (b0w fun a _ => b2p a) (b0e (b0j _) b0z))))) b0z) (b0j _) ?_
 refine b2f (fun t h => t 0 = .agg [.fs 5 (List.map b0n h_.Combs), .fs 3 (List.map b0k h_.Trains), .fs 3 (List.map b0s h_.Shifts), I h_.Until]) rfl fun t h s0 => ?_
 simp only [x_l06_Far]
 refine b0d fun K hK => ?_
 simp only [go_sem, s0]
 refine hK _ _ ?_
 clear hK K
 refine b06 ?_
 refine b2e (fun t h => t 1 = .fp [.fs 5 (List.map b0n h_.Combs), .fs 3 (List.map b0k h_.Trains), .fs 3 (List.map b0s h_.Shifts), I h_.Until] 0 ∧ t 29 = B ((((decide (12 < (List.length h_.Combs : Int))) || (decide (20 < (List.length h_.Trains : Int)))) || (decide (40 < (List.length h_.Shifts : Int)))) || ((decide (40 < h_.Until)) && (decide (h_.Until ≤ 100))))) (fun K hK => ?_) ?_
 ·simp only [go_sem]
  refine b0r (fun hg1 => ?_) (fun hg1 => ?_)
  ·simp only [go_sem, hg1]
   exact hK _ _ ⟨(by first | (simp only [go_sem, hg1, List.length_append, List.map_append]; done) | rfl), (by first | (simp only [go_sem, hg1, List.length_append, List.map_append]; done) | rfl)⟩
  ·simp only [go_sem, hg1]
   refine b0r (fun hg2 => ?_) (fun hg2 => ?_)
   ·simp only [go_sem, hg1, hg2]
    exact hK _ _ ⟨(by first | (simp only [go_sem, hg1, hg2, List.length_append, List.map_append]; done) | rfl), (by first | (simp only [go_sem, hg1, hg2, List.length_append, List.map_append]; done) | rfl)⟩
   ·simp only [go_sem, hg1, hg2]
    refine b0r (fun hg3 => ?_) (fun hg3 => ?_)
    ·simp only [go_sem, hg1, hg2, hg3]
     exact hK _ _ ⟨(by first | (simp only [go_sem, hg1, hg2, hg3, List.length_append, List.map_append]; done) | rfl), (by first | (simp only [go_sem, hg1, hg2, hg3, List.length_append, List.map_append]; done) | rfl)⟩
    ·simp only [go_sem, hg1, hg2, hg3]
     refine b0r (fun hg4 => ?_) (fun hg4 => ?_)
     ·simp only [go_sem, hg1, hg2, hg3, hg4]
      exact hK _ _ ⟨(by first | (simp only [go_sem, hg1, hg2, hg3, hg4, List.length_append, List.map_append]; done) | rfl), (by first | (simp only [go_sem, hg1, hg2, hg3, hg4, List.length_append, List.map_append]; done) | rfl)⟩
     ·simp only [go_sem, hg1, hg2, hg3, hg4]
      exact hK _ _ ⟨(by first | (simp only [go_sem, hg1, hg2, hg3, hg4, List.length_append, List.map_append]; done) | rfl), (by first | (simp only [go_sem, hg1, hg2, hg3, hg4, List.length_append, List.map_append]; done) | rfl)⟩
 ·rintro t h ⟨s1, s29⟩
  refine b0u fun K5 hK5 => ?_
  simp only [go_sem, s29]
  refine b0r (fun hc6 => ?_) (fun hc6 => ?_)
  ·rw [b04 hc6] at hm0
   refine b0d fun K hK => ?_
   simp only [go_sem]
   refine hK _ _ ?_
   clear hK K
   simp only [b1c, b1e, b1d, b1f]
   obtain rfl := Option.some.inj hm0
   exact b1s (by simp only [go_sem, List.length_append, List.map_append]) (b0j _)
  ·rw [b03 hc6] at hm0
   simp only [b02, b0h, b0i]
   refine hK5 _ _ ?_
   refine b06 ?_
   refine b0d fun K hK => ?_
   simp only [go_sem]
   refine hK _ _ ?_
   clear hK K
   refine b0u fun K7 hK7 => ?_
   have J8 : ∀ (t : Slots) (h : Heap), d1d = some r → K7 t h := by
    intro t h hm0
    refine hK7 _ _ ?_
    unfold d1d at hm0
    refine b0d fun K hK => ?_
    simp only [go_sem]
    refine hK _ _ ?_
    clear hK K
    simp only [b1c, b1e, b1d, b1f]
    obtain rfl := Option.some.inj hm0
    exact b1s (by simp only [go_sem, List.length_append, List.map_append]) (b0j _)
   simp only [b05]
   obtain ⟨b9, hl9, hm0⟩ := b0g hm0
   refine b10 hl9 (fun | i_3, t, h => t 1 = .fp [.fs 5 (List.map b0n h_.Combs), .fs 3 (List.map b0k h_.Trains), .fs 3 (List.map b0s h_.Shifts), I h_.Until] 0 ∧ t 3 = I i_3) ?_ ?_
   ·exact ⟨s1, (by first | (simp only [go_sem, List.length_append, List.map_append]; done) | rfl)⟩
   ·rintro i_3 o t h ⟨s1, s3⟩ hm1 hb9
    simp only [c00] at hm1
    rw [g1i]
    refine b06 ?_
    refine b0d fun K hK => ?_
    simp only [go_sem, s1, s3]
    refine hK _ _ ?_
    clear hK K
    refine b0u fun K10 hK10 => ?_
    simp only [go_sem]
    refine b0r (fun hc11 => ?_) (fun hc11 => ?_)
    ·rw [b04 hc11] at hm1
     simp only [b02, b0h, b0i]
     refine hK10 _ _ ?_
     refine b0u fun K12 hK12 => ?_
     simp only [b05]
     obtain ⟨x14, h_x14, hm1⟩ := b0g hm1
     have h_x140 := b0x h_x14
     have h_x141 := b0y h_x14
     refine b0d fun K hK => ?_
     simp only [go_sem, s1, s3, b0l h_x14, b0m h_x14, h_x140, h_x141]
     refine hK _ _ ?_
     clear hK K
     simp only [go_sem]
     refine b0r (fun hc15 => ?_) (fun hc15 => ?_)
     ·rw [b04 hc15] at hm1
      refine b0d fun K hK => ?_
      simp only [go_sem]
      refine hK _ _ ?_
      clear hK K
      simp only [b1c, b1e, b1d, b1f]
      obtain rfl := Option.some.inj hm1
      obtain rfl := hb9 _ rfl
      try dsimp only at hm0
      obtain rfl := Option.some.inj hm0
      exact b1s (by simp only [go_sem, List.length_append, List.map_append]) (b0j _)
     ·rw [b03 hc15] at hm1
      simp only [b02, b0h, b0i]
      refine hK12 _ _ ?_
      refine b1n fun K hK => ?_
      simp only [go_sem, s3]
      refine hK _ _ ?_
      clear hK K
      simp only [b0h, b0i]
      obtain rfl := Option.some.inj hm1
      refine ⟨_, rfl, ?_⟩
      exact ⟨s1, (by first | (simp only [go_sem, s3, List.length_append, List.map_append]; done) | rfl)⟩
    ·rw [b03 hc11] at hm1
     simp only [b1w, b1z, b1y, b1x, b0h, b0i, Nat.reduceEqDiff, not_false_eq_true]
     obtain rfl := Option.some.inj hm1
     obtain rfl := hb9 _ rfl
     try dsimp only at hm0
     exact J8  _ _  hm0
theorem j0x (hf : Has O "newel/newellaw06.HallsReached" x_l06_HallsReached) (d04 : c7v O) (d06 : c7y O) (c3c : c7x O) (d0u : c7k O) (d07 : c7z O) (d0r : c7h O) (d05 : c7w O) (d08 : c70 O) (d0t : c7j O) : d21 O := by
 intro h_ comb tick r hm0
 unfold c3f at hm0
 refine b2k hf rfl (b0e (.agg _ (b0e (b0w fun a _ => b2l a) (b0e (b0w fun a _ => b2n a) (b0e (b0w fun a _ => b2p a) (b0e (b0j _) b0z))))) (b0e (b0j _) (b0e (b0j _) b0z))) (b0j _) ?_
 refine b2f (fun t h => t 0 = .agg [.fs 5 (List.map b0n h_.Combs), .fs 3 (List.map b0k h_.Trains), .fs 3 (List.map b0s h_.Shifts), I h_.Until] ∧ t 1 = I comb ∧ t 2 = I tick) ⟨rfl, rfl, rfl⟩ fun t h ⟨s0, s1, s2⟩ => ?_
 simp only [x_l06_HallsReached]
 refine b0d fun K hK => ?_
 simp only [go_sem, s0]
 refine hK _ _ ?_
 clear hK K
 refine b06 ?_
 obtain ⟨y4, h_y4, hm0⟩ := b0g hm0
 obtain ⟨c6, h_c6, hm0⟩ := b0g hm0
 refine b2e (fun t h => t 1 = I comb ∧ t 2 = I tick ∧ t 3 = .fp [.fs 5 (List.map b0n h_.Combs), .fs 3 (List.map b0k h_.Trains), .fs 3 (List.map b0s h_.Shifts), I h_.Until] 0 ∧ t 40 = B ((((c6 || (decide (comb < 0))) || (decide ((List.length h_.Combs : Int) ≤ comb))) || (decide (tick < 0))) || (decide (h_.Until ≤ tick)))) (fun K hK => ?_) ?_
 ·simp only [go_sem, s1, s2]
  refine b1o (d04 h_ _ h_y4) ?_
  simp only [go_sem, s1, s2]
  refine b0r (fun hg7 => ?_) (fun hg7 => ?_)
  ·simp only [hg7, Bool.not_true, Bool.not_false, eq_self, if_true, if_false, Bool.true_or, Bool.or_true, Bool.false_or, Bool.or_false, Bool.true_and, Bool.and_true, Bool.false_and, Bool.and_false, Bool.false_eq_true] at h_c6
   obtain rfl := Option.some.inj h_c6
   simp only [go_sem, s1, s2, hg7]
   exact hK _ _ ⟨s1, s2, (by first | (simp only [go_sem, hg7, List.length_append, List.map_append]; done) | rfl), (by first | (simp only [go_sem, hg7, List.length_append, List.map_append]; done) | rfl)⟩
  ·simp only [hg7, Bool.not_true, Bool.not_false, eq_self, if_true, if_false, Bool.true_or, Bool.or_true, Bool.false_or, Bool.or_false, Bool.true_and, Bool.and_true, Bool.false_and, Bool.and_false, Bool.false_eq_true] at h_c6
   obtain ⟨y5, h_y5, h_c6⟩ := b0g h_c6
   obtain rfl := Option.some.inj h_c6
   simp only [go_sem, s1, s2, hg7]
   refine b1o (d06 h_ _ h_y5) ?_
   simp only [go_sem, s1, s2, hg7]
   refine b0r (fun hg8 => ?_) (fun hg8 => ?_)
   ·simp only [go_sem, s1, s2, hg7, hg8]
    exact hK _ _ ⟨s1, s2, (by first | (simp only [go_sem, hg7, hg8, List.length_append, List.map_append]; done) | rfl), (by first | (simp only [go_sem, hg7, hg8, List.length_append, List.map_append]; done) | rfl)⟩
   ·simp only [go_sem, s1, s2, hg7, hg8]
    refine b0r (fun hg9 => ?_) (fun hg9 => ?_)
    ·simp only [go_sem, s1, s2, hg7, hg8, hg9]
     exact hK _ _ ⟨s1, s2, (by first | (simp only [go_sem, hg7, hg8, hg9, List.length_append, List.map_append]; done) | rfl), (by first | (simp only [go_sem, hg7, hg8, hg9, List.length_append, List.map_append]; done) | rfl)⟩
    ·simp only [go_sem, s1, s2, hg7, hg8, hg9]
     refine b0r (fun hg10 => ?_) (fun hg10 => ?_)
     ·simp only [go_sem, s1, s2, hg7, hg8, hg9, hg10]
      exact hK _ _ ⟨s1, s2, (by first | (simp only [go_sem, hg7, hg8, hg9, hg10, List.length_append, List.map_append]; done) | rfl), (by first | (simp only [go_sem, hg7, hg8, hg9, hg10, List.length_append, List.map_append]; done) | rfl)⟩
     ·simp only [go_sem, s1, s2, hg7, hg8, hg9, hg10]
      refine b0r (fun hg11 => ?_) (fun hg11 => ?_)
      ·simp only [go_sem, s1, s2, hg7, hg8, hg9, hg10, hg11]
       exact hK _ _ ⟨s1, s2, (by first | (simp only [go_sem, hg7, hg8, hg9, hg10, hg11, List.length_append, List.map_append]; done) | rfl), (by first | (simp only [go_sem, hg7, hg8, hg9, hg10, hg11, List.length_append, List.map_append]; done) | rfl)⟩
      ·simp only [go_sem, s1, s2, hg7, hg8, hg9, hg10, hg11]
       exact hK _ _ ⟨s1, s2, (by first | (simp only [go_sem, hg7, hg8, hg9, hg10, hg11, List.length_append, List.map_append]; done) | rfl), (by first | (simp only [go_sem, hg7, hg8, hg9, hg10, hg11, List.length_append, List.map_append]; done) | rfl)⟩
 ·rintro t h ⟨s1, s2, s3, s40⟩
  refine b0u fun K12 hK12 => ?_
  simp only [go_sem, s40]
  refine b0r (fun hc13 => ?_) (fun hc13 => ?_)
  ·rw [b04 hc13] at hm0
   obtain ⟨y15, h_y15, hm0⟩ := b0g hm0
   refine b0d fun K hK => ?_
   simp only [go_sem]
   refine b1o (c3c  _ h_y15) ?_
   simp only [go_sem]
   refine hK _ _ ?_
   clear hK K
   simp only [b1c, b1e, b1d, b1f]
   obtain rfl := Option.some.inj hm0
   exact b1s (by simp only [go_sem, List.length_append, List.map_append]) (b0j _)
  ·rw [b03 hc13] at hm0
   simp only [b02, b0h, b0i]
   refine hK12 _ _ ?_
   obtain ⟨y17, h_y17, hm0⟩ := b0g hm0
   refine b0d fun K hK => ?_
   simp only [go_sem, s1, s2, s3]
   refine b1o (d0u h_ comb tick _ h_y17) ?_
   simp only [go_sem, s1, s2, s3]
   refine hK _ _ ?_
   clear hK K
   refine b06 ?_
   obtain ⟨y19, h_y19, hm0⟩ := b0g hm0
   refine b0d fun K hK => ?_
   simp only [go_sem, s1, s3]
   refine b1o (d07 h_ comb _ h_y19) ?_
   simp only [go_sem, s1, s3]
   refine hK _ _ ?_
   clear hK K
   refine b0u fun K20 hK20 => ?_
   simp only [go_sem]
   refine b0r (fun hc21 => ?_) (fun hc21 => ?_)
   ·rw [b04 hc21] at hm0
    obtain ⟨c25, h_c25, hm0⟩ := b0g hm0
    refine b2e (fun t h => t 6 = B c25) (fun K hK => ?_) ?_
    ·simp only [go_sem]
     refine b0r (fun hg26 => ?_) (fun hg26 => ?_)
     ·simp only [hg26, Bool.not_true, Bool.not_false, eq_self, if_true, if_false, Bool.true_or, Bool.or_true, Bool.false_or, Bool.or_false, Bool.true_and, Bool.and_true, Bool.false_and, Bool.and_false, Bool.false_eq_true] at h_c25
      obtain ⟨y24, h_y24, h_c25⟩ := b0g h_c25
      obtain rfl := Option.some.inj h_c25
      simp only [go_sem, hg26]
      refine b1o (c3c  _ h_y24) ?_
      simp only [go_sem, hg26]
      exact hK _ _ (by first | (simp only [go_sem, hg26, List.length_append, List.map_append]; done) | rfl)
     ·simp only [hg26, Bool.not_true, Bool.not_false, eq_self, if_true, if_false, Bool.true_or, Bool.or_true, Bool.false_or, Bool.or_false, Bool.true_and, Bool.and_true, Bool.false_and, Bool.and_false, Bool.false_eq_true] at h_c25
      obtain rfl := Option.some.inj h_c25
      simp only [go_sem, hg26]
      exact hK _ _ (by first | (simp only [go_sem, hg26, List.length_append, List.map_append]; done) | rfl)
    ·rintro t h s6
     simp only [b1c, b1e, b1d, b1f]
     obtain rfl := Option.some.inj hm0
     exact b1s (by simp only [go_sem, s6, List.length_append, List.map_append]) (b0j _)
   ·rw [b03 hc21] at hm0
    simp only [b02, b0h, b0i]
    refine hK20 _ _ ?_
    obtain ⟨y28, h_y28, hm0⟩ := b0g hm0
    refine b0d fun K hK => ?_
    simp only [go_sem, s1, s3]
    refine b1o (d0r h_ comb _ h_y28) ?_
    simp only [go_sem, s1, s3]
    refine hK _ _ ?_
    clear hK K
    refine b06 ?_
    obtain ⟨c34, h_c34, hm0⟩ := b0g hm0
    obtain ⟨c36, h_c36, hm0⟩ := b0g hm0
    refine b2e (fun t h => ∃ i7 : Nat, t 1 = I comb ∧ t 2 = I tick ∧ t 3 = .fp [.fs 5 (List.map b0n h_.Combs), .fs 3 (List.map b0k h_.Trains), .fs 3 (List.map b0s h_.Shifts), I h_.Until] 0 ∧ t 7 = .rp i7 0 0 ∧ t 9 = .fs 1 (List.map eI y28.1) ∧ t 86 = B (c36 || (decide (¬(List.length y28.1 : Int) = h_.Until))) ∧ h.ob i7 = some (3, [[.fs 1 (List.map eI y17.1.At), .fs 1 (List.map b0o y17.1.People), .fs 1 (List.map b0o y17.1.Walks)]]) ∧ i7 < h.nx) (fun K hK => ?_) ?_
    ·simp only [go_sem, s3]
     refine b0r (fun hg37 => ?_) (fun hg37 => ?_)
     ·simp only [hg37, Bool.not_true, Bool.not_false, eq_self, if_true, if_false, Bool.true_or, Bool.or_true, Bool.false_or, Bool.or_false, Bool.true_and, Bool.and_true, Bool.false_and, Bool.and_false, Bool.false_eq_true] at h_c34
      obtain rfl := Option.some.inj h_c34
      simp only [hg37, Bool.not_true, Bool.not_false, eq_self, if_true, if_false, Bool.true_or, Bool.or_true, Bool.false_or, Bool.or_false, Bool.true_and, Bool.and_true, Bool.false_and, Bool.and_false, Bool.false_eq_true] at h_c36
      obtain rfl := Option.some.inj h_c36
      simp only [go_sem, s3, hg37]
      exact hK _ _ ⟨h.nx, s1, s2, s3, (by first | (simp only [go_sem, hg37, List.length_append, List.map_append]; done) | rfl), (by first | (simp only [go_sem, hg37, List.length_append, List.map_append]; done) | rfl), (by first | (simp only [go_sem, hg37, List.length_append, List.map_append]; done) | rfl), (by simp only [go_sem, hg37, List.length_append, List.map_append]), (by simp only [go_sem])⟩
     ·simp only [go_sem, s3, hg37]
      refine b0r (fun hg38 => ?_) (fun hg38 => ?_)
      ·simp only [hg37, hg38, Bool.not_true, Bool.not_false, eq_self, if_true, if_false, Bool.true_or, Bool.or_true, Bool.false_or, Bool.or_false, Bool.true_and, Bool.and_true, Bool.false_and, Bool.and_false, Bool.false_eq_true] at h_c34
       obtain rfl := Option.some.inj h_c34
       simp only [hg37, hg38, Bool.not_true, Bool.not_false, eq_self, if_true, if_false, Bool.true_or, Bool.or_true, Bool.false_or, Bool.or_false, Bool.true_and, Bool.and_true, Bool.false_and, Bool.and_false, Bool.false_eq_true] at h_c36
       obtain rfl := Option.some.inj h_c36
       simp only [go_sem, s3, hg37, hg38]
       exact hK _ _ ⟨h.nx, s1, s2, s3, (by first | (simp only [go_sem, hg37, hg38, List.length_append, List.map_append]; done) | rfl), (by first | (simp only [go_sem, hg37, hg38, List.length_append, List.map_append]; done) | rfl), (by first | (simp only [go_sem, hg37, hg38, List.length_append, List.map_append]; done) | rfl), (by simp only [go_sem, hg37, hg38, List.length_append, List.map_append]), (by simp only [go_sem])⟩
      ·simp only [hg37, hg38, Bool.not_true, Bool.not_false, eq_self, if_true, if_false, Bool.true_or, Bool.or_true, Bool.false_or, Bool.or_false, Bool.true_and, Bool.and_true, Bool.false_and, Bool.and_false, Bool.false_eq_true] at h_c34
       obtain ⟨y33, h_y33, h_c34⟩ := b0g h_c34
       obtain rfl := Option.some.inj h_c34
       simp only [go_sem, s3, hg37, hg38]
       refine b1o (d05 y17.1 _ h_y33) ?_
       simp only [go_sem, s3, hg37, hg38]
       refine b0r (fun hg39 => ?_) (fun hg39 => ?_)
       ·simp only [hg37, hg38, hg39, Bool.not_true, Bool.not_false, eq_self, if_true, if_false, Bool.true_or, Bool.or_true, Bool.false_or, Bool.or_false, Bool.true_and, Bool.and_true, Bool.false_and, Bool.and_false, Bool.false_eq_true] at h_c36
        obtain rfl := Option.some.inj h_c36
        simp only [go_sem, s3, hg37, hg38, hg39]
        exact hK _ _ ⟨h.nx, s1, s2, s3, (by first | (simp only [go_sem, hg37, hg38, hg39, List.length_append, List.map_append]; done) | rfl), (by first | (simp only [go_sem, hg37, hg38, hg39, List.length_append, List.map_append]; done) | rfl), (by first | (simp only [go_sem, hg37, hg38, hg39, List.length_append, List.map_append]; done) | rfl), (by simp only [go_sem, hg37, hg38, hg39, List.length_append, List.map_append]), (by simp only [go_sem])⟩
       ·simp only [hg37, hg38, hg39, Bool.not_true, Bool.not_false, eq_self, if_true, if_false, Bool.true_or, Bool.or_true, Bool.false_or, Bool.or_false, Bool.true_and, Bool.and_true, Bool.false_and, Bool.and_false, Bool.false_eq_true] at h_c36
        obtain ⟨y35, h_y35, h_c36⟩ := b0g h_c36
        obtain rfl := Option.some.inj h_c36
        simp only [go_sem, s3, hg37, hg38, hg39]
        refine b1o (d08 h_ y17.1 _ h_y35) ?_
        simp only [go_sem, s3, hg37, hg38, hg39]
        refine b0r (fun hg40 => ?_) (fun hg40 => ?_)
        ·simp only [go_sem, s3, hg37, hg38, hg39, hg40]
         exact hK _ _ ⟨h.nx, s1, s2, s3, (by first | (simp only [go_sem, hg37, hg38, hg39, hg40, List.length_append, List.map_append]; done) | rfl), (by first | (simp only [go_sem, hg37, hg38, hg39, hg40, List.length_append, List.map_append]; done) | rfl), (by first | (simp only [go_sem, hg37, hg38, hg39, hg40, List.length_append, List.map_append]; done) | rfl), (by simp only [go_sem, hg37, hg38, hg39, hg40, List.length_append, List.map_append]), (by simp only [go_sem])⟩
        ·simp only [go_sem, s3, hg37, hg38, hg39, hg40]
         exact hK _ _ ⟨h.nx, s1, s2, s3, (by first | (simp only [go_sem, hg37, hg38, hg39, hg40, List.length_append, List.map_append]; done) | rfl), (by first | (simp only [go_sem, hg37, hg38, hg39, hg40, List.length_append, List.map_append]; done) | rfl), (by first | (simp only [go_sem, hg37, hg38, hg39, hg40, List.length_append, List.map_append]; done) | rfl), (by simp only [go_sem, hg37, hg38, hg39, hg40, List.length_append, List.map_append]), (by simp only [go_sem])⟩
    ·rintro t h ⟨i7, s1, s2, s3, s7, s9, s86, qb, q0⟩
     refine b0u fun K41 hK41 => ?_
     simp only [go_sem, s86]
     refine b0r (fun hc42 => ?_) (fun hc42 => ?_)
     ·rw [b04 hc42] at hm0
      refine b0d fun K hK => ?_
      simp only [go_sem, q0]
      refine hK _ _ ?_
      clear hK K
      simp only [b1c, b1e, b1d, b1f]
      obtain rfl := Option.some.inj hm0
      exact b1s (by simp only [go_sem, qb, q0, List.length_append, List.map_append]) (b0j _)
     ·rw [b03 hc42] at hm0
      simp only [b02, b0h, b0i]
      refine hK41 _ _ ?_
      obtain ⟨y44, h_y44, hm0⟩ := b0g hm0
      refine b0d fun K hK => ?_
      simp only [go_sem, s3, s7, qb, q0]
      refine b1o (d0t h_ y17.1 _ h_y44) ?_
      simp only [go_sem, s3, s7, qb, q0]
      refine hK _ _ ?_
      clear hK K
      obtain ⟨c54, h_c54, hm0⟩ := b0g hm0
      obtain ⟨c58, h_c58, hm0⟩ := b0g hm0
      obtain ⟨c60, h_c60, hm0⟩ := b0g hm0
      refine b2e (fun t h => t 6 = B c60) (fun K hK => ?_) ?_
      ·simp only [go_sem, s1, s2, s3, s9, q0]
       refine b0r (fun hg61 => ?_) (fun hg61 => ?_)
       ·simp only [go_sem, s1, s2, s3, s9, q0, hg61]
        refine b0r (fun hg62 => ?_) (fun hg62 => ?_)
        ·simp only [hg61, hg62, Bool.not_true, Bool.not_false, eq_self, if_true, if_false, Bool.true_or, Bool.or_true, Bool.false_or, Bool.or_false, Bool.true_and, Bool.and_true, Bool.false_and, Bool.and_false, Bool.false_eq_true] at h_c54
         obtain ⟨x53, h_x53, h_c54⟩ := b0g h_c54
         have h_x530 := b0x h_x53
         have h_x531 := b0y h_x53
         obtain rfl := Option.some.inj h_c54
         simp only [go_sem, s1, s2, s3, s9, q0, b0l h_x53, b0m h_x53, h_x530, h_x531, hg61, hg62]
         refine b0r (fun hg63 => ?_) (fun hg63 => ?_)
         ·simp only [hg61, hg62, hg63, Bool.not_true, Bool.not_false, eq_self, if_true, if_false, Bool.true_or, Bool.or_true, Bool.false_or, Bool.or_false, Bool.true_and, Bool.and_true, Bool.false_and, Bool.and_false, Bool.false_eq_true] at h_c58
          obtain ⟨x55, h_x55, h_c58⟩ := b0g h_c58
          have h_x550 := b0x h_x55
          have h_x551 := b0y h_x55
          obtain rfl := Option.some.inj (h_x53.symm.trans h_x55)
          obtain ⟨x56, h_x56, h_c58⟩ := b0g h_c58
          have h_x560 := b0x h_x56
          have h_x561 := b0y h_x56
          obtain ⟨x57, h_x57, h_c58⟩ := b0g h_c58
          have h_x570 := b0x h_x57
          have h_x571 := b0y h_x57
          obtain rfl := Option.some.inj h_c58
          simp only [go_sem, s1, s2, s3, s9, q0, b0l h_x53, b0m h_x53, h_x530, h_x531, b0l h_x55, b0m h_x55, h_x550, h_x551, b0l h_x56, b0m h_x56, h_x560, h_x561, b0l h_x57, b0m h_x57, h_x570, h_x571, hg61, hg62, hg63]
          refine b0r (fun hg64 => ?_) (fun hg64 => ?_)
          ·simp only [hg61, hg62, hg63, hg64, Bool.not_true, Bool.not_false, eq_self, if_true, if_false, Bool.true_or, Bool.or_true, Bool.false_or, Bool.or_false, Bool.true_and, Bool.and_true, Bool.false_and, Bool.and_false, Bool.false_eq_true] at h_c60
           obtain ⟨y59, h_y59, h_c60⟩ := b0g h_c60
           obtain rfl := Option.some.inj h_c60
           simp only [go_sem, s1, s2, s3, s9, q0, b0l h_x53, b0m h_x53, h_x530, h_x531, b0l h_x55, b0m h_x55, h_x550, h_x551, b0l h_x56, b0m h_x56, h_x560, h_x561, b0l h_x57, b0m h_x57, h_x570, h_x571, hg61, hg62, hg63, hg64]
           refine b1o (c3c  _ h_y59) ?_
           simp only [go_sem, s1, s2, s3, s9, q0, b0l h_x53, b0m h_x53, h_x530, h_x531, b0l h_x55, b0m h_x55, h_x550, h_x551, b0l h_x56, b0m h_x56, h_x560, h_x561, b0l h_x57, b0m h_x57, h_x570, h_x571, hg61, hg62, hg63, hg64]
           exact hK _ _ (by first | (simp only [go_sem, hg61, hg62, hg63, hg64, List.length_append, List.map_append]; done) | rfl)
          ·simp only [hg61, hg62, hg63, hg64, Bool.not_true, Bool.not_false, eq_self, if_true, if_false, Bool.true_or, Bool.or_true, Bool.false_or, Bool.or_false, Bool.true_and, Bool.and_true, Bool.false_and, Bool.and_false, Bool.false_eq_true] at h_c60
           obtain rfl := Option.some.inj h_c60
           simp only [go_sem, s1, s2, s3, s9, q0, b0l h_x53, b0m h_x53, h_x530, h_x531, b0l h_x55, b0m h_x55, h_x550, h_x551, b0l h_x56, b0m h_x56, h_x560, h_x561, b0l h_x57, b0m h_x57, h_x570, h_x571, hg61, hg62, hg63, hg64]
           exact hK _ _ (by first | (simp only [go_sem, hg61, hg62, hg63, hg64, List.length_append, List.map_append]; done) | rfl)
         ·simp only [hg61, hg62, hg63, Bool.not_true, Bool.not_false, eq_self, if_true, if_false, Bool.true_or, Bool.or_true, Bool.false_or, Bool.or_false, Bool.true_and, Bool.and_true, Bool.false_and, Bool.and_false, Bool.false_eq_true] at h_c58
          obtain rfl := Option.some.inj h_c58
          simp only [hg61, hg62, hg63, Bool.not_true, Bool.not_false, eq_self, if_true, if_false, Bool.true_or, Bool.or_true, Bool.false_or, Bool.or_false, Bool.true_and, Bool.and_true, Bool.false_and, Bool.and_false, Bool.false_eq_true] at h_c60
          obtain rfl := Option.some.inj h_c60
          simp only [go_sem, s1, s2, s3, s9, q0, b0l h_x53, b0m h_x53, h_x530, h_x531, hg61, hg62, hg63]
          exact hK _ _ (by first | (simp only [go_sem, hg61, hg62, hg63, List.length_append, List.map_append]; done) | rfl)
        ·simp only [hg61, hg62, Bool.not_true, Bool.not_false, eq_self, if_true, if_false, Bool.true_or, Bool.or_true, Bool.false_or, Bool.or_false, Bool.true_and, Bool.and_true, Bool.false_and, Bool.and_false, Bool.false_eq_true] at h_c54
         obtain rfl := Option.some.inj h_c54
         simp only [hg61, hg62, Bool.not_true, Bool.not_false, eq_self, if_true, if_false, Bool.true_or, Bool.or_true, Bool.false_or, Bool.or_false, Bool.true_and, Bool.and_true, Bool.false_and, Bool.and_false, Bool.false_eq_true] at h_c58
         obtain rfl := Option.some.inj h_c58
         simp only [hg61, hg62, Bool.not_true, Bool.not_false, eq_self, if_true, if_false, Bool.true_or, Bool.or_true, Bool.false_or, Bool.or_false, Bool.true_and, Bool.and_true, Bool.false_and, Bool.and_false, Bool.false_eq_true] at h_c60
         obtain rfl := Option.some.inj h_c60
         simp only [go_sem, s1, s2, s3, s9, q0, hg61, hg62]
         exact hK _ _ (by first | (simp only [go_sem, hg61, hg62, List.length_append, List.map_append]; done) | rfl)
       ·simp only [hg61, Bool.not_true, Bool.not_false, eq_self, if_true, if_false, Bool.true_or, Bool.or_true, Bool.false_or, Bool.or_false, Bool.true_and, Bool.and_true, Bool.false_and, Bool.and_false, Bool.false_eq_true] at h_c54
        obtain rfl := Option.some.inj h_c54
        simp only [hg61, Bool.not_true, Bool.not_false, eq_self, if_true, if_false, Bool.true_or, Bool.or_true, Bool.false_or, Bool.or_false, Bool.true_and, Bool.and_true, Bool.false_and, Bool.and_false, Bool.false_eq_true] at h_c58
        obtain rfl := Option.some.inj h_c58
        simp only [hg61, Bool.not_true, Bool.not_false, eq_self, if_true, if_false, Bool.true_or, Bool.or_true, Bool.false_or, Bool.or_false, Bool.true_and, Bool.and_true, Bool.false_and, Bool.and_false, Bool.false_eq_true] at h_c60
        obtain rfl := Option.some.inj h_c60
        simp only [go_sem, s1, s2, s3, s9, q0, hg61]
        exact hK _ _ (by first | (simp only [go_sem, hg61, List.length_append, List.map_append]; done) | rfl)
      ·rintro t h s6
       simp only [b1c, b1e, b1d, b1f]
       obtain rfl := Option.some.inj hm0
       exact b1s (by simp only [go_sem, s6, List.length_append, List.map_append]) (b0j _)
end Go.Nw.HM
