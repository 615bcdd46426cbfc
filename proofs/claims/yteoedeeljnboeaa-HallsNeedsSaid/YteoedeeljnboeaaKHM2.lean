/- That the texts make what their models say: printed by a program. -/
import Derived.Test.YteoedeeljnboeaaHM
set_option linter.all false
set_option linter.unusedVariables false
set_option linter.unusedSimpArgs false
set_option linter.unusedSectionVars false
namespace Go.Nw.HM
open Go.Nw.Halls
set_option linter.unusedSimpArgs false
set_option linter.unusedVariables false
set_option maxHeartbeats 4000000
variable {O : Orac}
theorem j1x (hf : Has O "newel/newellaw06.HallsNeeds" x_l06_HallsNeeds) (d1e : c8d O) (c6j : c8e O) (d06 : c74 O) (d1h : c8h O) (c3n : c4u O) (d1g : c8g O) : d26 O := by
 intro h_ comb from_ r hm0
 unfold c3w at hm0
 refine b2u hf rfl (b0f (.agg _ (b0f (b0y fun a _ => b2n a) (b0f (b0y fun a _ => b2m a) (b0f (b0y fun a _ => b2q a) (b0f (b0k _) b03))))) (b0f (b0k _) (b0f (b0k _) b03))) (b0k _) ?_
 refine b2p (fun t h => t 0 = .agg [.fs 5 (List.map b0q h_.Combs), .fs 3 (List.map b0p h_.Trains), .fs 3 (List.map b0o h_.Shifts), I h_.Until] ∧ t 1 = I comb ∧ t 2 = I from_) ⟨rfl, rfl, rfl⟩ fun t h ⟨s0, s1, s2⟩ => ?_
 simp only [x_l06_HallsNeeds]
 refine b0e fun K hK => ?_
 simp only [go_sem, s0]
 refine hK _ _ ?_
 clear hK K
 refine b04 ?_
 obtain ⟨y2, h_y2, hm0⟩ := b0j hm0
 refine b0e fun K hK => ?_
 simp only [go_sem]
 refine b1u (d1e h_ _ h_y2) ?_
 simp only [go_sem]
 refine hK _ _ ?_
 clear hK K
 refine b0x fun K3 hK3 => ?_
 simp only [go_sem]
 refine b0u (fun hc4 => ?_) (fun hc4 => ?_)
 ·rw [b1b hc4] at hm0
  obtain ⟨y6, h_y6, hm0⟩ := b0j hm0
  refine b0e fun K hK => ?_
  simp only [go_sem]
  refine b1u (c6j  _ h_y6) ?_
  simp only [go_sem]
  refine hK _ _ ?_
  clear hK K
  simp only [b1k, b1m, b1l, b1n]
  obtain rfl := sI9 hm0
  exact b2h (by simp only [go_sem, lA9, mA9]) (b0k _)
 ·rw [b1a hc4] at hm0
  simp only [b07, b0m, b0n]
  refine hK3 _ _ ?_
  obtain ⟨y8, h_y8, hm0⟩ := b0j hm0
  refine b0e fun K hK => ?_
  simp only [go_sem, s1]
  refine b1u (d06 h_ comb _ h_y8) ?_
  simp only [go_sem, s1]
  refine hK _ _ ?_
  clear hK K
  obtain ⟨y10, h_y10, hm0⟩ := b0j hm0
  refine b0e fun K hK => ?_
  simp only [go_sem, s1]
  refine b1u (d1h h_ comb _ h_y10) ?_
  simp only [go_sem, s1]
  refine hK _ _ ?_
  clear hK K
  obtain ⟨y12, h_y12, hm0⟩ := b0j hm0
  refine b0e fun K hK => ?_
  simp only [go_sem, s1, s2]
  refine b1u (c3n h_ comb from_ _ h_y12) ?_
  simp only [go_sem, s1, s2]
  refine hK _ _ ?_
  clear hK K
  obtain ⟨y14, h_y14, hm0⟩ := b0j hm0
  refine b0e fun K hK => ?_
  simp only [go_sem, s1, s2]
  refine b1u (d1g h_ comb from_ _ h_y14) ?_
  simp only [go_sem, s1, s2]
  refine hK _ _ ?_
  clear hK K
  obtain ⟨c18, h_c18, hm0⟩ := b0j hm0
  refine b2t (fun t h => t 6 = B c18) (fun K hK => ?_) ?_
  ·simp only [go_sem]
   refine b0u (fun hg19 => ?_) (fun hg19 => ?_)
   ·simp only [go_sem, hg19]
    refine b0u (fun hg20 => ?_) (fun hg20 => ?_)
    ·simp only [go_sem, hg19, hg20]
     refine b0u (fun hg21 => ?_) (fun hg21 => ?_)
     ·simp only [go_sem, hg19, hg20, hg21]
      refine b0u (fun hg22 => ?_) (fun hg22 => ?_)
      ·simp only [hg19, hg20, hg21, hg22, Bool.not_true, Bool.not_false, eq_self, if_true, if_false, Bool.true_or, Bool.or_true, Bool.false_or, Bool.or_false, Bool.true_and, Bool.and_true, Bool.false_and, Bool.and_false, Bool.false_eq_true] at h_c18
       obtain ⟨y17, h_y17, h_c18⟩ := b0j h_c18
       obtain rfl := sI9 h_c18
       simp only [go_sem, hg19, hg20, hg21, hg22]
       refine b1u (c6j  _ h_y17) ?_
       simp only [go_sem, hg19, hg20, hg21, hg22]
       exact hK _ _ (by first | (simp only [go_sem, hg19, hg20, hg21, hg22, lA9, mA9]; done) | rfl)
      ·simp only [hg19, hg20, hg21, hg22, Bool.not_true, Bool.not_false, eq_self, if_true, if_false, Bool.true_or, Bool.or_true, Bool.false_or, Bool.or_false, Bool.true_and, Bool.and_true, Bool.false_and, Bool.and_false, Bool.false_eq_true] at h_c18
       obtain rfl := sI9 h_c18
       simp only [go_sem, hg19, hg20, hg21, hg22]
       exact hK _ _ (by first | (simp only [go_sem, hg19, hg20, hg21, hg22, lA9, mA9]; done) | rfl)
     ·simp only [hg19, hg20, hg21, Bool.not_true, Bool.not_false, eq_self, if_true, if_false, Bool.true_or, Bool.or_true, Bool.false_or, Bool.or_false, Bool.true_and, Bool.and_true, Bool.false_and, Bool.and_false, Bool.false_eq_true] at h_c18
      obtain rfl := sI9 h_c18
      simp only [go_sem, hg19, hg20, hg21]
      exact hK _ _ (by first | (simp only [go_sem, hg19, hg20, hg21, lA9, mA9]; done) | rfl)
    ·simp only [hg19, hg20, Bool.not_true, Bool.not_false, eq_self, if_true, if_false, Bool.true_or, Bool.or_true, Bool.false_or, Bool.or_false, Bool.true_and, Bool.and_true, Bool.false_and, Bool.and_false, Bool.false_eq_true] at h_c18
     obtain rfl := sI9 h_c18
     simp only [go_sem, hg19, hg20]
     exact hK _ _ (by first | (simp only [go_sem, hg19, hg20, lA9, mA9]; done) | rfl)
   ·simp only [hg19, Bool.not_true, Bool.not_false, eq_self, if_true, if_false, Bool.true_or, Bool.or_true, Bool.false_or, Bool.or_false, Bool.true_and, Bool.and_true, Bool.false_and, Bool.and_false, Bool.false_eq_true] at h_c18
    obtain rfl := sI9 h_c18
    simp only [go_sem, hg19]
    exact hK _ _ (by first | (simp only [go_sem, hg19, lA9, mA9]; done) | rfl)
  ·rintro t h s6
   simp only [b1k, b1m, b1l, b1n]
   obtain rfl := sI9 hm0
   exact b2h (by simp only [go_sem, s6, lA9, mA9]) (b0k _)
theorem c6j (hf : Has O "newel/newellaw06.works" x_l06_works) (c6i : c8c O) (c3n : c4u O) (d07 : c75 O) : c8e O := by
 intro r hm0
 unfold b78 at hm0
 refine b2u hf rfl b03 (b0k _) ?_
 refine b2p (fun t h => True) trivial fun t h _ => ?_
 simp only [x_l06_works]
 refine b0e fun K hK => ?_
 simp only [go_sem]
 refine hK _ _ ?_
 clear hK K
 obtain ⟨y2, h_y2, hm0⟩ := b0j hm0
 refine b0e fun K hK => ?_
 simp only [go_sem]
 refine b1u (c6i ()) ?_
 simp only [go_sem]
 refine b1u (c3n l06_Example 0 5 _ h_y2) ?_
 simp only [go_sem]
 refine hK _ _ ?_
 clear hK K
 obtain ⟨y4, h_y4, hm0⟩ := b0j hm0
 refine b0e fun K hK => ?_
 simp only [go_sem]
 refine b1u (c6i ()) ?_
 simp only [go_sem]
 refine b1u (d07 l06_Example _ h_y4) ?_
 simp only [go_sem]
 refine hK _ _ ?_
 clear hK K
 obtain ⟨c8, h_c8, hm0⟩ := b0j hm0
 refine b2t (fun t h => t 0 = B c8) (fun K hK => ?_) ?_
 ·simp only [go_sem]
  refine b0u (fun hg9 => ?_) (fun hg9 => ?_)
  ·simp only [go_sem, hg9]
   refine b0u (fun hg10 => ?_) (fun hg10 => ?_)
   ·simp only [go_sem, hg9, hg10]
    refine b0u (fun hg11 => ?_) (fun hg11 => ?_)
    ·simp only [go_sem, hg9, hg10, hg11]
     refine b0u (fun hg12 => ?_) (fun hg12 => ?_)
     ·simp only [hg9, hg10, hg11, hg12, Bool.not_true, Bool.not_false, eq_self, if_true, if_false, Bool.true_or, Bool.or_true, Bool.false_or, Bool.or_false, Bool.true_and, Bool.and_true, Bool.false_and, Bool.and_false, Bool.false_eq_true] at h_c8
      obtain ⟨x7, h_x7, h_c8⟩ := b0j h_c8
      have h_x70 := b06 h_x7
      have h_x71 := b09 h_x7
      obtain rfl := sI9 h_c8
      simp only [go_sem, b0v h_x7, b0w h_x7, h_x70, h_x71, hg9, hg10, hg11, hg12]
      exact hK _ _ (by first | (simp only [go_sem, hg9, hg10, hg11, hg12, lA9, mA9]; done) | rfl)
     ·simp only [hg9, hg10, hg11, hg12, Bool.not_true, Bool.not_false, eq_self, if_true, if_false, Bool.true_or, Bool.or_true, Bool.false_or, Bool.or_false, Bool.true_and, Bool.and_true, Bool.false_and, Bool.and_false, Bool.false_eq_true] at h_c8
      obtain rfl := sI9 h_c8
      simp only [go_sem, hg9, hg10, hg11, hg12]
      exact hK _ _ (by first | (simp only [go_sem, hg9, hg10, hg11, hg12, lA9, mA9]; done) | rfl)
    ·simp only [hg9, hg10, hg11, Bool.not_true, Bool.not_false, eq_self, if_true, if_false, Bool.true_or, Bool.or_true, Bool.false_or, Bool.or_false, Bool.true_and, Bool.and_true, Bool.false_and, Bool.and_false, Bool.false_eq_true] at h_c8
     obtain rfl := sI9 h_c8
     simp only [go_sem, hg9, hg10, hg11]
     exact hK _ _ (by first | (simp only [go_sem, hg9, hg10, hg11, lA9, mA9]; done) | rfl)
   ·simp only [hg9, hg10, Bool.not_true, Bool.not_false, eq_self, if_true, if_false, Bool.true_or, Bool.or_true, Bool.false_or, Bool.or_false, Bool.true_and, Bool.and_true, Bool.false_and, Bool.and_false, Bool.false_eq_true] at h_c8
    obtain rfl := sI9 h_c8
    simp only [go_sem, hg9, hg10]
    exact hK _ _ (by first | (simp only [go_sem, hg9, hg10, lA9, mA9]; done) | rfl)
  ·simp only [hg9, Bool.not_true, Bool.not_false, eq_self, if_true, if_false, Bool.true_or, Bool.or_true, Bool.false_or, Bool.or_false, Bool.true_and, Bool.and_true, Bool.false_and, Bool.and_false, Bool.false_eq_true] at h_c8
   obtain rfl := sI9 h_c8
   simp only [go_sem, hg9]
   exact hK _ _ (by first | (simp only [go_sem, hg9, lA9, mA9]; done) | rfl)
 ·rintro t h s0
  simp only [b1k, b1m, b1l, b1n]
  obtain rfl := sI9 hm0
  exact b2h (by simp only [go_sem, s0, lA9, mA9]) (b0k _)
theorem d1f (hf : Has O "newel/newelref06.At" x_r06_At) : c8f O := by
 intro h_ c rate r hm0
 unfold c37 at hm0
 refine b2u hf rfl (b0f (.agg _ (b0f (b0y fun a _ => b2n a) (b0f (b0y fun a _ => b2m a) (b0f (b0y fun a _ => b2q a) (b0f (b0k _) b03))))) (b0f (b0k _) (b0f (b0k _) b03))) (.agg _ (b0f (b0y fun a _ => b2n a) (b0f (b0y fun a _ => b2m a) (b0f (b0y fun a _ => b2q a) (b0f (b0k _) b03))))) ?_
 refine b2p (fun t h => t 0 = .agg [.fs 5 (List.map b0q h_.Combs), .fs 3 (List.map b0p h_.Trains), .fs 3 (List.map b0o h_.Shifts), I h_.Until] ∧ t 1 = I c ∧ t 2 = I rate) ⟨rfl, rfl, rfl⟩ fun t h ⟨s0, s1, s2⟩ => ?_
 simp only [x_r06_At]
 refine b0e fun K hK => ?_
 simp only [go_sem, s0]
 refine hK _ _ ?_
 clear hK K
 refine b0e fun K hK => ?_
 simp only [go_sem]
 refine hK _ _ ?_
 clear hK K
 obtain ⟨l2, h_l2, hm0⟩ := b0j hm0
 refine b0e fun K hK => ?_
 simp only [go_sem]
 refine b4b (f := b0q) (l := ([])) (m := h_.Combs) ?_ ?_ ?_ ?_ h_l2 ?_
 ·exact (b3i (by simp only [go_sem, lA9, mA9]) (by simp only [go_sem, lA9, mA9]) (by simp only [go_sem]))
 ·exact j7e
 ·exact j2p
 ·exact (fun e => by cases e)
 simp only [go_sem]
 refine hK _ _ ?_
 clear hK K
 obtain ⟨x4, h_x4, hm0⟩ := b0j hm0
 have h_x40 := b06 h_x4
 have h_x41 := b09 h_x4
 refine b0e fun K hK => ?_
 simp only [go_sem, s1, s2, b0v h_x4, b0w h_x4, h_x40, h_x41]
 refine hK _ _ ?_
 clear hK K
 refine b0e fun K hK => ?_
 simp only [go_sem]
 refine hK _ _ ?_
 clear hK K
 refine b04 ?_
 refine b0e fun K hK => ?_
 simp only [go_sem]
 refine hK _ _ ?_
 clear hK K
 refine b0x fun K5 hK5 => ?_
 have J6 : ∀ (q_7_2 : List Shift) (i6 : Nat) (i7 : Nat) (i7_1 : Nat) (v7 : AV) (t : Slots) (h : Heap), t 6 = .rp i6 0 0 → t 7 = .rp i7 0 0 → h.ob i6 = some (4, [[.v (.slice none 0 0), .v (.slice none 0 0), .v (.slice none 0 0), I 0]]) → i6 < h.nx → h.ob i7 = some (4, [[.rs i7_1 0 (List.length (List.set l2 (Int.toNat c) (Comb.mk rate x4.Limit x4.Next x4.Walk))), .fs 3 (List.map b0p h_.Trains), v7, I h_.Until]]) → i7 < h.nx → h.ob i7_1 = some (5, List.map b0q (List.set l2 (Int.toNat c) (Comb.mk rate x4.Limit x4.Next x4.Walk))) → i7_1 < h.nx → b0l h v7 3 (List.map b0o q_7_2) → ¬i6 = i7 → ¬i6 = i7_1 → b0a v7 i6 → ¬i7 = i7_1 → b0a v7 i7 → b0a v7 i7_1 → c7a h_ c rate l2 x4 q_7_2 = some r → K5 t h := by
  intro q_7_2 i6 i7 i7_1 v7 t h s6 s7 Qn Qc Q6 Q5 Ql Qd Qh Q8 Qa Qi Q9 Qj Qk hm0
  refine hK5 _ _ ?_
  unfold c7a at hm0
  refine b0e fun K hK => ?_
  simp only [go_sem, s6, s7, Qn, Qc, Q6, Q5, Ql, Qd, Q8, b0c Q8, Qa, b0c Qa, Qi, Q9, b0c Q9, Qj, Qk, b0b v7]
  refine hK _ _ ?_
  clear hK K
  simp only [b1k, b1m, b1l, b1n]
  obtain rfl := sI9 hm0
  exact c2v (id := i6) (m := 4) (cs := [.rs i7_1 0 (List.length (List.set l2 (Int.toNat c) (Comb.mk rate x4.Limit x4.Next x4.Walk))), .fs 3 (List.map b0p h_.Trains), v7, I h_.Until]) (by simp only [go_sem, s6, Qn, Qc, Q6, Q5, Ql, Qd, b0r Qh, Q8, b0c Q8, Qa, b0c Qa, Qi, Q9, b0c Q9, Qj, Qk, lA9, mA9]) (by simp only [go_sem, s6, Qn, Qc, Q6, Q5, Ql, Qd, b0r Qh, Q8, b0c Q8, Qa, b0c Qa, Qi, Q9, b0c Q9, Qj, Qk, lA9, mA9]) rfl (c24 (.cons (b6u (f := b0q) (l := (List.set l2 (Int.toNat c) (Comb.mk rate x4.Limit x4.Next x4.Walk))) (id := i7_1) (by simp only [go_sem, Qn, Qc, Q6, Q5, Ql, Qd, b0r Qh, Q8, b0c Q8, Qa, b0c Qa, Qi, Q9, b0c Q9, Qj, Qk, lA9, mA9]) (by first | rfl | simp only [go_sem, lA9, mA9]) b2n d8s) (.cons (.refl _ (b0y fun a _ => b2m a)) (.cons (b5j (f := b0o) (l := q_7_2) (b1j Qh (by intro j hj hl; first | rfl | simp only [go_sem, hl, b1g hj Qi, b1g hj Qj, b1g hj Qk]) (by first | omega | exact Nat.le_refl _ | (simp only [go_sem, nxs] <;> omega))) b2q d8u) (.cons (.refl _ (b0k _)) (.nil))))))
 simp only [b1c]
 obtain ⟨b7, hl7, hm0⟩ := b0j hm0
 refine b2b hl7 (fun | (q_7_2, i_8), t, h => ∃ i6 : Nat, ∃ i7 : Nat, ∃ i7_1 : Nat, ∃ v7 : AV, t 1 = I c ∧ t 3 = .fp [.fs 5 (List.map b0q h_.Combs), .fs 3 (List.map b0p h_.Trains), .fs 3 (List.map b0o h_.Shifts), I h_.Until] 0 ∧ t 6 = .rp i6 0 0 ∧ t 7 = .rp i7 0 0 ∧ t 8 = I i_8 ∧ h.ob i6 = some (4, [[.v (.slice none 0 0), .v (.slice none 0 0), .v (.slice none 0 0), I 0]]) ∧ i6 < h.nx ∧ h.ob i7 = some (4, [[.rs i7_1 0 (List.length (List.set l2 (Int.toNat c) (Comb.mk rate x4.Limit x4.Next x4.Walk))), .fs 3 (List.map b0p h_.Trains), v7, I h_.Until]]) ∧ i7 < h.nx ∧ h.ob i7_1 = some (5, List.map b0q (List.set l2 (Int.toNat c) (Comb.mk rate x4.Limit x4.Next x4.Walk))) ∧ i7_1 < h.nx ∧ b0l h v7 3 (List.map b0o q_7_2) ∧ ¬i6 = i7 ∧ ¬i6 = i7_1 ∧ b0a v7 i6 ∧ ¬i7 = i7_1 ∧ b0a v7 i7 ∧ b0a v7 i7_1) ?_ ?_
 ·exact ⟨h.nx, (nxs h.nx), (nxs (nxs (nxs h.nx))), (.v (.slice none 0 0)), s1, (by first | (simp only [go_sem, lA9, mA9]; done) | rfl), (by first | (simp only [go_sem, lA9, mA9]; done) | rfl), (by first | (simp only [go_sem, lA9, mA9]; done) | rfl), (by first | (simp only [go_sem, lA9, mA9]; done) | rfl), (by simp only [go_sem, lA9, mA9]), (by simp only [go_sem]), (by simp only [go_sem, lA9, mA9]), (by simp only [go_sem]), (by simp only [go_sem, lA9, mA9]), (by simp only [go_sem]), b6j, (by first | first | assumption | omega | (simp only [nxs] <;> omega)), (by first | first | assumption | omega | (simp only [nxs] <;> omega)), (by first | exact b1d | exact b1e (by first | assumption | omega | (simp only [nxs] <;> omega)) | assumption | exact b0z (by assumption) (by first | assumption | omega | (simp only [nxs] <;> omega))), (by first | first | assumption | omega | (simp only [nxs] <;> omega)), (by first | exact b1d | exact b1e (by first | assumption | omega | (simp only [nxs] <;> omega)) | assumption | exact b0z (by assumption) (by first | assumption | omega | (simp only [nxs] <;> omega))), (by first | exact b1d | exact b1e (by first | assumption | omega | (simp only [nxs] <;> omega)) | assumption | exact b0z (by assumption) (by first | assumption | omega | (simp only [nxs] <;> omega)))⟩
 ·rintro ⟨q_7_2, i_8⟩ o t h ⟨i6, i7, i7_1, v7, s1, s3, s6, s7, s8, Qn, Qc, Q6, Q5, Ql, Qd, Qh, Q8, Qa, Qi, Q9, Qj, Qk⟩ hm1 hb7
  simp only [c38] at hm1
  rw [g11]
  refine b04 ?_
  refine b0e fun K hK => ?_
  simp only [go_sem, s3, s8, Qc, Q5, Qd, b0b v7]
  refine hK _ _ ?_
  clear hK K
  refine b0x fun K8 hK8 => ?_
  simp only [go_sem]
  refine b0u (fun hc9 => ?_) (fun hc9 => ?_)
  ·rw [b1b hc9] at hm1
   simp only [b07, b0m, b0n]
   refine hK8 _ _ ?_
   refine b0x fun K10 hK10 => ?_
   have J11 : ∀ (q_7_2_1 : List Shift) (v7_1 : AV) (t : Slots) (h : Heap), t 1 = I c → t 3 = .fp [.fs 5 (List.map b0q h_.Combs), .fs 3 (List.map b0p h_.Trains), .fs 3 (List.map b0o h_.Shifts), I h_.Until] 0 → t 6 = .rp i6 0 0 → t 7 = .rp i7 0 0 → t 8 = I i_8 → h.ob i6 = some (4, [[.v (.slice none 0 0), .v (.slice none 0 0), .v (.slice none 0 0), I 0]]) → i6 < h.nx → h.ob i7 = some (4, [[.rs i7_1 0 (List.length (List.set l2 (Int.toNat c) (Comb.mk rate x4.Limit x4.Next x4.Walk))), .fs 3 (List.map b0p h_.Trains), v7_1, I h_.Until]]) → i7 < h.nx → h.ob i7_1 = some (5, List.map b0q (List.set l2 (Int.toNat c) (Comb.mk rate x4.Limit x4.Next x4.Walk))) → i7_1 < h.nx → b0l h v7_1 3 (List.map b0o q_7_2_1) → ¬i6 = i7 → ¬i6 = i7_1 → b0a v7_1 i6 → ¬i7 = i7_1 → b0a v7_1 i7 → b0a v7_1 i7_1 → c1t i_8 q_7_2_1 = some o → K10 t h := by
    try clear s1 s3 s6 s7 s8 Qn Qc Q6 Q5 Ql Qd Qh Q8 Qa Qi Q9 Qj Qk
    intro q_7_2_1 v7_1 t h s1 s3 s6 s7 s8 Qn Qc Q6 Q5 Ql Qd Qh Q8 Qa Qi Q9 Qj Qk hm1
    refine hK10 _ _ ?_
    unfold c1t at hm1
    refine b1o fun K hK => ?_
    simp only [go_sem, s8, Qc, Q5, Qd, b0b v7, b0b v7_1]
    refine hK _ _ ?_
    clear hK K
    simp only [b0m, b0n]
    obtain rfl := sI9 hm1
    refine ⟨_, rfl, ?_⟩
    exact ⟨i6, i7, i7_1, v7_1, s1, s3, s6, s7, (by first | (simp only [go_sem, s8, lA9, mA9]; done) | rfl), Qn, Qc, Q6, Q5, Ql, Qd, Qh, Q8, Qa, Qi, Q9, Qj, Qk⟩
   simp only [b1c]
   obtain ⟨x13, h_x13, hm1⟩ := b0j hm1
   have h_x130 := b06 h_x13
   have h_x131 := b09 h_x13
   refine b0e fun K hK => ?_
   simp only [go_sem, s1, s3, s8, Qc, Q5, Qd, b0v h_x13, b0w h_x13, h_x130, h_x131, b0b v7]
   refine hK _ _ ?_
   clear hK K
   simp only [go_sem]
   refine b0u (fun hc14 => ?_) (fun hc14 => ?_)
   ·rw [b1b hc14] at hm1
    obtain ⟨l16, h_l16, hm1⟩ := b0j hm1
    refine b1o fun K hK => ?_
    simp only [go_sem, s3, s7, s8, Q6, Q5, Ql, Qd, Qc, Q8, b0c Q8, Qa, b0c Qa, Qi, Q9, b0c Q9, Qj, Qk, b0v h_x13, b0w h_x13, h_x130, h_x131, b0b v7]
    refine b4b (f := b0o) (l := q_7_2) (m := ([x13])) ?_ ?_ ?_ ?_ h_l16 ?_
    ·exact (b1j Qh (by intro j hj hl; first | rfl | simp only [go_sem, hl, b1g hj Qi, b1g hj Qj, b1g hj Qk]) (by first | omega | exact Nat.le_refl _ | (simp only [go_sem, nxs] <;> omega)))
    ·exact (b4l (by simp only [go_sem, Qn, Qc, Q6, Q5, Ql, Qd, b0r Qh, Q8, b0c Q8, Qa, b0c Qa, Qi, Q9, b0c Q9, Qj, Qk, lA9, mA9]) (by simp only [go_sem, Qn, Qc, Q6, Q5, Ql, Qd, b0r Qh, Q8, b0c Q8, Qa, b0c Qa, Qi, Q9, b0c Q9, Qj, Qk, lA9, mA9]))
    ·exact (b2v (by first | exact b1d | exact b1e (by first | omega | (simp only [nxs] <;> omega)) | assumption | exact b0z (by assumption) (by first | omega | (simp only [go_sem, nxs] <;> omega))))
    ·exact (fun _ => by simp)
    simp only [go_sem, s3, s7, s8, Q6, Q5, Ql, Qd, Qc, Q8, b0c Q8, Qa, b0c Qa, Qi, Q9, b0c Q9, Qj, Qk, b0v h_x13, b0w h_x13, h_x130, h_x131, b0b v7]
    refine hK _ _ ?_
    clear hK K
    simp only [b0m, b0n]
    exact J11 l16 (.rs (nxs h.nx) 0 (List.length l16)) _ _ s1 s3 s6 s7 s8 (by simp only [go_sem, Qn, Qc, Q5, b0r Qh, Q8, b0c Q8, Qi, lA9, mA9]) (by simp only [go_sem, Qc]) (by simp only [go_sem, Q6, Q5, b0r Qh, Qj, lA9, mA9]) (by simp only [go_sem, Q5]) (by simp only [go_sem, Q5, Ql, Qd, b0r Qh, Q9, b0c Q9, Qk, lA9, mA9]) (by simp only [go_sem, Qd]) (b3i (by simp only [go_sem, Q5, b0r Qh, lA9, mA9]) (by first | rfl | simp only [go_sem, lA9, mA9]) (by simp only [go_sem])) Q8 Qa (by first | exact b1d | exact b1e (by first | assumption | omega | (simp only [nxs] <;> omega)) | assumption | exact b0z (by assumption) (by first | assumption | omega | (simp only [nxs] <;> omega))) Q9 (by first | exact b1d | exact b1e (by first | assumption | omega | (simp only [nxs] <;> omega)) | assumption | exact b0z (by assumption) (by first | assumption | omega | (simp only [nxs] <;> omega))) (by first | exact b1d | exact b1e (by first | assumption | omega | (simp only [nxs] <;> omega)) | assumption | exact b0z (by assumption) (by first | assumption | omega | (simp only [nxs] <;> omega))) hm1
   ·rw [b1a hc14] at hm1
    simp only [b07, b0m, b0n]
    exact J11 q_7_2 v7 _ _ s1 s3 s6 s7 s8 Qn Qc Q6 Q5 Ql Qd Qh Q8 Qa Qi Q9 Qj Qk hm1
  ·rw [b1a hc9] at hm1
   simp only [b1z, b2a, b19, b11, b0m, b0n, Nat.reduceEqDiff, nF9]
   obtain rfl := sI9 hm1
   obtain rfl := hb7 _ rfl
   try dsimp only at hm0
   exact J6 q_7_2 i6 i7 i7_1 v7 _ _ s6 s7 Qn Qc Q6 Q5 Ql Qd Qh Q8 Qa Qi Q9 Qj Qk hm0
theorem c3r (hf : Has O "newel/newelref06.Check" x_r06_Check) (b44 : c2e O) (c1a : c8l O) : c40 O := by
 intro h_ r hm0
 unfold b5z at hm0
 refine b2u hf rfl (b0f (.agg _ (b0f (b0y fun a _ => b2n a) (b0f (b0y fun a _ => b2m a) (b0f (b0y fun a _ => b2q a) (b0f (b0k _) b03))))) b03) (b0k _) ?_
 refine b2p (fun t h => t 0 = .agg [.fs 5 (List.map b0q h_.Combs), .fs 3 (List.map b0p h_.Trains), .fs 3 (List.map b0o h_.Shifts), I h_.Until]) rfl fun t h s0 => ?_
 simp only [x_r06_Check]
 refine b0e fun K hK => ?_
 simp only [go_sem, s0]
 refine hK _ _ ?_
 clear hK K
 refine b04 ?_
 refine b2t (fun t h => t 1 = .fp [.fs 5 (List.map b0q h_.Combs), .fs 3 (List.map b0p h_.Trains), .fs 3 (List.map b0o h_.Shifts), I h_.Until] 0 ∧ t 34 = B ((((!(b2y h_.Until 1 100)) || (!(b2y (List.length h_.Combs : Int) 1 8))) || (decide (12 < (List.length h_.Trains : Int)))) || (decide (20 < (List.length h_.Shifts : Int))))) (fun K hK => ?_) ?_
 ·simp only [go_sem]
  refine b1u (b44 h_.Until 1 100) ?_
  simp only [go_sem]
  refine b0u (fun hg1 => ?_) (fun hg1 => ?_)
  ·simp only [go_sem, hg1]
   exact hK _ _ ⟨(by first | (simp only [go_sem, hg1, lA9, mA9]; done) | rfl), (by first | (simp only [go_sem, hg1, lA9, mA9]; done) | rfl)⟩
  ·simp only [go_sem, hg1]
   refine b1u (b44 (List.length h_.Combs : Int) 1 8) ?_
   simp only [go_sem, hg1]
   refine b0u (fun hg2 => ?_) (fun hg2 => ?_)
   ·simp only [go_sem, hg1, hg2]
    exact hK _ _ ⟨(by first | (simp only [go_sem, hg1, hg2, lA9, mA9]; done) | rfl), (by first | (simp only [go_sem, hg1, hg2, lA9, mA9]; done) | rfl)⟩
   ·simp only [go_sem, hg1, hg2]
    refine b0u (fun hg3 => ?_) (fun hg3 => ?_)
    ·simp only [go_sem, hg1, hg2, hg3]
     exact hK _ _ ⟨(by first | (simp only [go_sem, hg1, hg2, hg3, lA9, mA9]; done) | rfl), (by first | (simp only [go_sem, hg1, hg2, hg3, lA9, mA9]; done) | rfl)⟩
    ·simp only [go_sem, hg1, hg2, hg3]
     exact hK _ _ ⟨(by first | (simp only [go_sem, hg1, hg2, hg3, lA9, mA9]; done) | rfl), (by first | (simp only [go_sem, hg1, hg2, hg3, lA9, mA9]; done) | rfl)⟩
 ·rintro t h ⟨s1, s34⟩
  refine b0x fun K4 hK4 => ?_
  simp only [go_sem, s34]
  refine b0u (fun hc5 => ?_) (fun hc5 => ?_)
  ·rw [b1b hc5] at hm0
   refine b0e fun K hK => ?_
   simp only [go_sem]
   refine hK _ _ ?_
   clear hK K
   simp only [b1k, b1m, b1l, b1n]
   obtain rfl := sI9 hm0
   exact b2h (by simp only [go_sem, lA9, mA9]) (b0k _)
  ·rw [b1a hc5] at hm0
   simp only [b07, b0m, b0n]
   refine hK4 _ _ ?_
   refine b0e fun K hK => ?_
   simp only [go_sem, s1]
   refine hK _ _ ?_
   clear hK K
   refine b04 ?_
   refine b0e fun K hK => ?_
   simp only [go_sem]
   refine hK _ _ ?_
   clear hK K
   refine b0x fun K6 hK6 => ?_
   have J7 : ∀ (t : Slots) (h : Heap), t 1 = .fp [.fs 5 (List.map b0q h_.Combs), .fs 3 (List.map b0p h_.Trains), .fs 3 (List.map b0o h_.Shifts), I h_.Until] 0 → t 3 = I (List.length h_.Combs : Int) → c7c h_ = some r → K6 t h := by
    intro t h s1 s3 hm0
    refine hK6 _ _ ?_
    unfold c7c at hm0
    refine b04 ?_
    refine b0e fun K hK => ?_
    simp only [go_sem]
    refine hK _ _ ?_
    clear hK K
    refine b0x fun K8 hK8 => ?_
    have J9 : ∀ (t : Slots) (h : Heap), t 1 = .fp [.fs 5 (List.map b0q h_.Combs), .fs 3 (List.map b0p h_.Trains), .fs 3 (List.map b0o h_.Shifts), I h_.Until] 0 → t 3 = I (List.length h_.Combs : Int) → c7d h_ = some r → K8 t h := by
     intro t h s1 s3 hm0
     refine hK8 _ _ ?_
     unfold c7d at hm0
     refine b04 ?_
     refine b0e fun K hK => ?_
     simp only [go_sem]
     refine hK _ _ ?_
     clear hK K
     refine b0x fun K10 hK10 => ?_
     have J11 : ∀ (t : Slots) (h : Heap), d2c = some r → K10 t h := by
      intro t h hm0
      refine hK10 _ _ ?_
      unfold d2c at hm0
      refine b0e fun K hK => ?_
      simp only [go_sem]
      refine hK _ _ ?_
      clear hK K
      simp only [b1k, b1m, b1l, b1n]
      obtain rfl := sI9 hm0
      exact b2h (by simp only [go_sem, lA9, mA9]) (b0k _)
     simp only [b1c]
     obtain ⟨b12, hl12, hm0⟩ := b0j hm0
     refine b2b hl12 (fun | i_10, t, h => t 1 = .fp [.fs 5 (List.map b0q h_.Combs), .fs 3 (List.map b0p h_.Trains), .fs 3 (List.map b0o h_.Shifts), I h_.Until] 0 ∧ t 3 = I (List.length h_.Combs : Int) ∧ t 10 = I i_10) ?_ ?_
     ·exact ⟨s1, s3, (by first | (simp only [go_sem, lA9, mA9]; done) | rfl)⟩
     ·rintro i_10 o t h ⟨s1, s3, s10⟩ hm1 hb12
      simp only [c1w] at hm1
      rw [g15]
      refine b04 ?_
      refine b0e fun K hK => ?_
      simp only [go_sem, s1, s10]
      refine hK _ _ ?_
      clear hK K
      refine b0x fun K13 hK13 => ?_
      simp only [go_sem]
      refine b0u (fun hc14 => ?_) (fun hc14 => ?_)
      ·rw [b1b hc14] at hm1
       simp only [b07, b0m, b0n]
       refine hK13 _ _ ?_
       refine b0x fun K15 hK15 => ?_
       simp only [b1c]
       obtain ⟨x17, h_x17, hm1⟩ := b0j hm1
       have h_x170 := b06 h_x17
       have h_x171 := b09 h_x17
       refine b0e fun K hK => ?_
       simp only [go_sem, s1, s10, b0v h_x17, b0w h_x17, h_x170, h_x171]
       refine hK _ _ ?_
       clear hK K
       obtain ⟨c23, h_c23, hm1⟩ := b0j hm1
       refine b2t (fun t h => t 1 = .fp [.fs 5 (List.map b0q h_.Combs), .fs 3 (List.map b0p h_.Trains), .fs 3 (List.map b0o h_.Shifts), I h_.Until] 0 ∧ t 3 = I (List.length h_.Combs : Int) ∧ t 10 = I i_10 ∧ t 187 = B c23) (fun K hK => ?_) ?_
       ·simp only [go_sem, s1, s3, s10]
        refine b1u (b44 x17.At 0 (wr (h_.Until - 1))) ?_
        simp only [go_sem, s1, s3, s10]
        refine b0u (fun hg24 => ?_) (fun hg24 => ?_)
        ·simp only [hg24, Bool.not_true, Bool.not_false, eq_self, if_true, if_false, Bool.true_or, Bool.or_true, Bool.false_or, Bool.or_false, Bool.true_and, Bool.and_true, Bool.false_and, Bool.and_false, Bool.false_eq_true] at h_c23
         obtain rfl := sI9 h_c23
         simp only [go_sem, s1, s3, s10, hg24]
         exact hK _ _ ⟨s1, s3, s10, (by first | (simp only [go_sem, hg24, lA9, mA9]; done) | rfl)⟩
        ·simp only [go_sem, s1, s3, s10, hg24]
         refine b1u (b44 x17.Comb 0 (wr ((List.length h_.Combs : Int) - 1))) ?_
         simp only [go_sem, s1, s3, s10, hg24]
         refine b0u (fun hg25 => ?_) (fun hg25 => ?_)
         ·simp only [hg24, hg25, Bool.not_true, Bool.not_false, eq_self, if_true, if_false, Bool.true_or, Bool.or_true, Bool.false_or, Bool.or_false, Bool.true_and, Bool.and_true, Bool.false_and, Bool.and_false, Bool.false_eq_true] at h_c23
          obtain rfl := sI9 h_c23
          simp only [go_sem, s1, s3, s10, hg24, hg25]
          exact hK _ _ ⟨s1, s3, s10, (by first | (simp only [go_sem, hg24, hg25, lA9, mA9]; done) | rfl)⟩
         ·simp only [go_sem, s1, s3, s10, hg24, hg25]
          refine b1u (b44 x17.Rate 0 1000) ?_
          simp only [go_sem, s1, s3, s10, hg24, hg25]
          refine b0u (fun hg26 => ?_) (fun hg26 => ?_)
          ·simp only [hg24, hg25, hg26, Bool.not_true, Bool.not_false, eq_self, if_true, if_false, Bool.true_or, Bool.or_true, Bool.false_or, Bool.or_false, Bool.true_and, Bool.and_true, Bool.false_and, Bool.and_false, Bool.false_eq_true] at h_c23
           obtain rfl := sI9 h_c23
           simp only [go_sem, s1, s3, s10, hg24, hg25, hg26]
           exact hK _ _ ⟨s1, s3, s10, (by first | (simp only [go_sem, hg24, hg25, hg26, lA9, mA9]; done) | rfl)⟩
          ·simp only [hg24, hg25, hg26, Bool.not_true, Bool.not_false, eq_self, if_true, if_false, Bool.true_or, Bool.or_true, Bool.false_or, Bool.or_false, Bool.true_and, Bool.and_true, Bool.false_and, Bool.and_false, Bool.false_eq_true] at h_c23
           obtain ⟨c22, h_c22, h_c23⟩ := b0j h_c23
           obtain rfl := sI9 h_c23
           simp only [go_sem, s1, s3, s10, hg24, hg25, hg26]
           refine b0u (fun hg27 => ?_) (fun hg27 => ?_)
           ·simp only [hg24, hg25, hg26, hg27, Bool.not_true, Bool.not_false, eq_self, if_true, if_false, Bool.true_or, Bool.or_true, Bool.false_or, Bool.or_false, Bool.true_and, Bool.and_true, Bool.false_and, Bool.and_false, Bool.false_eq_true] at h_c22
            obtain ⟨x21, h_x21, h_c22⟩ := b0j h_c22
            have h_x210 := b06 h_x21
            have h_x211 := b09 h_x21
            obtain rfl := sI9 h_c22
            simp only [go_sem, s1, s3, s10, b0v h_x21, b0w h_x21, h_x210, h_x211, hg24, hg25, hg26, hg27]
            exact hK _ _ ⟨s1, s3, s10, (by first | (simp only [go_sem, hg24, hg25, hg26, hg27, lA9, mA9]; done) | rfl)⟩
           ·simp only [hg24, hg25, hg26, hg27, Bool.not_true, Bool.not_false, eq_self, if_true, if_false, Bool.true_or, Bool.or_true, Bool.false_or, Bool.or_false, Bool.true_and, Bool.and_true, Bool.false_and, Bool.and_false, Bool.false_eq_true] at h_c22
            obtain rfl := sI9 h_c22
            simp only [go_sem, s1, s3, s10, hg24, hg25, hg26, hg27]
            exact hK _ _ ⟨s1, s3, s10, (by first | (simp only [go_sem, hg24, hg25, hg26, hg27, lA9, mA9]; done) | rfl)⟩
       ·rintro t h ⟨s1, s3, s10, s187⟩
        simp only [go_sem, s187]
        refine b0u (fun hc28 => ?_) (fun hc28 => ?_)
        ·rw [b1b hc28] at hm1
         refine b0e fun K hK => ?_
         simp only [go_sem]
         refine hK _ _ ?_
         clear hK K
         simp only [b1k, b1m, b1l, b1n]
         obtain rfl := sI9 hm1
         obtain rfl := hb12 _ rfl
         try dsimp only at hm0
         obtain rfl := sI9 hm0
         exact b2h (by simp only [go_sem, lA9, mA9]) (b0k _)
        ·rw [b1a hc28] at hm1
         simp only [b07, b0m, b0n]
         refine hK15 _ _ ?_
         refine b1o fun K hK => ?_
         simp only [go_sem, s10]
         refine hK _ _ ?_
         clear hK K
         simp only [b0m, b0n]
         obtain rfl := sI9 hm1
         refine ⟨_, rfl, ?_⟩
         exact ⟨s1, s3, (by first | (simp only [go_sem, s10, lA9, mA9]; done) | rfl)⟩
      ·rw [b1a hc14] at hm1
       simp only [b1z, b2a, b19, b11, b0m, b0n, Nat.reduceEqDiff, nF9]
       obtain rfl := sI9 hm1
       obtain rfl := hb12 _ rfl
       try dsimp only at hm0
       exact J11  _ _  hm0
    simp only [b1c]
    obtain ⟨b30, hl30, hm0⟩ := b0j hm0
    refine b2b hl30 (fun | i_6, t, h => t 1 = .fp [.fs 5 (List.map b0q h_.Combs), .fs 3 (List.map b0p h_.Trains), .fs 3 (List.map b0o h_.Shifts), I h_.Until] 0 ∧ t 3 = I (List.length h_.Combs : Int) ∧ t 6 = I i_6) ?_ ?_
    ·exact ⟨s1, s3, (by first | (simp only [go_sem, lA9, mA9]; done) | rfl)⟩
    ·rintro i_6 o t h ⟨s1, s3, s6⟩ hm1 hb30
     simp only [c1v] at hm1
     rw [g14]
     refine b04 ?_
     refine b0e fun K hK => ?_
     simp only [go_sem, s1, s6]
     refine hK _ _ ?_
     clear hK K
     refine b0x fun K31 hK31 => ?_
     simp only [go_sem]
     refine b0u (fun hc32 => ?_) (fun hc32 => ?_)
     ·rw [b1b hc32] at hm1
      simp only [b07, b0m, b0n]
      refine hK31 _ _ ?_
      refine b0x fun K33 hK33 => ?_
      have J34 : ∀ (t : Slots) (h : Heap), t 1 = .fp [.fs 5 (List.map b0q h_.Combs), .fs 3 (List.map b0p h_.Trains), .fs 3 (List.map b0o h_.Shifts), I h_.Until] 0 → t 3 = I (List.length h_.Combs : Int) → t 6 = I i_6 → c7b i_6 = some o → K33 t h := by
       intro t h s1 s3 s6 hm1
       refine hK33 _ _ ?_
       unfold c7b at hm1
       refine b1o fun K hK => ?_
       simp only [go_sem, s6]
       refine hK _ _ ?_
       clear hK K
       simp only [b0m, b0n]
       obtain rfl := sI9 hm1
       refine ⟨_, rfl, ?_⟩
       exact ⟨s1, s3, (by first | (simp only [go_sem, s6, lA9, mA9]; done) | rfl)⟩
      simp only [b1c]
      obtain ⟨x36, h_x36, hm1⟩ := b0j hm1
      have h_x360 := b06 h_x36
      have h_x361 := b09 h_x36
      refine b0e fun K hK => ?_
      simp only [go_sem, s1, s6, b0v h_x36, b0w h_x36, h_x360, h_x361]
      refine hK _ _ ?_
      clear hK K
      refine b04 ?_
      refine b2t (fun t h => ∃ i7 : Nat, t 1 = .fp [.fs 5 (List.map b0q h_.Combs), .fs 3 (List.map b0p h_.Trains), .fs 3 (List.map b0o h_.Shifts), I h_.Until] 0 ∧ t 3 = I (List.length h_.Combs : Int) ∧ t 6 = I i_6 ∧ t 7 = .rp i7 0 0 ∧ t 103 = B ((!(b4v x36.At 0 (wr (h_.Until - 1)))) || (decide (4 < (List.length x36.Crowds : Int)))) ∧ h.ob i7 = some (3, [[I x36.At.Low, I x36.At.High, .fs 3 (List.map b21 x36.Crowds)]]) ∧ i7 < h.nx) (fun K hK => ?_) ?_
      ·simp only [go_sem, s1]
       refine b1u (c1a x36.At 0 (wr (h_.Until - 1))) ?_
       simp only [go_sem, s1]
       refine b0u (fun hg37 => ?_) (fun hg37 => ?_)
       ·simp only [go_sem, s1, hg37]
        exact hK _ _ ⟨h.nx, s1, s3, s6, (by first | (simp only [go_sem, hg37, lA9, mA9]; done) | rfl), (by first | (simp only [go_sem, hg37, lA9, mA9]; done) | rfl), (by simp only [go_sem, hg37, lA9, mA9]), (by simp only [go_sem])⟩
       ·simp only [go_sem, s1, hg37]
        exact hK _ _ ⟨h.nx, s1, s3, s6, (by first | (simp only [go_sem, hg37, lA9, mA9]; done) | rfl), (by first | (simp only [go_sem, hg37, lA9, mA9]; done) | rfl), (by simp only [go_sem, hg37, lA9, mA9]), (by simp only [go_sem])⟩
      ·rintro t h ⟨i7, s1, s3, s6, s7, s103, Q6, Q5⟩
       refine b0x fun K38 hK38 => ?_
       simp only [go_sem, s103]
       refine b0u (fun hc39 => ?_) (fun hc39 => ?_)
       ·rw [b1b hc39] at hm1
        refine b0e fun K hK => ?_
        simp only [go_sem, Q5]
        refine hK _ _ ?_
        clear hK K
        simp only [b1k, b1m, b1l, b1n]
        obtain rfl := sI9 hm1
        obtain rfl := hb30 _ rfl
        try dsimp only at hm0
        obtain rfl := sI9 hm0
        exact b2h (by simp only [go_sem, Q6, Q5, lA9, mA9]) (b0k _)
       ·rw [b1a hc39] at hm1
        simp only [b07, b0m, b0n]
        refine hK38 _ _ ?_
        refine b0e fun K hK => ?_
        simp only [go_sem, Q5]
        refine hK _ _ ?_
        clear hK K
        refine b0e fun K hK => ?_
        simp only [go_sem, Q5]
        refine hK _ _ ?_
        clear hK K
        simp only [b1c]
        obtain ⟨b40, hl40, hm1⟩ := b0j hm1
        refine b2b hl40 (fun | (last_8, k_9), t, h => t 1 = .fp [.fs 5 (List.map b0q h_.Combs), .fs 3 (List.map b0p h_.Trains), .fs 3 (List.map b0o h_.Shifts), I h_.Until] 0 ∧ t 3 = I (List.length h_.Combs : Int) ∧ t 6 = I i_6 ∧ t 7 = .rp i7 0 0 ∧ t 8 = I last_8 ∧ t 9 = I k_9 ∧ h.ob i7 = some (3, [[I x36.At.Low, I x36.At.High, .fs 3 (List.map b21 x36.Crowds)]]) ∧ i7 < h.nx) ?_ ?_
        ·exact ⟨s1, s3, s6, s7, (by first | (simp only [go_sem, lA9, mA9]; done) | rfl), (by first | (simp only [go_sem, lA9, mA9]; done) | rfl), Q6, Q5⟩
        ·rintro ⟨last_8, k_9⟩ o t h ⟨s1, s3, s6, s7, s8, s9, Q6, Q5⟩ hm2 hb40
         simp only [b8g] at hm2
         rw [g13]
         refine b04 ?_
         refine b0e fun K hK => ?_
         simp only [go_sem, s7, s9, Q6, Q5]
         refine hK _ _ ?_
         clear hK K
         refine b0x fun K41 hK41 => ?_
         simp only [go_sem]
         refine b0u (fun hc42 => ?_) (fun hc42 => ?_)
         ·rw [b1b hc42] at hm2
          simp only [b07, b0m, b0n]
          refine hK41 _ _ ?_
          refine b0x fun K43 hK43 => ?_
          simp only [b1c]
          refine b04 ?_
          obtain ⟨x45, h_x45, hm2⟩ := b0j hm2
          have h_x450 := b06 h_x45
          have h_x451 := b09 h_x45
          refine b2t (fun t h => t 1 = .fp [.fs 5 (List.map b0q h_.Combs), .fs 3 (List.map b0p h_.Trains), .fs 3 (List.map b0o h_.Shifts), I h_.Until] 0 ∧ t 3 = I (List.length h_.Combs : Int) ∧ t 6 = I i_6 ∧ t 7 = .rp i7 0 0 ∧ t 9 = I k_9 ∧ t 132 = B ((!(b2y x45.Comb (wr (last_8 + 1)) (wr ((List.length h_.Combs : Int) - 1)))) || (!(b4v x45.People 0 1000))) ∧ h.ob i7 = some (3, [[I x36.At.Low, I x36.At.High, .fs 3 (List.map b21 x36.Crowds)]]) ∧ i7 < h.nx) (fun K hK => ?_) ?_
          ·simp only [go_sem, s3, s7, s8, s9, Q6, Q5, b0v h_x45, b0w h_x45, h_x450, h_x451]
           refine b1u (b44 x45.Comb (wr (last_8 + 1)) (wr ((List.length h_.Combs : Int) - 1))) ?_
           simp only [go_sem, s3, s7, s8, s9, Q6, Q5, b0v h_x45, b0w h_x45, h_x450, h_x451]
           refine b0u (fun hg46 => ?_) (fun hg46 => ?_)
           ·simp only [go_sem, s3, s7, s8, s9, Q6, Q5, b0v h_x45, b0w h_x45, h_x450, h_x451, hg46]
            exact hK _ _ ⟨s1, s3, s6, s7, s9, (by first | (simp only [go_sem, hg46, lA9, mA9]; done) | rfl), Q6, Q5⟩
           ·simp only [go_sem, s3, s7, s8, s9, Q6, Q5, b0v h_x45, b0w h_x45, h_x450, h_x451, hg46]
            refine b1u (c1a x45.People 0 1000) ?_
            simp only [go_sem, s3, s7, s8, s9, Q6, Q5, b0v h_x45, b0w h_x45, h_x450, h_x451, hg46]
            exact hK _ _ ⟨s1, s3, s6, s7, s9, (by first | (simp only [go_sem, hg46, lA9, mA9]; done) | rfl), Q6, Q5⟩
          ·rintro t h ⟨s1, s3, s6, s7, s9, s132, Q6, Q5⟩
           refine b0x fun K47 hK47 => ?_
           simp only [go_sem, s132]
           refine b0u (fun hc48 => ?_) (fun hc48 => ?_)
           ·rw [b1b hc48] at hm2
            refine b0e fun K hK => ?_
            simp only [go_sem, Q5]
            refine hK _ _ ?_
            clear hK K
            simp only [b1k, b1m, b1l, b1n]
            obtain rfl := sI9 hm2
            obtain rfl := hb40 _ rfl
            try dsimp only at hm1
            obtain rfl := sI9 hm1
            obtain rfl := hb30 _ rfl
            try dsimp only at hm0
            obtain rfl := sI9 hm0
            exact b2h (by simp only [go_sem, Q6, Q5, lA9, mA9]) (b0k _)
           ·rw [b1a hc48] at hm2
            simp only [b07, b0m, b0n]
            refine hK47 _ _ ?_
            refine b1o fun K hK => ?_
            simp only [go_sem, s7, s9, Q6, Q5, b0v h_x45, b0w h_x45, h_x450, h_x451]
            refine hK _ _ ?_
            clear hK K
            simp only [b0m, b0n]
            refine hK43 _ _ ?_
            refine b1o fun K hK => ?_
            simp only [go_sem, s9, Q5]
            refine hK _ _ ?_
            clear hK K
            simp only [b0m, b0n]
            obtain rfl := sI9 hm2
            refine ⟨_, rfl, ?_⟩
            exact ⟨s1, s3, s6, s7, (by first | (simp only [go_sem, lA9, mA9]; done) | rfl), (by first | (simp only [go_sem, s9, lA9, mA9]; done) | rfl), Q6, Q5⟩
         ·rw [b1a hc42] at hm2
          simp only [b1z, b2a, b19, b11, b0m, b0n, Nat.reduceEqDiff, nF9]
          obtain rfl := sI9 hm2
          obtain rfl := hb40 _ rfl
          try dsimp only at hm1
          exact J34  _ _ s1 s3 s6 hm1
     ·rw [b1a hc32] at hm1
      simp only [b1z, b2a, b19, b11, b0m, b0n, Nat.reduceEqDiff, nF9]
      obtain rfl := sI9 hm1
      obtain rfl := hb30 _ rfl
      try dsimp only at hm0
      exact J9  _ _ s1 s3 hm0
   simp only [b1c]
   obtain ⟨b51, hl51, hm0⟩ := b0j hm0
   refine b2b hl51 (fun | i_4, t, h => t 1 = .fp [.fs 5 (List.map b0q h_.Combs), .fs 3 (List.map b0p h_.Trains), .fs 3 (List.map b0o h_.Shifts), I h_.Until] 0 ∧ t 3 = I (List.length h_.Combs : Int) ∧ t 4 = I i_4) ?_ ?_
   ·exact ⟨s1, (by first | (simp only [go_sem, lA9, mA9]; done) | rfl), (by first | (simp only [go_sem, lA9, mA9]; done) | rfl)⟩
   ·rintro i_4 o t h ⟨s1, s3, s4⟩ hm1 hb51
    simp only [c1u] at hm1
    rw [g12]
    refine b04 ?_
    refine b0e fun K hK => ?_
    simp only [go_sem, s3, s4]
    refine hK _ _ ?_
    clear hK K
    refine b0x fun K52 hK52 => ?_
    simp only [go_sem]
    refine b0u (fun hc53 => ?_) (fun hc53 => ?_)
    ·rw [b1b hc53] at hm1
     simp only [b07, b0m, b0n]
     refine hK52 _ _ ?_
     refine b0x fun K54 hK54 => ?_
     simp only [b1c]
     obtain ⟨x56, h_x56, hm1⟩ := b0j hm1
     have h_x560 := b06 h_x56
     have h_x561 := b09 h_x56
     refine b0e fun K hK => ?_
     simp only [go_sem, s1, s4, b0v h_x56, b0w h_x56, h_x560, h_x561]
     refine hK _ _ ?_
     clear hK K
     refine b2t (fun t h => t 1 = .fp [.fs 5 (List.map b0q h_.Combs), .fs 3 (List.map b0p h_.Trains), .fs 3 (List.map b0o h_.Shifts), I h_.Until] 0 ∧ t 3 = I (List.length h_.Combs : Int) ∧ t 4 = I i_4 ∧ t 78 = B ((((!(b2y x56.Rate 0 1000)) || (!(b2y x56.Limit 0 100000))) || ((decide (¬x56.Next = (-1))) && (!(b2y x56.Next (wr (i_4 + 1)) (wr ((List.length h_.Combs : Int) - 1)))))) || (!(b4v x56.Walk 1 20)))) (fun K hK => ?_) ?_
     ·simp only [go_sem, s3, s4]
      refine b1u (b44 x56.Rate 0 1000) ?_
      simp only [go_sem, s3, s4]
      refine b0u (fun hg57 => ?_) (fun hg57 => ?_)
      ·simp only [go_sem, s3, s4, hg57]
       exact hK _ _ ⟨s1, s3, s4, (by first | (simp only [go_sem, hg57, lA9, mA9]; done) | rfl)⟩
      ·simp only [go_sem, s3, s4, hg57]
       refine b1u (b44 x56.Limit 0 100000) ?_
       simp only [go_sem, s3, s4, hg57]
       refine b0u (fun hg58 => ?_) (fun hg58 => ?_)
       ·simp only [go_sem, s3, s4, hg57, hg58]
        exact hK _ _ ⟨s1, s3, s4, (by first | (simp only [go_sem, hg57, hg58, lA9, mA9]; done) | rfl)⟩
       ·simp only [go_sem, s3, s4, hg57, hg58]
        refine b0u (fun hg59 => ?_) (fun hg59 => ?_)
        ·simp only [go_sem, s3, s4, hg57, hg58, hg59]
         refine b1u (b44 x56.Next (wr (i_4 + 1)) (wr ((List.length h_.Combs : Int) - 1))) ?_
         simp only [go_sem, s3, s4, hg57, hg58, hg59]
         refine b0u (fun hg60 => ?_) (fun hg60 => ?_)
         ·simp only [go_sem, s3, s4, hg57, hg58, hg59, hg60]
          exact hK _ _ ⟨s1, s3, s4, (by first | (simp only [go_sem, hg57, hg58, hg59, hg60, lA9, mA9]; done) | rfl)⟩
         ·simp only [go_sem, s3, s4, hg57, hg58, hg59, hg60]
          refine b1u (c1a x56.Walk 1 20) ?_
          simp only [go_sem, s3, s4, hg57, hg58, hg59, hg60]
          exact hK _ _ ⟨s1, s3, s4, (by first | (simp only [go_sem, hg57, hg58, hg59, hg60, lA9, mA9]; done) | rfl)⟩
        ·simp only [go_sem, s3, s4, hg57, hg58, hg59]
         refine b1u (c1a x56.Walk 1 20) ?_
         simp only [go_sem, s3, s4, hg57, hg58, hg59]
         exact hK _ _ ⟨s1, s3, s4, (by first | (simp only [go_sem, hg57, hg58, hg59, lA9, mA9]; done) | rfl)⟩
     ·rintro t h ⟨s1, s3, s4, s78⟩
      simp only [go_sem, s78]
      refine b0u (fun hc61 => ?_) (fun hc61 => ?_)
      ·rw [b1b hc61] at hm1
       refine b0e fun K hK => ?_
       simp only [go_sem]
       refine hK _ _ ?_
       clear hK K
       simp only [b1k, b1m, b1l, b1n]
       obtain rfl := sI9 hm1
       obtain rfl := hb51 _ rfl
       try dsimp only at hm0
       obtain rfl := sI9 hm0
       exact b2h (by simp only [go_sem, lA9, mA9]) (b0k _)
      ·rw [b1a hc61] at hm1
       simp only [b07, b0m, b0n]
       refine hK54 _ _ ?_
       refine b1o fun K hK => ?_
       simp only [go_sem, s4]
       refine hK _ _ ?_
       clear hK K
       simp only [b0m, b0n]
       obtain rfl := sI9 hm1
       refine ⟨_, rfl, ?_⟩
       exact ⟨s1, s3, (by first | (simp only [go_sem, s4, lA9, mA9]; done) | rfl)⟩
    ·rw [b1a hc53] at hm1
     simp only [b1z, b2a, b19, b11, b0m, b0n, Nat.reduceEqDiff, nF9]
     obtain rfl := sI9 hm1
     obtain rfl := hb51 _ rfl
     try dsimp only at hm0
     exact J7  _ _ s1 s3 hm0
theorem d1g (hf : Has O "newel/newelref06.Guard" x_r06_Guard) (c3r : c40 O) (c3s : c41 O) (b44 : c2e O) (d1i : c8i O) (d1j : c8k O) : c8g O := by
 intro h_ c from_ r hm0
 unfold b6y at hm0
 refine b2u hf rfl (b0f (.agg _ (b0f (b0y fun a _ => b2n a) (b0f (b0y fun a _ => b2m a) (b0f (b0y fun a _ => b2q a) (b0f (b0k _) b03))))) (b0f (b0k _) (b0f (b0k _) b03))) (.tup _ (b0f (b0k _) (b0f (b0k _) b03))) ?_
 refine b2p (fun t h => t 0 = .agg [.fs 5 (List.map b0q h_.Combs), .fs 3 (List.map b0p h_.Trains), .fs 3 (List.map b0o h_.Shifts), I h_.Until] ∧ t 1 = I c ∧ t 2 = I from_) ⟨rfl, rfl, rfl⟩ fun t h ⟨s0, s1, s2⟩ => ?_
 simp only [x_r06_Guard]
 refine b0e fun K hK => ?_
 simp only [go_sem, s0]
 refine hK _ _ ?_
 clear hK K
 refine b04 ?_
 obtain ⟨y2, h_y2, hm0⟩ := b0j hm0
 refine b0e fun K hK => ?_
 simp only [go_sem]
 refine b1u (c3r h_ _ h_y2) ?_
 simp only [go_sem]
 refine hK _ _ ?_
 clear hK K
 refine b0x fun K3 hK3 => ?_
 simp only [go_sem]
 refine b0u (fun hc4 => ?_) (fun hc4 => ?_)
 ·rw [b1b hc4] at hm0
  refine b0e fun K hK => ?_
  simp only [go_sem]
  refine hK _ _ ?_
  clear hK K
  simp only [b1k, b1m, b1l, b1n]
  obtain rfl := sI9 hm0
  exact b4r (by simp only [go_sem, lA9, mA9]) (by simp only [go_sem, lA9, mA9]) (b0k _) (b0k _)
 ·rw [b1a hc4] at hm0
  simp only [b07, b0m, b0n]
  refine hK3 _ _ ?_
  refine b04 ?_
  refine b2t (fun t h => t 1 = I c ∧ t 2 = I from_ ∧ t 3 = .fp [.fs 5 (List.map b0q h_.Combs), .fs 3 (List.map b0p h_.Trains), .fs 3 (List.map b0o h_.Shifts), I h_.Until] 0 ∧ t 23 = B ((!(b7h h_ c)) || (!(b2y from_ 0 (wr (h_.Until - 1)))))) (fun K hK => ?_) ?_
  ·simp only [go_sem, s1, s2]
   refine b1u (c3s h_ c) ?_
   simp only [go_sem, s1, s2]
   refine b0u (fun hg5 => ?_) (fun hg5 => ?_)
   ·simp only [go_sem, s1, s2, hg5]
    exact hK _ _ ⟨s1, s2, (by first | (simp only [go_sem, hg5, lA9, mA9]; done) | rfl), (by first | (simp only [go_sem, hg5, lA9, mA9]; done) | rfl)⟩
   ·simp only [go_sem, s1, s2, hg5]
    refine b1u (b44 from_ 0 (wr (h_.Until - 1))) ?_
    simp only [go_sem, s1, s2, hg5]
    exact hK _ _ ⟨s1, s2, (by first | (simp only [go_sem, hg5, lA9, mA9]; done) | rfl), (by first | (simp only [go_sem, hg5, lA9, mA9]; done) | rfl)⟩
  ·rintro t h ⟨s1, s2, s3, s23⟩
   refine b0x fun K6 hK6 => ?_
   simp only [go_sem, s23]
   refine b0u (fun hc7 => ?_) (fun hc7 => ?_)
   ·rw [b1b hc7] at hm0
    refine b0e fun K hK => ?_
    simp only [go_sem]
    refine hK _ _ ?_
    clear hK K
    simp only [b1k, b1m, b1l, b1n]
    obtain rfl := sI9 hm0
    exact b4r (by simp only [go_sem, lA9, mA9]) (by simp only [go_sem, lA9, mA9]) (b0k _) (b0k _)
   ·rw [b1a hc7] at hm0
    simp only [b07, b0m, b0n]
    refine hK6 _ _ ?_
    refine b04 ?_
    refine b0e fun K hK => ?_
    simp only [go_sem]
    refine hK _ _ ?_
    clear hK K
    refine b0x fun K8 hK8 => ?_
    have J9 : ∀ (t : Slots) (h : Heap), c7e = some r → K8 t h := by
     intro t h hm0
     refine hK8 _ _ ?_
     unfold c7e at hm0
     refine b0e fun K hK => ?_
     simp only [go_sem]
     refine hK _ _ ?_
     clear hK K
     simp only [b1k, b1m, b1l, b1n]
     obtain rfl := sI9 hm0
     exact b4r (by simp only [go_sem, lA9, mA9]) (by simp only [go_sem, lA9, mA9]) (b0k _) (b0k _)
    simp only [b1c]
    obtain ⟨b10, hl10, hm0⟩ := b0j hm0
    refine b2b hl10 (fun | ticks_8, t, h => t 1 = I c ∧ t 2 = I from_ ∧ t 3 = .fp [.fs 5 (List.map b0q h_.Combs), .fs 3 (List.map b0p h_.Trains), .fs 3 (List.map b0o h_.Shifts), I h_.Until] 0 ∧ t 8 = I ticks_8) ?_ ?_
    ·exact ⟨s1, s2, s3, (by first | (simp only [go_sem, lA9, mA9]; done) | rfl)⟩
    ·rintro ticks_8 o t h ⟨s1, s2, s3, s8⟩ hm1 hb10
     simp only [b9p] at hm1
     rw [g16]
     refine b04 ?_
     refine b0e fun K hK => ?_
     simp only [go_sem, s2, s3, s8]
     refine hK _ _ ?_
     clear hK K
     refine b0x fun K11 hK11 => ?_
     simp only [go_sem]
     refine b0u (fun hc12 => ?_) (fun hc12 => ?_)
     ·rw [b1b hc12] at hm1
      simp only [b07, b0m, b0n]
      refine hK11 _ _ ?_
      refine b0x fun K13 hK13 => ?_
      simp only [b1c]
      obtain ⟨y16, h_y16, hm1⟩ := b0j hm1
      obtain ⟨y17, h_y17, hm1⟩ := b0j hm1
      refine b0e fun K hK => ?_
      simp only [go_sem, s1, s2, s3, s8]
      refine b1u (d1i h_ c from_ ticks_8 _ h_y16) ?_
      simp only [go_sem, s1, s2, s3, s8]
      refine b1u (d1j y16 _ h_y17) ?_
      simp only [go_sem, s1, s2, s3, s8]
      refine hK _ _ ?_
      clear hK K
      simp only [go_sem]
      refine b0u (fun hc18 => ?_) (fun hc18 => ?_)
      ·rw [b1b hc18] at hm1
       refine b0e fun K hK => ?_
       simp only [go_sem, s8]
       refine hK _ _ ?_
       clear hK K
       simp only [b1k, b1m, b1l, b1n]
       obtain rfl := sI9 hm1
       obtain rfl := hb10 _ rfl
       try dsimp only at hm0
       obtain rfl := sI9 hm0
       exact b4r (by simp only [go_sem, lA9, mA9]) (by simp only [go_sem, lA9, mA9]) (b0k _) (b0k _)
      ·rw [b1a hc18] at hm1
       simp only [b07, b0m, b0n]
       refine hK13 _ _ ?_
       refine b1o fun K hK => ?_
       simp only [go_sem, s8]
       refine hK _ _ ?_
       clear hK K
       simp only [b0m, b0n]
       obtain rfl := sI9 hm1
       refine ⟨_, rfl, ?_⟩
       exact ⟨s1, s2, s3, (by first | (simp only [go_sem, s8, lA9, mA9]; done) | rfl)⟩
     ·rw [b1a hc12] at hm1
      simp only [b1z, b2a, b19, b11, b0m, b0n, Nat.reduceEqDiff, nF9]
      obtain rfl := sI9 hm1
      obtain rfl := hb10 _ rfl
      try dsimp only at hm0
      exact J9  _ _  hm0
theorem d1h (hf : Has O "newel/newelref06.Need" x_r06_Need) (c3r : c40 O) (c3s : c41 O) (c6k : c8j O) : c8h O := by
 intro h_ c r hm0
 unfold b6z at hm0
 refine b2u hf rfl (b0f (.agg _ (b0f (b0y fun a _ => b2n a) (b0f (b0y fun a _ => b2m a) (b0f (b0y fun a _ => b2q a) (b0f (b0k _) b03))))) (b0f (b0k _) b03)) (.tup _ (b0f (b0k _) (b0f (b0k _) b03))) ?_
 refine b2p (fun t h => t 0 = .agg [.fs 5 (List.map b0q h_.Combs), .fs 3 (List.map b0p h_.Trains), .fs 3 (List.map b0o h_.Shifts), I h_.Until] ∧ t 1 = I c) ⟨rfl, rfl⟩ fun t h ⟨s0, s1⟩ => ?_
 simp only [x_r06_Need]
 refine b0e fun K hK => ?_
 simp only [go_sem, s0]
 refine hK _ _ ?_
 clear hK K
 refine b04 ?_
 obtain ⟨y2, h_y2, hm0⟩ := b0j hm0
 refine b0e fun K hK => ?_
 simp only [go_sem]
 refine b1u (c3r h_ _ h_y2) ?_
 simp only [go_sem]
 refine hK _ _ ?_
 clear hK K
 refine b0x fun K3 hK3 => ?_
 simp only [go_sem]
 refine b0u (fun hc4 => ?_) (fun hc4 => ?_)
 ·rw [b1b hc4] at hm0
  refine b0e fun K hK => ?_
  simp only [go_sem]
  refine hK _ _ ?_
  clear hK K
  simp only [b1k, b1m, b1l, b1n]
  obtain rfl := sI9 hm0
  exact b4r (by simp only [go_sem, lA9, mA9]) (by simp only [go_sem, lA9, mA9]) (b0k _) (b0k _)
 ·rw [b1a hc4] at hm0
  simp only [b07, b0m, b0n]
  refine hK3 _ _ ?_
  refine b04 ?_
  refine b0e fun K hK => ?_
  simp only [go_sem, s1]
  refine b1u (c3s h_ c) ?_
  simp only [go_sem, s1]
  refine hK _ _ ?_
  clear hK K
  refine b0x fun K5 hK5 => ?_
  simp only [go_sem]
  refine b0u (fun hc6 => ?_) (fun hc6 => ?_)
  ·rw [b1b hc6] at hm0
   refine b0e fun K hK => ?_
   simp only [go_sem]
   refine hK _ _ ?_
   clear hK K
   simp only [b1k, b1m, b1l, b1n]
   obtain rfl := sI9 hm0
   exact b4r (by simp only [go_sem, lA9, mA9]) (by simp only [go_sem, lA9, mA9]) (b0k _) (b0k _)
  ·rw [b1a hc6] at hm0
   simp only [b07, b0m, b0n]
   refine hK5 _ _ ?_
   refine b0e fun K hK => ?_
   simp only [go_sem]
   refine hK _ _ ?_
   clear hK K
   refine b04 ?_
   obtain ⟨y8, h_y8, hm0⟩ := b0j hm0
   refine b0e fun K hK => ?_
   simp only [go_sem, s1]
   refine b1u (c6k h_ c 1000 _ h_y8) ?_
   simp only [go_sem, s1]
   refine hK _ _ ?_
   clear hK K
   refine b0x fun K9 hK9 => ?_
   simp only [go_sem]
   refine b0u (fun hc10 => ?_) (fun hc10 => ?_)
   ·rw [b1b hc10] at hm0
    refine b0e fun K hK => ?_
    simp only [go_sem]
    refine hK _ _ ?_
    clear hK K
    simp only [b1k, b1m, b1l, b1n]
    obtain rfl := sI9 hm0
    exact b4r (by simp only [go_sem, lA9, mA9]) (by simp only [go_sem, lA9, mA9]) (b0k _) (b0k _)
   ·rw [b1a hc10] at hm0
    simp only [b07, b0m, b0n]
    refine hK9 _ _ ?_
    refine b0x fun K11 hK11 => ?_
    have J12 : ∀ (high_7 : Int) (t : Slots) (h : Heap), t 7 = I high_7 → c1x high_7 = some r → K11 t h := by
     intro high_7 t h s7 hm0
     refine hK11 _ _ ?_
     unfold c1x at hm0
     refine b0e fun K hK => ?_
     simp only [go_sem, s7]
     refine hK _ _ ?_
     clear hK K
     simp only [b1k, b1m, b1l, b1n]
     obtain rfl := sI9 hm0
     exact b4r (by simp only [go_sem, lA9, mA9]) (by simp only [go_sem, lA9, mA9]) (b0k _) (b0k _)
    simp only [b1c]
    obtain ⟨b13, hl13, hm0⟩ := b0j hm0
    refine b2b hl13 (fun | (low_6, high_7), t, h => t 1 = I c ∧ t 2 = .fp [.fs 5 (List.map b0q h_.Combs), .fs 3 (List.map b0p h_.Trains), .fs 3 (List.map b0o h_.Shifts), I h_.Until] 0 ∧ t 6 = I low_6 ∧ t 7 = I high_7) ?_ ?_
    ·exact ⟨s1, (by first | (simp only [go_sem, lA9, mA9]; done) | rfl), (by first | (simp only [go_sem, lA9, mA9]; done) | rfl), (by first | (simp only [go_sem, lA9, mA9]; done) | rfl)⟩
    ·rintro ⟨low_6, high_7⟩ o t h ⟨s1, s2, s6, s7⟩ hm1 hb13
     simp only [b60] at hm1
     rw [g17]
     refine b04 ?_
     refine b0e fun K hK => ?_
     simp only [go_sem, s6, s7]
     refine hK _ _ ?_
     clear hK K
     refine b0x fun K14 hK14 => ?_
     simp only [go_sem]
     refine b0u (fun hc15 => ?_) (fun hc15 => ?_)
     ·rw [b1b hc15] at hm1
      simp only [b07, b0m, b0n]
      refine hK14 _ _ ?_
      simp only [b1c]
      obtain ⟨q17, h_q17, hm1⟩ := b0j hm1
      refine b0e fun K hK => ?_
      simp only [go_sem, s6, s7, d6w h_q17]
      refine hK _ _ ?_
      clear hK K
      obtain ⟨y19, h_y19, hm1⟩ := b0j hm1
      refine b0e fun K hK => ?_
      simp only [go_sem, s1, s2]
      refine b1u (c6k h_ c q17 _ h_y19) ?_
      simp only [go_sem, s1, s2]
      refine hK _ _ ?_
      clear hK K
      simp only [go_sem]
      refine b0u (fun hc20 => ?_) (fun hc20 => ?_)
      ·rw [b1b hc20] at hm1
       refine b1o fun K hK => ?_
       simp only [go_sem]
       refine hK _ _ ?_
       clear hK K
       simp only [b0m, b0n]
       obtain rfl := sI9 hm1
       refine ⟨_, rfl, ?_⟩
       exact ⟨s1, s2, s6, (by first | (simp only [go_sem, s7, lA9, mA9]; done) | rfl)⟩
      ·rw [b1a hc20] at hm1
       refine b1o fun K hK => ?_
       simp only [go_sem]
       refine hK _ _ ?_
       clear hK K
       simp only [b0m, b0n]
       obtain rfl := sI9 hm1
       refine ⟨_, rfl, ?_⟩
       exact ⟨s1, s2, (by first | (simp only [go_sem, s6, lA9, mA9]; done) | rfl), s7⟩
     ·rw [b1a hc15] at hm1
      simp only [b1z, b2a, b19, b11, b0m, b0n, Nat.reduceEqDiff, nF9]
      obtain rfl := sI9 hm1
      obtain rfl := hb13 _ rfl
      try dsimp only at hm0
      exact J12 high_7 _ _ s7 hm0
theorem d1i (hf : Has O "newel/newelref06.Shut" x_r06_Shut) (c3t : c42 O) : c8i O := by
 intro h_ c from_ ticks r hm0
 unfold b9q at hm0
 refine b2u hf rfl (b0f (.agg _ (b0f (b0y fun a _ => b2n a) (b0f (b0y fun a _ => b2m a) (b0f (b0y fun a _ => b2q a) (b0f (b0k _) b03))))) (b0f (b0k _) (b0f (b0k _) (b0f (b0k _) b03)))) (.agg _ (b0f (b0y fun a _ => b2n a) (b0f (b0y fun a _ => b2m a) (b0f (b0y fun a _ => b2q a) (b0f (b0k _) b03))))) ?_
 refine b2p (fun t h => t 0 = .agg [.fs 5 (List.map b0q h_.Combs), .fs 3 (List.map b0p h_.Trains), .fs 3 (List.map b0o h_.Shifts), I h_.Until] ∧ t 1 = I c ∧ t 2 = I from_ ∧ t 3 = I ticks) ⟨rfl, rfl, rfl, rfl⟩ fun t h ⟨s0, s1, s2, s3⟩ => ?_
 simp only [x_r06_Shut]
 refine b0e fun K hK => ?_
 simp only [go_sem, s0]
 refine hK _ _ ?_
 clear hK K
 refine b04 ?_
 refine b0e fun K hK => ?_
 simp only [go_sem, s3]
 refine hK _ _ ?_
 clear hK K
 refine b0x fun K1 hK1 => ?_
 simp only [go_sem]
 refine b0u (fun hc2 => ?_) (fun hc2 => ?_)
 ·rw [b1b hc2] at hm0
  refine b0e fun K hK => ?_
  simp only [go_sem]
  refine hK _ _ ?_
  clear hK K
  simp only [b1k, b1m, b1l, b1n]
  obtain rfl := sI9 hm0
  exact c2v (id := h.nx) (m := 4) (cs := [.fs 5 (List.map b0q h_.Combs), .fs 3 (List.map b0p h_.Trains), .fs 3 (List.map b0o h_.Shifts), I h_.Until]) (by simp only [go_sem, lA9, mA9]) (by simp only [go_sem, lA9, mA9]) rfl (.refl _ (.agg _ (b0f (b0y fun a _ => b2n a) (b0f (b0y fun a _ => b2m a) (b0f (b0y fun a _ => b2q a) (b0f (b0k _) b03))))))
 ·rw [b1a hc2] at hm0
  simp only [b07, b0m, b0n]
  refine hK1 _ _ ?_
  obtain ⟨y4, h_y4, hm0⟩ := b0j hm0
  refine b0e fun K hK => ?_
  simp only [go_sem, s1]
  refine b1u (c3t h_ c _ h_y4) ?_
  simp only [go_sem, s1]
  refine hK _ _ ?_
  clear hK K
  refine b0e fun K hK => ?_
  simp only [go_sem, s2, s3]
  refine hK _ _ ?_
  clear hK K
  refine b0e fun K hK => ?_
  simp only [go_sem]
  refine hK _ _ ?_
  clear hK K
  refine b04 ?_
  refine b0e fun K hK => ?_
  simp only [go_sem]
  refine hK _ _ ?_
  clear hK K
  refine b0x fun K5 hK5 => ?_
  have J6 : ∀ (l_11 : List Shift) (i8 : Nat) (v11 : AV) (t : Slots) (h : Heap), t 1 = I c → t 2 = I from_ → t 4 = .fp [.fs 5 (List.map b0q h_.Combs), .fs 3 (List.map b0p h_.Trains), .fs 3 (List.map b0o h_.Shifts), I h_.Until] 0 → t 8 = .rp i8 0 0 → t 9 = .fs 1 (List.map eI y4) → t 10 = I (wr (from_ + ticks)) → t 11 = v11 → h.ob i8 = some (4, [[.v (.slice none 0 0), .v (.slice none 0 0), .v (.slice none 0 0), I 0]]) → i8 < h.nx → b0l h v11 3 (List.map b0o l_11) → b0a v11 i8 → c7g h_ c from_ ticks y4 l_11 = some r → K5 t h := by
   intro l_11 i8 v11 t h s1 s2 s4 s8 s9 s10 s11 Q3 Q0 Qf Qb hm0
   refine hK5 _ _ ?_
   unfold c7g at hm0
   obtain ⟨l8, h_l8, hm0⟩ := b0j hm0
   refine b0e fun K hK => ?_
   simp only [go_sem, s1, s2, s11, Q0, Qb, b0b v11]
   refine b4b (f := b0o) (l := l_11) (m := ([(Shift.mk from_ c 0)])) ?_ ?_ ?_ ?_ h_l8 ?_
   ·exact (b1j Qf (by intro j hj hl; first | rfl | simp only [go_sem, hl, b1g hj Qb]) (by first | omega | exact Nat.le_refl _ | (simp only [go_sem, nxs] <;> omega)))
   ·exact (b4l (by simp only [go_sem, Q3, Q0, b0r Qf, Qb, lA9, mA9]) (by simp only [go_sem, Q3, Q0, b0r Qf, Qb, lA9, mA9]))
   ·exact (b2v (by first | exact b1d | exact b1e (by first | omega | (simp only [nxs] <;> omega)) | assumption | exact b0z (by assumption) (by first | omega | (simp only [go_sem, nxs] <;> omega))))
   ·exact (fun _ => by simp)
   simp only [go_sem, s1, s2, s11, Q0, Qb, b0b v11]
   refine hK _ _ ?_
   clear hK K
   refine b04 ?_
   refine b0e fun K hK => ?_
   simp only [go_sem, Q0, b0b v11]
   refine hK _ _ ?_
   clear hK K
   refine b0x fun K9 hK9 => ?_
   have J10 : ∀ (l_11_1 : List Shift) (i11 : Nat) (t : Slots) (h : Heap), t 1 = I c → t 4 = .fp [.fs 5 (List.map b0q h_.Combs), .fs 3 (List.map b0p h_.Trains), .fs 3 (List.map b0o h_.Shifts), I h_.Until] 0 → t 8 = .rp i8 0 0 → t 9 = .fs 1 (List.map eI y4) → t 10 = I (wr (from_ + ticks)) → t 11 = .rs i11 0 (List.length l_11_1) → h.ob i8 = some (4, [[.v (.slice none 0 0), .v (.slice none 0 0), .v (.slice none 0 0), I 0]]) → i8 < h.nx → h.ob i11 = some (3, List.map b0o l_11_1) → i11 < h.nx → ¬i8 = i11 → c7f h_ c from_ ticks y4 l_11_1 = some r → K9 t h := by
    try clear s1 s2 s4 s8 s9 s10 s11 Q3 Q0 Qf Qb
    intro l_11_1 i11 t h s1 s4 s8 s9 s10 s11 Q3 Q0 Q4 Q1 Q2 hm0
    refine hK9 _ _ ?_
    unfold c7f at hm0
    refine b04 ?_
    refine b0e fun K hK => ?_
    simp only [go_sem, s4, s10, Q0, Q1, b0b v11]
    refine hK _ _ ?_
    clear hK K
    refine b0x fun K11 hK11 => ?_
    have J12 : ∀ (l_11_2 : List Shift) (i11_1 : Nat) (t : Slots) (h : Heap), t 4 = .fp [.fs 5 (List.map b0q h_.Combs), .fs 3 (List.map b0p h_.Trains), .fs 3 (List.map b0o h_.Shifts), I h_.Until] 0 → t 8 = .rp i8 0 0 → t 10 = I (wr (from_ + ticks)) → t 11 = .rs i11_1 0 (List.length l_11_2) → h.ob i8 = some (4, [[.v (.slice none 0 0), .v (.slice none 0 0), .v (.slice none 0 0), I 0]]) → i8 < h.nx → h.ob i11_1 = some (3, List.map b0o l_11_2) → i11_1 < h.nx → ¬i8 = i11_1 → c1z h_ from_ ticks l_11_2 = some r → K11 t h := by
     try clear s1 s4 s8 s9 s10 s11 Q3 Q0 Q4 Q1 Q2
     intro l_11_2 i11_1 t h s4 s8 s10 s11 Q3 Q0 Q4 Q1 Q2 hm0
     refine hK11 _ _ ?_
     unfold c1z at hm0
     refine b04 ?_
     refine b0e fun K hK => ?_
     simp only [go_sem, Q0, Q1, b0b v11]
     refine hK _ _ ?_
     clear hK K
     refine b0x fun K13 hK13 => ?_
     have J14 : ∀ (l_11_3 : List Shift) (i11_2 : Nat) (t : Slots) (h : Heap), t 4 = .fp [.fs 5 (List.map b0q h_.Combs), .fs 3 (List.map b0p h_.Trains), .fs 3 (List.map b0o h_.Shifts), I h_.Until] 0 → t 8 = .rp i8 0 0 → t 11 = .rs i11_2 0 (List.length l_11_3) → h.ob i8 = some (4, [[.v (.slice none 0 0), .v (.slice none 0 0), .v (.slice none 0 0), I 0]]) → i8 < h.nx → h.ob i11_2 = some (3, List.map b0o l_11_3) → i11_2 < h.nx → ¬i8 = i11_2 → d2d h_ l_11_3 = some r → K13 t h := by
      try clear s4 s8 s10 s11 Q3 Q0 Q4 Q1 Q2
      intro l_11_3 i11_2 t h s4 s8 s11 Q3 Q0 Q4 Q1 Q2 hm0
      refine hK13 _ _ ?_
      unfold d2d at hm0
      refine b0e fun K hK => ?_
      simp only [go_sem, s4, Q0, Q1, b0b v11]
      refine hK _ _ ?_
      clear hK K
      refine b0e fun K hK => ?_
      simp only [go_sem, s11, Q4, Q1, Q0, Q2, b0c Q2, b0b v11]
      refine hK _ _ ?_
      clear hK K
      refine b0e fun K hK => ?_
      simp only [go_sem, s8, Q3, Q0, Q4, Q1, Q2, b0c Q2, b0b v11]
      refine hK _ _ ?_
      clear hK K
      simp only [b1k, b1m, b1l, b1n]
      obtain rfl := sI9 hm0
      exact c2v (id := i8) (m := 4) (cs := [.fs 5 (List.map b0q h_.Combs), .fs 3 (List.map b0p h_.Trains), .rs i11_2 0 (List.length l_11_3), I h_.Until]) (by simp only [go_sem, s8, Q3, Q0, Q4, Q1, Q2, b0c Q2, lA9, mA9]) (by simp only [go_sem, s8, Q3, Q0, Q4, Q1, Q2, b0c Q2, lA9, mA9]) rfl (c24 (.cons (.refl _ (b0y fun a _ => b2n a)) (.cons (.refl _ (b0y fun a _ => b2m a)) (.cons (b6u (f := b0o) (l := l_11_3) (id := i11_2) (by simp only [go_sem, Q3, Q0, Q4, Q1, Q2, b0c Q2, lA9, mA9]) (by first | rfl | simp only [go_sem, lA9, mA9]) b2q d8u) (.cons (.refl _ (b0k _)) (.nil))))))
     simp only [b1c]
     obtain ⟨b15, hl15, hm0⟩ := b0j hm0
     refine b2b hl15 (fun | (l_11_3, i_15), t, h => ∃ i11_2 : Nat, t 4 = .fp [.fs 5 (List.map b0q h_.Combs), .fs 3 (List.map b0p h_.Trains), .fs 3 (List.map b0o h_.Shifts), I h_.Until] 0 ∧ t 8 = .rp i8 0 0 ∧ t 10 = I (wr (from_ + ticks)) ∧ t 11 = .rs i11_2 0 (List.length l_11_3) ∧ t 15 = I i_15 ∧ h.ob i8 = some (4, [[.v (.slice none 0 0), .v (.slice none 0 0), .v (.slice none 0 0), I 0]]) ∧ i8 < h.nx ∧ h.ob i11_2 = some (3, List.map b0o l_11_3) ∧ i11_2 < h.nx ∧ ¬i8 = i11_2) ?_ ?_
     ·exact ⟨i11_1, s4, s8, s10, (by first | exact s11 | simp only [go_sem, s11, lA9, mA9]), (by first | (simp only [go_sem, lA9, mA9]; done) | rfl), Q3, Q0, Q4, Q1, Q2⟩
     ·try clear s4 s8 s10 s11 Q3 Q0 Q4 Q1 Q2
      rintro ⟨l_11_3, i_15⟩ o t h ⟨i11_2, s4, s8, s10, s11, s15, Q3, Q0, Q4, Q1, Q2⟩ hm1 hb15
      simp only [c39] at hm1
      rw [g2a]
      refine b04 ?_
      refine b0e fun K hK => ?_
      simp only [go_sem, s4, s15, Q0, Q1, b0b v11]
      refine hK _ _ ?_
      clear hK K
      refine b0x fun K16 hK16 => ?_
      simp only [go_sem]
      refine b0u (fun hc17 => ?_) (fun hc17 => ?_)
      ·rw [b1b hc17] at hm1
       simp only [b07, b0m, b0n]
       refine hK16 _ _ ?_
       refine b0x fun K18 hK18 => ?_
       have J19 : ∀ (l_11_4 : List Shift) (i11_3 : Nat) (t : Slots) (h : Heap), t 4 = .fp [.fs 5 (List.map b0q h_.Combs), .fs 3 (List.map b0p h_.Trains), .fs 3 (List.map b0o h_.Shifts), I h_.Until] 0 → t 8 = .rp i8 0 0 → t 10 = I (wr (from_ + ticks)) → t 11 = .rs i11_3 0 (List.length l_11_4) → t 15 = I i_15 → h.ob i8 = some (4, [[.v (.slice none 0 0), .v (.slice none 0 0), .v (.slice none 0 0), I 0]]) → i8 < h.nx → h.ob i11_3 = some (3, List.map b0o l_11_4) → i11_3 < h.nx → ¬i8 = i11_3 → c11 i_15 l_11_4 = some o → K18 t h := by
        try clear s4 s8 s10 s11 s15 Q3 Q0 Q4 Q1 Q2
        intro l_11_4 i11_3 t h s4 s8 s10 s11 s15 Q3 Q0 Q4 Q1 Q2 hm1
        refine hK18 _ _ ?_
        unfold c11 at hm1
        refine b1o fun K hK => ?_
        simp only [go_sem, s15, Q0, Q1, b0b v11]
        refine hK _ _ ?_
        clear hK K
        simp only [b0m, b0n]
        obtain rfl := sI9 hm1
        refine ⟨_, rfl, ?_⟩
        exact ⟨i11_3, s4, s8, s10, (by first | exact s11 | simp only [go_sem, s11, lA9, mA9]), (by first | (simp only [go_sem, s15, lA9, mA9]; done) | rfl), Q3, Q0, Q4, Q1, Q2⟩
       simp only [b1c]
       obtain ⟨x21, h_x21, hm1⟩ := b0j hm1
       have h_x210 := b06 h_x21
       have h_x211 := b09 h_x21
       refine b0e fun K hK => ?_
       simp only [go_sem, s4, s10, s15, Q0, Q1, b0v h_x21, b0w h_x21, h_x210, h_x211, b0b v11]
       refine hK _ _ ?_
       clear hK K
       simp only [go_sem]
       refine b0u (fun hc22 => ?_) (fun hc22 => ?_)
       ·rw [b1b hc22] at hm1
        obtain ⟨l24, h_l24, hm1⟩ := b0j hm1
        refine b1o fun K hK => ?_
        simp only [go_sem, s4, s11, s15, Q4, Q1, Q0, Q2, b0c Q2, b0v h_x21, b0w h_x21, h_x210, h_x211, b0b v11]
        refine b4b (f := b0o) (l := l_11_3) (m := ([x21])) ?_ ?_ ?_ ?_ h_l24 ?_
        ·exact (b3i (by simp only [go_sem, Q3, Q0, Q4, Q1, Q2, b0c Q2, lA9, mA9]) (by simp only [go_sem, Q3, Q0, Q4, Q1, Q2, b0c Q2, lA9, mA9]) (by simp only [go_sem, Q0, Q1]))
        ·exact (b4l (by simp only [go_sem, Q3, Q0, Q4, Q1, Q2, b0c Q2, lA9, mA9]) (by simp only [go_sem, Q3, Q0, Q4, Q1, Q2, b0c Q2, lA9, mA9]))
        ·exact (b2v (by first | exact b1d | exact b1e (by first | omega | (simp only [nxs] <;> omega)) | assumption | exact b0z (by assumption) (by first | omega | (simp only [go_sem, nxs] <;> omega))))
        ·exact (fun _ => by simp)
        simp only [go_sem, s4, s11, s15, Q4, Q1, Q0, Q2, b0c Q2, b0v h_x21, b0w h_x21, h_x210, h_x211, b0b v11]
        refine hK _ _ ?_
        clear hK K
        simp only [b0m, b0n]
        exact J19 l24 (nxs h.nx) _ _ s4 s8 s10 (by first | (simp only [go_sem, s11, lA9, mA9]; done) | rfl) s15 (by simp only [go_sem, Q3, Q0, Q1, Q2, b0c Q2, lA9, mA9]) (by simp only [go_sem, Q0]) (by simp only [go_sem, Q1, lA9, mA9]) (by simp only [go_sem]) (by first | first | assumption | omega | (simp only [nxs] <;> omega)) hm1
       ·rw [b1a hc22] at hm1
        simp only [b07, b0m, b0n]
        exact J19 l_11_3 i11_2 _ _ s4 s8 s10 (by first | exact s11 | simp only [go_sem, s11, lA9, mA9]) s15 Q3 Q0 Q4 Q1 Q2 hm1
      ·rw [b1a hc17] at hm1
       simp only [b1z, b2a, b19, b11, b0m, b0n, Nat.reduceEqDiff, nF9]
       obtain rfl := sI9 hm1
       obtain rfl := hb15 _ rfl
       try dsimp only at hm0
       exact J14 l_11_3 i11_2 _ _ s4 s8 (by first | exact s11 | simp only [go_sem, s11, lA9, mA9]) Q3 Q0 Q4 Q1 Q2 hm0
    simp only [go_sem]
    refine b0u (fun hc26 => ?_) (fun hc26 => ?_)
    ·rw [b1b hc26] at hm0
     obtain ⟨x29, h_x29, hm0⟩ := b0j hm0
     have h_x290 := b06 h_x29
     have h_x291 := b09 h_x29
     obtain ⟨l30, h_l30, hm0⟩ := b0j hm0
     refine b1o fun K hK => ?_
     simp only [go_sem, s1, s9, s10, s11, Q4, Q1, Q0, Q2, b0c Q2, b0v h_x29, b0w h_x29, h_x290, h_x291, b0b v11]
     refine b4b (f := b0o) (l := l_11_1) (m := ([(Shift.mk (wr (from_ + ticks)) c x29)])) ?_ ?_ ?_ ?_ h_l30 ?_
     ·exact (b3i (by simp only [go_sem, Q3, Q0, Q4, Q1, Q2, b0c Q2, lA9, mA9]) (by simp only [go_sem, Q3, Q0, Q4, Q1, Q2, b0c Q2, lA9, mA9]) (by simp only [go_sem, Q0, Q1]))
     ·exact (b4l (by simp only [go_sem, Q3, Q0, Q4, Q1, Q2, b0c Q2, lA9, mA9]) (by simp only [go_sem, Q3, Q0, Q4, Q1, Q2, b0c Q2, lA9, mA9]))
     ·exact (b2v (by first | exact b1d | exact b1e (by first | omega | (simp only [nxs] <;> omega)) | assumption | exact b0z (by assumption) (by first | omega | (simp only [go_sem, nxs] <;> omega))))
     ·exact (fun _ => by simp)
     simp only [go_sem, s1, s9, s10, s11, Q4, Q1, Q0, Q2, b0c Q2, b0v h_x29, b0w h_x29, h_x290, h_x291, b0b v11]
     refine hK _ _ ?_
     clear hK K
     simp only [b0m, b0n]
     exact J12 l30 (nxs h.nx) _ _ s4 s8 s10 (by first | (simp only [go_sem, s11, lA9, mA9]; done) | rfl) (by simp only [go_sem, Q3, Q0, Q1, Q2, b0c Q2, lA9, mA9]) (by simp only [go_sem, Q0]) (by simp only [go_sem, Q1, lA9, mA9]) (by simp only [go_sem]) (by first | first | assumption | omega | (simp only [nxs] <;> omega)) hm0
    ·rw [b1a hc26] at hm0
     simp only [b07, b0m, b0n]
     exact J12 l_11_1 i11 _ _ s4 s8 s10 (by first | exact s11 | simp only [go_sem, s11, lA9, mA9]) Q3 Q0 Q4 Q1 Q2 hm0
   simp only [b1c]
   obtain ⟨b31, hl31, hm0⟩ := b0j hm0
   refine b2b hl31 (fun | (l_11_1, i_13), t, h => ∃ i11 : Nat, t 1 = I c ∧ t 2 = I from_ ∧ t 4 = .fp [.fs 5 (List.map b0q h_.Combs), .fs 3 (List.map b0p h_.Trains), .fs 3 (List.map b0o h_.Shifts), I h_.Until] 0 ∧ t 8 = .rp i8 0 0 ∧ t 9 = .fs 1 (List.map eI y4) ∧ t 10 = I (wr (from_ + ticks)) ∧ t 11 = .rs i11 0 (List.length l_11_1) ∧ t 13 = I i_13 ∧ h.ob i8 = some (4, [[.v (.slice none 0 0), .v (.slice none 0 0), .v (.slice none 0 0), I 0]]) ∧ i8 < h.nx ∧ h.ob i11 = some (3, List.map b0o l_11_1) ∧ i11 < h.nx ∧ ¬i8 = i11) ?_ ?_
   ·exact ⟨(nxs h.nx), s1, s2, s4, s8, s9, s10, (by first | (simp only [go_sem, s11, lA9, mA9]; done) | rfl), (by first | (simp only [go_sem, lA9, mA9]; done) | rfl), (by simp only [go_sem, Q3, Q0, b0r Qf, Qb, lA9, mA9]), (by simp only [go_sem, Q0]), (by simp only [go_sem, b0r Qf, lA9, mA9]), (by simp only [go_sem]), (by first | first | assumption | omega | (simp only [nxs] <;> omega))⟩
   ·try clear s1 s2 s4 s8 s9 s10 s11 Q3 Q0 Qf Qb
    rintro ⟨l_11_1, i_13⟩ o t h ⟨i11, s1, s2, s4, s8, s9, s10, s11, s13, Q3, Q0, Q4, Q1, Q2⟩ hm1 hb31
    simp only [c1y] at hm1
    rw [g19]
    refine b04 ?_
    refine b0e fun K hK => ?_
    simp only [go_sem, s4, s13, Q0, Q1, b0b v11]
    refine hK _ _ ?_
    clear hK K
    refine b0x fun K32 hK32 => ?_
    simp only [go_sem]
    refine b0u (fun hc33 => ?_) (fun hc33 => ?_)
    ·rw [b1b hc33] at hm1
     simp only [b07, b0m, b0n]
     refine hK32 _ _ ?_
     refine b0x fun K34 hK34 => ?_
     have J35 : ∀ (l_11_2 : List Shift) (i11_1 : Nat) (t : Slots) (h : Heap), t 1 = I c → t 2 = I from_ → t 4 = .fp [.fs 5 (List.map b0q h_.Combs), .fs 3 (List.map b0p h_.Trains), .fs 3 (List.map b0o h_.Shifts), I h_.Until] 0 → t 8 = .rp i8 0 0 → t 9 = .fs 1 (List.map eI y4) → t 10 = I (wr (from_ + ticks)) → t 11 = .rs i11_1 0 (List.length l_11_2) → t 13 = I i_13 → h.ob i8 = some (4, [[.v (.slice none 0 0), .v (.slice none 0 0), .v (.slice none 0 0), I 0]]) → i8 < h.nx → h.ob i11_1 = some (3, List.map b0o l_11_2) → i11_1 < h.nx → ¬i8 = i11_1 → c12 i_13 l_11_2 = some o → K34 t h := by
      try clear s1 s2 s4 s8 s9 s10 s11 s13 Q3 Q0 Q4 Q1 Q2
      intro l_11_2 i11_1 t h s1 s2 s4 s8 s9 s10 s11 s13 Q3 Q0 Q4 Q1 Q2 hm1
      refine hK34 _ _ ?_
      unfold c12 at hm1
      refine b1o fun K hK => ?_
      simp only [go_sem, s13, Q0, Q1, b0b v11]
      refine hK _ _ ?_
      clear hK K
      simp only [b0m, b0n]
      obtain rfl := sI9 hm1
      refine ⟨_, rfl, ?_⟩
      exact ⟨i11_1, s1, s2, s4, s8, s9, s10, (by first | exact s11 | simp only [go_sem, s11, lA9, mA9]), (by first | (simp only [go_sem, s13, lA9, mA9]; done) | rfl), Q3, Q0, Q4, Q1, Q2⟩
     simp only [b1c]
     obtain ⟨x37, h_x37, hm1⟩ := b0j hm1
     have h_x370 := b06 h_x37
     have h_x371 := b09 h_x37
     refine b0e fun K hK => ?_
     simp only [go_sem, s4, s13, Q0, Q1, b0v h_x37, b0w h_x37, h_x370, h_x371, b0b v11]
     refine hK _ _ ?_
     clear hK K
     refine b2t (fun t h => ∃ i14 : Nat, t 1 = I c ∧ t 2 = I from_ ∧ t 4 = .fp [.fs 5 (List.map b0q h_.Combs), .fs 3 (List.map b0p h_.Trains), .fs 3 (List.map b0o h_.Shifts), I h_.Until] 0 ∧ t 8 = .rp i8 0 0 ∧ t 9 = .fs 1 (List.map eI y4) ∧ t 10 = I (wr (from_ + ticks)) ∧ t 11 = .rs i11 0 (List.length l_11_1) ∧ t 13 = I i_13 ∧ t 14 = .rp i14 0 0 ∧ t 90 = B (((decide (from_ < x37.At)) && (decide (x37.At ≤ (wr (from_ + ticks))))) && ((decide (¬x37.Comb = c)) || (decide (x37.At = (wr (from_ + ticks)))))) ∧ h.ob i8 = some (4, [[.v (.slice none 0 0), .v (.slice none 0 0), .v (.slice none 0 0), I 0]]) ∧ i8 < h.nx ∧ h.ob i11 = some (3, List.map b0o l_11_1) ∧ i11 < h.nx ∧ h.ob i14 = some (3, [[I x37.At, I x37.Comb, I x37.Rate]]) ∧ i14 < h.nx ∧ ¬i8 = i11 ∧ ¬i8 = i14 ∧ ¬i11 = i14) (fun K hK => ?_) ?_
     ·simp only [go_sem, s1, s2, s10, Q0, Q1, b0b v11]
      refine b0u (fun hg38 => ?_) (fun hg38 => ?_)
      ·simp only [go_sem, s1, s2, s10, Q0, Q1, hg38, b0b v11]
       refine b0u (fun hg39 => ?_) (fun hg39 => ?_)
       ·simp only [go_sem, s1, s2, s10, Q0, Q1, hg38, hg39, b0b v11]
        refine b0u (fun hg40 => ?_) (fun hg40 => ?_)
        ·simp only [go_sem, s1, s2, s10, Q0, Q1, hg38, hg39, hg40, b0b v11]
         exact hK _ _ ⟨h.nx, s1, s2, s4, s8, s9, s10, (by first | exact s11 | simp only [go_sem, s11, lA9, mA9]), s13, (by first | (simp only [go_sem, hg38, hg39, hg40, lA9, mA9]; done) | rfl), (by first | (simp only [go_sem, hg38, hg39, hg40, lA9, mA9]; done) | rfl), (by simp only [go_sem, Q3, Q0, hg38, hg39, hg40, lA9, mA9]), (by simp only [go_sem, Q0]), (by simp only [go_sem, Q4, Q1, hg38, hg39, hg40, lA9, mA9]), (by simp only [go_sem, Q1]), (by simp only [go_sem, hg38, hg39, hg40, lA9, mA9]), (by simp only [go_sem]), Q2, (by first | first | assumption | omega | (simp only [nxs] <;> omega)), (by first | first | assumption | omega | (simp only [nxs] <;> omega))⟩
        ·simp only [go_sem, s1, s2, s10, Q0, Q1, hg38, hg39, hg40, b0b v11]
         exact hK _ _ ⟨h.nx, s1, s2, s4, s8, s9, s10, (by first | exact s11 | simp only [go_sem, s11, lA9, mA9]), s13, (by first | (simp only [go_sem, hg38, hg39, hg40, lA9, mA9]; done) | rfl), (by first | (simp only [go_sem, hg38, hg39, hg40, lA9, mA9]; done) | rfl), (by simp only [go_sem, Q3, Q0, hg38, hg39, hg40, lA9, mA9]), (by simp only [go_sem, Q0]), (by simp only [go_sem, Q4, Q1, hg38, hg39, hg40, lA9, mA9]), (by simp only [go_sem, Q1]), (by simp only [go_sem, hg38, hg39, hg40, lA9, mA9]), (by simp only [go_sem]), Q2, (by first | first | assumption | omega | (simp only [nxs] <;> omega)), (by first | first | assumption | omega | (simp only [nxs] <;> omega))⟩
       ·simp only [go_sem, s1, s2, s10, Q0, Q1, hg38, hg39, b0b v11]
        exact hK _ _ ⟨h.nx, s1, s2, s4, s8, s9, s10, (by first | exact s11 | simp only [go_sem, s11, lA9, mA9]), s13, (by first | (simp only [go_sem, hg38, hg39, lA9, mA9]; done) | rfl), (by first | (simp only [go_sem, hg38, hg39, lA9, mA9]; done) | rfl), (by simp only [go_sem, Q3, Q0, hg38, hg39, lA9, mA9]), (by simp only [go_sem, Q0]), (by simp only [go_sem, Q4, Q1, hg38, hg39, lA9, mA9]), (by simp only [go_sem, Q1]), (by simp only [go_sem, hg38, hg39, lA9, mA9]), (by simp only [go_sem]), Q2, (by first | first | assumption | omega | (simp only [nxs] <;> omega)), (by first | first | assumption | omega | (simp only [nxs] <;> omega))⟩
      ·simp only [go_sem, s1, s2, s10, Q0, Q1, hg38, b0b v11]
       exact hK _ _ ⟨h.nx, s1, s2, s4, s8, s9, s10, (by first | exact s11 | simp only [go_sem, s11, lA9, mA9]), s13, (by first | (simp only [go_sem, hg38, lA9, mA9]; done) | rfl), (by first | (simp only [go_sem, hg38, lA9, mA9]; done) | rfl), (by simp only [go_sem, Q3, Q0, hg38, lA9, mA9]), (by simp only [go_sem, Q0]), (by simp only [go_sem, Q4, Q1, hg38, lA9, mA9]), (by simp only [go_sem, Q1]), (by simp only [go_sem, hg38, lA9, mA9]), (by simp only [go_sem]), Q2, (by first | first | assumption | omega | (simp only [nxs] <;> omega)), (by first | first | assumption | omega | (simp only [nxs] <;> omega))⟩
     ·try clear s1 s2 s4 s8 s9 s10 s11 s13 Q3 Q0 Q4 Q1 Q2
      rintro t h ⟨i14, s1, s2, s4, s8, s9, s10, s11, s13, s14, s90, Q3, Q0, Q4, Q1, Qt, Qs, Q2, Qp, Qq⟩
      simp only [go_sem, s90]
      refine b0u (fun hc41 => ?_) (fun hc41 => ?_)
      ·rw [b1b hc41] at hm1
       obtain ⟨l43, h_l43, hm1⟩ := b0j hm1
       refine b1o fun K hK => ?_
       simp only [go_sem, s11, s14, Q4, Q1, Qt, Qs, Q0, Q2, b0c Q2, Qp, b0c Qp, Qq, b0c Qq, b0b v11]
       refine b4b (f := b0o) (l := l_11_1) (m := ([x37])) ?_ ?_ ?_ ?_ h_l43 ?_
       ·exact (b3i (by simp only [go_sem, Q3, Q0, Q4, Q1, Qt, Qs, Q2, b0c Q2, Qp, b0c Qp, Qq, b0c Qq, lA9, mA9]) (by simp only [go_sem, Q3, Q0, Q4, Q1, Qt, Qs, Q2, b0c Q2, Qp, b0c Qp, Qq, b0c Qq, lA9, mA9]) (by simp only [go_sem, Q0, Q1, Qs]))
       ·exact (b4l (by simp only [go_sem, Q3, Q0, Q4, Q1, Qt, Qs, Q2, b0c Q2, Qp, b0c Qp, Qq, b0c Qq, lA9, mA9]) (by simp only [go_sem, Q3, Q0, Q4, Q1, Qt, Qs, Q2, b0c Q2, Qp, b0c Qp, Qq, b0c Qq, lA9, mA9]))
       ·exact (b2v (by first | exact b1d | exact b1e (by first | omega | (simp only [nxs] <;> omega)) | assumption | exact b0z (by assumption) (by first | omega | (simp only [go_sem, nxs] <;> omega))))
       ·exact (fun _ => by simp)
       simp only [go_sem, s11, s14, Q4, Q1, Qt, Qs, Q0, Q2, b0c Q2, Qp, b0c Qp, Qq, b0c Qq, b0b v11]
       refine hK _ _ ?_
       clear hK K
       simp only [b0m, b0n]
       exact J35 l43 (nxs h.nx) _ _ s1 s2 s4 s8 s9 s10 (by first | (simp only [go_sem, s11, lA9, mA9]; done) | rfl) s13 (by simp only [go_sem, Q3, Q0, Q1, Q2, b0c Q2, lA9, mA9]) (by simp only [go_sem, Q0]) (by simp only [go_sem, Q1, lA9, mA9]) (by simp only [go_sem]) (by first | first | assumption | omega | (simp only [nxs] <;> omega)) hm1
      ·rw [b1a hc41] at hm1
       simp only [b07, b0m, b0n]
       exact J35 l_11_1 i11 _ _ s1 s2 s4 s8 s9 s10 (by first | exact s11 | simp only [go_sem, s11, lA9, mA9]) s13 Q3 Q0 Q4 Q1 Q2 hm1
    ·rw [b1a hc33] at hm1
     simp only [b1z, b2a, b19, b11, b0m, b0n, Nat.reduceEqDiff, nF9]
     obtain rfl := sI9 hm1
     obtain rfl := hb31 _ rfl
     try dsimp only at hm0
     exact J10 l_11_1 i11 _ _ s1 s4 s8 s9 s10 (by first | exact s11 | simp only [go_sem, s11, lA9, mA9]) Q3 Q0 Q4 Q1 Q2 hm0
  simp only [b1c]
  obtain ⟨b45, hl45, hm0⟩ := b0j hm0
  refine b2b hl45 (fun | (l_11, i_12), t, h => ∃ i8 : Nat, ∃ v11 : AV, t 1 = I c ∧ t 2 = I from_ ∧ t 4 = .fp [.fs 5 (List.map b0q h_.Combs), .fs 3 (List.map b0p h_.Trains), .fs 3 (List.map b0o h_.Shifts), I h_.Until] 0 ∧ t 8 = .rp i8 0 0 ∧ t 9 = .fs 1 (List.map eI y4) ∧ t 10 = I (wr (from_ + ticks)) ∧ t 11 = v11 ∧ t 12 = I i_12 ∧ h.ob i8 = some (4, [[.v (.slice none 0 0), .v (.slice none 0 0), .v (.slice none 0 0), I 0]]) ∧ i8 < h.nx ∧ b0l h v11 3 (List.map b0o l_11) ∧ b0a v11 i8) ?_ ?_
  ·exact ⟨h.nx, (.v (.slice none 0 0)), s1, s2, (by first | (simp only [go_sem, lA9, mA9]; done) | rfl), (by first | (simp only [go_sem, lA9, mA9]; done) | rfl), (by first | (simp only [go_sem, lA9, mA9]; done) | rfl), (by first | (simp only [go_sem, lA9, mA9]; done) | rfl), (by first | (simp only [go_sem, lA9, mA9]; done) | rfl), (by first | (simp only [go_sem, lA9, mA9]; done) | rfl), (by simp only [go_sem, lA9, mA9]), (by simp only [go_sem]), b6j, (by first | exact b1d | exact b1e (by first | assumption | omega | (simp only [nxs] <;> omega)) | assumption | exact b0z (by assumption) (by first | assumption | omega | (simp only [nxs] <;> omega)))⟩
  ·rintro ⟨l_11, i_12⟩ o t h ⟨i8, v11, s1, s2, s4, s8, s9, s10, s11, s12, Q3, Q0, Qf, Qb⟩ hm1 hb45
   simp only [b9r] at hm1
   rw [g18]
   refine b04 ?_
   obtain ⟨c49, h_c49, hm1⟩ := b0j hm1
   refine b2t (fun t h => t 1 = I c ∧ t 2 = I from_ ∧ t 4 = .fp [.fs 5 (List.map b0q h_.Combs), .fs 3 (List.map b0p h_.Trains), .fs 3 (List.map b0o h_.Shifts), I h_.Until] 0 ∧ t 8 = .rp i8 0 0 ∧ t 9 = .fs 1 (List.map eI y4) ∧ t 10 = I (wr (from_ + ticks)) ∧ t 11 = v11 ∧ t 12 = I i_12 ∧ t 40 = B c49 ∧ h.ob i8 = some (4, [[.v (.slice none 0 0), .v (.slice none 0 0), .v (.slice none 0 0), I 0]]) ∧ i8 < h.nx ∧ b0l h v11 3 (List.map b0o l_11) ∧ b0a v11 i8) (fun K hK => ?_) ?_
   ·simp only [go_sem, s2, s4, s12, Q0, b0b v11]
    refine b0u (fun hg50 => ?_) (fun hg50 => ?_)
    ·simp only [hg50, Bool.not_true, Bool.not_false, eq_self, if_true, if_false, Bool.true_or, Bool.or_true, Bool.false_or, Bool.or_false, Bool.true_and, Bool.and_true, Bool.false_and, Bool.and_false, Bool.false_eq_true] at h_c49
     obtain ⟨x48, h_x48, h_c49⟩ := b0j h_c49
     have h_x480 := b06 h_x48
     have h_x481 := b09 h_x48
     obtain rfl := sI9 h_c49
     simp only [go_sem, s2, s4, s12, Q0, b0v h_x48, b0w h_x48, h_x480, h_x481, hg50, b0b v11]
     exact hK _ _ ⟨s1, s2, s4, s8, s9, s10, s11, s12, (by first | (simp only [go_sem, hg50, lA9, mA9]; done) | rfl), Q3, Q0, Qf, Qb⟩
    ·simp only [hg50, Bool.not_true, Bool.not_false, eq_self, if_true, if_false, Bool.true_or, Bool.or_true, Bool.false_or, Bool.or_false, Bool.true_and, Bool.and_true, Bool.false_and, Bool.and_false, Bool.false_eq_true] at h_c49
     obtain rfl := sI9 h_c49
     simp only [go_sem, s2, s4, s12, Q0, hg50, b0b v11]
     exact hK _ _ ⟨s1, s2, s4, s8, s9, s10, s11, s12, (by first | (simp only [go_sem, hg50, lA9, mA9]; done) | rfl), Q3, Q0, Qf, Qb⟩
   ·try clear s1 s2 s4 s8 s9 s10 s11 s12 Q3 Q0 Qf Qb
    rintro t h ⟨s1, s2, s4, s8, s9, s10, s11, s12, s40, Q3, Q0, Qf, Qb⟩
    refine b0x fun K51 hK51 => ?_
    simp only [go_sem, s40]
    refine b0u (fun hc52 => ?_) (fun hc52 => ?_)
    ·rw [b1b hc52] at hm1
     simp only [b07, b0m, b0n]
     refine hK51 _ _ ?_
     refine b0x fun K53 hK53 => ?_
     simp only [b1c]
     obtain ⟨x56, h_x56, hm1⟩ := b0j hm1
     have h_x560 := b06 h_x56
     have h_x561 := b09 h_x56
     obtain ⟨l57, h_l57, hm1⟩ := b0j hm1
     refine b1o fun K hK => ?_
     simp only [go_sem, s4, s11, s12, Q0, Qb, b0v h_x56, b0w h_x56, h_x560, h_x561, b0b v11]
     refine b4b (f := b0o) (l := l_11) (m := ([x56])) ?_ ?_ ?_ ?_ h_l57 ?_
     ·exact (b1j Qf (by intro j hj hl; first | rfl | simp only [go_sem, hl, b1g hj Qb]) (by first | omega | exact Nat.le_refl _ | (simp only [go_sem, nxs] <;> omega)))
     ·exact (b4l (by simp only [go_sem, Q3, Q0, b0r Qf, Qb, lA9, mA9]) (by simp only [go_sem, Q3, Q0, b0r Qf, Qb, lA9, mA9]))
     ·exact (b2v (by first | exact b1d | exact b1e (by first | omega | (simp only [nxs] <;> omega)) | assumption | exact b0z (by assumption) (by first | omega | (simp only [go_sem, nxs] <;> omega))))
     ·exact (fun _ => by simp)
     simp only [go_sem, s4, s11, s12, Q0, Qb, b0v h_x56, b0w h_x56, h_x560, h_x561, b0b v11]
     refine hK _ _ ?_
     clear hK K
     simp only [b0m, b0n]
     refine hK53 _ _ ?_
     refine b1o fun K hK => ?_
     simp only [go_sem, s12, Q0, b0b v11]
     refine hK _ _ ?_
     clear hK K
     simp only [b0m, b0n]
     obtain rfl := sI9 hm1
     refine ⟨_, rfl, ?_⟩
     exact ⟨i8, (.rs (nxs h.nx) 0 (List.length l57)), s1, s2, s4, s8, s9, s10, (by first | (simp only [go_sem, s11, lA9, mA9]; done) | rfl), (by first | (simp only [go_sem, s12, lA9, mA9]; done) | rfl), (by simp only [go_sem, Q3, Q0, b0r Qf, Qb, lA9, mA9]), (by simp only [go_sem, Q0]), (b3i (by simp only [go_sem, b0r Qf, lA9, mA9]) (by first | rfl | simp only [go_sem, lA9, mA9]) (by simp only [go_sem])), (by first | exact b1d | exact b1e (by first | assumption | omega | (simp only [nxs] <;> omega)) | assumption | exact b0z (by assumption) (by first | assumption | omega | (simp only [nxs] <;> omega)))⟩
    ·rw [b1a hc52] at hm1
     simp only [b1z, b2a, b19, b11, b0m, b0n, Nat.reduceEqDiff, nF9]
     obtain rfl := sI9 hm1
     obtain rfl := hb45 _ rfl
     try dsimp only at hm0
     exact J6 l_11 i8 v11 _ _ s1 s2 s4 s8 s9 s10 s11 Q3 Q0 Qf Qb hm0
theorem c6k (hf : Has O "newel/newelref06.fits" x_r06_fits) (d1f : c8f O) (c3q : c4z O) : c8j O := by
 intro h_ c rate r hm0
 unfold b61 at hm0
 refine b2u hf rfl (b0f (.agg _ (b0f (b0y fun a _ => b2n a) (b0f (b0y fun a _ => b2m a) (b0f (b0y fun a _ => b2q a) (b0f (b0k _) b03))))) (b0f (b0k _) (b0f (b0k _) b03))) (b0k _) ?_
 refine b2p (fun t h => t 0 = .agg [.fs 5 (List.map b0q h_.Combs), .fs 3 (List.map b0p h_.Trains), .fs 3 (List.map b0o h_.Shifts), I h_.Until] ∧ t 1 = I c ∧ t 2 = I rate) ⟨rfl, rfl, rfl⟩ fun t h ⟨s0, s1, s2⟩ => ?_
 simp only [x_r06_fits]
 refine b0e fun K hK => ?_
 simp only [go_sem, s0]
 refine hK _ _ ?_
 clear hK K
 obtain ⟨y4, h_y4, hm0⟩ := b0j hm0
 obtain ⟨y5, h_y5, hm0⟩ := b0j hm0
 obtain ⟨x6, h_x6, hm0⟩ := b0j hm0
 have h_x60 := b06 h_x6
 have h_x61 := b09 h_x6
 refine b0e fun K hK => ?_
 simp only [go_sem, s1, s2, b0v h_x6, b0w h_x6, h_x60, h_x61]
 refine b1u (d1f h_ c rate _ h_y4) ?_
 simp only [go_sem, s1, s2, b0v h_x6, b0w h_x6, h_x60, h_x61]
 refine b1u (c3q y4 _ h_y5) ?_
 simp only [go_sem, s1, s2, b0v h_x6, b0w h_x6, h_x60, h_x61]
 refine hK _ _ ?_
 clear hK K
 refine b04 ?_
 refine b0e fun K hK => ?_
 simp only [go_sem]
 refine hK _ _ ?_
 clear hK K
 refine b0x fun K7 hK7 => ?_
 have J8 : ∀ (t : Slots) (h : Heap), d2e = some r → K7 t h := by
  intro t h hm0
  refine hK7 _ _ ?_
  unfold d2e at hm0
  refine b0e fun K hK => ?_
  simp only [go_sem]
  refine hK _ _ ?_
  clear hK K
  simp only [b1k, b1m, b1l, b1n]
  obtain rfl := sI9 hm0
  exact b2h (by simp only [go_sem, lA9, mA9]) (b0k _)
 simp only [b1c]
 obtain ⟨b9, hl9, hm0⟩ := b0j hm0
 refine b2b hl9 (fun | t_8, t, h => t 1 = I c ∧ t 3 = .fp [.fs 5 (List.map b0q h_.Combs), .fs 3 (List.map b0p h_.Trains), .fs 3 (List.map b0o h_.Shifts), I h_.Until] 0 ∧ t 7 = .fs 1 (List.map eI x6) ∧ t 8 = I t_8) ?_ ?_
 ·exact ⟨s1, (by first | (simp only [go_sem, lA9, mA9]; done) | rfl), (by first | (simp only [go_sem, lA9, mA9]; done) | rfl), (by first | (simp only [go_sem, lA9, mA9]; done) | rfl)⟩
 ·rintro t_8 o t h ⟨s1, s3, s7, s8⟩ hm1 hb9
  simp only [c13] at hm1
  rw [g2b]
  refine b04 ?_
  refine b0e fun K hK => ?_
  simp only [go_sem, s3, s8]
  refine hK _ _ ?_
  clear hK K
  refine b0x fun K10 hK10 => ?_
  simp only [go_sem]
  refine b0u (fun hc11 => ?_) (fun hc11 => ?_)
  ·rw [b1b hc11] at hm1
   simp only [b07, b0m, b0n]
   refine hK10 _ _ ?_
   refine b0x fun K12 hK12 => ?_
   simp only [b1c]
   obtain ⟨x15, h_x15, hm1⟩ := b0j hm1
   have h_x150 := b06 h_x15
   have h_x151 := b09 h_x15
   obtain ⟨x16, h_x16, hm1⟩ := b0j hm1
   have h_x160 := b06 h_x16
   have h_x161 := b09 h_x16
   refine b0e fun K hK => ?_
   simp only [go_sem, s1, s3, s7, s8, b0v h_x15, b0w h_x15, h_x150, h_x151, b0v h_x16, b0w h_x16, h_x160, h_x161]
   refine hK _ _ ?_
   clear hK K
   simp only [go_sem]
   refine b0u (fun hc17 => ?_) (fun hc17 => ?_)
   ·rw [b1b hc17] at hm1
    refine b0e fun K hK => ?_
    simp only [go_sem]
    refine hK _ _ ?_
    clear hK K
    simp only [b1k, b1m, b1l, b1n]
    obtain rfl := sI9 hm1
    obtain rfl := hb9 _ rfl
    try dsimp only at hm0
    obtain rfl := sI9 hm0
    exact b2h (by simp only [go_sem, lA9, mA9]) (b0k _)
   ·rw [b1a hc17] at hm1
    simp only [b07, b0m, b0n]
    refine hK12 _ _ ?_
    refine b1o fun K hK => ?_
    simp only [go_sem, s8]
    refine hK _ _ ?_
    clear hK K
    simp only [b0m, b0n]
    obtain rfl := sI9 hm1
    refine ⟨_, rfl, ?_⟩
    exact ⟨s1, s3, s7, (by first | (simp only [go_sem, s8, lA9, mA9]; done) | rfl)⟩
  ·rw [b1a hc11] at hm1
   simp only [b1z, b2a, b19, b11, b0m, b0n, Nat.reduceEqDiff, nF9]
   obtain rfl := sI9 hm1
   obtain rfl := hb9 _ rfl
   try dsimp only at hm0
   exact J8  _ _  hm0
theorem d1j (hf : Has O "newel/newelref06.over" x_r06_over) (c3q : c4z O) : c8k O := by
 intro h_ r hm0
 unfold b9s at hm0
 refine b2u hf rfl (b0f (.agg _ (b0f (b0y fun a _ => b2n a) (b0f (b0y fun a _ => b2m a) (b0f (b0y fun a _ => b2q a) (b0f (b0k _) b03))))) b03) (b0y fun a _ => c0m a) ?_
 refine b2p (fun t h => t 0 = .agg [.fs 5 (List.map b0q h_.Combs), .fs 3 (List.map b0p h_.Trains), .fs 3 (List.map b0o h_.Shifts), I h_.Until]) rfl fun t h s0 => ?_
 simp only [x_r06_over]
 refine b0e fun K hK => ?_
 simp only [go_sem, s0]
 refine hK _ _ ?_
 clear hK K
 obtain ⟨y2, h_y2, hm0⟩ := b0j hm0
 refine b0e fun K hK => ?_
 simp only [go_sem]
 refine b1u (c3q h_ _ h_y2) ?_
 simp only [go_sem]
 refine hK _ _ ?_
 clear hK K
 refine b0e fun K hK => ?_
 simp only [go_sem]
 refine hK _ _ ?_
 clear hK K
 refine b04 ?_
 refine b0e fun K hK => ?_
 simp only [go_sem]
 refine hK _ _ ?_
 clear hK K
 refine b0x fun K3 hK3 => ?_
 have J4 : ∀ (l_4 : List (Int × Int)) (v4 : AV) (t : Slots) (h : Heap), t 4 = v4 → b0l h v4 2 (List.map b35 l_4) → d2f l_4 = some r → K3 t h := by
  intro l_4 v4 t h s4 Qm hm0
  refine hK3 _ _ ?_
  unfold d2f at hm0
  refine b0e fun K hK => ?_
  simp only [go_sem, s4, b0b v4]
  refine hK _ _ ?_
  clear hK K
  simp only [b1k, b1m, b1l, b1n]
  obtain rfl := sI9 hm0
  exact c87 (v := v4) (by simp only [go_sem, b0r Qm, lA9, mA9]) (b5j (f := b35) (l := l_4) (b1j Qm (by intro j hj hl; first | rfl | simp only [go_sem, hl]) (by first | omega | exact Nat.le_refl _ | (simp only [go_sem, nxs] <;> omega))) c0m d8r)
 simp only [b1c]
 obtain ⟨b5, hl5, hm0⟩ := b0j hm0
 refine b2b hl5 (fun | (l_4, c_5), t, h => ∃ i3 : Nat, ∃ v4 : AV, t 1 = .fp [.fs 5 (List.map b0q h_.Combs), .fs 3 (List.map b0p h_.Trains), .fs 3 (List.map b0o h_.Shifts), I h_.Until] 0 ∧ t 3 = .rp i3 0 0 ∧ t 4 = v4 ∧ t 5 = I c_5 ∧ h.ob i3 = some (4, [[.fs 1 (List.map b00 y2.Most), .fs 1 (List.map b00 y2.Flow), .fs 1 (List.map b05 y2.Come), .fs 1 (List.map b05 y2.Pass)]]) ∧ i3 < h.nx ∧ b0l h v4 2 (List.map b35 l_4) ∧ b0a v4 i3) ?_ ?_
 ·exact ⟨h.nx, (.v (.slice none 0 0)), (by first | (simp only [go_sem, lA9, mA9]; done) | rfl), (by first | (simp only [go_sem, lA9, mA9]; done) | rfl), (by first | (simp only [go_sem, lA9, mA9]; done) | rfl), (by first | (simp only [go_sem, lA9, mA9]; done) | rfl), (by simp only [go_sem, lA9, mA9]), (by simp only [go_sem]), b6j, (by first | exact b1d | exact b1e (by first | assumption | omega | (simp only [nxs] <;> omega)) | assumption | exact b0z (by assumption) (by first | assumption | omega | (simp only [nxs] <;> omega)))⟩
 ·rintro ⟨l_4, c_5⟩ o t h ⟨i3, v4, s1, s3, s4, s5, Qr, Qg, Qm, Qo⟩ hm1 hb5
  simp only [c4a] at hm1
  rw [g2d]
  refine b04 ?_
  refine b0e fun K hK => ?_
  simp only [go_sem, s1, s5, Qg, b0b v4]
  refine hK _ _ ?_
  clear hK K
  refine b0x fun K6 hK6 => ?_
  simp only [go_sem]
  refine b0u (fun hc7 => ?_) (fun hc7 => ?_)
  ·rw [b1b hc7] at hm1
   simp only [b07, b0m, b0n]
   refine hK6 _ _ ?_
   refine b0x fun K8 hK8 => ?_
   have J9 : ∀ (l_4_1 : List (Int × Int)) (v4_1 : AV) (t : Slots) (h : Heap), t 1 = .fp [.fs 5 (List.map b0q h_.Combs), .fs 3 (List.map b0p h_.Trains), .fs 3 (List.map b0o h_.Shifts), I h_.Until] 0 → t 3 = .rp i3 0 0 → t 4 = v4_1 → t 5 = I c_5 → h.ob i3 = some (4, [[.fs 1 (List.map b00 y2.Most), .fs 1 (List.map b00 y2.Flow), .fs 1 (List.map b05 y2.Come), .fs 1 (List.map b05 y2.Pass)]]) → i3 < h.nx → b0l h v4_1 2 (List.map b35 l_4_1) → b0a v4_1 i3 → c7i c_5 l_4_1 = some o → K8 t h := by
    intro l_4_1 v4_1 t h s1 s3 s4 s5 Qr Qg Qm Qo hm1
    refine hK8 _ _ ?_
    unfold c7i at hm1
    refine b1o fun K hK => ?_
    simp only [go_sem, s5, Qg, b0b v4, b0b v4_1]
    refine hK _ _ ?_
    clear hK K
    simp only [b0m, b0n]
    obtain rfl := sI9 hm1
    refine ⟨_, rfl, ?_⟩
    exact ⟨i3, v4_1, s1, s3, s4, (by first | (simp only [go_sem, s5, lA9, mA9]; done) | rfl), Qr, Qg, Qm, Qo⟩
   simp only [b1c]
   refine b0e fun K hK => ?_
   simp only [go_sem, Qg, b0b v4]
   refine hK _ _ ?_
   clear hK K
   simp only [b1c]
   obtain ⟨b10, hl10, hm1⟩ := b0j hm1
   refine b2b hl10 (fun | t_6, t, h => t 1 = .fp [.fs 5 (List.map b0q h_.Combs), .fs 3 (List.map b0p h_.Trains), .fs 3 (List.map b0o h_.Shifts), I h_.Until] 0 ∧ t 3 = .rp i3 0 0 ∧ t 4 = v4 ∧ t 5 = I c_5 ∧ t 6 = I t_6 ∧ h.ob i3 = some (4, [[.fs 1 (List.map b00 y2.Most), .fs 1 (List.map b00 y2.Flow), .fs 1 (List.map b05 y2.Come), .fs 1 (List.map b05 y2.Pass)]]) ∧ i3 < h.nx ∧ b0l h v4 2 (List.map b35 l_4) ∧ b0a v4 i3) ?_ ?_
   ·exact ⟨s1, s3, s4, s5, (by first | (simp only [go_sem, lA9, mA9]; done) | rfl), Qr, Qg, Qm, Qo⟩
   ·rintro t_6 o t h ⟨s1, s3, s4, s5, s6, Qr, Qg, Qm, Qo⟩ hm2 hb10
    simp only [c14] at hm2
    rw [g2c]
    refine b04 ?_
    refine b0e fun K hK => ?_
    simp only [go_sem, s1, s6, Qg, b0b v4]
    refine hK _ _ ?_
    clear hK K
    refine b0x fun K11 hK11 => ?_
    simp only [go_sem]
    refine b0u (fun hc12 => ?_) (fun hc12 => ?_)
    ·rw [b1b hc12] at hm2
     simp only [b07, b0m, b0n]
     refine hK11 _ _ ?_
     refine b0x fun K13 hK13 => ?_
     simp only [b1c]
     obtain ⟨x17, h_x17, hm2⟩ := b0j hm2
     have h_x170 := b06 h_x17
     have h_x171 := b09 h_x17
     obtain ⟨x18, h_x18, hm2⟩ := b0j hm2
     have h_x180 := b06 h_x18
     have h_x181 := b09 h_x18
     obtain ⟨x19, h_x19, hm2⟩ := b0j hm2
     have h_x190 := b06 h_x19
     have h_x191 := b09 h_x19
     refine b0e fun K hK => ?_
     simp only [go_sem, s1, s3, s5, s6, Qr, Qg, Qo, b0v h_x17, b0w h_x17, h_x170, h_x171, b0v h_x18, b0w h_x18, h_x180, h_x181, b0v h_x19, b0w h_x19, h_x190, h_x191, b0b v4]
     refine hK _ _ ?_
     clear hK K
     simp only [go_sem]
     refine b0u (fun hc20 => ?_) (fun hc20 => ?_)
     ·rw [b1b hc20] at hm2
      obtain ⟨l22, h_l22, hm2⟩ := b0j hm2
      refine b0e fun K hK => ?_
      simp only [go_sem, s4, s5, s6, Qg, Qo, b0b v4]
      refine b4b (f := b35) (l := l_4) (m := ([(c_5, t_6)])) ?_ ?_ ?_ ?_ h_l22 ?_
      ·exact (b1j Qm (by intro j hj hl; first | rfl | simp only [go_sem, hl, b1g hj Qo]) (by first | omega | exact Nat.le_refl _ | (simp only [go_sem, nxs] <;> omega)))
      ·exact (b4l (by simp only [go_sem, Qr, Qg, b0r Qm, Qo, lA9, mA9]) (by simp only [go_sem, Qr, Qg, b0r Qm, Qo, lA9, mA9]))
      ·exact (b2v (by first | exact b1d | exact b1e (by first | omega | (simp only [nxs] <;> omega)) | assumption | exact b0z (by assumption) (by first | omega | (simp only [go_sem, nxs] <;> omega))))
      ·exact (fun _ => by simp)
      simp only [go_sem, s4, s5, s6, Qg, Qo, b0b v4]
      refine hK _ _ ?_
      clear hK K
      simp only [b1z, b2a, b19, b11, b0m, b0n, Nat.reduceEqDiff, nF9]
      obtain rfl := sI9 hm2
      obtain rfl := hb10 _ rfl
      try dsimp only at hm1
      exact J9 l22 (.rs (nxs h.nx) 0 (List.length l22)) _ _ s1 s3 (by first | (simp only [go_sem, s4, lA9, mA9]; done) | rfl) s5 (by simp only [go_sem, Qr, Qg, b0r Qm, Qo, lA9, mA9]) (by simp only [go_sem, Qg]) (b3i (by simp only [go_sem, b0r Qm, lA9, mA9]) (by first | rfl | simp only [go_sem, lA9, mA9]) (by simp only [go_sem])) (by first | exact b1d | exact b1e (by first | assumption | omega | (simp only [nxs] <;> omega)) | assumption | exact b0z (by assumption) (by first | assumption | omega | (simp only [nxs] <;> omega))) hm1
     ·rw [b1a hc20] at hm2
      simp only [b07, b0m, b0n]
      refine hK13 _ _ ?_
      refine b1o fun K hK => ?_
      simp only [go_sem, s6, Qg, b0b v4]
      refine hK _ _ ?_
      clear hK K
      simp only [b0m, b0n]
      obtain rfl := sI9 hm2
      refine ⟨_, rfl, ?_⟩
      exact ⟨s1, s3, s4, s5, (by first | (simp only [go_sem, s6, lA9, mA9]; done) | rfl), Qr, Qg, Qm, Qo⟩
    ·rw [b1a hc12] at hm2
     simp only [b1z, b2a, b19, b11, b0m, b0n, Nat.reduceEqDiff, nF9]
     obtain rfl := sI9 hm2
     obtain rfl := hb10 _ rfl
     try dsimp only at hm1
     exact J9 l_4 v4 _ _ s1 s3 s4 s5 Qr Qg Qm Qo hm1
  ·rw [b1a hc7] at hm1
   simp only [b1z, b2a, b19, b11, b0m, b0n, Nat.reduceEqDiff, nF9]
   obtain rfl := sI9 hm1
   obtain rfl := hb5 _ rfl
   try dsimp only at hm0
   exact J4 l_4 v4 _ _ s4 Qm hm0
theorem c3t (hf : Has O "newel/newelref06.rates" x_r06_rates) : c42 O := by
 intro h_ comb r hm0
 unfold b7i at hm0
 refine b2u hf rfl (b0f (.agg _ (b0f (b0y fun a _ => b2n a) (b0f (b0y fun a _ => b2m a) (b0f (b0y fun a _ => b2q a) (b0f (b0k _) b03))))) (b0f (b0k _) b03)) (b0y fun a _ => b3f a) ?_
 refine b2p (fun t h => t 0 = .agg [.fs 5 (List.map b0q h_.Combs), .fs 3 (List.map b0p h_.Trains), .fs 3 (List.map b0o h_.Shifts), I h_.Until] ∧ t 1 = I comb) ⟨rfl, rfl⟩ fun t h ⟨s0, s1⟩ => ?_
 simp only [x_r06_rates]
 refine b0e fun K hK => ?_
 simp only [go_sem, s0]
 refine hK _ _ ?_
 clear hK K
 obtain ⟨l2, h_l2, hm0⟩ := b0j hm0
 refine b0e fun K hK => ?_
 simp only [go_sem]
 refine b76 (f := eI) (z := 0) rfl h_l2 ?_
 simp only [go_sem]
 refine hK _ _ ?_
 clear hK K
 refine b04 ?_
 refine b0e fun K hK => ?_
 simp only [go_sem]
 refine hK _ _ ?_
 clear hK K
 refine b0x fun K3 hK3 => ?_
 have J4 : ∀ (l_5 : List Int) (i5 : Nat) (t : Slots) (h : Heap), t 5 = .rs i5 0 (List.length l_5) → h.ob i5 = some (1, List.map eI l_5) → i5 < h.nx → d2g l_5 = some r → K3 t h := by
  intro l_5 i5 t h s5 Qe Q7 hm0
  refine hK3 _ _ ?_
  unfold d2g at hm0
  refine b0e fun K hK => ?_
  simp only [go_sem, s5, Qe, Q7]
  refine hK _ _ ?_
  clear hK K
  simp only [b1k, b1m, b1l, b1n]
  obtain rfl := sI9 hm0
  exact c87 (v := .rs i5 0 (List.length l_5)) (by simp only [go_sem, Qe, Q7, lA9, mA9]) (b6u (f := eI) (l := l_5) (id := i5) (by simp only [go_sem, Qe, Q7, lA9, mA9]) (by first | rfl | simp only [go_sem, lA9, mA9]) b3f b6x)
 simp only [b1c]
 obtain ⟨b5, hl5, hm0⟩ := b0j hm0
 refine b2b hl5 (fun | (l_5, t_6), t, h => ∃ i5 : Nat, t 1 = I comb ∧ t 2 = .fp [.fs 5 (List.map b0q h_.Combs), .fs 3 (List.map b0p h_.Trains), .fs 3 (List.map b0o h_.Shifts), I h_.Until] 0 ∧ t 5 = .rs i5 0 (List.length l_5) ∧ t 6 = I t_6 ∧ h.ob i5 = some (1, List.map eI l_5) ∧ i5 < h.nx) ?_ ?_
 ·exact ⟨h.nx, s1, (by first | (simp only [go_sem, lA9, mA9]; done) | rfl), (by first | (simp only [go_sem, lA9, mA9]; done) | rfl), (by first | (simp only [go_sem, lA9, mA9]; done) | rfl), (by simp only [go_sem, lA9, mA9]), (by simp only [go_sem])⟩
 ·rintro ⟨l_5, t_6⟩ o t h ⟨i5, s1, s2, s5, s6, Qe, Q7⟩ hm1 hb5
  simp only [c4c] at hm1
  rw [g2f]
  refine b04 ?_
  refine b0e fun K hK => ?_
  simp only [go_sem, s2, s6, Q7]
  refine hK _ _ ?_
  clear hK K
  refine b0x fun K6 hK6 => ?_
  simp only [go_sem]
  refine b0u (fun hc7 => ?_) (fun hc7 => ?_)
  ·rw [b1b hc7] at hm1
   simp only [b07, b0m, b0n]
   refine hK6 _ _ ?_
   refine b0x fun K8 hK8 => ?_
   have J9 : ∀ (l_5_1 : List Int) (t : Slots) (h : Heap), t 1 = I comb → t 2 = .fp [.fs 5 (List.map b0q h_.Combs), .fs 3 (List.map b0p h_.Trains), .fs 3 (List.map b0o h_.Shifts), I h_.Until] 0 → t 5 = .rs i5 0 (List.length l_5_1) → t 6 = I t_6 → h.ob i5 = some (1, List.map eI l_5_1) → i5 < h.nx → c7j t_6 l_5_1 = some o → K8 t h := by
    intro l_5_1 t h s1 s2 s5 s6 Qe Q7 hm1
    refine hK8 _ _ ?_
    unfold c7j at hm1
    refine b1o fun K hK => ?_
    simp only [go_sem, s6, Q7]
    refine hK _ _ ?_
    clear hK K
    simp only [b0m, b0n]
    obtain rfl := sI9 hm1
    refine ⟨_, rfl, ?_⟩
    exact ⟨i5, s1, s2, (by first | exact s5 | simp only [go_sem, s5, lA9, mA9]), (by first | (simp only [go_sem, s6, lA9, mA9]; done) | rfl), Qe, Q7⟩
   simp only [b1c]
   obtain ⟨x12, h_x12, hm1⟩ := b0j hm1
   have h_x120 := b06 h_x12
   have h_x121 := b09 h_x12
   obtain ⟨x13, h_x13, hm1⟩ := b0j hm1
   have h_x130 := b06 h_x13
   have h_x131 := b09 h_x13
   refine b0e fun K hK => ?_
   simp only [go_sem, s1, s2, s5, s6, Qe, Q7, b0v h_x12, b0w h_x12, h_x120, h_x121, b0v h_x13, b0w h_x13, h_x130, h_x131]
   refine hK _ _ ?_
   clear hK K
   refine b0e fun K hK => ?_
   simp only [go_sem, Q7]
   refine hK _ _ ?_
   clear hK K
   simp only [b1c]
   obtain ⟨b14, hl14, hm1⟩ := b0j hm1
   refine b2b hl14 (fun | (l_5_1, i_7), t, h => t 1 = I comb ∧ t 2 = .fp [.fs 5 (List.map b0q h_.Combs), .fs 3 (List.map b0p h_.Trains), .fs 3 (List.map b0o h_.Shifts), I h_.Until] 0 ∧ t 5 = .rs i5 0 (List.length l_5_1) ∧ t 6 = I t_6 ∧ t 7 = I i_7 ∧ h.ob i5 = some (1, List.map eI l_5_1) ∧ i5 < h.nx) ?_ ?_
   ·exact ⟨s1, s2, (by first | exact s5 | simp only [go_sem, s5, lA9, mA9]), s6, (by first | (simp only [go_sem, lA9, mA9]; done) | rfl), (by simp only [go_sem, Qe, Q7, lA9, mA9]), (by simp only [go_sem, Q7])⟩
   ·rintro ⟨l_5_1, i_7⟩ o t h ⟨s1, s2, s5, s6, s7, Qe, Q7⟩ hm2 hb14
    simp only [c4b] at hm2
    rw [g2e]
    refine b04 ?_
    refine b0e fun K hK => ?_
    simp only [go_sem, s2, s7, Q7]
    refine hK _ _ ?_
    clear hK K
    refine b0x fun K15 hK15 => ?_
    simp only [go_sem]
    refine b0u (fun hc16 => ?_) (fun hc16 => ?_)
    ·rw [b1b hc16] at hm2
     simp only [b07, b0m, b0n]
     refine hK15 _ _ ?_
     refine b0x fun K17 hK17 => ?_
     have J18 : ∀ (l_5_2 : List Int) (t : Slots) (h : Heap), t 1 = I comb → t 2 = .fp [.fs 5 (List.map b0q h_.Combs), .fs 3 (List.map b0p h_.Trains), .fs 3 (List.map b0o h_.Shifts), I h_.Until] 0 → t 5 = .rs i5 0 (List.length l_5_2) → t 6 = I t_6 → t 7 = I i_7 → h.ob i5 = some (1, List.map eI l_5_2) → i5 < h.nx → c15 i_7 l_5_2 = some o → K17 t h := by
      intro l_5_2 t h s1 s2 s5 s6 s7 Qe Q7 hm2
      refine hK17 _ _ ?_
      unfold c15 at hm2
      refine b1o fun K hK => ?_
      simp only [go_sem, s7, Q7]
      refine hK _ _ ?_
      clear hK K
      simp only [b0m, b0n]
      obtain rfl := sI9 hm2
      refine ⟨_, rfl, ?_⟩
      exact ⟨s1, s2, (by first | exact s5 | simp only [go_sem, s5, lA9, mA9]), s6, (by first | (simp only [go_sem, s7, lA9, mA9]; done) | rfl), Qe, Q7⟩
     simp only [b1c]
     obtain ⟨x20, h_x20, hm2⟩ := b0j hm2
     have h_x200 := b06 h_x20
     have h_x201 := b09 h_x20
     refine b2t (fun t h => t 1 = I comb ∧ t 2 = .fp [.fs 5 (List.map b0q h_.Combs), .fs 3 (List.map b0p h_.Trains), .fs 3 (List.map b0o h_.Shifts), I h_.Until] 0 ∧ t 5 = .rs i5 0 (List.length l_5_1) ∧ t 6 = I t_6 ∧ t 7 = I i_7 ∧ t 50 = B ((decide (x20.Comb = comb)) && (decide (x20.At ≤ t_6))) ∧ h.ob i5 = some (1, List.map eI l_5_1) ∧ i5 < h.nx) (fun K hK => ?_) ?_
     ·simp only [go_sem, s1, s2, s6, s7, Q7, b0v h_x20, b0w h_x20, h_x200, h_x201]
      refine b0u (fun hg21 => ?_) (fun hg21 => ?_)
      ·simp only [go_sem, s1, s2, s6, s7, Q7, b0v h_x20, b0w h_x20, h_x200, h_x201, hg21]
       exact hK _ _ ⟨s1, s2, (by first | exact s5 | simp only [go_sem, s5, lA9, mA9]), s6, s7, (by first | (simp only [go_sem, hg21, lA9, mA9]; done) | rfl), Qe, Q7⟩
      ·simp only [go_sem, s1, s2, s6, s7, Q7, b0v h_x20, b0w h_x20, h_x200, h_x201, hg21]
       exact hK _ _ ⟨s1, s2, (by first | exact s5 | simp only [go_sem, s5, lA9, mA9]), s6, s7, (by first | (simp only [go_sem, hg21, lA9, mA9]; done) | rfl), Qe, Q7⟩
     ·rintro t h ⟨s1, s2, s5, s6, s7, s50, Qe, Q7⟩
      simp only [go_sem, s50]
      refine b0u (fun hc22 => ?_) (fun hc22 => ?_)
      ·rw [b1b hc22] at hm2
       obtain ⟨x24, h_x24, hm2⟩ := b0j hm2
       have h_x240 := b06 h_x24
       have h_x241 := b09 h_x24
       refine b1o fun K hK => ?_
       simp only [go_sem, s2, s5, s6, s7, Qe, Q7, b0v h_x24, b0w h_x24, h_x240, h_x241, b0v h_x20, b0w h_x20, h_x200, h_x201]
       refine hK _ _ ?_
       clear hK K
       simp only [b0m, b0n]
       exact J18 (List.set l_5_1 (Int.toNat t_6) x20.Rate) _ _ s1 s2 (by first | exact s5 | simp only [go_sem, s5, lA9, mA9]) s6 s7 (by simp only [go_sem, Qe, Q7, lA9, mA9]) (by simp only [go_sem, Q7]) hm2
      ·rw [b1a hc22] at hm2
       simp only [b07, b0m, b0n]
       exact J18 l_5_1 _ _ s1 s2 (by first | exact s5 | simp only [go_sem, s5, lA9, mA9]) s6 s7 Qe Q7 hm2
    ·rw [b1a hc16] at hm2
     simp only [b1z, b2a, b19, b11, b0m, b0n, Nat.reduceEqDiff, nF9]
     obtain rfl := sI9 hm2
     obtain rfl := hb14 _ rfl
     try dsimp only at hm1
     exact J9 l_5_1 _ _ s1 s2 (by first | exact s5 | simp only [go_sem, s5, lA9, mA9]) s6 Qe Q7 hm1
  ·rw [b1a hc7] at hm1
   simp only [b1z, b2a, b19, b11, b0m, b0n, Nat.reduceEqDiff, nF9]
   obtain rfl := sI9 hm1
   obtain rfl := hb5 _ rfl
   try dsimp only at hm0
   exact J4 l_5 i5 _ _ (by first | exact s5 | simp only [go_sem, s5, lA9, mA9]) Qe Q7 hm0
theorem c1a (hf : Has O "newel/newelref06.spanned" x_r06_spanned) : c8l O := by
 intro s low high
 generalize hm0 : b4v s low high = r
 unfold b4v at hm0
 refine b2u hf rfl (b0f (.agg _ (b0f (b0k _) (b0f (b0k _) b03))) (b0f (b0k _) (b0f (b0k _) b03))) (b0k _) ?_
 refine b2p (fun t h => t 0 = .agg [I s.Low, I s.High] ∧ t 1 = I low ∧ t 2 = I high) ⟨rfl, rfl, rfl⟩ fun t h ⟨s0, s1, s2⟩ => ?_
 simp only [x_r06_spanned]
 refine b0e fun K hK => ?_
 simp only [go_sem, s0]
 refine hK _ _ ?_
 clear hK K
 refine b2t (fun t h => t 6 = B (((decide (low ≤ s.Low)) && (decide (s.Low ≤ s.High))) && (decide (s.High ≤ high)))) (fun K hK => ?_) ?_
 ·simp only [go_sem, s1, s2]
  refine b0u (fun hg1 => ?_) (fun hg1 => ?_)
  ·simp only [go_sem, s1, s2, hg1]
   refine b0u (fun hg2 => ?_) (fun hg2 => ?_)
   ·simp only [go_sem, s1, s2, hg1, hg2]
    exact hK _ _ (by first | (simp only [go_sem, hg1, hg2, lA9, mA9]; done) | rfl)
   ·simp only [go_sem, s1, s2, hg1, hg2]
    exact hK _ _ (by first | (simp only [go_sem, hg1, hg2, lA9, mA9]; done) | rfl)
  ·simp only [go_sem, s1, s2, hg1]
   exact hK _ _ (by first | (simp only [go_sem, hg1, lA9, mA9]; done) | rfl)
 ·rintro t h s6
  simp only [b1k, b1m, b1l, b1n]
  obtain rfl := hm0
  exact b2h (by simp only [go_sem, s6, lA9, mA9]) (b0k _)
theorem b44 (hf : Has O "newel/newelref06.within" x_r06_within) : c2e O := by
 intro n low high
 generalize hm0 : b2y n low high = r
 unfold b2y at hm0
 refine b2u hf rfl (b0f (b0k _) (b0f (b0k _) (b0f (b0k _) b03))) (b0k _) ?_
 refine b2p (fun t h => t 0 = I n ∧ t 1 = I low ∧ t 2 = I high) ⟨rfl, rfl, rfl⟩ fun t h ⟨s0, s1, s2⟩ => ?_
 simp only [x_r06_within]
 refine b0e fun K hK => ?_
 simp only [go_sem]
 refine hK _ _ ?_
 clear hK K
 refine b2t (fun t h => t 6 = B ((decide (low ≤ n)) && (decide (n ≤ high)))) (fun K hK => ?_) ?_
 ·simp only [go_sem, s0, s1, s2]
  refine b0u (fun hg1 => ?_) (fun hg1 => ?_)
  ·simp only [go_sem, s0, s1, s2, hg1]
   exact hK _ _ (by first | (simp only [go_sem, hg1, lA9, mA9]; done) | rfl)
  ·simp only [go_sem, s0, s1, s2, hg1]
   exact hK _ _ (by first | (simp only [go_sem, hg1, lA9, mA9]; done) | rfl)
 ·rintro t h s6
  simp only [b1k, b1m, b1l, b1n]
  obtain rfl := hm0
  exact b2h (by simp only [go_sem, s6, lA9, mA9]) (b0k _)
theorem d1k (hf : Has O "slices.ContainsFunc[[]newel/api.Train,newel/api.Train]" x_slices_ContainsFunc___api_Train_api_Train_) (d1m : c8o O) : c8m O := by
 intro s f_n f_a f_b f f_z f_h r hm0
 unfold c19 at hm0
 refine b2u hf rfl (b0f (b0y fun a _ => b2m a) (b0f f_z b03)) (b0k _) ?_
 refine b2p (fun t h => t 0 = .fs 3 (List.map b0p s) ∧ t 1 = .fn f_n f_a f_b) ⟨rfl, rfl⟩ fun t h ⟨s0, s1⟩ => ?_
 simp only [x_slices_ContainsFunc___api_Train_api_Train_]
 refine b0e fun K hK => ?_
 simp only [go_sem]
 refine hK _ _ ?_
 clear hK K
 obtain ⟨y2, h_y2, hm0⟩ := b0j hm0
 refine b0e fun K hK => ?_
 simp only [go_sem, s0, s1]
 refine b1u (d1m s f_n f_a f_b f f_z f_h _ h_y2) ?_
 simp only [go_sem, s0, s1]
 refine hK _ _ ?_
 clear hK K
 simp only [b1k, b1m, b1l, b1n]
 obtain rfl := sI9 hm0
 exact b2h (by simp only [go_sem, lA9, mA9]) (b0k _)
theorem d1l (hf : Has O "slices.ContainsFunc[[]int,int]" x_slices_ContainsFunc___int_int_) (c3u : c43 O) : c8n O := by
 intro s f_n f_a f_b f f_z f_h r hm0
 unfold c2a at hm0
 refine b2u hf rfl (b0f (b0y fun a _ => b3f a) (b0f f_z b03)) (b0k _) ?_
 refine b2p (fun t h => t 0 = .fs 1 (List.map eI s) ∧ t 1 = .fn f_n f_a f_b) ⟨rfl, rfl⟩ fun t h ⟨s0, s1⟩ => ?_
 simp only [x_slices_ContainsFunc___int_int_]
 refine b0e fun K hK => ?_
 simp only [go_sem]
 refine hK _ _ ?_
 clear hK K
 obtain ⟨y2, h_y2, hm0⟩ := b0j hm0
 refine b0e fun K hK => ?_
 simp only [go_sem, s0, s1]
 refine b1u (c3u s f_n f_a f_b f f_z f_h _ h_y2) ?_
 simp only [go_sem, s0, s1]
 refine hK _ _ ?_
 clear hK K
 simp only [b1k, b1m, b1l, b1n]
 obtain rfl := sI9 hm0
 exact b2h (by simp only [go_sem, lA9, mA9]) (b0k _)
theorem d1m (hf : Has O "slices.IndexFunc[[]newel/api.Train,newel/api.Train]" x_slices_IndexFunc___api_Train_api_Train_) : c8o O := by
 intro s f_n f_a f_b f f_z f_h r hm0
 unfold c4l at hm0
 refine b2u hf rfl (b0f (b0y fun a _ => b2m a) (b0f f_z b03)) (b0k _) ?_
 refine b2p (fun t h => t 0 = .fs 3 (List.map b0p s) ∧ t 1 = .fn f_n f_a f_b) ⟨rfl, rfl⟩ fun t h ⟨s0, s1⟩ => ?_
 simp only [x_slices_IndexFunc___api_Train_api_Train_]
 refine b0e fun K hK => ?_
 simp only [go_sem]
 refine hK _ _ ?_
 clear hK K
 refine b04 ?_
 refine b0e fun K hK => ?_
 simp only [go_sem, s0]
 refine hK _ _ ?_
 clear hK K
 refine b0x fun K1 hK1 => ?_
 have J2 : ∀ (t : Slots) (h : Heap), c4m = some r → K1 t h := by
  intro t h hm0
  refine hK1 _ _ ?_
  unfold c4m at hm0
  refine b0e fun K hK => ?_
  simp only [go_sem]
  refine hK _ _ ?_
  clear hK K
  simp only [b1k, b1m, b1l, b1n]
  obtain rfl := sI9 hm0
  exact b2h (by simp only [go_sem, lA9, mA9]) (b0k _)
 simp only [b1c]
 obtain ⟨b3, hl3, hm0⟩ := b0j hm0
 refine b2b hl3 (fun | x_8, t, h => t 0 = .fs 3 (List.map b0p s) ∧ t 1 = .fn f_n f_a f_b ∧ t 7 = I (List.length s : Int) ∧ t 8 = I x_8) ?_ ?_
 ·exact ⟨s0, s1, (by first | (simp only [go_sem, lA9, mA9]; done) | rfl), (by first | (simp only [go_sem, lA9, mA9]; done) | rfl)⟩
 ·rintro x_8 o t h ⟨s0, s1, s7, s8⟩ hm1 hb3
  simp only [c7r] at hm1
  rw [g2g]
  refine b0e fun K hK => ?_
  simp only [go_sem, s7, s8]
  refine hK _ _ ?_
  clear hK K
  refine b0x fun K4 hK4 => ?_
  simp only [go_sem]
  refine b0u (fun hc5 => ?_) (fun hc5 => ?_)
  ·rw [b1b hc5] at hm1
   simp only [b07, b0m, b0n]
   refine hK4 _ _ ?_
   refine b0x fun K6 hK6 => ?_
   simp only [b1c]
   refine b0e fun K hK => ?_
   simp only [go_sem, s8]
   refine hK _ _ ?_
   clear hK K
   obtain ⟨x9, h_x9, hm1⟩ := b0j hm1
   have h_x90 := b06 h_x9
   have h_x91 := b09 h_x9
   obtain ⟨y10, h_y10, hm1⟩ := b0j hm1
   refine b0e fun K hK => ?_
   simp only [go_sem, s0, s1, b0v h_x9, b0w h_x9, h_x90, h_x91]
   refine d69 (f_h x9 _ h_y10) ?_
   simp only [go_sem, s0, s1, b0v h_x9, b0w h_x9, h_x90, h_x91]
   refine hK _ _ ?_
   clear hK K
   simp only [go_sem]
   refine b0u (fun hc11 => ?_) (fun hc11 => ?_)
   ·rw [b1b hc11] at hm1
    refine b0e fun K hK => ?_
    simp only [go_sem]
    refine hK _ _ ?_
    clear hK K
    simp only [b1k, b1m, b1l, b1n]
    obtain rfl := sI9 hm1
    obtain rfl := hb3 _ rfl
    try dsimp only at hm0
    obtain rfl := sI9 hm0
    exact b2h (by simp only [go_sem, lA9, mA9]) (b0k _)
   ·rw [b1a hc11] at hm1
    simp only [b07, b0m, b0n]
    refine hK6 _ _ ?_
    refine b1o fun K hK => ?_
    simp only [go_sem, s8]
    refine hK _ _ ?_
    clear hK K
    simp only [b0m, b0n]
    obtain rfl := sI9 hm1
    refine ⟨_, rfl, ?_⟩
    exact ⟨s0, s1, s7, (by first | (simp only [go_sem, s8, lA9, mA9]; done) | rfl)⟩
  ·rw [b1a hc5] at hm1
   simp only [b1z, b2a, b19, b11, b0m, b0n, Nat.reduceEqDiff, nF9]
   obtain rfl := sI9 hm1
   obtain rfl := hb3 _ rfl
   try dsimp only at hm0
   exact J2  _ _  hm0
theorem c3u (hf : Has O "slices.IndexFunc[[]int,int]" x_slices_IndexFunc___int_int_) : c43 O := by
 intro s f_n f_a f_b f f_z f_h r hm0
 unfold b9y at hm0
 refine b2u hf rfl (b0f (b0y fun a _ => b3f a) (b0f f_z b03)) (b0k _) ?_
 refine b2p (fun t h => t 0 = .fs 1 (List.map eI s) ∧ t 1 = .fn f_n f_a f_b) ⟨rfl, rfl⟩ fun t h ⟨s0, s1⟩ => ?_
 simp only [x_slices_IndexFunc___int_int_]
 refine b0e fun K hK => ?_
 simp only [go_sem]
 refine hK _ _ ?_
 clear hK K
 refine b04 ?_
 refine b0e fun K hK => ?_
 simp only [go_sem, s0]
 refine hK _ _ ?_
 clear hK K
 refine b0x fun K1 hK1 => ?_
 have J2 : ∀ (t : Slots) (h : Heap), c4n = some r → K1 t h := by
  intro t h hm0
  refine hK1 _ _ ?_
  unfold c4n at hm0
  refine b0e fun K hK => ?_
  simp only [go_sem]
  refine hK _ _ ?_
  clear hK K
  simp only [b1k, b1m, b1l, b1n]
  obtain rfl := sI9 hm0
  exact b2h (by simp only [go_sem, lA9, mA9]) (b0k _)
 simp only [b1c]
 obtain ⟨b3, hl3, hm0⟩ := b0j hm0
 refine b2b hl3 (fun | x_8, t, h => t 0 = .fs 1 (List.map eI s) ∧ t 1 = .fn f_n f_a f_b ∧ t 7 = I (List.length s : Int) ∧ t 8 = I x_8) ?_ ?_
 ·exact ⟨s0, s1, (by first | (simp only [go_sem, lA9, mA9]; done) | rfl), (by first | (simp only [go_sem, lA9, mA9]; done) | rfl)⟩
 ·rintro x_8 o t h ⟨s0, s1, s7, s8⟩ hm1 hb3
  simp only [c7s] at hm1
  rw [g2h]
  refine b0e fun K hK => ?_
  simp only [go_sem, s7, s8]
  refine hK _ _ ?_
  clear hK K
  refine b0x fun K4 hK4 => ?_
  simp only [go_sem]
  refine b0u (fun hc5 => ?_) (fun hc5 => ?_)
  ·rw [b1b hc5] at hm1
   simp only [b07, b0m, b0n]
   refine hK4 _ _ ?_
   refine b0x fun K6 hK6 => ?_
   simp only [b1c]
   refine b0e fun K hK => ?_
   simp only [go_sem, s8]
   refine hK _ _ ?_
   clear hK K
   obtain ⟨x9, h_x9, hm1⟩ := b0j hm1
   have h_x90 := b06 h_x9
   have h_x91 := b09 h_x9
   obtain ⟨y10, h_y10, hm1⟩ := b0j hm1
   refine b0e fun K hK => ?_
   simp only [go_sem, s0, s1, b0v h_x9, b0w h_x9, h_x90, h_x91]
   refine d69 (f_h x9 _ h_y10) ?_
   simp only [go_sem, s0, s1, b0v h_x9, b0w h_x9, h_x90, h_x91]
   refine hK _ _ ?_
   clear hK K
   simp only [go_sem]
   refine b0u (fun hc11 => ?_) (fun hc11 => ?_)
   ·rw [b1b hc11] at hm1
    refine b0e fun K hK => ?_
    simp only [go_sem]
    refine hK _ _ ?_
    clear hK K
    simp only [b1k, b1m, b1l, b1n]
    obtain rfl := sI9 hm1
    obtain rfl := hb3 _ rfl
    try dsimp only at hm0
    obtain rfl := sI9 hm0
    exact b2h (by simp only [go_sem, lA9, mA9]) (b0k _)
   ·rw [b1a hc11] at hm1
    simp only [b07, b0m, b0n]
    refine hK6 _ _ ?_
    refine b1o fun K hK => ?_
    simp only [go_sem, s8]
    refine hK _ _ ?_
    clear hK K
    simp only [b0m, b0n]
    obtain rfl := sI9 hm1
    refine ⟨_, rfl, ?_⟩
    exact ⟨s0, s1, s7, (by first | (simp only [go_sem, s8, lA9, mA9]; done) | rfl)⟩
  ·rw [b1a hc5] at hm1
   simp only [b1z, b2a, b19, b11, b0m, b0n, Nat.reduceEqDiff, nF9]
   obtain rfl := sI9 hm1
   obtain rfl := hb3 _ rfl
   try dsimp only at hm0
   exact J2  _ _  hm0
end Go.Nw.HM
