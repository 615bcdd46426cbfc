/- That the texts make what their models say: printed by a program. -/
import Derived.Test.YtaccbljgojdfjaaDoorFM
set_option linter.all false
set_option linter.unusedVariables false
set_option linter.unusedSimpArgs false
set_option linter.unusedSectionVars false
namespace Go.Nw.FM
open Go.Nw.Fault
set_option linter.unusedSimpArgs false
set_option linter.unusedVariables false
set_option maxHeartbeats 4000000
variable {O : Orac}
theorem c1k (hf : Has O "cmp.Compare[int]" x_cmp_Compare_int_) (b8r : b9x O) : b9w O := by
 intro x y
 generalize hm0 : b3w x y = r
 unfold b3w at hm0
 refine b1z hf rfl (b0j (b0d _) (b0j (b0d _) b04)) (b0d _) ?_
 refine b1y (fun t h => t 0 = I x ∧ t 1 = I y) ⟨rfl, rfl⟩ fun t h ⟨s0, s1⟩ => ?_
 simp only [x_cmp_Compare_int_]
 refine b0c fun K hK => ?_
 simp only [go_sem]
 refine hK _ _ ?_
 clear hK K
 refine b0c fun K hK => ?_
 simp only [go_sem, s0]
 refine b03 (b8r x) ?_
 simp only [go_sem, s0]
 refine hK _ _ ?_
 clear hK K
 refine b0c fun K hK => ?_
 simp only [go_sem, s1]
 refine b03 (b8r y) ?_
 simp only [go_sem, s1]
 refine hK _ _ ?_
 clear hK K
 refine b0z ?_
 refine b0c fun K hK => ?_
 simp only [go_sem]
 refine hK _ _ ?_
 clear hK K
 refine b0n fun K1 hK1 => ?_
 simp only [go_sem]
 refine b0i (fun hc2 => ?_) (fun hc2 => ?_)
 ·rw [b06 hc2] at hm0
  refine b0z ?_
  refine b0c fun K hK => ?_
  simp only [go_sem]
  refine hK _ _ ?_
  clear hK K
  refine b0n fun K3 hK3 => ?_
  simp only [go_sem]
  refine b0i (fun hc4 => ?_) (fun hc4 => ?_)
  ·rw [b06 hc4] at hm0
   refine b0c fun K hK => ?_
   simp only [go_sem]
   refine hK _ _ ?_
   clear hK K
   simp only [b0s, b0u, b0t, b0v]
   obtain rfl := hm0
   exact b09 (by simp only [go_sem, lA9, mA9]) (b0d _)
  ·rw [b05 hc4] at hm0
   simp only [b00, b0g, b0h]
   refine hK3 _ _ ?_
   refine b0c fun K hK => ?_
   simp only [go_sem]
   refine hK _ _ ?_
   clear hK K
   simp only [b0s, b0u, b0t, b0v]
   obtain rfl := hm0
   exact b09 (by simp only [go_sem, lA9, mA9]) (b0d _)
 ·rw [b05 hc2] at hm0
  simp only [b00, b0g, b0h]
  refine hK1 _ _ ?_
  refine b0z ?_
  refine b0c fun K hK => ?_
  simp only [go_sem]
  refine hK _ _ ?_
  clear hK K
  refine b0n fun K5 hK5 => ?_
  simp only [go_sem]
  refine b0i (fun hc6 => ?_) (fun hc6 => ?_)
  ·rw [b06 hc6] at hm0
   refine b0c fun K hK => ?_
   simp only [go_sem]
   refine hK _ _ ?_
   clear hK K
   simp only [b0s, b0u, b0t, b0v]
   obtain rfl := hm0
   exact b09 (by simp only [go_sem, lA9, mA9]) (b0d _)
  ·rw [b05 hc6] at hm0
   simp only [b00, b0g, b0h]
   refine hK5 _ _ ?_
   refine b0z ?_
   refine b0c fun K hK => ?_
   simp only [go_sem, s0, s1]
   refine hK _ _ ?_
   clear hK K
   refine b0n fun K7 hK7 => ?_
   simp only [go_sem]
   refine b0i (fun hc8 => ?_) (fun hc8 => ?_)
   ·rw [b06 hc8] at hm0
    refine b0c fun K hK => ?_
    simp only [go_sem]
    refine hK _ _ ?_
    clear hK K
    simp only [b0s, b0u, b0t, b0v]
    obtain rfl := hm0
    exact b09 (by simp only [go_sem, lA9, mA9]) (b0d _)
   ·rw [b05 hc8] at hm0
    simp only [b00, b0g, b0h]
    refine hK7 _ _ ?_
    refine b0z ?_
    refine b0c fun K hK => ?_
    simp only [go_sem, s0, s1]
    refine hK _ _ ?_
    clear hK K
    refine b0n fun K9 hK9 => ?_
    simp only [go_sem]
    refine b0i (fun hc10 => ?_) (fun hc10 => ?_)
    ·rw [b06 hc10] at hm0
     refine b0c fun K hK => ?_
     simp only [go_sem]
     refine hK _ _ ?_
     clear hK K
     simp only [b0s, b0u, b0t, b0v]
     obtain rfl := hm0
     exact b09 (by simp only [go_sem, lA9, mA9]) (b0d _)
    ·rw [b05 hc10] at hm0
     simp only [b00, b0g, b0h]
     refine hK9 _ _ ?_
     refine b0c fun K hK => ?_
     simp only [go_sem]
     refine hK _ _ ?_
     clear hK K
     simp only [b0s, b0u, b0t, b0v]
     obtain rfl := hm0
     exact b09 (by simp only [go_sem, lA9, mA9]) (b0d _)
theorem b8r (hf : Has O "cmp.isNaN[int]" x_cmp_isNaN_int_) : b9x O := by
 intro x
 generalize hm0 : b3x x = r
 unfold b3x at hm0
 refine b1z hf rfl (b0j (b0d _) b04) (b0d _) ?_
 refine b1y (fun t h => t 0 = I x) rfl fun t h s0 => ?_
 simp only [x_cmp_isNaN_int_]
 refine b0c fun K hK => ?_
 simp only [go_sem]
 refine hK _ _ ?_
 clear hK K
 refine b0c fun K hK => ?_
 simp only [go_sem, s0]
 refine hK _ _ ?_
 clear hK K
 simp only [b0s, b0u, b0t, b0v]
 obtain rfl := hm0
 exact b09 (by simp only [go_sem, lA9, mA9]) (b0d _)
theorem c1l (hf : Has O "newel/faults.Liars" x_faults_Liars) (b6y : b7o O) (b6x : b7m O) (c1n : b90 O) (b5s : b7n O) : b9y O := by
 intro l r hm0
 unfold b6l at hm0
 refine b1z hf rfl (b0j (b22 fun a _ => b4v a) b04) (.tup _ (b0j (b22 fun a _ => b5l a) (b0j (b0d _) b04))) ?_
 refine b1y (fun t h => t 0 = .fs 4 (List.map b0r l)) rfl fun t h s0 => ?_
 simp only [x_faults_Liars]
 refine b0c fun K hK => ?_
 simp only [go_sem]
 refine hK _ _ ?_
 clear hK K
 refine b0z ?_
 obtain ⟨y2, h_y2, hm0⟩ := b0f hm0
 refine b0c fun K hK => ?_
 simp only [go_sem, s0]
 refine b03 (b6y l _ h_y2) ?_
 simp only [go_sem, s0]
 refine hK _ _ ?_
 clear hK K
 refine b0z ?_
 refine b0c fun K hK => ?_
 simp only [go_sem]
 refine hK _ _ ?_
 clear hK K
 refine b0n fun K3 hK3 => ?_
 simp only [go_sem]
 refine b0i (fun hc4 => ?_) (fun hc4 => ?_)
 ·rw [b06 hc4] at hm0
  refine b0c fun K hK => ?_
  simp only [go_sem]
  refine hK _ _ ?_
  clear hK K
  simp only [b0s, b0u, b0t, b0v]
  obtain rfl := sI9 hm0
  exact d17 (v := .v (.slice none 0 0)) (u := I y2) (by simp only [go_sem, lA9, mA9]) (by simp only [go_sem, lA9, mA9]) (.nil _) (.refl _ (b0d _))
 ·rw [b05 hc4] at hm0
  simp only [b00, b0g, b0h]
  refine hK3 _ _ ?_
  obtain ⟨q6, h_q6, hm0⟩ := b0f hm0
  refine b0c fun K hK => ?_
  simp only [go_sem, s0, c1a h_q6]
  refine hK _ _ ?_
  clear hK K
  refine b0z ?_
  refine b0c fun K hK => ?_
  simp only [go_sem]
  refine hK _ _ ?_
  clear hK K
  refine b0n fun K7 hK7 => ?_
  have J8 : ∀ (best_5 : Int) (t : Slots) (h : Heap), t 5 = I best_5 → b79 best_5 = some r → K7 t h := by
   intro best_5 t h s5 hm0
   refine hK7 _ _ ?_
   unfold b79 at hm0
   obtain ⟨y10, h_y10, hm0⟩ := b0f hm0
   refine b0c fun K hK => ?_
   simp only [go_sem, s5]
   refine b03 (b5s best_5 _ h_y10) ?_
   simp only [go_sem, s5]
   refine hK _ _ ?_
   clear hK K
   simp only [b0s, b0u, b0t, b0v]
   obtain rfl := sI9 hm0
   exact d19 (by simp only [go_sem, lA9, mA9]) (by simp only [go_sem, lA9, mA9]) (b22 fun a _ => b5l a) (b0d _)
  simp only [b1o]
  obtain ⟨b11, hl11, hm0⟩ := b0f hm0
  refine b3g hl11 (fun | (best_5, x_19), t, h => t 0 = .fs 4 (List.map b0r l) ∧ t 5 = I best_5 ∧ t 18 = I (wr (q6 - 1)) ∧ t 19 = I x_19) ?_ ?_
  ·exact ⟨s0, (by first | (simp only [go_sem, lA9, mA9]; done) | rfl), (by first | (simp only [go_sem, lA9, mA9]; done) | rfl), (by first | (simp only [go_sem, lA9, mA9]; done) | rfl)⟩
  ·rintro ⟨best_5, x_19⟩ o t h ⟨s0, s5, s18, s19⟩ hm1 hb11
   simp only [b6m] at hm1
   rw [c8t]
   refine b0c fun K hK => ?_
   simp only [go_sem, s18, s19]
   refine hK _ _ ?_
   clear hK K
   refine b0n fun K12 hK12 => ?_
   simp only [go_sem]
   refine b0i (fun hc13 => ?_) (fun hc13 => ?_)
   ·rw [b06 hc13] at hm1
    simp only [b00, b0g, b0h]
    refine hK12 _ _ ?_
    refine b0n fun K14 hK14 => ?_
    have J15 : ∀ (best_5_1 : Int) (t : Slots) (h : Heap), t 0 = .fs 4 (List.map b0r l) → t 5 = I best_5_1 → t 18 = I (wr (q6 - 1)) → t 19 = I x_19 → b4r x_19 best_5_1 = some o → K14 t h := by
     intro best_5_1 t h s0 s5 s18 s19 hm1
     refine hK14 _ _ ?_
     unfold b4r at hm1
     refine b19 fun K hK => ?_
     simp only [go_sem, s19]
     refine hK _ _ ?_
     clear hK K
     simp only [b0g, b0h]
     obtain rfl := sI9 hm1
     refine ⟨_, rfl, ?_⟩
     exact ⟨s0, s5, s18, (by first | (simp only [go_sem, s19, lA9, mA9]; done) | rfl)⟩
    simp only [b1o]
    refine b0c fun K hK => ?_
    simp only [go_sem, s19]
    refine hK _ _ ?_
    clear hK K
    obtain ⟨y17, h_y17, hm1⟩ := b0f hm1
    refine b0c fun K hK => ?_
    simp only [go_sem, s0]
    refine b03 (b6x l x_19 _ h_y17) ?_
    simp only [go_sem, s0]
    refine hK _ _ ?_
    clear hK K
    obtain ⟨c21, h_c21, hm1⟩ := b0f hm1
    refine b2z (fun t h => t 0 = .fs 4 (List.map b0r l) ∧ t 5 = I best_5 ∧ t 6 = I x_19 ∧ t 18 = I (wr (q6 - 1)) ∧ t 19 = I x_19 ∧ t 33 = B c21) (fun K hK => ?_) ?_
    ·simp only [go_sem, s5]
     refine b0i (fun hg22 => ?_) (fun hg22 => ?_)
     ·simp only [hg22, Bool.not_true, Bool.not_false, eq_self, if_true, if_false, Bool.true_or, Bool.or_true, Bool.false_or, Bool.or_false, Bool.true_and, Bool.and_true, Bool.false_and, Bool.and_false, Bool.false_eq_true] at h_c21
      obtain ⟨y20, h_y20, h_c21⟩ := b0f h_c21
      obtain rfl := sI9 h_c21
      simp only [go_sem, s5, hg22]
      refine b03 (c1n x_19 best_5 _ h_y20) ?_
      simp only [go_sem, s5, hg22]
      exact hK _ _ ⟨s0, s5, (by first | (simp only [go_sem, hg22, lA9, mA9]; done) | rfl), s18, s19, (by first | (simp only [go_sem, hg22, lA9, mA9]; done) | rfl)⟩
     ·simp only [hg22, Bool.not_true, Bool.not_false, eq_self, if_true, if_false, Bool.true_or, Bool.or_true, Bool.false_or, Bool.or_false, Bool.true_and, Bool.and_true, Bool.false_and, Bool.and_false, Bool.false_eq_true] at h_c21
      obtain rfl := sI9 h_c21
      simp only [go_sem, s5, hg22]
      exact hK _ _ ⟨s0, s5, (by first | (simp only [go_sem, hg22, lA9, mA9]; done) | rfl), s18, s19, (by first | (simp only [go_sem, hg22, lA9, mA9]; done) | rfl)⟩
    ·rintro t h ⟨s0, s5, s6, s18, s19, s33⟩
     simp only [go_sem, s33]
     refine b0i (fun hc23 => ?_) (fun hc23 => ?_)
     ·rw [b06 hc23] at hm1
      refine b19 fun K hK => ?_
      simp only [go_sem, s6]
      refine hK _ _ ?_
      clear hK K
      simp only [b0g, b0h]
      exact J15 x_19 _ _ s0 (by first | (simp only [go_sem, s5, lA9, mA9]; done) | rfl) s18 s19 hm1
     ·rw [b05 hc23] at hm1
      simp only [b00, b0g, b0h]
      exact J15 best_5 _ _ s0 s5 s18 s19 hm1
   ·rw [b05 hc13] at hm1
    simp only [b2y, b27, b26, b25, b0g, b0h, Nat.reduceEqDiff, nF9]
    obtain rfl := sI9 hm1
    obtain rfl := hb11 _ rfl
    try dsimp only at hm0
    exact J8 best_5 _ _ s5 hm0
theorem c1m (hf : Has O "newel/faults.Truth" x_faults_Truth) (b6y : b7o O) (b6x : b7m O) : b9z O := by
 intro l r hm0
 unfold b6n at hm0
 refine b1z hf rfl (b0j (b22 fun a _ => b4v a) b04) (.tup _ (b0j (.agg _ (b0j (b0d _) (b0j (b0d _) b04))) (b0j (b0d _) b04))) ?_
 refine b1y (fun t h => t 0 = .fs 4 (List.map b0r l)) rfl fun t h s0 => ?_
 simp only [x_faults_Truth]
 refine b0c fun K hK => ?_
 simp only [go_sem]
 refine hK _ _ ?_
 clear hK K
 refine b0z ?_
 obtain ⟨y2, h_y2, hm0⟩ := b0f hm0
 refine b0c fun K hK => ?_
 simp only [go_sem, s0]
 refine b03 (b6y l _ h_y2) ?_
 simp only [go_sem, s0]
 refine hK _ _ ?_
 clear hK K
 refine b0z ?_
 refine b0c fun K hK => ?_
 simp only [go_sem]
 refine hK _ _ ?_
 clear hK K
 refine b0n fun K3 hK3 => ?_
 simp only [go_sem]
 refine b0i (fun hc4 => ?_) (fun hc4 => ?_)
 ·rw [b06 hc4] at hm0
  refine b0c fun K hK => ?_
  simp only [go_sem]
  refine hK _ _ ?_
  clear hK K
  simp only [b0s, b0u, b0t, b0v]
  obtain rfl := sI9 hm0
  exact b71 (id := h.nx) (m := 2) (cs := [I 0, I 0]) (u := I y2) (by simp only [go_sem, lA9, mA9]) (by simp only [go_sem, lA9, mA9]) rfl (by simp only [go_sem, lA9, mA9]) (.refl _ (.agg _ (b0j (b0d _) (b0j (b0d _) b04)))) (.refl _ (b0d _))
 ·rw [b05 hc4] at hm0
  simp only [b00, b0g, b0h]
  refine hK3 _ _ ?_
  obtain ⟨y6, h_y6, hm0⟩ := b0f hm0
  refine b0c fun K hK => ?_
  simp only [go_sem, s0]
  refine b03 (b6x l 0 _ h_y6) ?_
  simp only [go_sem, s0]
  refine hK _ _ ?_
  clear hK K
  refine b0z ?_
  refine b2z (fun t h => ∃ i2 : Nat, ∃ i5 : Nat, t 2 = .rp i2 0 0 ∧ t 5 = .rp i5 0 0 ∧ t 24 = B ((decide ((List.length l : Int) = 0)) || (!y6.2)) ∧ h.ob i2 = some (2, [[I 0, I 0]]) ∧ i2 < h.nx ∧ h.ob i5 = some (2, [[I y6.1.Low, I y6.1.High]]) ∧ i5 < h.nx ∧ ¬i2 = i5) (fun K hK => ?_) ?_
  ·simp only [go_sem, s0]
   refine b0i (fun hg7 => ?_) (fun hg7 => ?_)
   ·simp only [go_sem, s0, hg7]
    exact hK _ _ ⟨h.nx, (nxs h.nx), (by first | (simp only [go_sem, hg7, lA9, mA9]; done) | rfl), (by first | (simp only [go_sem, hg7, lA9, mA9]; done) | rfl), (by first | (simp only [go_sem, hg7, lA9, mA9]; done) | rfl), (by simp only [go_sem, hg7, lA9, mA9]), (by simp only [go_sem]), (by simp only [go_sem, hg7, lA9, mA9]), (by simp only [go_sem]), (by first | first | assumption | omega | (simp only [nxs] <;> omega))⟩
   ·simp only [go_sem, s0, hg7]
    exact hK _ _ ⟨h.nx, (nxs h.nx), (by first | (simp only [go_sem, hg7, lA9, mA9]; done) | rfl), (by first | (simp only [go_sem, hg7, lA9, mA9]; done) | rfl), (by first | (simp only [go_sem, hg7, lA9, mA9]; done) | rfl), (by simp only [go_sem, hg7, lA9, mA9]), (by simp only [go_sem]), (by simp only [go_sem, hg7, lA9, mA9]), (by simp only [go_sem]), (by first | first | assumption | omega | (simp only [nxs] <;> omega))⟩
  ·rintro t h ⟨i2, i5, s2, s5, s24, Q8, Q9, Qc, Qa, Q5⟩
   refine b0n fun K8 hK8 => ?_
   simp only [go_sem, s24]
   refine b0i (fun hc9 => ?_) (fun hc9 => ?_)
   ·rw [b06 hc9] at hm0
    refine b0c fun K hK => ?_
    simp only [go_sem, s2, Q8, Q9, Qa, Q5, b2d Q5]
    refine hK _ _ ?_
    clear hK K
    simp only [b0s, b0u, b0t, b0v]
    obtain rfl := sI9 hm0
    exact b71 (id := i2) (m := 2) (cs := [I 0, I 0]) (u := I 3) (by simp only [go_sem, s2, Q8, Q9, Qc, Qa, Q5, b2d Q5, lA9, mA9]) (by simp only [go_sem, s2, Q8, Q9, Qc, Qa, Q5, b2d Q5, lA9, mA9]) rfl (by simp only [go_sem, s2, Q8, Q9, Qc, Qa, Q5, b2d Q5, lA9, mA9]) (.refl _ (.agg _ (b0j (b0d _) (b0j (b0d _) b04)))) (.refl _ (b0d _))
   ·rw [b05 hc9] at hm0
    simp only [b00, b0g, b0h]
    refine hK8 _ _ ?_
    refine b0c fun K hK => ?_
    simp only [go_sem, s2, s5, Q8, Q9, Qc, Qa, Q5, b2d Q5]
    refine hK _ _ ?_
    clear hK K
    simp only [b0s, b0u, b0t, b0v]
    obtain rfl := sI9 hm0
    exact b71 (id := i2) (m := 2) (cs := [I y6.1.Low, I y6.1.High]) (u := I 0) (by simp only [go_sem, s2, Q8, Q9, Qc, Qa, Q5, b2d Q5, lA9, mA9]) (by simp only [go_sem, s2, Q8, Q9, Qc, Qa, Q5, b2d Q5, lA9, mA9]) rfl (by simp only [go_sem, s2, Q8, Q9, Qc, Qa, Q5, b2d Q5, lA9, mA9]) (.refl _ (.agg _ (b0j (b0d _) (b0j (b0d _) b04)))) (.refl _ (b0d _))
theorem b6x (hf : Has O "newel/faults.common" x_faults_common) : b7m O := by
 intro l out r hm0
 unfold b5i at hm0
 refine b1z hf rfl (b0j (b22 fun a _ => b4v a) (b0j (b0d _) b04)) (.tup _ (b0j (.agg _ (b0j (b0d _) (b0j (b0d _) b04))) (b0j (b0d _) b04))) ?_
 refine b1y (fun t h => t 0 = .fs 4 (List.map b0r l) ∧ t 1 = I out) ⟨rfl, rfl⟩ fun t h ⟨s0, s1⟩ => ?_
 simp only [x_faults_common]
 refine b0c fun K hK => ?_
 simp only [go_sem]
 refine hK _ _ ?_
 clear hK K
 refine b0c fun K hK => ?_
 simp only [go_sem]
 refine hK _ _ ?_
 clear hK K
 refine b0z ?_
 refine b0c fun K hK => ?_
 simp only [go_sem, s0]
 refine hK _ _ ?_
 clear hK K
 refine b0n fun K1 hK1 => ?_
 have J2 : ∀ (s_6_0 : Int) (s_6_1 : Int) (i4 : Nat) (i6 : Nat) (t : Slots) (h : Heap), t 4 = .rp i4 0 0 → t 6 = .rp i6 0 0 → h.ob i4 = some (2, [[I 0, I 0]]) → i4 < h.nx → h.ob i6 = some (2, [[I s_6_0, I s_6_1]]) → i6 < h.nx → ¬i4 = i6 → c0y s_6_0 s_6_1 = some r → K1 t h := by
  intro s_6_0 s_6_1 i4 i6 t h s4 s6 Q6 Q3 Q7 Q2 Q1 hm0
  refine hK1 _ _ ?_
  unfold c0y at hm0
  refine b0z ?_
  refine d1w (s := 6) (id := i6) (n := 2) (cs := [I s_6_0, I s_6_1]) (by simp only [go_sem, s6, Q6, Q3, Q7, Q2, Q1, b2d Q1, lA9, mA9]) (by simp only [go_sem, s6, Q6, Q3, Q7, Q2, Q1, b2d Q1, lA9, mA9]) (b0j (b0d _) (b0j (b0d _) b04)) ?_
  refine b0c fun K hK => ?_
  simp only [go_sem, s4, s6, Q6, Q3, Q2, Q1, b2d Q1]
  refine hK _ _ ?_
  clear hK K
  simp only [b0s, b0u, b0t, b0v]
  obtain rfl := sI9 hm0
  exact b71 (id := i4) (m := 2) (cs := [I s_6_0, I s_6_1]) (u := B (decide (s_6_0 ≤ s_6_1))) (by simp only [go_sem, s4, Q6, Q3, Q7, Q2, Q1, b2d Q1, lA9, mA9]) (by simp only [go_sem, s4, Q6, Q3, Q7, Q2, Q1, b2d Q1, lA9, mA9]) rfl (by simp only [go_sem, s4, Q6, Q3, Q7, Q2, Q1, b2d Q1, lA9, mA9]) (.refl _ (.agg _ (b0j (b0d _) (b0j (b0d _) b04)))) (.refl _ (b0d _))
 simp only [b1o]
 obtain ⟨b3, hl3, hm0⟩ := b0f hm0
 refine b3g hl3 (fun | (s_6_0, s_6_1, x_13), t, h => ∃ i4 : Nat, ∃ i6 : Nat, t 1 = I out ∧ t 4 = .rp i4 0 0 ∧ t 6 = .rp i6 0 0 ∧ t 11 = .fs 4 (List.map b0r l) ∧ t 12 = I (List.length l : Int) ∧ t 13 = I x_13 ∧ h.ob i4 = some (2, [[I 0, I 0]]) ∧ i4 < h.nx ∧ h.ob i6 = some (2, [[I s_6_0, I s_6_1]]) ∧ i6 < h.nx ∧ ¬i4 = i6) ?_ ?_
 ·exact ⟨h.nx, (nxs h.nx), s1, (by first | (simp only [go_sem, lA9, mA9]; done) | rfl), (by first | (simp only [go_sem, lA9, mA9]; done) | rfl), (by first | (simp only [go_sem, lA9, mA9]; done) | rfl), (by first | (simp only [go_sem, lA9, mA9]; done) | rfl), (by first | (simp only [go_sem, lA9, mA9]; done) | rfl), (by simp only [go_sem, lA9, mA9]), (by simp only [go_sem]), (by simp only [go_sem, lA9, mA9]), (by simp only [go_sem]), (by first | first | assumption | omega | (simp only [nxs] <;> omega))⟩
 ·rintro ⟨s_6_0, s_6_1, x_13⟩ o t h ⟨i4, i6, s1, s4, s6, s11, s12, s13, Q6, Q3, Q7, Q2, Q1⟩ hm1 hb3
  simp only [b6o] at hm1
  rw [c8u]
  refine b0c fun K hK => ?_
  simp only [go_sem, s12, s13, Q3, Q2]
  refine hK _ _ ?_
  clear hK K
  refine b0n fun K4 hK4 => ?_
  simp only [go_sem]
  refine b0i (fun hc5 => ?_) (fun hc5 => ?_)
  ·rw [b06 hc5] at hm1
   simp only [b00, b0g, b0h]
   refine hK4 _ _ ?_
   refine b0n fun K6 hK6 => ?_
   have J7 : ∀ (s_6_0_1 : Int) (s_6_1_1 : Int) (t : Slots) (h : Heap), t 1 = I out → t 4 = .rp i4 0 0 → t 6 = .rp i6 0 0 → t 11 = .fs 4 (List.map b0r l) → t 12 = I (List.length l : Int) → t 13 = I x_13 → h.ob i4 = some (2, [[I 0, I 0]]) → i4 < h.nx → h.ob i6 = some (2, [[I s_6_0_1, I s_6_1_1]]) → i6 < h.nx → ¬i4 = i6 → b5j x_13 s_6_0_1 s_6_1_1 = some o → K6 t h := by
    try clear s1 s4 s6 s11 s12 s13 Q6 Q3 Q7 Q2 Q1
    intro s_6_0_1 s_6_1_1 t h s1 s4 s6 s11 s12 s13 Q6 Q3 Q7 Q2 Q1 hm1
    refine hK6 _ _ ?_
    unfold b5j at hm1
    refine b19 fun K hK => ?_
    simp only [go_sem, s13, Q3, Q2]
    refine hK _ _ ?_
    clear hK K
    simp only [b0g, b0h]
    obtain rfl := sI9 hm1
    refine ⟨_, rfl, ?_⟩
    exact ⟨i4, i6, s1, s4, s6, s11, s12, (by first | (simp only [go_sem, s13, lA9, mA9]; done) | rfl), Q6, Q3, Q7, Q2, Q1⟩
   simp only [b1o]
   obtain ⟨x9, h_x9, hm1⟩ := b0f hm1
   have h_x90 := b2g h_x9
   have h_x91 := b24 h_x9
   refine b0c fun K hK => ?_
   simp only [go_sem, s11, s13, Q3, Q2, b1a h_x9, b1b h_x9, h_x90, h_x91]
   refine hK _ _ ?_
   clear hK K
   obtain ⟨q11, h_q11, hm1⟩ := b0f hm1
   refine b0c fun K hK => ?_
   simp only [go_sem, s1, Q3, Q2, b1u h_q11]
   refine hK _ _ ?_
   clear hK K
   simp only [go_sem]
   refine b0i (fun hc12 => ?_) (fun hc12 => ?_)
   ·rw [b06 hc12] at hm1
    refine b0c fun K hK => ?_
    simp only [go_sem, Q3, Q2]
    refine hK _ _ ?_
    clear hK K
    refine b19 fun K hK => ?_
    simp only [go_sem, s6, Q7, Q2, Q3, Q1, b2d Q1]
    refine hK _ _ ?_
    clear hK K
    simp only [b0g, b0h]
    exact J7 (mx s_6_0 (wr (x9.Says - (wr (x9.Error + (wr (x9.Drift * x9.Days))))))) (mn s_6_1 (wr (x9.Says + (wr (x9.Error + (wr (x9.Drift * x9.Days))))))) _ _ s1 s4 s6 s11 s12 s13 (by simp only [go_sem, Q6, Q3, Q2, Q1, b2d Q1, lA9, mA9]) (by simp only [go_sem, Q3]) (by simp only [go_sem, Q7, Q2, lA9, mA9]) (by simp only [go_sem, Q2]) Q1 hm1
   ·rw [b05 hc12] at hm1
    simp only [b00, b0g, b0h]
    exact J7 s_6_0 s_6_1 _ _ s1 s4 s6 s11 s12 s13 (by simp only [go_sem, Q6, Q3, lA9, mA9]) (by simp only [go_sem, Q3]) (by simp only [go_sem, Q7, Q2, lA9, mA9]) (by simp only [go_sem, Q2]) Q1 hm1
  ·rw [b05 hc5] at hm1
   simp only [b2y, b27, b26, b25, b0g, b0h, Nat.reduceEqDiff, nF9]
   obtain rfl := sI9 hm1
   obtain rfl := hb3 _ rfl
   try dsimp only at hm0
   exact J2 s_6_0 s_6_1 i4 i6 _ _ s4 s6 Q6 Q3 Q7 Q2 Q1 hm0
theorem c1n (hf : Has O "newel/faults.fewer" x_faults_fewer) (b8t : b93 O) (b5s : b7n O) (c1s : b99 O) : b90 O := by
 intro a b r hm0
 unfold b6p at hm0
 refine b1z hf rfl (b0j (b0d _) (b0j (b0d _) b04)) (b0d _) ?_
 refine b1y (fun t h => t 0 = I a ∧ t 1 = I b) ⟨rfl, rfl⟩ fun t h ⟨s0, s1⟩ => ?_
 simp only [x_faults_fewer]
 refine b0c fun K hK => ?_
 simp only [go_sem]
 refine hK _ _ ?_
 clear hK K
 refine b0z ?_
 obtain ⟨y3, h_y3, hm0⟩ := b0f hm0
 obtain ⟨y4, h_y4, hm0⟩ := b0f hm0
 refine b0c fun K hK => ?_
 simp only [go_sem, s0, s1]
 refine b03 (b8t (IntKind.wrap .u64 a) _ h_y3) ?_
 simp only [go_sem, s0, s1]
 refine b03 (b8t (IntKind.wrap .u64 b) _ h_y4) ?_
 simp only [go_sem, s0, s1]
 refine hK _ _ ?_
 clear hK K
 refine b0z ?_
 refine b0c fun K hK => ?_
 simp only [go_sem]
 refine hK _ _ ?_
 clear hK K
 refine b0n fun K5 hK5 => ?_
 simp only [go_sem]
 refine b0i (fun hc6 => ?_) (fun hc6 => ?_)
 ·rw [b06 hc6] at hm0
  refine b0c fun K hK => ?_
  simp only [go_sem]
  refine hK _ _ ?_
  clear hK K
  simp only [b0s, b0u, b0t, b0v]
  obtain rfl := sI9 hm0
  exact b09 (by simp only [go_sem, lA9, mA9]) (b0d _)
 ·rw [b05 hc6] at hm0
  simp only [b00, b0g, b0h]
  refine hK5 _ _ ?_
  obtain ⟨y10, h_y10, hm0⟩ := b0f hm0
  obtain ⟨y11, h_y11, hm0⟩ := b0f hm0
  obtain ⟨y12, h_y12, hm0⟩ := b0f hm0
  refine b0c fun K hK => ?_
  simp only [go_sem, s0, s1]
  refine b03 (b5s a _ h_y10) ?_
  simp only [go_sem, s0, s1]
  refine b03 (b5s b _ h_y11) ?_
  simp only [go_sem, s0, s1]
  refine b03 (c1s y10 y11 _ h_y12) ?_
  simp only [go_sem, s0, s1]
  refine hK _ _ ?_
  clear hK K
  simp only [b0s, b0u, b0t, b0v]
  obtain rfl := sI9 hm0
  exact b09 (by simp only [go_sem, lA9, mA9]) (b0d _)
theorem b5s (hf : Has O "newel/faults.members" x_faults_members) (c1p : b95 O) : b7n O := by
 intro set r hm0
 unfold b39 at hm0
 refine b1z hf rfl (b0j (b0d _) b04) (b22 fun a _ => b5l a) ?_
 refine b1y (fun t h => t 0 = I set) rfl fun t h s0 => ?_
 simp only [x_faults_members]
 refine b0c fun K hK => ?_
 simp only [go_sem]
 refine hK _ _ ?_
 clear hK K
 refine b0c fun K hK => ?_
 simp only [go_sem]
 refine hK _ _ ?_
 clear hK K
 refine b0n fun K1 hK1 => ?_
 have J2 : ∀ (l_3 : List Int) (v3 : AV) (t : Slots) (h : Heap), t 3 = v3 → b1s h v3 1 (List.map eI l_3) → b6q l_3 = some r → K1 t h := by
  intro l_3 v3 t h s3 Qb hm0
  refine hK1 _ _ ?_
  unfold b6q at hm0
  refine b0c fun K hK => ?_
  simp only [go_sem, s3, b5r v3]
  refine hK _ _ ?_
  clear hK K
  simp only [b0s, b0u, b0t, b0v]
  obtain rfl := sI9 hm0
  exact d16 (v := v3) (by simp only [go_sem, b89 Qb, lA9, mA9]) (c4k (f := eI) (l := l_3) (b4g Qb (by intro j hj hl; first | rfl | simp only [go_sem, hl]) (by first | omega | exact Nat.le_refl _ | (simp only [go_sem, nxs] <;> omega))) b5l d7u)
 simp only [b1o]
 obtain ⟨b3, hl3, hm0⟩ := b0f hm0
 refine b3g hl3 (fun | (set_0, l_3), t, h => ∃ v3 : AV, t 0 = I set_0 ∧ t 3 = v3 ∧ b1s h v3 1 (List.map eI l_3)) ?_ ?_
 ·exact ⟨(.v (.slice none 0 0)), s0, (by first | (simp only [go_sem, lA9, mA9]; done) | rfl), g2v⟩
 ·rintro ⟨set_0, l_3⟩ o t h ⟨v3, s0, s3, Qb⟩ hm1 hb3
  simp only [b8a] at hm1
  rw [c8v]
  refine b0z ?_
  refine b0c fun K hK => ?_
  simp only [go_sem, s0, b5r v3]
  refine hK _ _ ?_
  clear hK K
  refine b0n fun K4 hK4 => ?_
  simp only [go_sem]
  refine b0i (fun hc5 => ?_) (fun hc5 => ?_)
  ·rw [b06 hc5] at hm1
   simp only [b00, b0g, b0h]
   refine hK4 _ _ ?_
   refine b0n fun K6 hK6 => ?_
   simp only [b1o]
   obtain ⟨y9, h_y9, hm1⟩ := b0f hm1
   obtain ⟨l10, h_l10, hm1⟩ := b0f hm1
   refine b19 fun K hK => ?_
   simp only [go_sem, s0, s3, b5r v3]
   refine b03 (c1p (IntKind.wrap .u64 set_0) _ h_y9) ?_
   simp only [go_sem, s0, s3, b5r v3]
   refine d4r (f := eI) (l := l_3) (m := ([y9])) ?_ ?_ ?_ ?_ h_l10 ?_
   ·exact (b4g Qb (by intro j hj hl; first | rfl | simp only [go_sem, hl]) (by first | omega | exact Nat.le_refl _ | (simp only [go_sem, nxs] <;> omega)))
   ·exact (g2x (by simp only [go_sem, b89 Qb, lA9, mA9]) (by simp only [go_sem, b89 Qb, lA9, mA9]))
   ·exact (d79 (by first | exact g1f | exact g1g (by first | omega | (simp only [nxs] <;> omega)) | assumption | exact c7p (by assumption) (by first | omega | (simp only [go_sem, nxs] <;> omega))))
   ·exact (fun _ => by simp)
   simp only [go_sem, s0, s3, b5r v3]
   refine hK _ _ ?_
   clear hK K
   simp only [b0g, b0h]
   refine hK6 _ _ ?_
   refine b19 fun K hK => ?_
   simp only [go_sem, s0, b5r v3]
   refine hK _ _ ?_
   clear hK K
   simp only [b0g, b0h]
   obtain rfl := sI9 hm1
   refine ⟨_, rfl, ?_⟩
   exact ⟨(.rs (nxs h.nx) 0 (List.length l10)), (by first | (simp only [go_sem, s0, lA9, mA9]; done) | rfl), (by first | (simp only [go_sem, s3, lA9, mA9]; done) | rfl), (g2w (by simp only [go_sem, b89 Qb, lA9, mA9]) (by first | rfl | simp only [go_sem, lA9, mA9]) (by simp only [go_sem]))⟩
  ·rw [b05 hc5] at hm1
   simp only [b2y, b27, b26, b25, b0g, b0h, Nat.reduceEqDiff, nF9]
   obtain rfl := sI9 hm1
   obtain rfl := hb3 _ rfl
   try dsimp only at hm0
   exact J2 l_3 v3 _ _ s3 Qb hm0
theorem b6y (hf : Has O "newel/faults.readings" x_faults_readings) (b5t : b91 O) : b7o O := by
 intro l r hm0
 unfold b4s at hm0
 refine b1z hf rfl (b0j (b22 fun a _ => b4v a) b04) (b0d _) ?_
 refine b1y (fun t h => t 0 = .fs 4 (List.map b0r l)) rfl fun t h s0 => ?_
 simp only [x_faults_readings]
 refine b0c fun K hK => ?_
 simp only [go_sem]
 refine hK _ _ ?_
 clear hK K
 refine b0z ?_
 refine b0c fun K hK => ?_
 simp only [go_sem, s0]
 refine hK _ _ ?_
 clear hK K
 refine b0n fun K1 hK1 => ?_
 simp only [go_sem]
 refine b0i (fun hc2 => ?_) (fun hc2 => ?_)
 ·rw [b06 hc2] at hm0
  refine b0c fun K hK => ?_
  simp only [go_sem]
  refine hK _ _ ?_
  clear hK K
  simp only [b0s, b0u, b0t, b0v]
  obtain rfl := sI9 hm0
  exact b09 (by simp only [go_sem, lA9, mA9]) (b0d _)
 ·rw [b05 hc2] at hm0
  simp only [b00, b0g, b0h]
  refine hK1 _ _ ?_
  refine b0z ?_
  refine b0c fun K hK => ?_
  simp only [go_sem, s0]
  refine hK _ _ ?_
  clear hK K
  refine b0n fun K3 hK3 => ?_
  have J4 : ∀ (t : Slots) (h : Heap), c02 = some r → K3 t h := by
   intro t h hm0
   refine hK3 _ _ ?_
   unfold c02 at hm0
   refine b0c fun K hK => ?_
   simp only [go_sem]
   refine hK _ _ ?_
   clear hK K
   simp only [b0s, b0u, b0t, b0v]
   obtain rfl := sI9 hm0
   exact b09 (by simp only [go_sem, lA9, mA9]) (b0d _)
  simp only [b1o]
  obtain ⟨b5, hl5, hm0⟩ := b0f hm0
  refine b3g hl5 (fun | x_10, t, h => t 8 = .fs 4 (List.map b0r l) ∧ t 9 = I (List.length l : Int) ∧ t 10 = I x_10) ?_ ?_
  ·exact ⟨(by first | (simp only [go_sem, lA9, mA9]; done) | rfl), (by first | (simp only [go_sem, lA9, mA9]; done) | rfl), (by first | (simp only [go_sem, lA9, mA9]; done) | rfl)⟩
  ·rintro x_10 o t h ⟨s8, s9, s10⟩ hm1 hb5
   simp only [b5k] at hm1
   rw [c8w]
   refine b0c fun K hK => ?_
   simp only [go_sem, s9, s10]
   refine hK _ _ ?_
   clear hK K
   refine b0n fun K6 hK6 => ?_
   simp only [go_sem]
   refine b0i (fun hc7 => ?_) (fun hc7 => ?_)
   ·rw [b06 hc7] at hm1
    simp only [b00, b0g, b0h]
    refine hK6 _ _ ?_
    refine b0n fun K8 hK8 => ?_
    simp only [b1o]
    obtain ⟨x10, h_x10, hm1⟩ := b0f hm1
    have h_x100 := b2g h_x10
    have h_x101 := b24 h_x10
    refine b0c fun K hK => ?_
    simp only [go_sem, s8, s10, b1a h_x10, b1b h_x10, h_x100, h_x101]
    refine hK _ _ ?_
    clear hK K
    refine b2z (fun t h => t 8 = .fs 4 (List.map b0r l) ∧ t 9 = I (List.length l : Int) ∧ t 10 = I x_10 ∧ t 35 = B ((((!(b2s x10.Says (-100000) 100000)) || (!(b2s x10.Error 0 1000))) || (!(b2s x10.Drift 0 1000))) || (!(b2s x10.Days 0 1000)))) (fun K hK => ?_) ?_
    ·simp only [go_sem]
     refine b03 (b5t x10.Says (-100000) 100000) ?_
     simp only [go_sem]
     refine b0i (fun hg11 => ?_) (fun hg11 => ?_)
     ·simp only [go_sem, hg11]
      exact hK _ _ ⟨s8, s9, s10, (by first | (simp only [go_sem, hg11, lA9, mA9]; done) | rfl)⟩
     ·simp only [go_sem, hg11]
      refine b03 (b5t x10.Error 0 1000) ?_
      simp only [go_sem, hg11]
      refine b0i (fun hg12 => ?_) (fun hg12 => ?_)
      ·simp only [go_sem, hg11, hg12]
       exact hK _ _ ⟨s8, s9, s10, (by first | (simp only [go_sem, hg11, hg12, lA9, mA9]; done) | rfl)⟩
      ·simp only [go_sem, hg11, hg12]
       refine b03 (b5t x10.Drift 0 1000) ?_
       simp only [go_sem, hg11, hg12]
       refine b0i (fun hg13 => ?_) (fun hg13 => ?_)
       ·simp only [go_sem, hg11, hg12, hg13]
        exact hK _ _ ⟨s8, s9, s10, (by first | (simp only [go_sem, hg11, hg12, hg13, lA9, mA9]; done) | rfl)⟩
       ·simp only [go_sem, hg11, hg12, hg13]
        refine b03 (b5t x10.Days 0 1000) ?_
        simp only [go_sem, hg11, hg12, hg13]
        exact hK _ _ ⟨s8, s9, s10, (by first | (simp only [go_sem, hg11, hg12, hg13, lA9, mA9]; done) | rfl)⟩
    ·rintro t h ⟨s8, s9, s10, s35⟩
     simp only [go_sem, s35]
     refine b0i (fun hc14 => ?_) (fun hc14 => ?_)
     ·rw [b06 hc14] at hm1
      refine b0c fun K hK => ?_
      simp only [go_sem]
      refine hK _ _ ?_
      clear hK K
      simp only [b0s, b0u, b0t, b0v]
      obtain rfl := sI9 hm1
      obtain rfl := hb5 _ rfl
      try dsimp only at hm0
      obtain rfl := sI9 hm0
      exact b09 (by simp only [go_sem, lA9, mA9]) (b0d _)
     ·rw [b05 hc14] at hm1
      simp only [b00, b0g, b0h]
      refine hK8 _ _ ?_
      refine b19 fun K hK => ?_
      simp only [go_sem, s10]
      refine hK _ _ ?_
      clear hK K
      simp only [b0g, b0h]
      obtain rfl := sI9 hm1
      refine ⟨_, rfl, ?_⟩
      exact ⟨s8, s9, (by first | (simp only [go_sem, s10, lA9, mA9]; done) | rfl)⟩
   ·rw [b05 hc7] at hm1
    simp only [b2y, b27, b26, b25, b0g, b0h, Nat.reduceEqDiff, nF9]
    obtain rfl := sI9 hm1
    obtain rfl := hb5 _ rfl
    try dsimp only at hm0
    exact J4  _ _  hm0
theorem b5t (hf : Has O "newel/faults.within" x_faults_within) : b91 O := by
 intro n low high
 generalize hm0 : b2s n low high = r
 unfold b2s at hm0
 refine b1z hf rfl (b0j (b0d _) (b0j (b0d _) (b0j (b0d _) b04))) (b0d _) ?_
 refine b1y (fun t h => t 0 = I n ∧ t 1 = I low ∧ t 2 = I high) ⟨rfl, rfl, rfl⟩ fun t h ⟨s0, s1, s2⟩ => ?_
 simp only [x_faults_within]
 refine b0c fun K hK => ?_
 simp only [go_sem]
 refine hK _ _ ?_
 clear hK K
 refine b2z (fun t h => t 6 = B ((decide (low ≤ n)) && (decide (n ≤ high)))) (fun K hK => ?_) ?_
 ·simp only [go_sem, s0, s1, s2]
  refine b0i (fun hg1 => ?_) (fun hg1 => ?_)
  ·simp only [go_sem, s0, s1, s2, hg1]
   exact hK _ _ (by first | (simp only [go_sem, hg1, lA9, mA9]; done) | rfl)
  ·simp only [go_sem, s0, s1, s2, hg1]
   exact hK _ _ (by first | (simp only [go_sem, hg1, lA9, mA9]; done) | rfl)
 ·rintro t h s6
  simp only [b0s, b0u, b0t, b0v]
  obtain rfl := hm0
  exact b09 (by simp only [go_sem, s6, lA9, mA9]) (b0d _)
theorem d7k (hf : Has O "newel/newellaw10.FaultsTruth" x_l10_FaultsTruth) (c1r : b97 O) (k_l10_works : c2y O) (c1m : b9z O) (c1l : b9y O) (b5u : b7p O) (b8s : b92 O) : c2x O := by
 intro l n but r hm0
 unfold b6z at hm0
 refine b1z hf rfl (b0j (b22 fun a _ => b4v a) (b0j (b0d _) (b0j (b0d _) b04))) (b0d _) ?_
 refine b1y (fun t h => t 0 = .fs 4 (List.map b0r l) ∧ t 1 = I n ∧ t 2 = I but) ⟨rfl, rfl, rfl⟩ fun t h ⟨s0, s1, s2⟩ => ?_
 simp only [x_l10_FaultsTruth]
 refine b0c fun K hK => ?_
 simp only [go_sem]
 refine hK _ _ ?_
 clear hK K
 refine b0z ?_
 obtain ⟨c4, h_c4, hm0⟩ := b0f hm0
 refine b2z (fun t h => t 0 = .fs 4 (List.map b0r l) ∧ t 1 = I n ∧ t 2 = I but ∧ t 25 = B c4) (fun K hK => ?_) ?_
 ·simp only [go_sem, s0]
  refine b0i (fun hg5 => ?_) (fun hg5 => ?_)
  ·simp only [hg5, Bool.not_true, Bool.not_false, eq_self, if_true, if_false, Bool.true_or, Bool.or_true, Bool.false_or, Bool.or_false, Bool.true_and, Bool.and_true, Bool.false_and, Bool.and_false, Bool.false_eq_true] at h_c4
   obtain rfl := sI9 h_c4
   simp only [go_sem, s0, hg5]
   exact hK _ _ ⟨s0, s1, s2, (by first | (simp only [go_sem, hg5, lA9, mA9]; done) | rfl)⟩
  ·simp only [hg5, Bool.not_true, Bool.not_false, eq_self, if_true, if_false, Bool.true_or, Bool.or_true, Bool.false_or, Bool.or_false, Bool.true_and, Bool.and_true, Bool.false_and, Bool.and_false, Bool.false_eq_true] at h_c4
   obtain ⟨y3, h_y3, h_c4⟩ := b0f h_c4
   obtain rfl := sI9 h_c4
   simp only [go_sem, s0, hg5]
   refine b03 (c1r l _ h_y3) ?_
   simp only [go_sem, s0, hg5]
   exact hK _ _ ⟨s0, s1, s2, (by first | (simp only [go_sem, hg5, lA9, mA9]; done) | rfl)⟩
 ·rintro t h ⟨s0, s1, s2, s25⟩
  refine b0n fun K6 hK6 => ?_
  simp only [go_sem, s25]
  refine b0i (fun hc7 => ?_) (fun hc7 => ?_)
  ·rw [b06 hc7] at hm0
   obtain ⟨y9, h_y9, hm0⟩ := b0f hm0
   refine b0c fun K hK => ?_
   simp only [go_sem]
   refine b03 (k_l10_works  _ h_y9) ?_
   simp only [go_sem]
   refine hK _ _ ?_
   clear hK K
   simp only [b0s, b0u, b0t, b0v]
   obtain rfl := sI9 hm0
   exact b09 (by simp only [go_sem, lA9, mA9]) (b0d _)
  ·rw [b05 hc7] at hm0
   simp only [b00, b0g, b0h]
   refine hK6 _ _ ?_
   obtain ⟨y11, h_y11, hm0⟩ := b0f hm0
   refine b0c fun K hK => ?_
   simp only [go_sem, s0]
   refine b03 (c1m l _ h_y11) ?_
   simp only [go_sem, s0]
   refine hK _ _ ?_
   clear hK K
   obtain ⟨y13, h_y13, hm0⟩ := b0f hm0
   refine b0c fun K hK => ?_
   simp only [go_sem, s0]
   refine b03 (c1l l _ h_y13) ?_
   simp only [go_sem, s0]
   refine hK _ _ ?_
   clear hK K
   refine b0z ?_
   refine b2z (fun t h => ∃ i7 : Nat, t 0 = .fs 4 (List.map b0r l) ∧ t 1 = I n ∧ t 2 = I but ∧ t 7 = .rp i7 0 0 ∧ t 8 = I y11.2 ∧ t 9 = .fs 1 (List.map eI y13.1) ∧ t 57 = B (((decide (¬y13.2 = 0)) || ((decide (¬y11.2 = 0)) && (decide (¬y11.2 = 3)))) || ((decide (y11.2 = 0)) && (decide (y11.1.High < y11.1.Low)))) ∧ h.ob i7 = some (2, [[I y11.1.Low, I y11.1.High]]) ∧ i7 < h.nx) (fun K hK => ?_) ?_
   ·simp only [go_sem]
    refine b0i (fun hg14 => ?_) (fun hg14 => ?_)
    ·simp only [go_sem, hg14]
     exact hK _ _ ⟨h.nx, s0, s1, s2, (by first | (simp only [go_sem, hg14, lA9, mA9]; done) | rfl), (by first | (simp only [go_sem, hg14, lA9, mA9]; done) | rfl), (by first | (simp only [go_sem, hg14, lA9, mA9]; done) | rfl), (by first | (simp only [go_sem, hg14, lA9, mA9]; done) | rfl), (by simp only [go_sem, hg14, lA9, mA9]), (by simp only [go_sem])⟩
    ·simp only [go_sem, hg14]
     refine b0i (fun hg15 => ?_) (fun hg15 => ?_)
     ·simp only [go_sem, hg14, hg15]
      refine b0i (fun hg16 => ?_) (fun hg16 => ?_)
      ·simp only [go_sem, hg14, hg15, hg16]
       exact hK _ _ ⟨h.nx, s0, s1, s2, (by first | (simp only [go_sem, hg14, hg15, hg16, lA9, mA9]; done) | rfl), (by first | (simp only [go_sem, hg14, hg15, hg16, lA9, mA9]; done) | rfl), (by first | (simp only [go_sem, hg14, hg15, hg16, lA9, mA9]; done) | rfl), (by first | (simp only [go_sem, hg14, hg15, hg16, lA9, mA9]; done) | rfl), (by simp only [go_sem, hg14, hg15, hg16, lA9, mA9]), (by simp only [go_sem])⟩
      ·simp only [go_sem, hg14, hg15, hg16]
       refine b0i (fun hg17 => ?_) (fun hg17 => ?_)
       ·simp only [go_sem, hg14, hg15, hg16, hg17]
        exact hK _ _ ⟨h.nx, s0, s1, s2, (by first | (simp only [go_sem, hg14, hg15, hg16, hg17, lA9, mA9]; done) | rfl), (by first | (simp only [go_sem, hg14, hg15, hg16, hg17, lA9, mA9]; done) | rfl), (by first | (simp only [go_sem, hg14, hg15, hg16, hg17, lA9, mA9]; done) | rfl), (by first | (simp only [go_sem, hg14, hg15, hg16, hg17, lA9, mA9]; done) | rfl), (by simp only [go_sem, hg14, hg15, hg16, hg17, lA9, mA9]), (by simp only [go_sem])⟩
       ·simp only [go_sem, hg14, hg15, hg16, hg17]
        exact hK _ _ ⟨h.nx, s0, s1, s2, (by first | (simp only [go_sem, hg14, hg15, hg16, hg17, lA9, mA9]; done) | rfl), (by first | (simp only [go_sem, hg14, hg15, hg16, hg17, lA9, mA9]; done) | rfl), (by first | (simp only [go_sem, hg14, hg15, hg16, hg17, lA9, mA9]; done) | rfl), (by first | (simp only [go_sem, hg14, hg15, hg16, hg17, lA9, mA9]; done) | rfl), (by simp only [go_sem, hg14, hg15, hg16, hg17, lA9, mA9]), (by simp only [go_sem])⟩
     ·simp only [go_sem, hg14, hg15]
      refine b0i (fun hg18 => ?_) (fun hg18 => ?_)
      ·simp only [go_sem, hg14, hg15, hg18]
       exact hK _ _ ⟨h.nx, s0, s1, s2, (by first | (simp only [go_sem, hg14, hg15, hg18, lA9, mA9]; done) | rfl), (by first | (simp only [go_sem, hg14, hg15, hg18, lA9, mA9]; done) | rfl), (by first | (simp only [go_sem, hg14, hg15, hg18, lA9, mA9]; done) | rfl), (by first | (simp only [go_sem, hg14, hg15, hg18, lA9, mA9]; done) | rfl), (by simp only [go_sem, hg14, hg15, hg18, lA9, mA9]), (by simp only [go_sem])⟩
      ·simp only [go_sem, hg14, hg15, hg18]
       exact hK _ _ ⟨h.nx, s0, s1, s2, (by first | (simp only [go_sem, hg14, hg15, hg18, lA9, mA9]; done) | rfl), (by first | (simp only [go_sem, hg14, hg15, hg18, lA9, mA9]; done) | rfl), (by first | (simp only [go_sem, hg14, hg15, hg18, lA9, mA9]; done) | rfl), (by first | (simp only [go_sem, hg14, hg15, hg18, lA9, mA9]; done) | rfl), (by simp only [go_sem, hg14, hg15, hg18, lA9, mA9]), (by simp only [go_sem])⟩
   ·rintro t h ⟨i7, s0, s1, s2, s7, s8, s9, s57, Q4, Q0⟩
    refine b0n fun K19 hK19 => ?_
    simp only [go_sem, s57]
    refine b0i (fun hc20 => ?_) (fun hc20 => ?_)
    ·rw [b06 hc20] at hm0
     refine b0c fun K hK => ?_
     simp only [go_sem, Q0]
     refine hK _ _ ?_
     clear hK K
     simp only [b0s, b0u, b0t, b0v]
     obtain rfl := sI9 hm0
     exact b09 (by simp only [go_sem, Q4, Q0, lA9, mA9]) (b0d _)
    ·rw [b05 hc20] at hm0
     simp only [b00, b0g, b0h]
     refine hK19 _ _ ?_
     refine b0c fun K hK => ?_
     simp only [go_sem, s0, Q0]
     refine hK _ _ ?_
     clear hK K
     refine b0z ?_
     refine b0c fun K hK => ?_
     simp only [go_sem, Q0]
     refine hK _ _ ?_
     clear hK K
     refine b0n fun K21 hK21 => ?_
     have J22 : ∀ (all_11 : Bool) (t : Slots) (h : Heap), t 0 = .fs 4 (List.map b0r l) → t 1 = I n → t 2 = I but → t 7 = .rp i7 0 0 → t 8 = I y11.2 → t 9 = .fs 1 (List.map eI y13.1) → t 11 = B all_11 → h.ob i7 = some (2, [[I y11.1.Low, I y11.1.High]]) → i7 < h.nx → b8u l n but y11 y13 all_11 = some r → K21 t h := by
      try clear s0 s1 s2 s7 s8 s9 s57 Q4 Q0
      intro all_11 t h s0 s1 s2 s7 s8 s9 s11 Q4 Q0 hm0
      refine hK21 _ _ ?_
      unfold b8u at hm0
      refine b0z ?_
      refine b2z (fun t h => t 0 = .fs 4 (List.map b0r l) ∧ t 2 = I but ∧ t 9 = .fs 1 (List.map eI y13.1) ∧ t 100 = B (!(b3s all_11 (((decide (y11.2 = 0)) && (decide (y11.1.Low ≤ n))) && (decide (n ≤ y11.1.High)))))) (fun K hK => ?_) ?_
      ·simp only [go_sem, s1, s7, s8, s11, Q4, Q0]
       refine b0i (fun hg23 => ?_) (fun hg23 => ?_)
       ·simp only [go_sem, s1, s7, s8, s11, Q4, Q0, hg23]
        refine b0i (fun hg24 => ?_) (fun hg24 => ?_)
        ·simp only [go_sem, s1, s7, s8, s11, Q4, Q0, hg23, hg24]
         exact hK _ _ ⟨s0, s2, s9, (by first | (simp only [go_sem, hg23, hg24, lA9, mA9]; done) | rfl)⟩
        ·simp only [go_sem, s1, s7, s8, s11, Q4, Q0, hg23, hg24]
         exact hK _ _ ⟨s0, s2, s9, (by first | (simp only [go_sem, hg23, hg24, lA9, mA9]; done) | rfl)⟩
       ·simp only [go_sem, s1, s7, s8, s11, Q4, Q0, hg23]
        exact hK _ _ ⟨s0, s2, s9, (by first | (simp only [go_sem, hg23, lA9, mA9]; done) | rfl)⟩
      ·try clear s0 s1 s2 s7 s8 s9 s11 Q4 Q0
       rintro t h ⟨s0, s2, s9, s100⟩
       refine b0n fun K25 hK25 => ?_
       simp only [go_sem, s100]
       refine b0i (fun hc26 => ?_) (fun hc26 => ?_)
       ·rw [b06 hc26] at hm0
        refine b0c fun K hK => ?_
        simp only [go_sem]
        refine hK _ _ ?_
        clear hK K
        simp only [b0s, b0u, b0t, b0v]
        obtain rfl := sI9 hm0
        exact b09 (by simp only [go_sem, lA9, mA9]) (b0d _)
       ·rw [b05 hc26] at hm0
        simp only [b00, b0g, b0h]
        refine hK25 _ _ ?_
        refine b0c fun K hK => ?_
        simp only [go_sem]
        refine hK _ _ ?_
        clear hK K
        refine b0z ?_
        refine b0c fun K hK => ?_
        simp only [go_sem]
        refine hK _ _ ?_
        clear hK K
        refine b0n fun K27 hK27 => ?_
        have J28 : ∀ (set_14 : Int) (t : Slots) (h : Heap), t 0 = .fs 4 (List.map b0r l) → t 2 = I but → t 9 = .fs 1 (List.map eI y13.1) → t 14 = I set_14 → b8v l but y13 set_14 = some r → K27 t h := by
         intro set_14 t h s0 s2 s9 s14 hm0
         refine hK27 _ _ ?_
         unfold b8v at hm0
         obtain ⟨q30, h_q30, hm0⟩ := b0f hm0
         refine b0c fun K hK => ?_
         simp only [go_sem, s0, s2, c1a h_q30]
         refine hK _ _ ?_
         clear hK K
         refine b0c fun K hK => ?_
         simp only [go_sem]
         refine hK _ _ ?_
         clear hK K
         refine b0z ?_
         refine b0c fun K hK => ?_
         simp only [go_sem]
         refine hK _ _ ?_
         clear hK K
         refine b0n fun K31 hK31 => ?_
         have J32 : ∀ (many_16 : Int) (t : Slots) (h : Heap), t 0 = .fs 4 (List.map b0r l) → t 2 = I (b1n but (wr (q30 - 1))) → t 9 = .fs 1 (List.map eI y13.1) → t 14 = I set_14 → t 16 = I many_16 → b8w l but y13 set_14 q30 many_16 = some r → K31 t h := by
          intro many_16 t h s0 s2 s9 s14 s16 hm0
          refine hK31 _ _ ?_
          unfold b8w at hm0
          obtain ⟨y39, h_y39, hm0⟩ := b0f hm0
          obtain ⟨c42, h_c42, hm0⟩ := b0f hm0
          obtain ⟨c44, h_c44, hm0⟩ := b0f hm0
          refine b2z (fun t h => t 6 = B c44) (fun K hK => ?_) ?_
          ·simp only [go_sem, s0, s2, s9, s14, s16]
           refine b03 (b8s l set_14 _ h_y39) ?_
           simp only [go_sem, s0, s2, s9, s14, s16]
           refine b0i (fun hg45 => ?_) (fun hg45 => ?_)
           ·simp only [hg45, Bool.not_true, Bool.not_false, eq_self, if_true, if_false, Bool.true_or, Bool.or_true, Bool.false_or, Bool.or_false, Bool.true_and, Bool.and_true, Bool.false_and, Bool.and_false, Bool.false_eq_true] at h_c42
            obtain ⟨c41, h_c41, h_c42⟩ := b0f h_c42
            obtain rfl := sI9 h_c42
            simp only [go_sem, s0, s2, s9, s14, s16, hg45]
            refine b0i (fun hg46 => ?_) (fun hg46 => ?_)
            ·simp only [hg45, hg46, Bool.not_true, Bool.not_false, eq_self, if_true, if_false, Bool.true_or, Bool.or_true, Bool.false_or, Bool.or_false, Bool.true_and, Bool.and_true, Bool.false_and, Bool.and_false, Bool.false_eq_true] at h_c41
             obtain rfl := sI9 h_c41
             simp only [hg45, hg46, Bool.not_true, Bool.not_false, eq_self, if_true, if_false, Bool.true_or, Bool.or_true, Bool.false_or, Bool.or_false, Bool.true_and, Bool.and_true, Bool.false_and, Bool.and_false, Bool.false_eq_true] at h_c44
             obtain ⟨y43, h_y43, h_c44⟩ := b0f h_c44
             obtain rfl := sI9 h_c44
             simp only [go_sem, s0, s2, s9, s14, s16, hg45, hg46]
             refine b03 (k_l10_works  _ h_y43) ?_
             simp only [go_sem, s0, s2, s9, s14, s16, hg45, hg46]
             exact hK _ _ (by first | (simp only [go_sem, hg45, hg46, lA9, mA9]; done) | rfl)
            ·simp only [hg45, hg46, Bool.not_true, Bool.not_false, eq_self, if_true, if_false, Bool.true_or, Bool.or_true, Bool.false_or, Bool.or_false, Bool.true_and, Bool.and_true, Bool.false_and, Bool.and_false, Bool.false_eq_true] at h_c41
             obtain ⟨y40, h_y40, h_c41⟩ := b0f h_c41
             obtain rfl := sI9 h_c41
             simp only [go_sem, s0, s2, s9, s14, s16, hg45, hg46]
             refine b03 (b8s l (b1n but (wr (q30 - 1))) _ h_y40) ?_
             simp only [go_sem, s0, s2, s9, s14, s16, hg45, hg46]
             refine b0i (fun hg47 => ?_) (fun hg47 => ?_)
             ·simp only [hg45, hg46, hg47, Bool.not_true, Bool.not_false, eq_self, if_true, if_false, Bool.true_or, Bool.or_true, Bool.false_or, Bool.or_false, Bool.true_and, Bool.and_true, Bool.false_and, Bool.and_false, Bool.false_eq_true] at h_c44
              obtain ⟨y43, h_y43, h_c44⟩ := b0f h_c44
              obtain rfl := sI9 h_c44
              simp only [go_sem, s0, s2, s9, s14, s16, hg45, hg46, hg47]
              refine b03 (k_l10_works  _ h_y43) ?_
              simp only [go_sem, s0, s2, s9, s14, s16, hg45, hg46, hg47]
              exact hK _ _ (by first | (simp only [go_sem, hg45, hg46, hg47, lA9, mA9]; done) | rfl)
             ·simp only [hg45, hg46, hg47, Bool.not_true, Bool.not_false, eq_self, if_true, if_false, Bool.true_or, Bool.or_true, Bool.false_or, Bool.or_false, Bool.true_and, Bool.and_true, Bool.false_and, Bool.and_false, Bool.false_eq_true] at h_c44
              obtain rfl := sI9 h_c44
              simp only [go_sem, s0, s2, s9, s14, s16, hg45, hg46, hg47]
              exact hK _ _ (by first | (simp only [go_sem, hg45, hg46, hg47, lA9, mA9]; done) | rfl)
           ·simp only [hg45, Bool.not_true, Bool.not_false, eq_self, if_true, if_false, Bool.true_or, Bool.or_true, Bool.false_or, Bool.or_false, Bool.true_and, Bool.and_true, Bool.false_and, Bool.and_false, Bool.false_eq_true] at h_c42
            obtain rfl := sI9 h_c42
            simp only [hg45, Bool.not_true, Bool.not_false, eq_self, if_true, if_false, Bool.true_or, Bool.or_true, Bool.false_or, Bool.or_false, Bool.true_and, Bool.and_true, Bool.false_and, Bool.and_false, Bool.false_eq_true] at h_c44
            obtain rfl := sI9 h_c44
            simp only [go_sem, s0, s2, s9, s14, s16, hg45]
            exact hK _ _ (by first | (simp only [go_sem, hg45, lA9, mA9]; done) | rfl)
          ·rintro t h s6
           simp only [b0s, b0u, b0t, b0v]
           obtain rfl := sI9 hm0
           exact b09 (by simp only [go_sem, s6, lA9, mA9]) (b0d _)
         simp only [b1o]
         obtain ⟨b48, hl48, hm0⟩ := b0f hm0
         refine b3g hl48 (fun | (many_16, i_17), t, h => t 0 = .fs 4 (List.map b0r l) ∧ t 2 = I (b1n but (wr (q30 - 1))) ∧ t 9 = .fs 1 (List.map eI y13.1) ∧ t 14 = I set_14 ∧ t 16 = I many_16 ∧ t 17 = I i_17) ?_ ?_
         ·exact ⟨s0, (by first | (simp only [go_sem, s2, lA9, mA9]; done) | rfl), s9, s14, (by first | (simp only [go_sem, lA9, mA9]; done) | rfl), (by first | (simp only [go_sem, lA9, mA9]; done) | rfl)⟩
         ·rintro ⟨many_16, i_17⟩ o t h ⟨s0, s2, s9, s14, s16, s17⟩ hm1 hb48
          simp only [b5y] at hm1
          rw [c8z]
          refine b0z ?_
          refine b0c fun K hK => ?_
          simp only [go_sem, s0, s17]
          refine hK _ _ ?_
          clear hK K
          refine b0n fun K49 hK49 => ?_
          simp only [go_sem]
          refine b0i (fun hc50 => ?_) (fun hc50 => ?_)
          ·rw [b06 hc50] at hm1
           simp only [b00, b0g, b0h]
           refine hK49 _ _ ?_
           refine b0n fun K51 hK51 => ?_
           simp only [b1o]
           obtain ⟨q53, h_q53, hm1⟩ := b0f hm1
           refine b19 fun K hK => ?_
           simp only [go_sem, s2, s16, s17, b1u h_q53]
           refine hK _ _ ?_
           clear hK K
           simp only [b0g, b0h]
           refine hK51 _ _ ?_
           refine b19 fun K hK => ?_
           simp only [go_sem, s17]
           refine hK _ _ ?_
           clear hK K
           simp only [b0g, b0h]
           obtain rfl := sI9 hm1
           refine ⟨_, rfl, ?_⟩
           exact ⟨s0, s2, s9, s14, (by first | (simp only [go_sem, s16, lA9, mA9]; done) | rfl), (by first | (simp only [go_sem, s17, lA9, mA9]; done) | rfl)⟩
          ·rw [b05 hc50] at hm1
           simp only [b2y, b27, b26, b25, b0g, b0h, Nat.reduceEqDiff, nF9]
           obtain rfl := sI9 hm1
           obtain rfl := hb48 _ rfl
           try dsimp only at hm0
           exact J32 many_16 _ _ s0 s2 s9 s14 s16 hm0
        simp only [b1o]
        obtain ⟨b55, hl55, hm0⟩ := b0f hm0
        refine b3g hl55 (fun | (set_14, i_15), t, h => t 0 = .fs 4 (List.map b0r l) ∧ t 2 = I but ∧ t 9 = .fs 1 (List.map eI y13.1) ∧ t 14 = I set_14 ∧ t 15 = I i_15) ?_ ?_
        ·exact ⟨s0, s2, s9, (by first | (simp only [go_sem, lA9, mA9]; done) | rfl), (by first | (simp only [go_sem, lA9, mA9]; done) | rfl)⟩
        ·rintro ⟨set_14, i_15⟩ o t h ⟨s0, s2, s9, s14, s15⟩ hm1 hb55
         simp only [b5x] at hm1
         rw [c8y]
         refine b0z ?_
         refine b0c fun K hK => ?_
         simp only [go_sem, s9, s15]
         refine hK _ _ ?_
         clear hK K
         refine b0n fun K56 hK56 => ?_
         simp only [go_sem]
         refine b0i (fun hc57 => ?_) (fun hc57 => ?_)
         ·rw [b06 hc57] at hm1
          simp only [b00, b0g, b0h]
          refine hK56 _ _ ?_
          refine b0n fun K58 hK58 => ?_
          simp only [b1o]
          refine b0z ?_
          obtain ⟨x63, h_x63, hm1⟩ := b0f hm1
          have h_x630 := b2g h_x63
          have h_x631 := b24 h_x63
          obtain ⟨c66, h_c66, hm1⟩ := b0f hm1
          refine b2z (fun t h => t 0 = .fs 4 (List.map b0r l) ∧ t 2 = I but ∧ t 9 = .fs 1 (List.map eI y13.1) ∧ t 14 = I set_14 ∧ t 15 = I i_15 ∧ t 136 = B c66) (fun K hK => ?_) ?_
          ·simp only [go_sem, s0, s9, s15, b1a h_x63, b1b h_x63, h_x630, h_x631]
           refine b0i (fun hg67 => ?_) (fun hg67 => ?_)
           ·simp only [hg67, Bool.not_true, Bool.not_false, eq_self, if_true, if_false, Bool.true_or, Bool.or_true, Bool.false_or, Bool.or_false, Bool.true_and, Bool.and_true, Bool.false_and, Bool.and_false, Bool.false_eq_true] at h_c66
            obtain rfl := sI9 h_c66
            simp only [go_sem, s0, s9, s15, b1a h_x63, b1b h_x63, h_x630, h_x631, hg67]
            exact hK _ _ ⟨s0, s2, s9, s14, s15, (by first | (simp only [go_sem, hg67, lA9, mA9]; done) | rfl)⟩
           ·simp only [go_sem, s0, s9, s15, b1a h_x63, b1b h_x63, h_x630, h_x631, hg67]
            refine b0i (fun hg68 => ?_) (fun hg68 => ?_)
            ·simp only [hg67, hg68, Bool.not_true, Bool.not_false, eq_self, if_true, if_false, Bool.true_or, Bool.or_true, Bool.false_or, Bool.or_false, Bool.true_and, Bool.and_true, Bool.false_and, Bool.and_false, Bool.false_eq_true] at h_c66
             obtain rfl := sI9 h_c66
             simp only [go_sem, s0, s9, s15, b1a h_x63, b1b h_x63, h_x630, h_x631, hg67, hg68]
             exact hK _ _ ⟨s0, s2, s9, s14, s15, (by first | (simp only [go_sem, hg67, hg68, lA9, mA9]; done) | rfl)⟩
            ·simp only [hg67, hg68, Bool.not_true, Bool.not_false, eq_self, if_true, if_false, Bool.true_or, Bool.or_true, Bool.false_or, Bool.or_false, Bool.true_and, Bool.and_true, Bool.false_and, Bool.and_false, Bool.false_eq_true] at h_c66
             obtain ⟨c65, h_c65, h_c66⟩ := b0f h_c66
             obtain rfl := sI9 h_c66
             simp only [go_sem, s0, s9, s15, b1a h_x63, b1b h_x63, h_x630, h_x631, hg67, hg68]
             refine b0i (fun hg69 => ?_) (fun hg69 => ?_)
             ·simp only [hg67, hg68, hg69, Bool.not_true, Bool.not_false, eq_self, if_true, if_false, Bool.true_or, Bool.or_true, Bool.false_or, Bool.or_false, Bool.true_and, Bool.and_true, Bool.false_and, Bool.and_false, Bool.false_eq_true] at h_c65
              obtain ⟨x64, h_x64, h_c65⟩ := b0f h_c65
              have h_x640 := b2g h_x64
              have h_x641 := b24 h_x64
              obtain rfl := sI9 h_c65
              simp only [go_sem, s0, s9, s15, b1a h_x63, b1b h_x63, h_x630, h_x631, b1a h_x64, b1b h_x64, h_x640, h_x641, hg67, hg68, hg69]
              exact hK _ _ ⟨s0, s2, s9, s14, s15, (by first | (simp only [go_sem, hg67, hg68, hg69, lA9, mA9]; done) | rfl)⟩
             ·simp only [hg67, hg68, hg69, Bool.not_true, Bool.not_false, eq_self, if_true, if_false, Bool.true_or, Bool.or_true, Bool.false_or, Bool.or_false, Bool.true_and, Bool.and_true, Bool.false_and, Bool.and_false, Bool.false_eq_true] at h_c65
              obtain rfl := sI9 h_c65
              simp only [go_sem, s0, s9, s15, b1a h_x63, b1b h_x63, h_x630, h_x631, hg67, hg68, hg69]
              exact hK _ _ ⟨s0, s2, s9, s14, s15, (by first | (simp only [go_sem, hg67, hg68, hg69, lA9, mA9]; done) | rfl)⟩
          ·rintro t h ⟨s0, s2, s9, s14, s15, s136⟩
           refine b0n fun K70 hK70 => ?_
           simp only [go_sem, s136]
           refine b0i (fun hc71 => ?_) (fun hc71 => ?_)
           ·rw [b06 hc71] at hm1
            refine b0c fun K hK => ?_
            simp only [go_sem]
            refine hK _ _ ?_
            clear hK K
            simp only [b0s, b0u, b0t, b0v]
            obtain rfl := sI9 hm1
            obtain rfl := hb55 _ rfl
            try dsimp only at hm0
            obtain rfl := sI9 hm0
            exact b09 (by simp only [go_sem, lA9, mA9]) (b0d _)
           ·rw [b05 hc71] at hm1
            simp only [b00, b0g, b0h]
            refine hK70 _ _ ?_
            obtain ⟨q73, h_q73, hm1⟩ := b0f hm1
            refine b19 fun K hK => ?_
            simp only [go_sem, s9, s14, s15, c1a h_q73, b1a h_x63, b1b h_x63, h_x630, h_x631]
            refine hK _ _ ?_
            clear hK K
            simp only [b0g, b0h]
            refine hK58 _ _ ?_
            refine b19 fun K hK => ?_
            simp only [go_sem, s15]
            refine hK _ _ ?_
            clear hK K
            simp only [b0g, b0h]
            obtain rfl := sI9 hm1
            refine ⟨_, rfl, ?_⟩
            exact ⟨s0, s2, s9, (by first | (simp only [go_sem, s14, lA9, mA9]; done) | rfl), (by first | (simp only [go_sem, s15, lA9, mA9]; done) | rfl)⟩
         ·rw [b05 hc57] at hm1
          simp only [b2y, b27, b26, b25, b0g, b0h, Nat.reduceEqDiff, nF9]
          obtain rfl := sI9 hm1
          obtain rfl := hb55 _ rfl
          try dsimp only at hm0
          exact J28 set_14 _ _ s0 s2 s9 s14 hm0
     simp only [b1o]
     obtain ⟨b75, hl75, hm0⟩ := b0f hm0
     refine b3g hl75 (fun | (all_11, i_12), t, h => t 0 = .fs 4 (List.map b0r l) ∧ t 1 = I n ∧ t 2 = I but ∧ t 7 = .rp i7 0 0 ∧ t 8 = I y11.2 ∧ t 9 = .fs 1 (List.map eI y13.1) ∧ t 11 = B all_11 ∧ t 12 = I i_12 ∧ h.ob i7 = some (2, [[I y11.1.Low, I y11.1.High]]) ∧ i7 < h.nx) ?_ ?_
     ·exact ⟨s0, s1, s2, s7, s8, s9, (by first | (simp only [go_sem, lA9, mA9]; done) | rfl), (by first | (simp only [go_sem, lA9, mA9]; done) | rfl), Q4, Q0⟩
     ·try clear s0 s1 s2 s7 s8 s9 s57 Q4 Q0
      rintro ⟨all_11, i_12⟩ o t h ⟨s0, s1, s2, s7, s8, s9, s11, s12, Q4, Q0⟩ hm1 hb75
      simp only [b5w] at hm1
      rw [c8x]
      refine b0z ?_
      refine b0c fun K hK => ?_
      simp only [go_sem, s0, s12, Q0]
      refine hK _ _ ?_
      clear hK K
      refine b0n fun K76 hK76 => ?_
      simp only [go_sem]
      refine b0i (fun hc77 => ?_) (fun hc77 => ?_)
      ·rw [b06 hc77] at hm1
       simp only [b00, b0g, b0h]
       refine hK76 _ _ ?_
       refine b0n fun K78 hK78 => ?_
       simp only [b1o]
       obtain ⟨x80, h_x80, hm1⟩ := b0f hm1
       have h_x800 := b2g h_x80
       have h_x801 := b24 h_x80
       refine b0c fun K hK => ?_
       simp only [go_sem, s0, s12, Q0, b1a h_x80, b1b h_x80, h_x800, h_x801]
       refine b03 (b5u x80) ?_
       simp only [go_sem, s0, s12, Q0, b1a h_x80, b1b h_x80, h_x800, h_x801]
       refine hK _ _ ?_
       clear hK K
       refine d10 (fun t h => t 0 = .fs 4 (List.map b0r l) ∧ t 1 = I n ∧ t 2 = I but ∧ t 7 = .rp i7 0 0 ∧ t 8 = I y11.2 ∧ t 9 = .fs 1 (List.map eI y13.1) ∧ t 11 = B ((all_11 && (decide (((b13 x80).Low) ≤ n))) && (decide (n ≤ ((b13 x80).High)))) ∧ t 12 = I i_12 ∧ h.ob i7 = some (2, [[I y11.1.Low, I y11.1.High]]) ∧ i7 < h.nx) (fun K hK => ?_) ?_
       ·simp only [go_sem, s1, s11, Q0]
        refine b0i (fun hg81 => ?_) (fun hg81 => ?_)
        ·simp only [go_sem, s1, s11, Q0, hg81]
         refine b0i (fun hg82 => ?_) (fun hg82 => ?_)
         ·simp only [go_sem, s1, s11, Q0, hg81, hg82]
          exact hK _ _ ⟨s0, s1, s2, s7, s8, s9, (by first | (simp only [go_sem, s11, hg81, hg82, lA9, mA9]; done) | rfl), s12, (by simp only [go_sem, Q4, Q0, hg81, hg82, lA9, mA9]), (by simp only [go_sem, Q0])⟩
         ·simp only [go_sem, s1, s11, Q0, hg81, hg82]
          exact hK _ _ ⟨s0, s1, s2, s7, s8, s9, (by first | (simp only [go_sem, s11, hg81, hg82, lA9, mA9]; done) | rfl), s12, (by simp only [go_sem, Q4, Q0, hg81, hg82, lA9, mA9]), (by simp only [go_sem, Q0])⟩
        ·simp only [go_sem, s1, s11, Q0, hg81]
         exact hK _ _ ⟨s0, s1, s2, s7, s8, s9, (by first | (simp only [go_sem, s11, hg81, lA9, mA9]; done) | rfl), s12, (by simp only [go_sem, Q4, Q0, hg81, lA9, mA9]), (by simp only [go_sem, Q0])⟩
       ·try clear s0 s1 s2 s7 s8 s9 s11 s12 Q4 Q0
        rintro t h ⟨s0, s1, s2, s7, s8, s9, s11, s12, Q4, Q0⟩
        simp only [b0g, b0h]
        refine hK78 _ _ ?_
        refine b19 fun K hK => ?_
        simp only [go_sem, s12, Q0]
        refine hK _ _ ?_
        clear hK K
        simp only [b0g, b0h]
        obtain rfl := sI9 hm1
        refine ⟨_, rfl, ?_⟩
        exact ⟨s0, s1, s2, s7, s8, s9, s11, (by first | (simp only [go_sem, s12, lA9, mA9]; done) | rfl), Q4, Q0⟩
      ·rw [b05 hc77] at hm1
       simp only [b2y, b27, b26, b25, b0g, b0h, Nat.reduceEqDiff, nF9]
       obtain rfl := sI9 hm1
       obtain rfl := hb75 _ rfl
       try dsimp only at hm0
       exact J22 all_11 _ _ s0 s1 s2 s7 s8 s9 s11 Q4 Q0 hm0
theorem b8s (hf : Has O "newel/newellaw10.agree" x_l10_agree) (b5u : b7p O) : b92 O := by
 intro l but r hm0
 unfold b5z at hm0
 refine b1z hf rfl (b0j (b22 fun a _ => b4v a) (b0j (b0d _) b04)) (b0d _) ?_
 refine b1y (fun t h => t 0 = .fs 4 (List.map b0r l) ∧ t 1 = I but) ⟨rfl, rfl⟩ fun t h ⟨s0, s1⟩ => ?_
 simp only [x_l10_agree]
 refine b0c fun K hK => ?_
 simp only [go_sem]
 refine hK _ _ ?_
 clear hK K
 refine b0z ?_
 refine b0c fun K hK => ?_
 simp only [go_sem]
 refine hK _ _ ?_
 clear hK K
 refine b0n fun K1 hK1 => ?_
 have J2 : ∀ (t : Slots) (h : Heap), b8x = some r → K1 t h := by
  intro t h hm0
  refine hK1 _ _ ?_
  unfold b8x at hm0
  refine b0c fun K hK => ?_
  simp only [go_sem]
  refine hK _ _ ?_
  clear hK K
  simp only [b0s, b0u, b0t, b0v]
  obtain rfl := sI9 hm0
  exact b09 (by simp only [go_sem, lA9, mA9]) (b0d _)
 simp only [b1o]
 obtain ⟨b3, hl3, hm0⟩ := b0f hm0
 refine b3g hl3 (fun | i_5, t, h => t 0 = .fs 4 (List.map b0r l) ∧ t 1 = I but ∧ t 5 = I i_5) ?_ ?_
 ·exact ⟨s0, s1, (by first | (simp only [go_sem, lA9, mA9]; done) | rfl)⟩
 ·rintro i_5 o t h ⟨s0, s1, s5⟩ hm1 hb3
  simp only [b50] at hm1
  rw [c80]
  refine b0z ?_
  refine b0c fun K hK => ?_
  simp only [go_sem, s0, s5]
  refine hK _ _ ?_
  clear hK K
  refine b0n fun K4 hK4 => ?_
  simp only [go_sem]
  refine b0i (fun hc5 => ?_) (fun hc5 => ?_)
  ·rw [b06 hc5] at hm1
   simp only [b00, b0g, b0h]
   refine hK4 _ _ ?_
   refine b0n fun K6 hK6 => ?_
   have J7 : ∀ (t : Slots) (h : Heap), t 0 = .fs 4 (List.map b0r l) → t 1 = I but → t 5 = I i_5 → b8y i_5 = some o → K6 t h := by
    intro t h s0 s1 s5 hm1
    refine hK6 _ _ ?_
    unfold b8y at hm1
    refine b19 fun K hK => ?_
    simp only [go_sem, s5]
    refine hK _ _ ?_
    clear hK K
    simp only [b0g, b0h]
    obtain rfl := sI9 hm1
    refine ⟨_, rfl, ?_⟩
    exact ⟨s0, s1, (by first | (simp only [go_sem, s5, lA9, mA9]; done) | rfl)⟩
   simp only [b1o]
   refine b0c fun K hK => ?_
   simp only [go_sem]
   refine hK _ _ ?_
   clear hK K
   simp only [b1o]
   obtain ⟨b8, hl8, hm1⟩ := b0f hm1
   refine b3g hl8 (fun | k_6, t, h => t 0 = .fs 4 (List.map b0r l) ∧ t 1 = I but ∧ t 5 = I i_5 ∧ t 6 = I k_6) ?_ ?_
   ·exact ⟨s0, s1, s5, (by first | (simp only [go_sem, lA9, mA9]; done) | rfl)⟩
   ·rintro k_6 o t h ⟨s0, s1, s5, s6⟩ hm2 hb8
    simp only [b51] at hm2
    rw [c81]
    refine b0z ?_
    refine b0c fun K hK => ?_
    simp only [go_sem, s5, s6]
    refine hK _ _ ?_
    clear hK K
    refine b0n fun K9 hK9 => ?_
    simp only [go_sem]
    refine b0i (fun hc10 => ?_) (fun hc10 => ?_)
    ·rw [b06 hc10] at hm2
     simp only [b00, b0g, b0h]
     refine hK9 _ _ ?_
     refine b0n fun K11 hK11 => ?_
     simp only [b1o]
     obtain ⟨x14, h_x14, hm2⟩ := b0f hm2
     have h_x140 := b2g h_x14
     have h_x141 := b24 h_x14
     obtain ⟨x15, h_x15, hm2⟩ := b0f hm2
     have h_x150 := b2g h_x15
     have h_x151 := b24 h_x15
     refine b0c fun K hK => ?_
     simp only [go_sem, s0, s5, s6, b1a h_x14, b1b h_x14, h_x140, h_x141, b1a h_x15, b1b h_x15, h_x150, h_x151]
     refine b03 (b5u x14) ?_
     simp only [go_sem, s0, s5, s6, b1a h_x14, b1b h_x14, h_x140, h_x141, b1a h_x15, b1b h_x15, h_x150, h_x151]
     refine b03 (b5u x15) ?_
     simp only [go_sem, s0, s5, s6, b1a h_x14, b1b h_x14, h_x140, h_x141, b1a h_x15, b1b h_x15, h_x150, h_x151]
     refine hK _ _ ?_
     clear hK K
     obtain ⟨q19, h_q19, hm2⟩ := b0f hm2
     obtain ⟨c21, h_c21, hm2⟩ := b0f hm2
     refine b2z (fun t h => t 0 = .fs 4 (List.map b0r l) ∧ t 1 = I but ∧ t 5 = I i_5 ∧ t 6 = I k_6 ∧ t 57 = B (c21 && ((decide (((b13 x14).High) < ((b13 x15).Low))) || (decide (((b13 x15).High) < ((b13 x14).Low)))))) (fun K hK => ?_) ?_
     ·simp only [go_sem, s1, s5, s6, b1u h_q19]
      refine b0i (fun hg22 => ?_) (fun hg22 => ?_)
      ·simp only [hg22, Bool.not_true, Bool.not_false, eq_self, if_true, if_false, Bool.true_or, Bool.or_true, Bool.false_or, Bool.or_false, Bool.true_and, Bool.and_true, Bool.false_and, Bool.and_false, Bool.false_eq_true] at h_c21
       obtain ⟨q20, h_q20, h_c21⟩ := b0f h_c21
       obtain rfl := sI9 h_c21
       simp only [go_sem, s1, s5, s6, b1u h_q19, b1u h_q20, hg22]
       refine b0i (fun hg23 => ?_) (fun hg23 => ?_)
       ·simp only [go_sem, s1, s5, s6, b1u h_q19, b1u h_q20, hg22, hg23]
        refine b0i (fun hg24 => ?_) (fun hg24 => ?_)
        ·simp only [go_sem, s1, s5, s6, b1u h_q19, b1u h_q20, hg22, hg23, hg24]
         exact hK _ _ ⟨s0, s1, s5, s6, (by first | (simp only [go_sem, hg22, hg23, hg24, lA9, mA9]; done) | rfl)⟩
        ·simp only [go_sem, s1, s5, s6, b1u h_q19, b1u h_q20, hg22, hg23, hg24]
         exact hK _ _ ⟨s0, s1, s5, s6, (by first | (simp only [go_sem, hg22, hg23, hg24, lA9, mA9]; done) | rfl)⟩
       ·simp only [go_sem, s1, s5, s6, b1u h_q19, b1u h_q20, hg22, hg23]
        exact hK _ _ ⟨s0, s1, s5, s6, (by first | (simp only [go_sem, hg22, hg23, lA9, mA9]; done) | rfl)⟩
      ·simp only [hg22, Bool.not_true, Bool.not_false, eq_self, if_true, if_false, Bool.true_or, Bool.or_true, Bool.false_or, Bool.or_false, Bool.true_and, Bool.and_true, Bool.false_and, Bool.and_false, Bool.false_eq_true] at h_c21
       obtain rfl := sI9 h_c21
       simp only [go_sem, s1, s5, s6, b1u h_q19, hg22]
       exact hK _ _ ⟨s0, s1, s5, s6, (by first | (simp only [go_sem, hg22, lA9, mA9]; done) | rfl)⟩
     ·rintro t h ⟨s0, s1, s5, s6, s57⟩
      simp only [go_sem, s57]
      refine b0i (fun hc25 => ?_) (fun hc25 => ?_)
      ·rw [b06 hc25] at hm2
       refine b0c fun K hK => ?_
       simp only [go_sem]
       refine hK _ _ ?_
       clear hK K
       simp only [b0s, b0u, b0t, b0v]
       obtain rfl := sI9 hm2
       obtain rfl := hb8 _ rfl
       try dsimp only at hm1
       obtain rfl := sI9 hm1
       obtain rfl := hb3 _ rfl
       try dsimp only at hm0
       obtain rfl := sI9 hm0
       exact b09 (by simp only [go_sem, lA9, mA9]) (b0d _)
      ·rw [b05 hc25] at hm2
       simp only [b00, b0g, b0h]
       refine hK11 _ _ ?_
       refine b19 fun K hK => ?_
       simp only [go_sem, s6]
       refine hK _ _ ?_
       clear hK K
       simp only [b0g, b0h]
       obtain rfl := sI9 hm2
       refine ⟨_, rfl, ?_⟩
       exact ⟨s0, s1, s5, (by first | (simp only [go_sem, s6, lA9, mA9]; done) | rfl)⟩
    ·rw [b05 hc10] at hm2
     simp only [b2y, b27, b26, b25, b0g, b0h, Nat.reduceEqDiff, nF9]
     obtain rfl := sI9 hm2
     obtain rfl := hb8 _ rfl
     try dsimp only at hm1
     exact J7  _ _ s0 s1 s5 hm1
  ·rw [b05 hc5] at hm1
   simp only [b2y, b27, b26, b25, b0g, b0h, Nat.reduceEqDiff, nF9]
   obtain rfl := sI9 hm1
   obtain rfl := hb3 _ rfl
   try dsimp only at hm0
   exact J2  _ _  hm0
theorem b8t (hf : Has O "math/bits.OnesCount" x_math_bits_OnesCount) (c1o : b94 O) : b93 O := by
 intro x r hm0
 unfold b4x at hm0
 refine b1z hf rfl (b0j (b0d _) b04) (b0d _) ?_
 refine b1y (fun t h => t 0 = .v (.int .u64 x)) rfl fun t h s0 => ?_
 simp only [x_math_bits_OnesCount]
 refine b0c fun K hK => ?_
 simp only [go_sem]
 refine hK _ _ ?_
 clear hK K
 refine b0n fun K1 hK1 => ?_
 simp only [c1i, c0r, c0s, b8h, b8g, b8f, b9r, b9q, Nat.reduceEqDiff, nF9]
 simp only [b00, b0g, b0h]
 refine hK1 _ _ ?_
 obtain ⟨y3, h_y3, hm0⟩ := b0f hm0
 refine b0c fun K hK => ?_
 simp only [go_sem, s0]
 refine b03 (c1o x _ h_y3) ?_
 simp only [go_sem, s0]
 refine hK _ _ ?_
 clear hK K
 simp only [b0s, b0u, b0t, b0v]
 obtain rfl := sI9 hm0
 exact b09 (by simp only [go_sem, lA9, mA9]) (b0d _)
theorem c1o (hf : Has O "math/bits.OnesCount64" x_math_bits_OnesCount64) : b94 O := by
 intro x r hm0
 unfold b62 at hm0
 refine b1z hf rfl (b0j (b0d _) b04) (b0d _) ?_
 refine b1y (fun t h => t 0 = .v (.int .u64 x)) rfl fun t h s0 => ?_
 simp only [x_math_bits_OnesCount64]
 refine b0c fun K hK => ?_
 simp only [go_sem]
 refine hK _ _ ?_
 clear hK K
 obtain ⟨q2, h_q2, hm0⟩ := b0f hm0
 refine b0c fun K hK => ?_
 simp only [go_sem, s0, b1u h_q2]
 refine hK _ _ ?_
 clear hK K
 obtain ⟨q4, h_q4, hm0⟩ := b0f hm0
 refine b0c fun K hK => ?_
 simp only [go_sem, s0, b1u h_q4]
 refine hK _ _ ?_
 clear hK K
 obtain ⟨q6, h_q6, hm0⟩ := b0f hm0
 refine b0c fun K hK => ?_
 simp only [go_sem, s0, b1u h_q6]
 refine hK _ _ ?_
 clear hK K
 obtain ⟨q8, h_q8, hm0⟩ := b0f hm0
 refine b0c fun K hK => ?_
 simp only [go_sem, s0, b1u h_q8]
 refine hK _ _ ?_
 clear hK K
 obtain ⟨q10, h_q10, hm0⟩ := b0f hm0
 refine b0c fun K hK => ?_
 simp only [go_sem, s0, b1u h_q10]
 refine hK _ _ ?_
 clear hK K
 obtain ⟨q12, h_q12, hm0⟩ := b0f hm0
 refine b0c fun K hK => ?_
 simp only [go_sem, s0, b1u h_q12]
 refine hK _ _ ?_
 clear hK K
 refine b0c fun K hK => ?_
 simp only [go_sem, s0]
 refine hK _ _ ?_
 clear hK K
 simp only [b0s, b0u, b0t, b0v]
 obtain rfl := sI9 hm0
 exact b09 (by simp only [go_sem, lA9, mA9]) (b0d _)
theorem c1p (hf : Has O "math/bits.TrailingZeros" x_math_bits_TrailingZeros) (c1q : b96 O) : b95 O := by
 intro x r hm0
 unfold b63 at hm0
 refine b1z hf rfl (b0j (b0d _) b04) (b0d _) ?_
 refine b1y (fun t h => t 0 = .v (.int .u64 x)) rfl fun t h s0 => ?_
 simp only [x_math_bits_TrailingZeros]
 refine b0c fun K hK => ?_
 simp only [go_sem]
 refine hK _ _ ?_
 clear hK K
 refine b0n fun K1 hK1 => ?_
 simp only [c1i, c0r, c0s, b8h, b8g, b8f, b9r, b9q, Nat.reduceEqDiff, nF9]
 simp only [b00, b0g, b0h]
 refine hK1 _ _ ?_
 obtain ⟨y3, h_y3, hm0⟩ := b0f hm0
 refine b0c fun K hK => ?_
 simp only [go_sem, s0]
 refine b03 (c1q x _ h_y3) ?_
 simp only [go_sem, s0]
 refine hK _ _ ?_
 clear hK K
 simp only [b0s, b0u, b0t, b0v]
 obtain rfl := sI9 hm0
 exact b09 (by simp only [go_sem, lA9, mA9]) (b0d _)
theorem c1q (hf : Has O "math/bits.TrailingZeros64" x_math_bits_TrailingZeros64) : b96 O := by
 intro x r hm0
 unfold b64 at hm0
 refine b1z hf rfl (b0j (b0d _) b04) (b0d _) ?_
 refine b1y (fun t h => t 0 = .v (.int .u64 x)) rfl fun t h s0 => ?_
 simp only [x_math_bits_TrailingZeros64]
 refine b0c fun K hK => ?_
 simp only [go_sem]
 refine hK _ _ ?_
 clear hK K
 refine b0z ?_
 refine b0c fun K hK => ?_
 simp only [go_sem, s0]
 refine hK _ _ ?_
 clear hK K
 refine b0n fun K1 hK1 => ?_
 simp only [go_sem]
 refine b0i (fun hc2 => ?_) (fun hc2 => ?_)
 ·rw [b06 hc2] at hm0
  refine b0c fun K hK => ?_
  simp only [go_sem]
  refine hK _ _ ?_
  clear hK K
  simp only [b0s, b0u, b0t, b0v]
  obtain rfl := sI9 hm0
  exact b09 (by simp only [go_sem, lA9, mA9]) (b0d _)
 ·rw [b05 hc2] at hm0
  simp only [b00, b0g, b0h]
  refine hK1 _ _ ?_
  obtain ⟨q5, h_q5, hm0⟩ := b0f hm0
  obtain ⟨x6, h_x6, hm0⟩ := b0f hm0
  refine b0c fun K hK => ?_
  simp only [go_sem, s0, b1u h_q5, d6f (kd := .u8) (n := 64) h_x6 c09 rfl, d6e (kd := .u8) h_x6 c09]
  refine hK _ _ ?_
  clear hK K
  simp only [b0s, b0u, b0t, b0v]
  obtain rfl := sI9 hm0
  exact b09 (by simp only [go_sem, lA9, mA9]) (b0d _)
theorem b5u (hf : Has O "newel/newelref10.Allows" x_r10_Allows) : b7p O := by
 intro r_
 generalize hm0 : b13 r_ = r
 unfold b13 at hm0
 refine b1z hf rfl (b0j (.agg _ (b0j (b0d _) (b0j (b0d _) (b0j (b0d _) (b0j (b0d _) b04))))) b04) (.agg _ (b0j (b0d _) (b0j (b0d _) b04))) ?_
 refine b1y (fun t h => t 0 = .agg [I r_.Says, I r_.Error, I r_.Drift, I r_.Days]) rfl fun t h s0 => ?_
 simp only [x_r10_Allows]
 refine b0c fun K hK => ?_
 simp only [go_sem, s0]
 refine hK _ _ ?_
 clear hK K
 refine b0c fun K hK => ?_
 simp only [go_sem]
 refine hK _ _ ?_
 clear hK K
 refine b0c fun K hK => ?_
 simp only [go_sem]
 refine hK _ _ ?_
 clear hK K
 simp only [b0s, b0u, b0t, b0v]
 obtain rfl := hm0
 exact d14 (id := h.nx) (m := 2) (cs := [I (wr (r_.Says - (wr (r_.Error + (wr (r_.Drift * r_.Days)))))), I (wr (r_.Says + (wr (r_.Error + (wr (r_.Drift * r_.Days))))))]) (by simp only [go_sem, lA9, mA9]) (by simp only [go_sem, lA9, mA9]) rfl (.refl _ (.agg _ (b0j (b0d _) (b0j (b0d _) b04))))
theorem c1r (hf : Has O "newel/newelref10.Check" x_r10_Check) (b5v : b98 O) : b97 O := by
 intro l r hm0
 unfold b53 at hm0
 refine b1z hf rfl (b0j (b22 fun a _ => b4v a) b04) (b0d _) ?_
 refine b1y (fun t h => t 0 = .fs 4 (List.map b0r l)) rfl fun t h s0 => ?_
 simp only [x_r10_Check]
 refine b0c fun K hK => ?_
 simp only [go_sem]
 refine hK _ _ ?_
 clear hK K
 refine b0z ?_
 refine b0c fun K hK => ?_
 simp only [go_sem, s0]
 refine hK _ _ ?_
 clear hK K
 refine b0n fun K1 hK1 => ?_
 simp only [go_sem]
 refine b0i (fun hc2 => ?_) (fun hc2 => ?_)
 ·rw [b06 hc2] at hm0
  refine b0c fun K hK => ?_
  simp only [go_sem]
  refine hK _ _ ?_
  clear hK K
  simp only [b0s, b0u, b0t, b0v]
  obtain rfl := sI9 hm0
  exact b09 (by simp only [go_sem, lA9, mA9]) (b0d _)
 ·rw [b05 hc2] at hm0
  simp only [b00, b0g, b0h]
  refine hK1 _ _ ?_
  refine b0z ?_
  refine b0c fun K hK => ?_
  simp only [go_sem]
  refine hK _ _ ?_
  clear hK K
  refine b0n fun K3 hK3 => ?_
  have J4 : ∀ (t : Slots) (h : Heap), c2g = some r → K3 t h := by
   intro t h hm0
   refine hK3 _ _ ?_
   unfold c2g at hm0
   refine b0c fun K hK => ?_
   simp only [go_sem]
   refine hK _ _ ?_
   clear hK K
   simp only [b0s, b0u, b0t, b0v]
   obtain rfl := sI9 hm0
   exact b09 (by simp only [go_sem, lA9, mA9]) (b0d _)
  simp only [b1o]
  obtain ⟨b5, hl5, hm0⟩ := b0f hm0
  refine b3g hl5 (fun | i_3, t, h => t 0 = .fs 4 (List.map b0r l) ∧ t 3 = I i_3) ?_ ?_
  ·exact ⟨s0, (by first | (simp only [go_sem, lA9, mA9]; done) | rfl)⟩
  ·rintro i_3 o t h ⟨s0, s3⟩ hm1 hb5
   simp only [b54] at hm1
   rw [c82]
   refine b0z ?_
   refine b0c fun K hK => ?_
   simp only [go_sem, s0, s3]
   refine hK _ _ ?_
   clear hK K
   refine b0n fun K6 hK6 => ?_
   simp only [go_sem]
   refine b0i (fun hc7 => ?_) (fun hc7 => ?_)
   ·rw [b06 hc7] at hm1
    simp only [b00, b0g, b0h]
    refine hK6 _ _ ?_
    refine b0n fun K8 hK8 => ?_
    simp only [b1o]
    obtain ⟨x10, h_x10, hm1⟩ := b0f hm1
    have h_x100 := b2g h_x10
    have h_x101 := b24 h_x10
    refine b2z (fun t h => t 0 = .fs 4 (List.map b0r l) ∧ t 3 = I i_3 ∧ t 46 = B ((((!(b2v x10.Says (-100000) 100000)) || (!(b2v x10.Error 0 1000))) || (!(b2v x10.Drift 0 1000))) || (!(b2v x10.Days 0 1000)))) (fun K hK => ?_) ?_
    ·simp only [go_sem, s0, s3, b1a h_x10, b1b h_x10, h_x100, h_x101]
     refine b03 (b5v x10.Says (-100000) 100000) ?_
     simp only [go_sem, s0, s3, b1a h_x10, b1b h_x10, h_x100, h_x101]
     refine b0i (fun hg11 => ?_) (fun hg11 => ?_)
     ·simp only [go_sem, s0, s3, b1a h_x10, b1b h_x10, h_x100, h_x101, hg11]
      exact hK _ _ ⟨s0, s3, (by first | (simp only [go_sem, hg11, lA9, mA9]; done) | rfl)⟩
     ·simp only [go_sem, s0, s3, b1a h_x10, b1b h_x10, h_x100, h_x101, hg11]
      refine b03 (b5v x10.Error 0 1000) ?_
      simp only [go_sem, s0, s3, b1a h_x10, b1b h_x10, h_x100, h_x101, hg11]
      refine b0i (fun hg12 => ?_) (fun hg12 => ?_)
      ·simp only [go_sem, s0, s3, b1a h_x10, b1b h_x10, h_x100, h_x101, hg11, hg12]
       exact hK _ _ ⟨s0, s3, (by first | (simp only [go_sem, hg11, hg12, lA9, mA9]; done) | rfl)⟩
      ·simp only [go_sem, s0, s3, b1a h_x10, b1b h_x10, h_x100, h_x101, hg11, hg12]
       refine b03 (b5v x10.Drift 0 1000) ?_
       simp only [go_sem, s0, s3, b1a h_x10, b1b h_x10, h_x100, h_x101, hg11, hg12]
       refine b0i (fun hg13 => ?_) (fun hg13 => ?_)
       ·simp only [go_sem, s0, s3, b1a h_x10, b1b h_x10, h_x100, h_x101, hg11, hg12, hg13]
        exact hK _ _ ⟨s0, s3, (by first | (simp only [go_sem, hg11, hg12, hg13, lA9, mA9]; done) | rfl)⟩
       ·simp only [go_sem, s0, s3, b1a h_x10, b1b h_x10, h_x100, h_x101, hg11, hg12, hg13]
        refine b03 (b5v x10.Days 0 1000) ?_
        simp only [go_sem, s0, s3, b1a h_x10, b1b h_x10, h_x100, h_x101, hg11, hg12, hg13]
        exact hK _ _ ⟨s0, s3, (by first | (simp only [go_sem, hg11, hg12, hg13, lA9, mA9]; done) | rfl)⟩
    ·rintro t h ⟨s0, s3, s46⟩
     simp only [go_sem, s46]
     refine b0i (fun hc14 => ?_) (fun hc14 => ?_)
     ·rw [b06 hc14] at hm1
      refine b0c fun K hK => ?_
      simp only [go_sem]
      refine hK _ _ ?_
      clear hK K
      simp only [b0s, b0u, b0t, b0v]
      obtain rfl := sI9 hm1
      obtain rfl := hb5 _ rfl
      try dsimp only at hm0
      obtain rfl := sI9 hm0
      exact b09 (by simp only [go_sem, lA9, mA9]) (b0d _)
     ·rw [b05 hc14] at hm1
      simp only [b00, b0g, b0h]
      refine hK8 _ _ ?_
      refine b19 fun K hK => ?_
      simp only [go_sem, s3]
      refine hK _ _ ?_
      clear hK K
      simp only [b0g, b0h]
      obtain rfl := sI9 hm1
      refine ⟨_, rfl, ?_⟩
      exact ⟨s0, (by first | (simp only [go_sem, s3, lA9, mA9]; done) | rfl)⟩
   ·rw [b05 hc7] at hm1
    simp only [b2y, b27, b26, b25, b0g, b0h, Nat.reduceEqDiff, nF9]
    obtain rfl := sI9 hm1
    obtain rfl := hb5 _ rfl
    try dsimp only at hm0
    exact J4  _ _  hm0
theorem b5v (hf : Has O "newel/newelref10.from" x_r10_from) : b98 O := by
 intro n low high
 generalize hm0 : b2v n low high = r
 unfold b2v at hm0
 refine b1z hf rfl (b0j (b0d _) (b0j (b0d _) (b0j (b0d _) b04))) (b0d _) ?_
 refine b1y (fun t h => t 0 = I n ∧ t 1 = I low ∧ t 2 = I high) ⟨rfl, rfl, rfl⟩ fun t h ⟨s0, s1, s2⟩ => ?_
 simp only [x_r10_from]
 refine b0c fun K hK => ?_
 simp only [go_sem]
 refine hK _ _ ?_
 clear hK K
 refine b2z (fun t h => t 6 = B ((decide (low ≤ n)) && (decide (n ≤ high)))) (fun K hK => ?_) ?_
 ·simp only [go_sem, s0, s1, s2]
  refine b0i (fun hg1 => ?_) (fun hg1 => ?_)
  ·simp only [go_sem, s0, s1, s2, hg1]
   exact hK _ _ (by first | (simp only [go_sem, hg1, lA9, mA9]; done) | rfl)
  ·simp only [go_sem, s0, s1, s2, hg1]
   exact hK _ _ (by first | (simp only [go_sem, hg1, lA9, mA9]; done) | rfl)
 ·rintro t h s6
  simp only [b0s, b0u, b0t, b0v]
  obtain rfl := hm0
  exact b09 (by simp only [go_sem, s6, lA9, mA9]) (b0d _)
theorem c1s (hf : Has O "slices.Compare[[]int,int]" x_slices_Compare___int_int_) (c1k : b9w O) : b99 O := by
 intro s1_ s2_ r hm0
 unfold b7i at hm0
 refine b1z hf rfl (b0j (b22 fun a _ => b5l a) (b0j (b22 fun a _ => b5l a) b04)) (b0d _) ?_
 refine b1y (fun t h => t 0 = .fs 1 (List.map eI s1_) ∧ t 1 = .fs 1 (List.map eI s2_)) ⟨rfl, rfl⟩ fun t h ⟨s0, s1⟩ => ?_
 simp only [x_slices_Compare___int_int_]
 refine b0c fun K hK => ?_
 simp only [go_sem]
 refine hK _ _ ?_
 clear hK K
 refine b0z ?_
 refine b0c fun K hK => ?_
 simp only [go_sem, s0]
 refine hK _ _ ?_
 clear hK K
 refine b0n fun K1 hK1 => ?_
 have J2 : ∀ (t : Slots) (h : Heap), t 0 = .fs 1 (List.map eI s1_) → t 1 = .fs 1 (List.map eI s2_) → b9p s1_ s2_ = some r → K1 t h := by
  intro t h s0 s1 hm0
  refine hK1 _ _ ?_
  unfold b9p at hm0
  refine b0z ?_
  refine b0c fun K hK => ?_
  simp only [go_sem, s0, s1]
  refine hK _ _ ?_
  clear hK K
  refine b0n fun K3 hK3 => ?_
  simp only [go_sem]
  refine b0i (fun hc4 => ?_) (fun hc4 => ?_)
  ·rw [b06 hc4] at hm0
   refine b0c fun K hK => ?_
   simp only [go_sem]
   refine hK _ _ ?_
   clear hK K
   simp only [b0s, b0u, b0t, b0v]
   obtain rfl := sI9 hm0
   exact b09 (by simp only [go_sem, lA9, mA9]) (b0d _)
  ·rw [b05 hc4] at hm0
   simp only [b00, b0g, b0h]
   refine hK3 _ _ ?_
   refine b0c fun K hK => ?_
   simp only [go_sem]
   refine hK _ _ ?_
   clear hK K
   simp only [b0s, b0u, b0t, b0v]
   obtain rfl := sI9 hm0
   exact b09 (by simp only [go_sem, lA9, mA9]) (b0d _)
 simp only [b1o]
 obtain ⟨b5, hl5, hm0⟩ := b0f hm0
 refine b3g hl5 (fun | x_11, t, h => t 0 = .fs 1 (List.map eI s1_) ∧ t 1 = .fs 1 (List.map eI s2_) ∧ t 9 = .fs 1 (List.map eI s1_) ∧ t 10 = I (List.length s1_ : Int) ∧ t 11 = I x_11) ?_ ?_
 ·exact ⟨s0, s1, (by first | (simp only [go_sem, lA9, mA9]; done) | rfl), (by first | (simp only [go_sem, lA9, mA9]; done) | rfl), (by first | (simp only [go_sem, lA9, mA9]; done) | rfl)⟩
 ·rintro x_11 o t h ⟨s0, s1, s9, s10, s11⟩ hm1 hb5
  simp only [b58] at hm1
  rw [c83]
  refine b0c fun K hK => ?_
  simp only [go_sem, s10, s11]
  refine hK _ _ ?_
  clear hK K
  refine b0n fun K6 hK6 => ?_
  simp only [go_sem]
  refine b0i (fun hc7 => ?_) (fun hc7 => ?_)
  ·rw [b06 hc7] at hm1
   simp only [b00, b0g, b0h]
   refine hK6 _ _ ?_
   refine b0n fun K8 hK8 => ?_
   simp only [b1o]
   obtain ⟨x10, h_x10, hm1⟩ := b0f hm1
   have h_x100 := b2g h_x10
   have h_x101 := b24 h_x10
   refine b0c fun K hK => ?_
   simp only [go_sem, s9, s11, b1a h_x10, b1b h_x10, h_x100, h_x101]
   refine hK _ _ ?_
   clear hK K
   refine b0z ?_
   refine b0c fun K hK => ?_
   simp only [go_sem, s1]
   refine hK _ _ ?_
   clear hK K
   refine b0n fun K11 hK11 => ?_
   simp only [go_sem]
   refine b0i (fun hc12 => ?_) (fun hc12 => ?_)
   ·rw [b06 hc12] at hm1
    refine b0c fun K hK => ?_
    simp only [go_sem]
    refine hK _ _ ?_
    clear hK K
    simp only [b0s, b0u, b0t, b0v]
    obtain rfl := sI9 hm1
    obtain rfl := hb5 _ rfl
    try dsimp only at hm0
    obtain rfl := sI9 hm0
    exact b09 (by simp only [go_sem, lA9, mA9]) (b0d _)
   ·rw [b05 hc12] at hm1
    simp only [b00, b0g, b0h]
    refine hK11 _ _ ?_
    obtain ⟨x14, h_x14, hm1⟩ := b0f hm1
    have h_x140 := b2g h_x14
    have h_x141 := b24 h_x14
    refine b0c fun K hK => ?_
    simp only [go_sem, s1, b1a h_x14, b1b h_x14, h_x140, h_x141]
    refine hK _ _ ?_
    clear hK K
    refine b0c fun K hK => ?_
    simp only [go_sem]
    refine b03 (c1k x10 x14) ?_
    simp only [go_sem]
    refine hK _ _ ?_
    clear hK K
    refine b0c fun K hK => ?_
    simp only [go_sem]
    refine hK _ _ ?_
    clear hK K
    simp only [go_sem]
    refine b0i (fun hc15 => ?_) (fun hc15 => ?_)
    ·rw [b06 hc15] at hm1
     refine b0c fun K hK => ?_
     simp only [go_sem]
     refine hK _ _ ?_
     clear hK K
     simp only [b0s, b0u, b0t, b0v]
     obtain rfl := sI9 hm1
     obtain rfl := hb5 _ rfl
     try dsimp only at hm0
     obtain rfl := sI9 hm0
     exact b09 (by simp only [go_sem, lA9, mA9]) (b0d _)
    ·rw [b05 hc15] at hm1
     simp only [b00, b0g, b0h]
     refine hK8 _ _ ?_
     refine b19 fun K hK => ?_
     simp only [go_sem, s11]
     refine hK _ _ ?_
     clear hK K
     simp only [b0g, b0h]
     obtain rfl := sI9 hm1
     refine ⟨_, rfl, ?_⟩
     exact ⟨s0, s1, s9, s10, (by first | (simp only [go_sem, s11, lA9, mA9]; done) | rfl)⟩
  ·rw [b05 hc7] at hm1
   simp only [b2y, b27, b26, b25, b0g, b0h, Nat.reduceEqDiff, nF9]
   obtain rfl := sI9 hm1
   obtain rfl := hb5 _ rfl
   try dsimp only at hm0
   exact J2  _ _ s0 s1 hm0
end Go.Nw.FM
