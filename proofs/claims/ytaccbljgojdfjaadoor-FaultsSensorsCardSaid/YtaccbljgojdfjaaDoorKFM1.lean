/- That the texts make what their models say: printed by a program. -/
import Derived.Test.YtaccbljgojdfjaaDoorFM
set_option linter.all false
set_option linter.unusedVariables false
set_option linter.unusedSimpArgs false
set_option linter.unusedSectionVars false
namespace Go.Nw.FM
open Go.Nw.Fault
set_option linter.unusedSimpArgs false
set_option linter.unusedVariables false
set_option maxHeartbeats 4000000
variable {O : Orac}
theorem c1u (hf : Has O "cmp.Compare[int]" x_cmp_Compare_int_) (b8z : b92 O) : b91 O := by
 intro x y
 generalize hm0 : b3v x y = r
 unfold b3v at hm0
 refine b1n hf rfl (b0f (b0d _) (b0f (b0d _) b0p)) (b0d _) ?_
 refine b1l (fun t h => t 0 = I x ∧ t 1 = I y) ⟨rfl, rfl⟩ fun t h ⟨s0, s1⟩ => ?_
 simp only [x_cmp_Compare_int_]
 refine b0c fun K hK => ?_
 simp only [go_sem]
 refine hK _ _ ?_
 clear hK K
 refine b0c fun K hK => ?_
 simp only [go_sem, s0]
 refine b04 (b8z x) ?_
 simp only [go_sem, s0]
 refine hK _ _ ?_
 clear hK K
 refine b0c fun K hK => ?_
 simp only [go_sem, s1]
 refine b04 (b8z y) ?_
 simp only [go_sem, s1]
 refine hK _ _ ?_
 clear hK K
 refine b0y ?_
 refine b0c fun K hK => ?_
 simp only [go_sem]
 refine hK _ _ ?_
 clear hK K
 refine b0n fun K1 hK1 => ?_
 simp only [go_sem]
 refine b0k (fun hc2 => ?_) (fun hc2 => ?_)
 ·rw [b02 hc2] at hm0
  refine b0y ?_
  refine b0c fun K hK => ?_
  simp only [go_sem]
  refine hK _ _ ?_
  clear hK K
  refine b0n fun K3 hK3 => ?_
  simp only [go_sem]
  refine b0k (fun hc4 => ?_) (fun hc4 => ?_)
  ·rw [b02 hc4] at hm0
   refine b0c fun K hK => ?_
   simp only [go_sem]
   refine hK _ _ ?_
   clear hK K
   simp only [b0r, b0t, b0s, b0u]
   obtain rfl := hm0
   exact b07 (by simp only [go_sem, lA9, mA9]) (b0d _)
  ·rw [b01 hc4] at hm0
   simp only [b0x, b0g, b0h]
   refine hK3 _ _ ?_
   refine b0c fun K hK => ?_
   simp only [go_sem]
   refine hK _ _ ?_
   clear hK K
   simp only [b0r, b0t, b0s, b0u]
   obtain rfl := hm0
   exact b07 (by simp only [go_sem, lA9, mA9]) (b0d _)
 ·rw [b01 hc2] at hm0
  simp only [b0x, b0g, b0h]
  refine hK1 _ _ ?_
  refine b0y ?_
  refine b0c fun K hK => ?_
  simp only [go_sem]
  refine hK _ _ ?_
  clear hK K
  refine b0n fun K5 hK5 => ?_
  simp only [go_sem]
  refine b0k (fun hc6 => ?_) (fun hc6 => ?_)
  ·rw [b02 hc6] at hm0
   refine b0c fun K hK => ?_
   simp only [go_sem]
   refine hK _ _ ?_
   clear hK K
   simp only [b0r, b0t, b0s, b0u]
   obtain rfl := hm0
   exact b07 (by simp only [go_sem, lA9, mA9]) (b0d _)
  ·rw [b01 hc6] at hm0
   simp only [b0x, b0g, b0h]
   refine hK5 _ _ ?_
   refine b0y ?_
   refine b0c fun K hK => ?_
   simp only [go_sem, s0, s1]
   refine hK _ _ ?_
   clear hK K
   refine b0n fun K7 hK7 => ?_
   simp only [go_sem]
   refine b0k (fun hc8 => ?_) (fun hc8 => ?_)
   ·rw [b02 hc8] at hm0
    refine b0c fun K hK => ?_
    simp only [go_sem]
    refine hK _ _ ?_
    clear hK K
    simp only [b0r, b0t, b0s, b0u]
    obtain rfl := hm0
    exact b07 (by simp only [go_sem, lA9, mA9]) (b0d _)
   ·rw [b01 hc8] at hm0
    simp only [b0x, b0g, b0h]
    refine hK7 _ _ ?_
    refine b0y ?_
    refine b0c fun K hK => ?_
    simp only [go_sem, s0, s1]
    refine hK _ _ ?_
    clear hK K
    refine b0n fun K9 hK9 => ?_
    simp only [go_sem]
    refine b0k (fun hc10 => ?_) (fun hc10 => ?_)
    ·rw [b02 hc10] at hm0
     refine b0c fun K hK => ?_
     simp only [go_sem]
     refine hK _ _ ?_
     clear hK K
     simp only [b0r, b0t, b0s, b0u]
     obtain rfl := hm0
     exact b07 (by simp only [go_sem, lA9, mA9]) (b0d _)
    ·rw [b01 hc10] at hm0
     simp only [b0x, b0g, b0h]
     refine hK9 _ _ ?_
     refine b0c fun K hK => ?_
     simp only [go_sem]
     refine hK _ _ ?_
     clear hK K
     simp only [b0r, b0t, b0s, b0u]
     obtain rfl := hm0
     exact b07 (by simp only [go_sem, lA9, mA9]) (b0d _)
theorem b8z (hf : Has O "cmp.isNaN[int]" x_cmp_isNaN_int_) : b92 O := by
 intro x
 generalize hm0 : b3w x = r
 unfold b3w at hm0
 refine b1n hf rfl (b0f (b0d _) b0p) (b0d _) ?_
 refine b1l (fun t h => t 0 = I x) rfl fun t h s0 => ?_
 simp only [x_cmp_isNaN_int_]
 refine b0c fun K hK => ?_
 simp only [go_sem]
 refine hK _ _ ?_
 clear hK K
 refine b0c fun K hK => ?_
 simp only [go_sem, s0]
 refine hK _ _ ?_
 clear hK K
 simp only [b0r, b0t, b0s, b0u]
 obtain rfl := hm0
 exact b07 (by simp only [go_sem, lA9, mA9]) (b0d _)
theorem c1v (hf : Has O "newel/faults.Liars" x_faults_Liars) (b60 : b7u O) (b6z : b7s O) (c1x : b95 O) (b5y : b7t O) : b93 O := by
 intro l r hm0
 unfold b4s at hm0
 refine b1n hf rfl (b0f (b1o fun a _ => b3r a) b0p) (.tup _ (b0f (b1o fun a _ => b12 a) (b0f (b0d _) b0p))) ?_
 refine b1l (fun t h => t 0 = .fs 4 (List.map b0w l)) rfl fun t h s0 => ?_
 simp only [x_faults_Liars]
 refine b0c fun K hK => ?_
 simp only [go_sem]
 refine hK _ _ ?_
 clear hK K
 refine b0y ?_
 obtain ⟨y2, h_y2, hm0⟩ := b0i hm0
 refine b0c fun K hK => ?_
 simp only [go_sem, s0]
 refine b04 (b60 l _ h_y2) ?_
 simp only [go_sem, s0]
 refine hK _ _ ?_
 clear hK K
 refine b0y ?_
 refine b0c fun K hK => ?_
 simp only [go_sem]
 refine hK _ _ ?_
 clear hK K
 refine b0n fun K3 hK3 => ?_
 simp only [go_sem]
 refine b0k (fun hc4 => ?_) (fun hc4 => ?_)
 ·rw [b02 hc4] at hm0
  refine b0c fun K hK => ?_
  simp only [go_sem]
  refine hK _ _ ?_
  clear hK K
  simp only [b0r, b0t, b0s, b0u]
  obtain rfl := sI9 hm0
  exact c0w (v := .v (.slice none 0 0)) (u := I y2) (by simp only [go_sem, lA9, mA9]) (by simp only [go_sem, lA9, mA9]) (.nil _) (.refl _ (b0d _))
 ·rw [b01 hc4] at hm0
  simp only [b0x, b0g, b0h]
  refine hK3 _ _ ?_
  obtain ⟨q6, h_q6, hm0⟩ := b0i hm0
  refine b0c fun K hK => ?_
  simp only [go_sem, s0, c5r h_q6]
  refine hK _ _ ?_
  clear hK K
  refine b0y ?_
  refine b0c fun K hK => ?_
  simp only [go_sem]
  refine hK _ _ ?_
  clear hK K
  refine b0n fun K7 hK7 => ?_
  have J8 : ∀ (best_5 : Int) (t : Slots) (h : Heap), t 5 = I best_5 → b8i best_5 = some r → K7 t h := by
   intro best_5 t h s5 hm0
   refine hK7 _ _ ?_
   unfold b8i at hm0
   obtain ⟨y10, h_y10, hm0⟩ := b0i hm0
   refine b0c fun K hK => ?_
   simp only [go_sem, s5]
   refine b04 (b5y best_5 _ h_y10) ?_
   simp only [go_sem, s5]
   refine hK _ _ ?_
   clear hK K
   simp only [b0r, b0t, b0s, b0u]
   obtain rfl := sI9 hm0
   exact d2m (by simp only [go_sem, lA9, mA9]) (by simp only [go_sem, lA9, mA9]) (b1o fun a _ => b12 a) (b0d _)
  simp only [b1q]
  obtain ⟨b11, hl11, hm0⟩ := b0i hm0
  refine b3b hl11 (fun | (best_5, x_19), t, h => t 0 = .fs 4 (List.map b0w l) ∧ t 5 = I best_5 ∧ t 18 = I (wr (q6 - 1)) ∧ t 19 = I x_19) ?_ ?_
  ·exact ⟨s0, (by first | (simp only [go_sem, lA9, mA9]; done) | rfl), (by first | (simp only [go_sem, lA9, mA9]; done) | rfl), (by first | (simp only [go_sem, lA9, mA9]; done) | rfl)⟩
  ·rintro ⟨best_5, x_19⟩ o t h ⟨s0, s5, s18, s19⟩ hm1 hb11
   simp only [b6o] at hm1
   rw [c88]
   refine b0c fun K hK => ?_
   simp only [go_sem, s18, s19]
   refine hK _ _ ?_
   clear hK K
   refine b0n fun K12 hK12 => ?_
   simp only [go_sem]
   refine b0k (fun hc13 => ?_) (fun hc13 => ?_)
   ·rw [b02 hc13] at hm1
    simp only [b0x, b0g, b0h]
    refine hK12 _ _ ?_
    refine b0n fun K14 hK14 => ?_
    have J15 : ∀ (best_5_1 : Int) (t : Slots) (h : Heap), t 0 = .fs 4 (List.map b0w l) → t 5 = I best_5_1 → t 18 = I (wr (q6 - 1)) → t 19 = I x_19 → b4t x_19 best_5_1 = some o → K14 t h := by
     intro best_5_1 t h s0 s5 s18 s19 hm1
     refine hK14 _ _ ?_
     unfold b4t at hm1
     refine b16 fun K hK => ?_
     simp only [go_sem, s19]
     refine hK _ _ ?_
     clear hK K
     simp only [b0g, b0h]
     obtain rfl := sI9 hm1
     refine ⟨_, rfl, ?_⟩
     exact ⟨s0, s5, s18, (by first | (simp only [go_sem, s19, lA9, mA9]; done) | rfl)⟩
    simp only [b1q]
    refine b0c fun K hK => ?_
    simp only [go_sem, s19]
    refine hK _ _ ?_
    clear hK K
    obtain ⟨y17, h_y17, hm1⟩ := b0i hm1
    refine b0c fun K hK => ?_
    simp only [go_sem, s0]
    refine b04 (b6z l x_19 _ h_y17) ?_
    simp only [go_sem, s0]
    refine hK _ _ ?_
    clear hK K
    obtain ⟨c21, h_c21, hm1⟩ := b0i hm1
    refine b2w (fun t h => t 0 = .fs 4 (List.map b0w l) ∧ t 5 = I best_5 ∧ t 6 = I x_19 ∧ t 18 = I (wr (q6 - 1)) ∧ t 19 = I x_19 ∧ t 33 = B c21) (fun K hK => ?_) ?_
    ·simp only [go_sem, s5]
     refine b0k (fun hg22 => ?_) (fun hg22 => ?_)
     ·simp only [hg22, Bool.not_true, Bool.not_false, eq_self, if_true, if_false, Bool.true_or, Bool.or_true, Bool.false_or, Bool.or_false, Bool.true_and, Bool.and_true, Bool.false_and, Bool.and_false, Bool.false_eq_true] at h_c21
      obtain ⟨y20, h_y20, h_c21⟩ := b0i h_c21
      obtain rfl := sI9 h_c21
      simp only [go_sem, s5, hg22]
      refine b04 (c1x x_19 best_5 _ h_y20) ?_
      simp only [go_sem, s5, hg22]
      exact hK _ _ ⟨s0, s5, (by first | (simp only [go_sem, hg22, lA9, mA9]; done) | rfl), s18, s19, (by first | (simp only [go_sem, hg22, lA9, mA9]; done) | rfl)⟩
     ·simp only [hg22, Bool.not_true, Bool.not_false, eq_self, if_true, if_false, Bool.true_or, Bool.or_true, Bool.false_or, Bool.or_false, Bool.true_and, Bool.and_true, Bool.false_and, Bool.and_false, Bool.false_eq_true] at h_c21
      obtain rfl := sI9 h_c21
      simp only [go_sem, s5, hg22]
      exact hK _ _ ⟨s0, s5, (by first | (simp only [go_sem, hg22, lA9, mA9]; done) | rfl), s18, s19, (by first | (simp only [go_sem, hg22, lA9, mA9]; done) | rfl)⟩
    ·rintro t h ⟨s0, s5, s6, s18, s19, s33⟩
     simp only [go_sem, s33]
     refine b0k (fun hc23 => ?_) (fun hc23 => ?_)
     ·rw [b02 hc23] at hm1
      refine b16 fun K hK => ?_
      simp only [go_sem, s6]
      refine hK _ _ ?_
      clear hK K
      simp only [b0g, b0h]
      exact J15 x_19 _ _ s0 (by first | (simp only [go_sem, s5, lA9, mA9]; done) | rfl) s18 s19 hm1
     ·rw [b01 hc23] at hm1
      simp only [b0x, b0g, b0h]
      exact J15 best_5 _ _ s0 s5 s18 s19 hm1
   ·rw [b01 hc13] at hm1
    simp only [b2v, b24, b23, b22, b0g, b0h, Nat.reduceEqDiff, nF9]
    obtain rfl := sI9 hm1
    obtain rfl := hb11 _ rfl
    try dsimp only at hm0
    exact J8 best_5 _ _ s5 hm0
theorem c1w (hf : Has O "newel/faults.Truth" x_faults_Truth) (b60 : b7u O) (b6z : b7s O) : b94 O := by
 intro l r hm0
 unfold b4u at hm0
 refine b1n hf rfl (b0f (b1o fun a _ => b3r a) b0p) (.tup _ (b0f (.agg _ (b0f (b0d _) (b0f (b0d _) b0p))) (b0f (b0d _) b0p))) ?_
 refine b1l (fun t h => t 0 = .fs 4 (List.map b0w l)) rfl fun t h s0 => ?_
 simp only [x_faults_Truth]
 refine b0c fun K hK => ?_
 simp only [go_sem]
 refine hK _ _ ?_
 clear hK K
 refine b0y ?_
 obtain ⟨y2, h_y2, hm0⟩ := b0i hm0
 refine b0c fun K hK => ?_
 simp only [go_sem, s0]
 refine b04 (b60 l _ h_y2) ?_
 simp only [go_sem, s0]
 refine hK _ _ ?_
 clear hK K
 refine b0y ?_
 refine b0c fun K hK => ?_
 simp only [go_sem]
 refine hK _ _ ?_
 clear hK K
 refine b0n fun K3 hK3 => ?_
 simp only [go_sem]
 refine b0k (fun hc4 => ?_) (fun hc4 => ?_)
 ·rw [b02 hc4] at hm0
  refine b0c fun K hK => ?_
  simp only [go_sem]
  refine hK _ _ ?_
  clear hK K
  simp only [b0r, b0t, b0s, b0u]
  obtain rfl := sI9 hm0
  exact b38 (id := h.nx) (m := 2) (cs := [I 0, I 0]) (u := I y2) (by simp only [go_sem, lA9, mA9]) (by simp only [go_sem, lA9, mA9]) rfl (by simp only [go_sem, lA9, mA9]) (.refl _ (.agg _ (b0f (b0d _) (b0f (b0d _) b0p)))) (.refl _ (b0d _))
 ·rw [b01 hc4] at hm0
  simp only [b0x, b0g, b0h]
  refine hK3 _ _ ?_
  obtain ⟨y6, h_y6, hm0⟩ := b0i hm0
  refine b0c fun K hK => ?_
  simp only [go_sem, s0]
  refine b04 (b6z l 0 _ h_y6) ?_
  simp only [go_sem, s0]
  refine hK _ _ ?_
  clear hK K
  refine b0y ?_
  refine b2w (fun t h => ∃ i2 : Nat, ∃ i5 : Nat, t 2 = .rp i2 0 0 ∧ t 5 = .rp i5 0 0 ∧ t 24 = B ((decide ((List.length l : Int) = 0)) || (!y6.2)) ∧ h.ob i2 = some (2, [[I 0, I 0]]) ∧ i2 < h.nx ∧ h.ob i5 = some (2, [[I y6.1.Low, I y6.1.High]]) ∧ i5 < h.nx ∧ ¬i2 = i5) (fun K hK => ?_) ?_
  ·simp only [go_sem, s0]
   refine b0k (fun hg7 => ?_) (fun hg7 => ?_)
   ·simp only [go_sem, s0, hg7]
    exact hK _ _ ⟨h.nx, (nxs h.nx), (by first | (simp only [go_sem, hg7, lA9, mA9]; done) | rfl), (by first | (simp only [go_sem, hg7, lA9, mA9]; done) | rfl), (by first | (simp only [go_sem, hg7, lA9, mA9]; done) | rfl), (by simp only [go_sem, hg7, lA9, mA9]), (by simp only [go_sem]), (by simp only [go_sem, hg7, lA9, mA9]), (by simp only [go_sem]), (by first | first | assumption | omega | (simp only [nxs] <;> omega))⟩
   ·simp only [go_sem, s0, hg7]
    exact hK _ _ ⟨h.nx, (nxs h.nx), (by first | (simp only [go_sem, hg7, lA9, mA9]; done) | rfl), (by first | (simp only [go_sem, hg7, lA9, mA9]; done) | rfl), (by first | (simp only [go_sem, hg7, lA9, mA9]; done) | rfl), (by simp only [go_sem, hg7, lA9, mA9]), (by simp only [go_sem]), (by simp only [go_sem, hg7, lA9, mA9]), (by simp only [go_sem]), (by first | first | assumption | omega | (simp only [nxs] <;> omega))⟩
  ·rintro t h ⟨i2, i5, s2, s5, s24, Q7, Q8, Qa, Q9, Q3⟩
   refine b0n fun K8 hK8 => ?_
   simp only [go_sem, s24]
   refine b0k (fun hc9 => ?_) (fun hc9 => ?_)
   ·rw [b02 hc9] at hm0
    refine b0c fun K hK => ?_
    simp only [go_sem, s2, Q7, Q8, Q9, Q3, b1b Q3]
    refine hK _ _ ?_
    clear hK K
    simp only [b0r, b0t, b0s, b0u]
    obtain rfl := sI9 hm0
    exact b38 (id := i2) (m := 2) (cs := [I 0, I 0]) (u := I 3) (by simp only [go_sem, s2, Q7, Q8, Qa, Q9, Q3, b1b Q3, lA9, mA9]) (by simp only [go_sem, s2, Q7, Q8, Qa, Q9, Q3, b1b Q3, lA9, mA9]) rfl (by simp only [go_sem, s2, Q7, Q8, Qa, Q9, Q3, b1b Q3, lA9, mA9]) (.refl _ (.agg _ (b0f (b0d _) (b0f (b0d _) b0p)))) (.refl _ (b0d _))
   ·rw [b01 hc9] at hm0
    simp only [b0x, b0g, b0h]
    refine hK8 _ _ ?_
    refine b0c fun K hK => ?_
    simp only [go_sem, s2, s5, Q7, Q8, Qa, Q9, Q3, b1b Q3]
    refine hK _ _ ?_
    clear hK K
    simp only [b0r, b0t, b0s, b0u]
    obtain rfl := sI9 hm0
    exact b38 (id := i2) (m := 2) (cs := [I y6.1.Low, I y6.1.High]) (u := I 0) (by simp only [go_sem, s2, Q7, Q8, Qa, Q9, Q3, b1b Q3, lA9, mA9]) (by simp only [go_sem, s2, Q7, Q8, Qa, Q9, Q3, b1b Q3, lA9, mA9]) rfl (by simp only [go_sem, s2, Q7, Q8, Qa, Q9, Q3, b1b Q3, lA9, mA9]) (.refl _ (.agg _ (b0f (b0d _) (b0f (b0d _) b0p)))) (.refl _ (b0d _))
theorem b6z (hf : Has O "newel/faults.common" x_faults_common) : b7s O := by
 intro l out r hm0
 unfold b5q at hm0
 refine b1n hf rfl (b0f (b1o fun a _ => b3r a) (b0f (b0d _) b0p)) (.tup _ (b0f (.agg _ (b0f (b0d _) (b0f (b0d _) b0p))) (b0f (b0d _) b0p))) ?_
 refine b1l (fun t h => t 0 = .fs 4 (List.map b0w l) ∧ t 1 = I out) ⟨rfl, rfl⟩ fun t h ⟨s0, s1⟩ => ?_
 simp only [x_faults_common]
 refine b0c fun K hK => ?_
 simp only [go_sem]
 refine hK _ _ ?_
 clear hK K
 refine b0c fun K hK => ?_
 simp only [go_sem]
 refine hK _ _ ?_
 clear hK K
 refine b0y ?_
 refine b0c fun K hK => ?_
 simp only [go_sem, s0]
 refine hK _ _ ?_
 clear hK K
 refine b0n fun K1 hK1 => ?_
 have J2 : ∀ (s_6_0 : Int) (s_6_1 : Int) (i4 : Nat) (i6 : Nat) (t : Slots) (h : Heap), t 4 = .rp i4 0 0 → t 6 = .rp i6 0 0 → h.ob i4 = some (2, [[I 0, I 0]]) → i4 < h.nx → h.ob i6 = some (2, [[I s_6_0, I s_6_1]]) → i6 < h.nx → ¬i4 = i6 → c05 s_6_0 s_6_1 = some r → K1 t h := by
  intro s_6_0 s_6_1 i4 i6 t h s4 s6 Q5 Q2 Q4 Q1 Q0 hm0
  refine hK1 _ _ ?_
  unfold c05 at hm0
  refine b0y ?_
  refine c32 (s := 6) (id := i6) (n := 2) (cs := [I s_6_0, I s_6_1]) (by simp only [go_sem, s6, Q5, Q2, Q4, Q1, Q0, b1b Q0, lA9, mA9]) (by simp only [go_sem, s6, Q5, Q2, Q4, Q1, Q0, b1b Q0, lA9, mA9]) (b0f (b0d _) (b0f (b0d _) b0p)) ?_
  refine b0c fun K hK => ?_
  simp only [go_sem, s4, s6, Q5, Q2, Q1, Q0, b1b Q0]
  refine hK _ _ ?_
  clear hK K
  simp only [b0r, b0t, b0s, b0u]
  obtain rfl := sI9 hm0
  exact b38 (id := i4) (m := 2) (cs := [I s_6_0, I s_6_1]) (u := B (decide (s_6_0 ≤ s_6_1))) (by simp only [go_sem, s4, Q5, Q2, Q4, Q1, Q0, b1b Q0, lA9, mA9]) (by simp only [go_sem, s4, Q5, Q2, Q4, Q1, Q0, b1b Q0, lA9, mA9]) rfl (by simp only [go_sem, s4, Q5, Q2, Q4, Q1, Q0, b1b Q0, lA9, mA9]) (.refl _ (.agg _ (b0f (b0d _) (b0f (b0d _) b0p)))) (.refl _ (b0d _))
 simp only [b1q]
 obtain ⟨b3, hl3, hm0⟩ := b0i hm0
 refine b3b hl3 (fun | (s_6_0, s_6_1, x_13), t, h => ∃ i4 : Nat, ∃ i6 : Nat, t 1 = I out ∧ t 4 = .rp i4 0 0 ∧ t 6 = .rp i6 0 0 ∧ t 11 = .fs 4 (List.map b0w l) ∧ t 12 = I (List.length l : Int) ∧ t 13 = I x_13 ∧ h.ob i4 = some (2, [[I 0, I 0]]) ∧ i4 < h.nx ∧ h.ob i6 = some (2, [[I s_6_0, I s_6_1]]) ∧ i6 < h.nx ∧ ¬i4 = i6) ?_ ?_
 ·exact ⟨h.nx, (nxs h.nx), s1, (by first | (simp only [go_sem, lA9, mA9]; done) | rfl), (by first | (simp only [go_sem, lA9, mA9]; done) | rfl), (by first | (simp only [go_sem, lA9, mA9]; done) | rfl), (by first | (simp only [go_sem, lA9, mA9]; done) | rfl), (by first | (simp only [go_sem, lA9, mA9]; done) | rfl), (by simp only [go_sem, lA9, mA9]), (by simp only [go_sem]), (by simp only [go_sem, lA9, mA9]), (by simp only [go_sem]), (by first | first | assumption | omega | (simp only [nxs] <;> omega))⟩
 ·rintro ⟨s_6_0, s_6_1, x_13⟩ o t h ⟨i4, i6, s1, s4, s6, s11, s12, s13, Q5, Q2, Q4, Q1, Q0⟩ hm1 hb3
  simp only [b6p] at hm1
  rw [c89]
  refine b0c fun K hK => ?_
  simp only [go_sem, s12, s13, Q2, Q1]
  refine hK _ _ ?_
  clear hK K
  refine b0n fun K4 hK4 => ?_
  simp only [go_sem]
  refine b0k (fun hc5 => ?_) (fun hc5 => ?_)
  ·rw [b02 hc5] at hm1
   simp only [b0x, b0g, b0h]
   refine hK4 _ _ ?_
   refine b0n fun K6 hK6 => ?_
   have J7 : ∀ (s_6_0_1 : Int) (s_6_1_1 : Int) (t : Slots) (h : Heap), t 1 = I out → t 4 = .rp i4 0 0 → t 6 = .rp i6 0 0 → t 11 = .fs 4 (List.map b0w l) → t 12 = I (List.length l : Int) → t 13 = I x_13 → h.ob i4 = some (2, [[I 0, I 0]]) → i4 < h.nx → h.ob i6 = some (2, [[I s_6_0_1, I s_6_1_1]]) → i6 < h.nx → ¬i4 = i6 → b5r x_13 s_6_0_1 s_6_1_1 = some o → K6 t h := by
    try clear s1 s4 s6 s11 s12 s13 Q5 Q2 Q4 Q1 Q0
    intro s_6_0_1 s_6_1_1 t h s1 s4 s6 s11 s12 s13 Q5 Q2 Q4 Q1 Q0 hm1
    refine hK6 _ _ ?_
    unfold b5r at hm1
    refine b16 fun K hK => ?_
    simp only [go_sem, s13, Q2, Q1]
    refine hK _ _ ?_
    clear hK K
    simp only [b0g, b0h]
    obtain rfl := sI9 hm1
    refine ⟨_, rfl, ?_⟩
    exact ⟨i4, i6, s1, s4, s6, s11, s12, (by first | (simp only [go_sem, s13, lA9, mA9]; done) | rfl), Q5, Q2, Q4, Q1, Q0⟩
   simp only [b1q]
   obtain ⟨x9, h_x9, hm1⟩ := b0i hm1
   have h_x90 := b2f h_x9
   have h_x91 := b21 h_x9
   refine b0c fun K hK => ?_
   simp only [go_sem, s11, s13, Q2, Q1, b1s h_x9, b1t h_x9, h_x90, h_x91]
   refine hK _ _ ?_
   clear hK K
   obtain ⟨q11, h_q11, hm1⟩ := b0i hm1
   refine b0c fun K hK => ?_
   simp only [go_sem, s1, Q2, Q1, b3e h_q11]
   refine hK _ _ ?_
   clear hK K
   simp only [go_sem]
   refine b0k (fun hc12 => ?_) (fun hc12 => ?_)
   ·rw [b02 hc12] at hm1
    refine b0c fun K hK => ?_
    simp only [go_sem, Q2, Q1]
    refine hK _ _ ?_
    clear hK K
    refine b16 fun K hK => ?_
    simp only [go_sem, s6, Q4, Q1, Q2, Q0, b1b Q0]
    refine hK _ _ ?_
    clear hK K
    simp only [b0g, b0h]
    exact J7 (mx s_6_0 (wr (x9.Says - (wr (x9.Error + (wr (x9.Drift * x9.Days))))))) (mn s_6_1 (wr (x9.Says + (wr (x9.Error + (wr (x9.Drift * x9.Days))))))) _ _ s1 s4 s6 s11 s12 s13 (by simp only [go_sem, Q5, Q2, Q1, Q0, b1b Q0, lA9, mA9]) (by simp only [go_sem, Q2]) (by simp only [go_sem, Q4, Q1, lA9, mA9]) (by simp only [go_sem, Q1]) Q0 hm1
   ·rw [b01 hc12] at hm1
    simp only [b0x, b0g, b0h]
    exact J7 s_6_0 s_6_1 _ _ s1 s4 s6 s11 s12 s13 (by simp only [go_sem, Q5, Q2, lA9, mA9]) (by simp only [go_sem, Q2]) (by simp only [go_sem, Q4, Q1, lA9, mA9]) (by simp only [go_sem, Q1]) Q0 hm1
  ·rw [b01 hc5] at hm1
   simp only [b2v, b24, b23, b22, b0g, b0h, Nat.reduceEqDiff, nF9]
   obtain rfl := sI9 hm1
   obtain rfl := hb3 _ rfl
   try dsimp only at hm0
   exact J2 s_6_0 s_6_1 i4 i6 _ _ s4 s6 Q5 Q2 Q4 Q1 Q0 hm0
theorem c1x (hf : Has O "newel/faults.fewer" x_faults_fewer) (b80 : b98 O) (b5y : b7t O) (c17 : c0i O) : b95 O := by
 intro a b r hm0
 unfold b6q at hm0
 refine b1n hf rfl (b0f (b0d _) (b0f (b0d _) b0p)) (b0d _) ?_
 refine b1l (fun t h => t 0 = I a ∧ t 1 = I b) ⟨rfl, rfl⟩ fun t h ⟨s0, s1⟩ => ?_
 simp only [x_faults_fewer]
 refine b0c fun K hK => ?_
 simp only [go_sem]
 refine hK _ _ ?_
 clear hK K
 refine b0y ?_
 obtain ⟨y3, h_y3, hm0⟩ := b0i hm0
 obtain ⟨y4, h_y4, hm0⟩ := b0i hm0
 refine b0c fun K hK => ?_
 simp only [go_sem, s0, s1]
 refine b04 (b80 (IntKind.wrap .u64 a) _ h_y3) ?_
 simp only [go_sem, s0, s1]
 refine b04 (b80 (IntKind.wrap .u64 b) _ h_y4) ?_
 simp only [go_sem, s0, s1]
 refine hK _ _ ?_
 clear hK K
 refine b0y ?_
 refine b0c fun K hK => ?_
 simp only [go_sem]
 refine hK _ _ ?_
 clear hK K
 refine b0n fun K5 hK5 => ?_
 simp only [go_sem]
 refine b0k (fun hc6 => ?_) (fun hc6 => ?_)
 ·rw [b02 hc6] at hm0
  refine b0c fun K hK => ?_
  simp only [go_sem]
  refine hK _ _ ?_
  clear hK K
  simp only [b0r, b0t, b0s, b0u]
  obtain rfl := sI9 hm0
  exact b07 (by simp only [go_sem, lA9, mA9]) (b0d _)
 ·rw [b01 hc6] at hm0
  simp only [b0x, b0g, b0h]
  refine hK5 _ _ ?_
  obtain ⟨y10, h_y10, hm0⟩ := b0i hm0
  obtain ⟨y11, h_y11, hm0⟩ := b0i hm0
  obtain ⟨y12, h_y12, hm0⟩ := b0i hm0
  refine b0c fun K hK => ?_
  simp only [go_sem, s0, s1]
  refine b04 (b5y a _ h_y10) ?_
  simp only [go_sem, s0, s1]
  refine b04 (b5y b _ h_y11) ?_
  simp only [go_sem, s0, s1]
  refine b04 (c17 y10 y11 _ h_y12) ?_
  simp only [go_sem, s0, s1]
  refine hK _ _ ?_
  clear hK K
  simp only [b0r, b0t, b0s, b0u]
  obtain rfl := sI9 hm0
  exact b07 (by simp only [go_sem, lA9, mA9]) (b0d _)
theorem b5y (hf : Has O "newel/faults.members" x_faults_members) (c10 : c0a O) : b7t O := by
 intro set r hm0
 unfold b4a at hm0
 refine b1n hf rfl (b0f (b0d _) b0p) (b1o fun a _ => b12 a) ?_
 refine b1l (fun t h => t 0 = I set) rfl fun t h s0 => ?_
 simp only [x_faults_members]
 refine b0c fun K hK => ?_
 simp only [go_sem]
 refine hK _ _ ?_
 clear hK K
 refine b0c fun K hK => ?_
 simp only [go_sem]
 refine hK _ _ ?_
 clear hK K
 refine b0n fun K1 hK1 => ?_
 have J2 : ∀ (l_3 : List Int) (v3 : AV) (t : Slots) (h : Heap), t 3 = v3 → b1i h v3 1 (List.map eI l_3) → b6r l_3 = some r → K1 t h := by
  intro l_3 v3 t h s3 Q6 hm0
  refine hK1 _ _ ?_
  unfold b6r at hm0
  refine b0c fun K hK => ?_
  simp only [go_sem, s3, b1a v3]
  refine hK _ _ ?_
  clear hK K
  simp only [b0r, b0t, b0s, b0u]
  obtain rfl := sI9 hm0
  exact c34 (v := v3) (by simp only [go_sem, b4h Q6, lA9, mA9]) (c1f (f := eI) (l := l_3) (b3s Q6 (by intro j hj hl; first | rfl | simp only [go_sem, hl]) (by first | omega | exact Nat.le_refl _ | (simp only [go_sem, nxs] <;> omega))) b12 c69)
 simp only [b1q]
 obtain ⟨b3, hl3, hm0⟩ := b0i hm0
 refine b3b hl3 (fun | (set_0, l_3), t, h => ∃ v3 : AV, t 0 = I set_0 ∧ t 3 = v3 ∧ b1i h v3 1 (List.map eI l_3)) ?_ ?_
 ·exact ⟨(.v (.slice none 0 0)), s0, (by first | (simp only [go_sem, lA9, mA9]; done) | rfl), c76⟩
 ·rintro ⟨set_0, l_3⟩ o t h ⟨v3, s0, s3, Q6⟩ hm1 hb3
  simp only [b8j] at hm1
  rw [c9a]
  refine b0y ?_
  refine b0c fun K hK => ?_
  simp only [go_sem, s0, b1a v3]
  refine hK _ _ ?_
  clear hK K
  refine b0n fun K4 hK4 => ?_
  simp only [go_sem]
  refine b0k (fun hc5 => ?_) (fun hc5 => ?_)
  ·rw [b02 hc5] at hm1
   simp only [b0x, b0g, b0h]
   refine hK4 _ _ ?_
   refine b0n fun K6 hK6 => ?_
   simp only [b1q]
   obtain ⟨y9, h_y9, hm1⟩ := b0i hm1
   obtain ⟨l10, h_l10, hm1⟩ := b0i hm1
   refine b16 fun K hK => ?_
   simp only [go_sem, s0, s3, b1a v3]
   refine b04 (c10 (IntKind.wrap .u64 set_0) _ h_y9) ?_
   simp only [go_sem, s0, s3, b1a v3]
   refine c1i (f := eI) (l := l_3) (m := ([y9])) ?_ ?_ ?_ ?_ h_l10 ?_
   ·exact (b3s Q6 (by intro j hj hl; first | rfl | simp only [go_sem, hl]) (by first | omega | exact Nat.le_refl _ | (simp only [go_sem, nxs] <;> omega)))
   ·exact (c77 (by simp only [go_sem, b4h Q6, lA9, mA9]) (by simp only [go_sem, b4h Q6, lA9, mA9]))
   ·exact (c7n (by first | exact c7r | exact c7s (by first | omega | (simp only [nxs] <;> omega)) | assumption | exact c2o (by assumption) (by first | omega | (simp only [go_sem, nxs] <;> omega))))
   ·exact (fun _ => by simp)
   simp only [go_sem, s0, s3, b1a v3]
   refine hK _ _ ?_
   clear hK K
   simp only [b0g, b0h]
   refine hK6 _ _ ?_
   refine b16 fun K hK => ?_
   simp only [go_sem, s0, b1a v3]
   refine hK _ _ ?_
   clear hK K
   simp only [b0g, b0h]
   obtain rfl := sI9 hm1
   refine ⟨_, rfl, ?_⟩
   exact ⟨(.rs (nxs h.nx) 0 (List.length l10)), (by first | (simp only [go_sem, s0, lA9, mA9]; done) | rfl), (by first | (simp only [go_sem, s3, lA9, mA9]; done) | rfl), (b9d (by simp only [go_sem, b4h Q6, lA9, mA9]) (by first | rfl | simp only [go_sem, lA9, mA9]) (by simp only [go_sem]))⟩
  ·rw [b01 hc5] at hm1
   simp only [b2v, b24, b23, b22, b0g, b0h, Nat.reduceEqDiff, nF9]
   obtain rfl := sI9 hm1
   obtain rfl := hb3 _ rfl
   try dsimp only at hm0
   exact J2 l_3 v3 _ _ s3 Q6 hm0
theorem b60 (hf : Has O "newel/faults.readings" x_faults_readings) (b5z : b96 O) : b7u O := by
 intro l r hm0
 unfold b4v at hm0
 refine b1n hf rfl (b0f (b1o fun a _ => b3r a) b0p) (b0d _) ?_
 refine b1l (fun t h => t 0 = .fs 4 (List.map b0w l)) rfl fun t h s0 => ?_
 simp only [x_faults_readings]
 refine b0c fun K hK => ?_
 simp only [go_sem]
 refine hK _ _ ?_
 clear hK K
 refine b0y ?_
 refine b0c fun K hK => ?_
 simp only [go_sem, s0]
 refine hK _ _ ?_
 clear hK K
 refine b0n fun K1 hK1 => ?_
 simp only [go_sem]
 refine b0k (fun hc2 => ?_) (fun hc2 => ?_)
 ·rw [b02 hc2] at hm0
  refine b0c fun K hK => ?_
  simp only [go_sem]
  refine hK _ _ ?_
  clear hK K
  simp only [b0r, b0t, b0s, b0u]
  obtain rfl := sI9 hm0
  exact b07 (by simp only [go_sem, lA9, mA9]) (b0d _)
 ·rw [b01 hc2] at hm0
  simp only [b0x, b0g, b0h]
  refine hK1 _ _ ?_
  refine b0y ?_
  refine b0c fun K hK => ?_
  simp only [go_sem, s0]
  refine hK _ _ ?_
  clear hK K
  refine b0n fun K3 hK3 => ?_
  have J4 : ∀ (t : Slots) (h : Heap), c09 = some r → K3 t h := by
   intro t h hm0
   refine hK3 _ _ ?_
   unfold c09 at hm0
   refine b0c fun K hK => ?_
   simp only [go_sem]
   refine hK _ _ ?_
   clear hK K
   simp only [b0r, b0t, b0s, b0u]
   obtain rfl := sI9 hm0
   exact b07 (by simp only [go_sem, lA9, mA9]) (b0d _)
  simp only [b1q]
  obtain ⟨b5, hl5, hm0⟩ := b0i hm0
  refine b3b hl5 (fun | x_10, t, h => t 8 = .fs 4 (List.map b0w l) ∧ t 9 = I (List.length l : Int) ∧ t 10 = I x_10) ?_ ?_
  ·exact ⟨(by first | (simp only [go_sem, lA9, mA9]; done) | rfl), (by first | (simp only [go_sem, lA9, mA9]; done) | rfl), (by first | (simp only [go_sem, lA9, mA9]; done) | rfl)⟩
  ·rintro x_10 o t h ⟨s8, s9, s10⟩ hm1 hb5
   simp only [b5s] at hm1
   rw [c9b]
   refine b0c fun K hK => ?_
   simp only [go_sem, s9, s10]
   refine hK _ _ ?_
   clear hK K
   refine b0n fun K6 hK6 => ?_
   simp only [go_sem]
   refine b0k (fun hc7 => ?_) (fun hc7 => ?_)
   ·rw [b02 hc7] at hm1
    simp only [b0x, b0g, b0h]
    refine hK6 _ _ ?_
    refine b0n fun K8 hK8 => ?_
    simp only [b1q]
    obtain ⟨x10, h_x10, hm1⟩ := b0i hm1
    have h_x100 := b2f h_x10
    have h_x101 := b21 h_x10
    refine b0c fun K hK => ?_
    simp only [go_sem, s8, s10, b1s h_x10, b1t h_x10, h_x100, h_x101]
    refine hK _ _ ?_
    clear hK K
    refine b2w (fun t h => t 8 = .fs 4 (List.map b0w l) ∧ t 9 = I (List.length l : Int) ∧ t 10 = I x_10 ∧ t 35 = B ((((!(b2p x10.Says (-100000) 100000)) || (!(b2p x10.Error 0 1000))) || (!(b2p x10.Drift 0 1000))) || (!(b2p x10.Days 0 1000)))) (fun K hK => ?_) ?_
    ·simp only [go_sem]
     refine b04 (b5z x10.Says (-100000) 100000) ?_
     simp only [go_sem]
     refine b0k (fun hg11 => ?_) (fun hg11 => ?_)
     ·simp only [go_sem, hg11]
      exact hK _ _ ⟨s8, s9, s10, (by first | (simp only [go_sem, hg11, lA9, mA9]; done) | rfl)⟩
     ·simp only [go_sem, hg11]
      refine b04 (b5z x10.Error 0 1000) ?_
      simp only [go_sem, hg11]
      refine b0k (fun hg12 => ?_) (fun hg12 => ?_)
      ·simp only [go_sem, hg11, hg12]
       exact hK _ _ ⟨s8, s9, s10, (by first | (simp only [go_sem, hg11, hg12, lA9, mA9]; done) | rfl)⟩
      ·simp only [go_sem, hg11, hg12]
       refine b04 (b5z x10.Drift 0 1000) ?_
       simp only [go_sem, hg11, hg12]
       refine b0k (fun hg13 => ?_) (fun hg13 => ?_)
       ·simp only [go_sem, hg11, hg12, hg13]
        exact hK _ _ ⟨s8, s9, s10, (by first | (simp only [go_sem, hg11, hg12, hg13, lA9, mA9]; done) | rfl)⟩
       ·simp only [go_sem, hg11, hg12, hg13]
        refine b04 (b5z x10.Days 0 1000) ?_
        simp only [go_sem, hg11, hg12, hg13]
        exact hK _ _ ⟨s8, s9, s10, (by first | (simp only [go_sem, hg11, hg12, hg13, lA9, mA9]; done) | rfl)⟩
    ·rintro t h ⟨s8, s9, s10, s35⟩
     simp only [go_sem, s35]
     refine b0k (fun hc14 => ?_) (fun hc14 => ?_)
     ·rw [b02 hc14] at hm1
      refine b0c fun K hK => ?_
      simp only [go_sem]
      refine hK _ _ ?_
      clear hK K
      simp only [b0r, b0t, b0s, b0u]
      obtain rfl := sI9 hm1
      obtain rfl := hb5 _ rfl
      try dsimp only at hm0
      obtain rfl := sI9 hm0
      exact b07 (by simp only [go_sem, lA9, mA9]) (b0d _)
     ·rw [b01 hc14] at hm1
      simp only [b0x, b0g, b0h]
      refine hK8 _ _ ?_
      refine b16 fun K hK => ?_
      simp only [go_sem, s10]
      refine hK _ _ ?_
      clear hK K
      simp only [b0g, b0h]
      obtain rfl := sI9 hm1
      refine ⟨_, rfl, ?_⟩
      exact ⟨s8, s9, (by first | (simp only [go_sem, s10, lA9, mA9]; done) | rfl)⟩
   ·rw [b01 hc7] at hm1
    simp only [b2v, b24, b23, b22, b0g, b0h, Nat.reduceEqDiff, nF9]
    obtain rfl := sI9 hm1
    obtain rfl := hb5 _ rfl
    try dsimp only at hm0
    exact J4  _ _  hm0
theorem b5z (hf : Has O "newel/faults.within" x_faults_within) : b96 O := by
 intro n low high
 generalize hm0 : b2p n low high = r
 unfold b2p at hm0
 refine b1n hf rfl (b0f (b0d _) (b0f (b0d _) (b0f (b0d _) b0p))) (b0d _) ?_
 refine b1l (fun t h => t 0 = I n ∧ t 1 = I low ∧ t 2 = I high) ⟨rfl, rfl, rfl⟩ fun t h ⟨s0, s1, s2⟩ => ?_
 simp only [x_faults_within]
 refine b0c fun K hK => ?_
 simp only [go_sem]
 refine hK _ _ ?_
 clear hK K
 refine b2w (fun t h => t 6 = B ((decide (low ≤ n)) && (decide (n ≤ high)))) (fun K hK => ?_) ?_
 ·simp only [go_sem, s0, s1, s2]
  refine b0k (fun hg1 => ?_) (fun hg1 => ?_)
  ·simp only [go_sem, s0, s1, s2, hg1]
   exact hK _ _ (by first | (simp only [go_sem, hg1, lA9, mA9]; done) | rfl)
  ·simp only [go_sem, s0, s1, s2, hg1]
   exact hK _ _ (by first | (simp only [go_sem, hg1, lA9, mA9]; done) | rfl)
 ·rintro t h s6
  simp only [b0r, b0t, b0s, b0u]
  obtain rfl := hm0
  exact b07 (by simp only [go_sem, s6, lA9, mA9]) (b0d _)
theorem d71 (hf : Has O "newel/newellaw10.FaultsSensors" x_l10_FaultsSensors) (k_l10_works : c3a O) (c1w : b94 O) (c15 : c0f O) (c1v : b93 O) (c14 : c0e O) (c1y : b97 O) : c29 O := by
 intro l r hm0
 unfold b63 at hm0
 refine b1n hf rfl (b0f (b1o fun a _ => b3r a) b0p) (b0d _) ?_
 refine b1l (fun t h => t 0 = .fs 4 (List.map b0w l)) rfl fun t h s0 => ?_
 simp only [x_l10_FaultsSensors]
 refine b0c fun K hK => ?_
 simp only [go_sem]
 refine hK _ _ ?_
 clear hK K
 refine b0y ?_
 refine b2w (fun t h => t 0 = .fs 4 (List.map b0w l) ∧ t 22 = B (((decide (8 < (List.length l : Int))) && (decide ((List.length l : Int) ≤ 12))) || (decide (14 < (List.length l : Int))))) (fun K hK => ?_) ?_
 ·simp only [go_sem, s0]
  refine b0k (fun hg1 => ?_) (fun hg1 => ?_)
  ·simp only [go_sem, s0, hg1]
   refine b0k (fun hg2 => ?_) (fun hg2 => ?_)
   ·simp only [go_sem, s0, hg1, hg2]
    exact hK _ _ ⟨s0, (by first | (simp only [go_sem, hg1, hg2, lA9, mA9]; done) | rfl)⟩
   ·simp only [go_sem, s0, hg1, hg2]
    exact hK _ _ ⟨s0, (by first | (simp only [go_sem, hg1, hg2, lA9, mA9]; done) | rfl)⟩
  ·simp only [go_sem, s0, hg1]
   exact hK _ _ ⟨s0, (by first | (simp only [go_sem, hg1, lA9, mA9]; done) | rfl)⟩
 ·rintro t h ⟨s0, s22⟩
  refine b0n fun K3 hK3 => ?_
  simp only [go_sem, s22]
  refine b0k (fun hc4 => ?_) (fun hc4 => ?_)
  ·rw [b02 hc4] at hm0
   obtain ⟨y6, h_y6, hm0⟩ := b0i hm0
   refine b0c fun K hK => ?_
   simp only [go_sem]
   refine b04 (k_l10_works  _ h_y6) ?_
   simp only [go_sem]
   refine hK _ _ ?_
   clear hK K
   simp only [b0r, b0t, b0s, b0u]
   obtain rfl := sI9 hm0
   exact b07 (by simp only [go_sem, lA9, mA9]) (b0d _)
  ·rw [b01 hc4] at hm0
   simp only [b0x, b0g, b0h]
   refine hK3 _ _ ?_
   obtain ⟨l8, h_l8, hm0⟩ := b0i hm0
   refine b0c fun K hK => ?_
   simp only [go_sem, s0]
   refine c1i (f := b0w) (l := ([])) (m := l) ?_ ?_ ?_ ?_ h_l8 ?_
   ·exact (b9d (by simp only [go_sem, lA9, mA9]) (by simp only [go_sem, lA9, mA9]) (by simp only [go_sem]))
   ·exact g28
   ·exact d8o
   ·exact (fun e => by cases e)
   simp only [go_sem, s0]
   refine hK _ _ ?_
   clear hK K
   refine b0y ?_
   refine d2d (s := 3) (v := .rs (nxs h.nx) 0 (List.length l8)) (f := b0w) (l := l8) (by simp only [go_sem, lA9, mA9]) (b9d (by simp only [go_sem, lA9, mA9]) (by simp only [go_sem, lA9, mA9]) (by simp only [go_sem])) b3r d8b ?_
   simp only [c4s, c4t]
   obtain ⟨y10, h_y10, hm0⟩ := b0i hm0
   refine b0c fun K hK => ?_
   simp only [go_sem]
   refine b04 (c1w l8 _ h_y10) ?_
   simp only [go_sem]
   refine hK _ _ ?_
   clear hK K
   obtain ⟨y12, h_y12, hm0⟩ := b0i hm0
   refine b0c fun K hK => ?_
   simp only [go_sem, s0]
   refine b04 (c15 l _ h_y12) ?_
   simp only [go_sem, s0]
   refine hK _ _ ?_
   clear hK K
   refine b0y ?_
   refine b2w (fun t h => t 0 = .fs 4 (List.map b0w l) ∧ t 3 = .fs 4 (List.map b0w l8) ∧ t 44 = B ((!(decide (y10.1.Low = y12.1.Low) && decide (y10.1.High = y12.1.High))) || (decide (¬y10.2 = y12.2)))) (fun K hK => ?_) ?_
   ·simp only [go_sem]
    refine b0k (fun hg13 => ?_) (fun hg13 => ?_)
    ·simp only [go_sem, hg13]
     exact hK _ _ ⟨s0, (by first | (simp only [go_sem, hg13, lA9, mA9]; done) | rfl), (by first | (simp only [go_sem, hg13, lA9, mA9]; done) | rfl)⟩
    ·simp only [go_sem, hg13]
     exact hK _ _ ⟨s0, (by first | (simp only [go_sem, hg13, lA9, mA9]; done) | rfl), (by first | (simp only [go_sem, hg13, lA9, mA9]; done) | rfl)⟩
   ·rintro t h ⟨s0, s3, s44⟩
    refine b0n fun K14 hK14 => ?_
    simp only [go_sem, s44]
    refine b0k (fun hc15 => ?_) (fun hc15 => ?_)
    ·rw [b02 hc15] at hm0
     refine b0c fun K hK => ?_
     simp only [go_sem]
     refine hK _ _ ?_
     clear hK K
     simp only [b0r, b0t, b0s, b0u]
     obtain rfl := sI9 hm0
     exact b07 (by simp only [go_sem, lA9, mA9]) (b0d _)
    ·rw [b01 hc15] at hm0
     simp only [b0x, b0g, b0h]
     refine hK14 _ _ ?_
     obtain ⟨y17, h_y17, hm0⟩ := b0i hm0
     refine b0c fun K hK => ?_
     simp only [go_sem, s3]
     refine b04 (c1v l8 _ h_y17) ?_
     simp only [go_sem, s3]
     refine hK _ _ ?_
     clear hK K
     obtain ⟨y19, h_y19, hm0⟩ := b0i hm0
     refine b0c fun K hK => ?_
     simp only [go_sem, s0]
     refine b04 (c14 l _ h_y19) ?_
     simp only [go_sem, s0]
     refine hK _ _ ?_
     clear hK K
     obtain ⟨y23, h_y23, hm0⟩ := b0i hm0
     obtain ⟨c25, h_c25, hm0⟩ := b0i hm0
     refine b2w (fun t h => t 2 = B c25) (fun K hK => ?_) ?_
     ·simp only [go_sem]
      refine b04 (c1y y17.1 y19.1 _ h_y23) ?_
      simp only [go_sem]
      refine b0k (fun hg26 => ?_) (fun hg26 => ?_)
      ·simp only [go_sem, hg26]
       refine b0k (fun hg27 => ?_) (fun hg27 => ?_)
       ·simp only [hg26, hg27, Bool.not_true, Bool.not_false, eq_self, if_true, if_false, Bool.true_or, Bool.or_true, Bool.false_or, Bool.or_false, Bool.true_and, Bool.and_true, Bool.false_and, Bool.and_false, Bool.false_eq_true] at h_c25
        obtain ⟨y24, h_y24, h_c25⟩ := b0i h_c25
        obtain rfl := sI9 h_c25
        simp only [go_sem, hg26, hg27]
        refine b04 (k_l10_works  _ h_y24) ?_
        simp only [go_sem, hg26, hg27]
        exact hK _ _ (by first | (simp only [go_sem, hg26, hg27, lA9, mA9]; done) | rfl)
       ·simp only [hg26, hg27, Bool.not_true, Bool.not_false, eq_self, if_true, if_false, Bool.true_or, Bool.or_true, Bool.false_or, Bool.or_false, Bool.true_and, Bool.and_true, Bool.false_and, Bool.and_false, Bool.false_eq_true] at h_c25
        obtain rfl := sI9 h_c25
        simp only [go_sem, hg26, hg27]
        exact hK _ _ (by first | (simp only [go_sem, hg26, hg27, lA9, mA9]; done) | rfl)
      ·simp only [hg26, Bool.not_true, Bool.not_false, eq_self, if_true, if_false, Bool.true_or, Bool.or_true, Bool.false_or, Bool.or_false, Bool.true_and, Bool.and_true, Bool.false_and, Bool.and_false, Bool.false_eq_true] at h_c25
       obtain rfl := sI9 h_c25
       simp only [go_sem, hg26]
       exact hK _ _ (by first | (simp only [go_sem, hg26, lA9, mA9]; done) | rfl)
     ·rintro t h s2
      simp only [b0r, b0t, b0s, b0u]
      obtain rfl := sI9 hm0
      exact b07 (by simp only [go_sem, s2, lA9, mA9]) (b0d _)
theorem c1y (hf : Has O "newel/newellaw10.sameInts" x_l10_sameInts) : b97 O := by
 intro a b r hm0
 unfold b64 at hm0
 refine b1n hf rfl (b0f (b1o fun a _ => b12 a) (b0f (b1o fun a _ => b12 a) b0p)) (b0d _) ?_
 refine b1l (fun t h => t 0 = .fs 1 (List.map eI a) ∧ t 1 = .fs 1 (List.map eI b)) ⟨rfl, rfl⟩ fun t h ⟨s0, s1⟩ => ?_
 simp only [x_l10_sameInts]
 refine b0c fun K hK => ?_
 simp only [go_sem]
 refine hK _ _ ?_
 clear hK K
 refine b0y ?_
 refine b0c fun K hK => ?_
 simp only [go_sem, s0, s1]
 refine hK _ _ ?_
 clear hK K
 refine b0n fun K1 hK1 => ?_
 simp only [go_sem]
 refine b0k (fun hc2 => ?_) (fun hc2 => ?_)
 ·rw [b02 hc2] at hm0
  refine b0c fun K hK => ?_
  simp only [go_sem]
  refine hK _ _ ?_
  clear hK K
  simp only [b0r, b0t, b0s, b0u]
  obtain rfl := sI9 hm0
  exact b07 (by simp only [go_sem, lA9, mA9]) (b0d _)
 ·rw [b01 hc2] at hm0
  simp only [b0x, b0g, b0h]
  refine hK1 _ _ ?_
  refine b0y ?_
  refine b0c fun K hK => ?_
  simp only [go_sem]
  refine hK _ _ ?_
  clear hK K
  refine b0n fun K3 hK3 => ?_
  have J4 : ∀ (t : Slots) (h : Heap), c18 = some r → K3 t h := by
   intro t h hm0
   refine hK3 _ _ ?_
   unfold c18 at hm0
   refine b0c fun K hK => ?_
   simp only [go_sem]
   refine hK _ _ ?_
   clear hK K
   simp only [b0r, b0t, b0s, b0u]
   obtain rfl := sI9 hm0
   exact b07 (by simp only [go_sem, lA9, mA9]) (b0d _)
  simp only [b1q]
  obtain ⟨b5, hl5, hm0⟩ := b0i hm0
  refine b3b hl5 (fun | i_5, t, h => t 0 = .fs 1 (List.map eI a) ∧ t 1 = .fs 1 (List.map eI b) ∧ t 5 = I i_5) ?_ ?_
  ·exact ⟨s0, s1, (by first | (simp only [go_sem, lA9, mA9]; done) | rfl)⟩
  ·rintro i_5 o t h ⟨s0, s1, s5⟩ hm1 hb5
   simp only [b65] at hm1
   rw [c9c]
   refine b0y ?_
   refine b0c fun K hK => ?_
   simp only [go_sem, s0, s5]
   refine hK _ _ ?_
   clear hK K
   refine b0n fun K6 hK6 => ?_
   simp only [go_sem]
   refine b0k (fun hc7 => ?_) (fun hc7 => ?_)
   ·rw [b02 hc7] at hm1
    simp only [b0x, b0g, b0h]
    refine hK6 _ _ ?_
    refine b0n fun K8 hK8 => ?_
    simp only [b1q]
    obtain ⟨x11, h_x11, hm1⟩ := b0i hm1
    have h_x110 := b2f h_x11
    have h_x111 := b21 h_x11
    obtain ⟨x12, h_x12, hm1⟩ := b0i hm1
    have h_x120 := b2f h_x12
    have h_x121 := b21 h_x12
    refine b0c fun K hK => ?_
    simp only [go_sem, s0, s1, s5, b1s h_x11, b1t h_x11, h_x110, h_x111, b1s h_x12, b1t h_x12, h_x120, h_x121]
    refine hK _ _ ?_
    clear hK K
    simp only [go_sem]
    refine b0k (fun hc13 => ?_) (fun hc13 => ?_)
    ·rw [b02 hc13] at hm1
     refine b0c fun K hK => ?_
     simp only [go_sem]
     refine hK _ _ ?_
     clear hK K
     simp only [b0r, b0t, b0s, b0u]
     obtain rfl := sI9 hm1
     obtain rfl := hb5 _ rfl
     try dsimp only at hm0
     obtain rfl := sI9 hm0
     exact b07 (by simp only [go_sem, lA9, mA9]) (b0d _)
    ·rw [b01 hc13] at hm1
     simp only [b0x, b0g, b0h]
     refine hK8 _ _ ?_
     refine b16 fun K hK => ?_
     simp only [go_sem, s5]
     refine hK _ _ ?_
     clear hK K
     simp only [b0g, b0h]
     obtain rfl := sI9 hm1
     refine ⟨_, rfl, ?_⟩
     exact ⟨s0, s1, (by first | (simp only [go_sem, s5, lA9, mA9]; done) | rfl)⟩
   ·rw [b01 hc7] at hm1
    simp only [b2v, b24, b23, b22, b0g, b0h, Nat.reduceEqDiff, nF9]
    obtain rfl := sI9 hm1
    obtain rfl := hb5 _ rfl
    try dsimp only at hm0
    exact J4  _ _  hm0
theorem b80 (hf : Has O "math/bits.OnesCount" x_math_bits_OnesCount) (c1z : b99 O) : b98 O := by
 intro x r hm0
 unfold b41 at hm0
 refine b1n hf rfl (b0f (b0d _) b0p) (b0d _) ?_
 refine b1l (fun t h => t 0 = .v (.int .u64 x)) rfl fun t h s0 => ?_
 simp only [x_math_bits_OnesCount]
 refine b0c fun K hK => ?_
 simp only [go_sem]
 refine hK _ _ ?_
 clear hK K
 refine b0n fun K1 hK1 => ?_
 simp only [c1s, c0z, c00, b8q, b8p, b8o, b9x, b9w, Nat.reduceEqDiff, nF9]
 simp only [b0x, b0g, b0h]
 refine hK1 _ _ ?_
 obtain ⟨y3, h_y3, hm0⟩ := b0i hm0
 refine b0c fun K hK => ?_
 simp only [go_sem, s0]
 refine b04 (c1z x _ h_y3) ?_
 simp only [go_sem, s0]
 refine hK _ _ ?_
 clear hK K
 simp only [b0r, b0t, b0s, b0u]
 obtain rfl := sI9 hm0
 exact b07 (by simp only [go_sem, lA9, mA9]) (b0d _)
theorem c1z (hf : Has O "math/bits.OnesCount64" x_math_bits_OnesCount64) : b99 O := by
 intro x r hm0
 unfold b66 at hm0
 refine b1n hf rfl (b0f (b0d _) b0p) (b0d _) ?_
 refine b1l (fun t h => t 0 = .v (.int .u64 x)) rfl fun t h s0 => ?_
 simp only [x_math_bits_OnesCount64]
 refine b0c fun K hK => ?_
 simp only [go_sem]
 refine hK _ _ ?_
 clear hK K
 obtain ⟨q2, h_q2, hm0⟩ := b0i hm0
 refine b0c fun K hK => ?_
 simp only [go_sem, s0, b3e h_q2]
 refine hK _ _ ?_
 clear hK K
 obtain ⟨q4, h_q4, hm0⟩ := b0i hm0
 refine b0c fun K hK => ?_
 simp only [go_sem, s0, b3e h_q4]
 refine hK _ _ ?_
 clear hK K
 obtain ⟨q6, h_q6, hm0⟩ := b0i hm0
 refine b0c fun K hK => ?_
 simp only [go_sem, s0, b3e h_q6]
 refine hK _ _ ?_
 clear hK K
 obtain ⟨q8, h_q8, hm0⟩ := b0i hm0
 refine b0c fun K hK => ?_
 simp only [go_sem, s0, b3e h_q8]
 refine hK _ _ ?_
 clear hK K
 obtain ⟨q10, h_q10, hm0⟩ := b0i hm0
 refine b0c fun K hK => ?_
 simp only [go_sem, s0, b3e h_q10]
 refine hK _ _ ?_
 clear hK K
 obtain ⟨q12, h_q12, hm0⟩ := b0i hm0
 refine b0c fun K hK => ?_
 simp only [go_sem, s0, b3e h_q12]
 refine hK _ _ ?_
 clear hK K
 refine b0c fun K hK => ?_
 simp only [go_sem, s0]
 refine hK _ _ ?_
 clear hK K
 simp only [b0r, b0t, b0s, b0u]
 obtain rfl := sI9 hm0
 exact b07 (by simp only [go_sem, lA9, mA9]) (b0d _)
theorem c10 (hf : Has O "math/bits.TrailingZeros" x_math_bits_TrailingZeros) (c11 : c0b O) : c0a O := by
 intro x r hm0
 unfold b67 at hm0
 refine b1n hf rfl (b0f (b0d _) b0p) (b0d _) ?_
 refine b1l (fun t h => t 0 = .v (.int .u64 x)) rfl fun t h s0 => ?_
 simp only [x_math_bits_TrailingZeros]
 refine b0c fun K hK => ?_
 simp only [go_sem]
 refine hK _ _ ?_
 clear hK K
 refine b0n fun K1 hK1 => ?_
 simp only [c1s, c0z, c00, b8q, b8p, b8o, b9x, b9w, Nat.reduceEqDiff, nF9]
 simp only [b0x, b0g, b0h]
 refine hK1 _ _ ?_
 obtain ⟨y3, h_y3, hm0⟩ := b0i hm0
 refine b0c fun K hK => ?_
 simp only [go_sem, s0]
 refine b04 (c11 x _ h_y3) ?_
 simp only [go_sem, s0]
 refine hK _ _ ?_
 clear hK K
 simp only [b0r, b0t, b0s, b0u]
 obtain rfl := sI9 hm0
 exact b07 (by simp only [go_sem, lA9, mA9]) (b0d _)
theorem c11 (hf : Has O "math/bits.TrailingZeros64" x_math_bits_TrailingZeros64) : c0b O := by
 intro x r hm0
 unfold b68 at hm0
 refine b1n hf rfl (b0f (b0d _) b0p) (b0d _) ?_
 refine b1l (fun t h => t 0 = .v (.int .u64 x)) rfl fun t h s0 => ?_
 simp only [x_math_bits_TrailingZeros64]
 refine b0c fun K hK => ?_
 simp only [go_sem]
 refine hK _ _ ?_
 clear hK K
 refine b0y ?_
 refine b0c fun K hK => ?_
 simp only [go_sem, s0]
 refine hK _ _ ?_
 clear hK K
 refine b0n fun K1 hK1 => ?_
 simp only [go_sem]
 refine b0k (fun hc2 => ?_) (fun hc2 => ?_)
 ·rw [b02 hc2] at hm0
  refine b0c fun K hK => ?_
  simp only [go_sem]
  refine hK _ _ ?_
  clear hK K
  simp only [b0r, b0t, b0s, b0u]
  obtain rfl := sI9 hm0
  exact b07 (by simp only [go_sem, lA9, mA9]) (b0d _)
 ·rw [b01 hc2] at hm0
  simp only [b0x, b0g, b0h]
  refine hK1 _ _ ?_
  obtain ⟨q5, h_q5, hm0⟩ := b0i hm0
  obtain ⟨x6, h_x6, hm0⟩ := b0i hm0
  refine b0c fun K hK => ?_
  simp only [go_sem, s0, b3e h_q5, d6w (kd := .u8) (n := 64) h_x6 c1h rfl, d6v (kd := .u8) h_x6 c1h]
  refine hK _ _ ?_
  clear hK K
  simp only [b0r, b0t, b0s, b0u]
  obtain rfl := sI9 hm0
  exact b07 (by simp only [go_sem, lA9, mA9]) (b0d _)
theorem c12 (hf : Has O "newel/newelref10.Allows" x_r10_Allows) : c0c O := by
 intro r_
 generalize hm0 : b3t r_ = r
 unfold b3t at hm0
 refine b1n hf rfl (b0f (.agg _ (b0f (b0d _) (b0f (b0d _) (b0f (b0d _) (b0f (b0d _) b0p))))) b0p) (.agg _ (b0f (b0d _) (b0f (b0d _) b0p))) ?_
 refine b1l (fun t h => t 0 = .agg [I r_.Says, I r_.Error, I r_.Drift, I r_.Days]) rfl fun t h s0 => ?_
 simp only [x_r10_Allows]
 refine b0c fun K hK => ?_
 simp only [go_sem, s0]
 refine hK _ _ ?_
 clear hK K
 refine b0c fun K hK => ?_
 simp only [go_sem]
 refine hK _ _ ?_
 clear hK K
 refine b0c fun K hK => ?_
 simp only [go_sem]
 refine hK _ _ ?_
 clear hK K
 simp only [b0r, b0t, b0s, b0u]
 obtain rfl := hm0
 exact d2j (id := h.nx) (m := 2) (cs := [I (wr (r_.Says - (wr (r_.Error + (wr (r_.Drift * r_.Days)))))), I (wr (r_.Says + (wr (r_.Error + (wr (r_.Drift * r_.Days))))))]) (by simp only [go_sem, lA9, mA9]) (by simp only [go_sem, lA9, mA9]) rfl (.refl _ (.agg _ (b0f (b0d _) (b0f (b0d _) b0p))))
theorem b61 (hf : Has O "newel/newelref10.Check" x_r10_Check) (b50 : c0h O) : b7v O := by
 intro l r hm0
 unfold b43 at hm0
 refine b1n hf rfl (b0f (b1o fun a _ => b3r a) b0p) (b0d _) ?_
 refine b1l (fun t h => t 0 = .fs 4 (List.map b0w l)) rfl fun t h s0 => ?_
 simp only [x_r10_Check]
 refine b0c fun K hK => ?_
 simp only [go_sem]
 refine hK _ _ ?_
 clear hK K
 refine b0y ?_
 refine b0c fun K hK => ?_
 simp only [go_sem, s0]
 refine hK _ _ ?_
 clear hK K
 refine b0n fun K1 hK1 => ?_
 simp only [go_sem]
 refine b0k (fun hc2 => ?_) (fun hc2 => ?_)
 ·rw [b02 hc2] at hm0
  refine b0c fun K hK => ?_
  simp only [go_sem]
  refine hK _ _ ?_
  clear hK K
  simp only [b0r, b0t, b0s, b0u]
  obtain rfl := sI9 hm0
  exact b07 (by simp only [go_sem, lA9, mA9]) (b0d _)
 ·rw [b01 hc2] at hm0
  simp only [b0x, b0g, b0h]
  refine hK1 _ _ ?_
  refine b0y ?_
  refine b0c fun K hK => ?_
  simp only [go_sem]
  refine hK _ _ ?_
  clear hK K
  refine b0n fun K3 hK3 => ?_
  have J4 : ∀ (t : Slots) (h : Heap), c2r = some r → K3 t h := by
   intro t h hm0
   refine hK3 _ _ ?_
   unfold c2r at hm0
   refine b0c fun K hK => ?_
   simp only [go_sem]
   refine hK _ _ ?_
   clear hK K
   simp only [b0r, b0t, b0s, b0u]
   obtain rfl := sI9 hm0
   exact b07 (by simp only [go_sem, lA9, mA9]) (b0d _)
  simp only [b1q]
  obtain ⟨b5, hl5, hm0⟩ := b0i hm0
  refine b3b hl5 (fun | i_3, t, h => t 0 = .fs 4 (List.map b0w l) ∧ t 3 = I i_3) ?_ ?_
  ·exact ⟨s0, (by first | (simp only [go_sem, lA9, mA9]; done) | rfl)⟩
  ·rintro i_3 o t h ⟨s0, s3⟩ hm1 hb5
   simp only [b52] at hm1
   rw [c9d]
   refine b0y ?_
   refine b0c fun K hK => ?_
   simp only [go_sem, s0, s3]
   refine hK _ _ ?_
   clear hK K
   refine b0n fun K6 hK6 => ?_
   simp only [go_sem]
   refine b0k (fun hc7 => ?_) (fun hc7 => ?_)
   ·rw [b02 hc7] at hm1
    simp only [b0x, b0g, b0h]
    refine hK6 _ _ ?_
    refine b0n fun K8 hK8 => ?_
    simp only [b1q]
    obtain ⟨x10, h_x10, hm1⟩ := b0i hm1
    have h_x100 := b2f h_x10
    have h_x101 := b21 h_x10
    refine b2w (fun t h => t 0 = .fs 4 (List.map b0w l) ∧ t 3 = I i_3 ∧ t 46 = B ((((!(b2s x10.Says (-100000) 100000)) || (!(b2s x10.Error 0 1000))) || (!(b2s x10.Drift 0 1000))) || (!(b2s x10.Days 0 1000)))) (fun K hK => ?_) ?_
    ·simp only [go_sem, s0, s3, b1s h_x10, b1t h_x10, h_x100, h_x101]
     refine b04 (b50 x10.Says (-100000) 100000) ?_
     simp only [go_sem, s0, s3, b1s h_x10, b1t h_x10, h_x100, h_x101]
     refine b0k (fun hg11 => ?_) (fun hg11 => ?_)
     ·simp only [go_sem, s0, s3, b1s h_x10, b1t h_x10, h_x100, h_x101, hg11]
      exact hK _ _ ⟨s0, s3, (by first | (simp only [go_sem, hg11, lA9, mA9]; done) | rfl)⟩
     ·simp only [go_sem, s0, s3, b1s h_x10, b1t h_x10, h_x100, h_x101, hg11]
      refine b04 (b50 x10.Error 0 1000) ?_
      simp only [go_sem, s0, s3, b1s h_x10, b1t h_x10, h_x100, h_x101, hg11]
      refine b0k (fun hg12 => ?_) (fun hg12 => ?_)
      ·simp only [go_sem, s0, s3, b1s h_x10, b1t h_x10, h_x100, h_x101, hg11, hg12]
       exact hK _ _ ⟨s0, s3, (by first | (simp only [go_sem, hg11, hg12, lA9, mA9]; done) | rfl)⟩
      ·simp only [go_sem, s0, s3, b1s h_x10, b1t h_x10, h_x100, h_x101, hg11, hg12]
       refine b04 (b50 x10.Drift 0 1000) ?_
       simp only [go_sem, s0, s3, b1s h_x10, b1t h_x10, h_x100, h_x101, hg11, hg12]
       refine b0k (fun hg13 => ?_) (fun hg13 => ?_)
       ·simp only [go_sem, s0, s3, b1s h_x10, b1t h_x10, h_x100, h_x101, hg11, hg12, hg13]
        exact hK _ _ ⟨s0, s3, (by first | (simp only [go_sem, hg11, hg12, hg13, lA9, mA9]; done) | rfl)⟩
       ·simp only [go_sem, s0, s3, b1s h_x10, b1t h_x10, h_x100, h_x101, hg11, hg12, hg13]
        refine b04 (b50 x10.Days 0 1000) ?_
        simp only [go_sem, s0, s3, b1s h_x10, b1t h_x10, h_x100, h_x101, hg11, hg12, hg13]
        exact hK _ _ ⟨s0, s3, (by first | (simp only [go_sem, hg11, hg12, hg13, lA9, mA9]; done) | rfl)⟩
    ·rintro t h ⟨s0, s3, s46⟩
     simp only [go_sem, s46]
     refine b0k (fun hc14 => ?_) (fun hc14 => ?_)
     ·rw [b02 hc14] at hm1
      refine b0c fun K hK => ?_
      simp only [go_sem]
      refine hK _ _ ?_
      clear hK K
      simp only [b0r, b0t, b0s, b0u]
      obtain rfl := sI9 hm1
      obtain rfl := hb5 _ rfl
      try dsimp only at hm0
      obtain rfl := sI9 hm0
      exact b07 (by simp only [go_sem, lA9, mA9]) (b0d _)
     ·rw [b01 hc14] at hm1
      simp only [b0x, b0g, b0h]
      refine hK8 _ _ ?_
      refine b16 fun K hK => ?_
      simp only [go_sem, s3]
      refine hK _ _ ?_
      clear hK K
      simp only [b0g, b0h]
      obtain rfl := sI9 hm1
      refine ⟨_, rfl, ?_⟩
      exact ⟨s0, (by first | (simp only [go_sem, s3, lA9, mA9]; done) | rfl)⟩
   ·rw [b01 hc7] at hm1
    simp only [b2v, b24, b23, b22, b0g, b0h, Nat.reduceEqDiff, nF9]
    obtain rfl := sI9 hm1
    obtain rfl := hb5 _ rfl
    try dsimp only at hm0
    exact J4  _ _  hm0
theorem c13 (hf : Has O "newel/newelref10.Less" x_r10_Less) : c0d O := by
 intro a b r hm0
 unfold b7c at hm0
 refine b1n hf rfl (b0f (b1o fun a _ => b12 a) (b0f (b1o fun a _ => b12 a) b0p)) (b0d _) ?_
 refine b1l (fun t h => t 0 = .fs 1 (List.map eI a) ∧ t 1 = .fs 1 (List.map eI b)) ⟨rfl, rfl⟩ fun t h ⟨s0, s1⟩ => ?_
 simp only [x_r10_Less]
 refine b0c fun K hK => ?_
 simp only [go_sem]
 refine hK _ _ ?_
 clear hK K
 refine b0y ?_
 refine b0c fun K hK => ?_
 simp only [go_sem]
 refine hK _ _ ?_
 clear hK K
 refine b0n fun K1 hK1 => ?_
 have J2 : ∀ (t : Slots) (h : Heap), t 0 = .fs 1 (List.map eI a) → t 1 = .fs 1 (List.map eI b) → b9h a b = some r → K1 t h := by
  intro t h s0 s1 hm0
  refine hK1 _ _ ?_
  unfold b9h at hm0
  refine b0c fun K hK => ?_
  simp only [go_sem, s0, s1]
  refine hK _ _ ?_
  clear hK K
  simp only [b0r, b0t, b0s, b0u]
  obtain rfl := sI9 hm0
  exact b07 (by simp only [go_sem, lA9, mA9]) (b0d _)
 simp only [b1q]
 obtain ⟨b3, hl3, hm0⟩ := b0i hm0
 refine b3b hl3 (fun | i_5, t, h => t 0 = .fs 1 (List.map eI a) ∧ t 1 = .fs 1 (List.map eI b) ∧ t 5 = I i_5) ?_ ?_
 ·exact ⟨s0, s1, (by first | (simp only [go_sem, lA9, mA9]; done) | rfl)⟩
 ·rintro i_5 o t h ⟨s0, s1, s5⟩ hm1 hb3
  simp only [b53] at hm1
  rw [c9e]
  refine b0y ?_
  refine b2w (fun t h => t 0 = .fs 1 (List.map eI a) ∧ t 1 = .fs 1 (List.map eI b) ∧ t 5 = I i_5 ∧ t 15 = B ((decide (i_5 < (List.length a : Int))) && (decide (i_5 < (List.length b : Int))))) (fun K hK => ?_) ?_
  ·simp only [go_sem, s0, s1, s5]
   refine b0k (fun hg4 => ?_) (fun hg4 => ?_)
   ·simp only [go_sem, s0, s1, s5, hg4]
    exact hK _ _ ⟨s0, s1, s5, (by first | (simp only [go_sem, hg4, lA9, mA9]; done) | rfl)⟩
   ·simp only [go_sem, s0, s1, s5, hg4]
    exact hK _ _ ⟨s0, s1, s5, (by first | (simp only [go_sem, hg4, lA9, mA9]; done) | rfl)⟩
  ·rintro t h ⟨s0, s1, s5, s15⟩
   refine b0n fun K5 hK5 => ?_
   simp only [go_sem, s15]
   refine b0k (fun hc6 => ?_) (fun hc6 => ?_)
   ·rw [b02 hc6] at hm1
    simp only [b0x, b0g, b0h]
    refine hK5 _ _ ?_
    refine b0n fun K7 hK7 => ?_
    simp only [b1q]
    obtain ⟨x10, h_x10, hm1⟩ := b0i hm1
    have h_x100 := b2f h_x10
    have h_x101 := b21 h_x10
    obtain ⟨x11, h_x11, hm1⟩ := b0i hm1
    have h_x110 := b2f h_x11
    have h_x111 := b21 h_x11
    refine b0c fun K hK => ?_
    simp only [go_sem, s0, s1, s5, b1s h_x10, b1t h_x10, h_x100, h_x101, b1s h_x11, b1t h_x11, h_x110, h_x111]
    refine hK _ _ ?_
    clear hK K
    simp only [go_sem]
    refine b0k (fun hc12 => ?_) (fun hc12 => ?_)
    ·rw [b02 hc12] at hm1
     refine b0c fun K hK => ?_
     simp only [go_sem, s0, s1, s5, b1s h_x10, b1t h_x10, h_x100, h_x101, b1s h_x11, b1t h_x11, h_x110, h_x111]
     refine hK _ _ ?_
     clear hK K
     simp only [b0r, b0t, b0s, b0u]
     obtain rfl := sI9 hm1
     obtain rfl := hb3 _ rfl
     try dsimp only at hm0
     obtain rfl := sI9 hm0
     exact b07 (by simp only [go_sem, lA9, mA9]) (b0d _)
    ·rw [b01 hc12] at hm1
     simp only [b0x, b0g, b0h]
     refine hK7 _ _ ?_
     refine b16 fun K hK => ?_
     simp only [go_sem, s5]
     refine hK _ _ ?_
     clear hK K
     simp only [b0g, b0h]
     obtain rfl := sI9 hm1
     refine ⟨_, rfl, ?_⟩
     exact ⟨s0, s1, (by first | (simp only [go_sem, s5, lA9, mA9]; done) | rfl)⟩
   ·rw [b01 hc6] at hm1
    simp only [b2v, b24, b23, b22, b0g, b0h, Nat.reduceEqDiff, nF9]
    obtain rfl := sI9 hm1
    obtain rfl := hb3 _ rfl
    try dsimp only at hm0
    exact J2  _ _ s0 s1 hm0
theorem c14 (hf : Has O "newel/newelref10.Liars" x_r10_Liars) (b61 : b7v O) (b62 : b7w O) (c16 : c0g O) (c13 : c0d O) : c0e O := by
 intro l r hm0
 unfold b44 at hm0
 refine b1n hf rfl (b0f (b1o fun a _ => b3r a) b0p) (.tup _ (b0f (b1o fun a _ => b12 a) (b0f (b0d _) b0p))) ?_
 refine b1l (fun t h => t 0 = .fs 4 (List.map b0w l)) rfl fun t h s0 => ?_
 simp only [x_r10_Liars]
 refine b0c fun K hK => ?_
 simp only [go_sem]
 refine hK _ _ ?_
 clear hK K
 obtain ⟨y2, h_y2, hm0⟩ := b0i hm0
 refine b0c fun K hK => ?_
 simp only [go_sem, s0]
 refine b04 (b61 l _ h_y2) ?_
 simp only [go_sem, s0]
 refine hK _ _ ?_
 clear hK K
 refine b0y ?_
 refine b0c fun K hK => ?_
 simp only [go_sem]
 refine hK _ _ ?_
 clear hK K
 refine b0n fun K3 hK3 => ?_
 simp only [go_sem]
 refine b0k (fun hc4 => ?_) (fun hc4 => ?_)
 ·rw [b02 hc4] at hm0
  refine b0c fun K hK => ?_
  simp only [go_sem]
  refine hK _ _ ?_
  clear hK K
  simp only [b0r, b0t, b0s, b0u]
  obtain rfl := sI9 hm0
  exact c0w (v := .v (.slice none 0 0)) (u := I y2) (by simp only [go_sem, lA9, mA9]) (by simp only [go_sem, lA9, mA9]) (.nil _) (.refl _ (b0d _))
 ·rw [b01 hc4] at hm0
  simp only [b0x, b0g, b0h]
  refine hK3 _ _ ?_
  refine b0c fun K hK => ?_
  simp only [go_sem]
  refine hK _ _ ?_
  clear hK K
  refine b0c fun K hK => ?_
  simp only [go_sem]
  refine hK _ _ ?_
  clear hK K
  refine b0y ?_
  refine b0c fun K hK => ?_
  simp only [go_sem]
  refine hK _ _ ?_
  clear hK K
  refine b0n fun K5 hK5 => ?_
  have J6 : ∀ (best_5 : Option (List Int)) (w5 : AV) (t : Slots) (h : Heap), t 5 = w5 → b4n w5 1 eI best_5 → b9i best_5 = some r → K5 t h := by
   intro best_5 w5 t h s5 nf_w5 hm0
   refine hK5 _ _ ?_
   unfold b9i at hm0
   refine b0c fun K hK => ?_
   simp only [go_sem, s5, b3f nf_w5, b1a w5]
   refine hK _ _ ?_
   clear hK K
   simp only [b0r, b0t, b0s, b0u]
   obtain rfl := sI9 hm0
   exact c0w (v := w5) (u := I 0) (by simp only [go_sem, lA9, mA9]) (by simp only [go_sem, lA9, mA9]) (c4y nf_w5 b12) (.refl _ (b0d _))
  simp only [b1q]
  obtain ⟨b7, hl7, hm0⟩ := b0i hm0
  refine b3b hl7 (fun | (best_5, found_6, set_7), t, h => ∃ w5 : AV, t 0 = .fs 4 (List.map b0w l) ∧ t 5 = w5 ∧ t 6 = B found_6 ∧ t 7 = I set_7 ∧ b4n w5 1 eI best_5) ?_ ?_
  ·exact ⟨(.v (.slice none 0 0)), s0, (by first | (simp only [go_sem, lA9, mA9]; done) | rfl), (by first | (simp only [go_sem, lA9, mA9]; done) | rfl), (by first | (simp only [go_sem, lA9, mA9]; done) | rfl), (by first | assumption | exact rfl)⟩
  ·rintro ⟨best_5, found_6, set_7⟩ o t h ⟨w5, s0, s5, s6, s7, nf_w5⟩ hm1 hb7
   simp only [b54] at hm1
   rw [c9f]
   refine b0y ?_
   obtain ⟨q9, h_q9, hm1⟩ := b0i hm1
   refine b0c fun K hK => ?_
   simp only [go_sem, s0, s7, c5r h_q9, b1a w5]
   refine hK _ _ ?_
   clear hK K
   refine b0n fun K10 hK10 => ?_
   simp only [go_sem]
   refine b0k (fun hc11 => ?_) (fun hc11 => ?_)
   ·rw [b02 hc11] at hm1
    simp only [b0x, b0g, b0h]
    refine hK10 _ _ ?_
    refine b0n fun K12 hK12 => ?_
    have J13 : ∀ (best_5_1 : Option (List Int)) (found_6_1 : Bool) (w5_1 : AV) (t : Slots) (h : Heap), t 0 = .fs 4 (List.map b0w l) → t 5 = w5_1 → t 6 = B found_6_1 → t 7 = I set_7 → b4n w5_1 1 eI best_5_1 → b4j set_7 best_5_1 found_6_1 = some o → K12 t h := by
     intro best_5_1 found_6_1 w5_1 t h s0 s5 s6 s7 nf_w5_1 hm1
     refine hK12 _ _ ?_
     unfold b4j at hm1
     refine b16 fun K hK => ?_
     simp only [go_sem, s7, b1a w5, b1a w5_1]
     refine hK _ _ ?_
     clear hK K
     simp only [b0g, b0h]
     obtain rfl := sI9 hm1
     refine ⟨_, rfl, ?_⟩
     exact ⟨w5_1, s0, s5, s6, (by first | (simp only [go_sem, s7, lA9, mA9]; done) | rfl), (by first | assumption | exact rfl)⟩
    simp only [b1q]
    obtain ⟨y15, h_y15, hm1⟩ := b0i hm1
    refine b0c fun K hK => ?_
    simp only [go_sem, s0, s7, b1a w5]
    refine b04 (b62 l set_7 _ h_y15) ?_
    simp only [go_sem, s0, s7, b1a w5]
    refine hK _ _ ?_
    clear hK K
    obtain ⟨y17, h_y17, hm1⟩ := b0i hm1
    refine b0c fun K hK => ?_
    simp only [go_sem, s7, b1a w5]
    refine b04 (c16 set_7 _ h_y17) ?_
    simp only [go_sem, s7, b1a w5]
    refine hK _ _ ?_
    clear hK K
    obtain ⟨c25, h_c25, hm1⟩ := b0i hm1
    refine b2w (fun t h => t 0 = .fs 4 (List.map b0w l) ∧ t 5 = w5 ∧ t 6 = B found_6 ∧ t 7 = I set_7 ∧ t 10 = .fs 1 (List.map eI y17) ∧ t 55 = B c25 ∧ b4n w5 1 eI best_5) (fun K hK => ?_) ?_
    ·simp only [go_sem, s5, b3f nf_w5, s6, b1a w5]
     refine b0k (fun hg26 => ?_) (fun hg26 => ?_)
     ·simp only [hg26, Bool.not_true, Bool.not_false, eq_self, if_true, if_false, Bool.true_or, Bool.or_true, Bool.false_or, Bool.or_false, Bool.true_and, Bool.and_true, Bool.false_and, Bool.and_false, Bool.false_eq_true] at h_c25
      obtain ⟨c24, h_c24, h_c25⟩ := b0i h_c25
      obtain rfl := sI9 h_c25
      simp only [go_sem, s5, b3f nf_w5, s6, hg26, b1a w5]
      refine b0k (fun hg27 => ?_) (fun hg27 => ?_)
      ·simp only [hg26, hg27, Bool.not_true, Bool.not_false, eq_self, if_true, if_false, Bool.true_or, Bool.or_true, Bool.false_or, Bool.or_false, Bool.true_and, Bool.and_true, Bool.false_and, Bool.and_false, Bool.false_eq_true] at h_c24
       obtain rfl := sI9 h_c24
       simp only [go_sem, s5, b3f nf_w5, s6, hg26, hg27, b1a w5]
       exact hK _ _ ⟨s0, s5, s6, s7, (by first | (simp only [go_sem, hg26, hg27, lA9, mA9]; done) | rfl), (by first | (simp only [go_sem, hg26, hg27, lA9, mA9]; done) | rfl), (by first | assumption | exact rfl)⟩
      ·simp only [go_sem, s5, b3f nf_w5, s6, hg26, hg27, b1a w5]
       refine b0k (fun hg28 => ?_) (fun hg28 => ?_)
       ·simp only [hg26, hg27, hg28, Bool.not_true, Bool.not_false, eq_self, if_true, if_false, Bool.true_or, Bool.or_true, Bool.false_or, Bool.or_false, Bool.true_and, Bool.and_true, Bool.false_and, Bool.and_false, Bool.false_eq_true] at h_c24
        obtain rfl := sI9 h_c24
        simp only [go_sem, s5, b3f nf_w5, s6, hg26, hg27, hg28, b1a w5]
        exact hK _ _ ⟨s0, s5, s6, s7, (by first | (simp only [go_sem, hg26, hg27, hg28, lA9, mA9]; done) | rfl), (by first | (simp only [go_sem, hg26, hg27, hg28, lA9, mA9]; done) | rfl), (by first | assumption | exact rfl)⟩
       ·simp only [hg26, hg27, hg28, Bool.not_true, Bool.not_false, eq_self, if_true, if_false, Bool.true_or, Bool.or_true, Bool.false_or, Bool.or_false, Bool.true_and, Bool.and_true, Bool.false_and, Bool.and_false, Bool.false_eq_true] at h_c24
        obtain ⟨c23, h_c23, h_c24⟩ := b0i h_c24
        obtain rfl := sI9 h_c24
        simp only [go_sem, s5, b3f nf_w5, s6, hg26, hg27, hg28, b1a w5]
        refine b0k (fun hg29 => ?_) (fun hg29 => ?_)
        ·simp only [hg26, hg27, hg28, hg29, Bool.not_true, Bool.not_false, eq_self, if_true, if_false, Bool.true_or, Bool.or_true, Bool.false_or, Bool.or_false, Bool.true_and, Bool.and_true, Bool.false_and, Bool.and_false, Bool.false_eq_true] at h_c23
         obtain ⟨y22, h_y22, h_c23⟩ := b0i h_c23
         obtain rfl := sI9 h_c23
         simp only [go_sem, s5, b3f nf_w5, s6, hg26, hg27, hg28, hg29, b1a w5]
         refine d51 ?_ (b0f (b1o fun a _ => b12 a) (b0f (d3r nf_w5 b12) b0p)) (c13 y17 (Option.getD best_5 []) _ h_y22) ?_
         ·exact .cons (.refl _ (b1o fun a _ => b12 a)) (.cons (c4y nf_w5 b12) (.nil))
         simp only [go_sem, s5, b3f nf_w5, s6, hg26, hg27, hg28, hg29, b1a w5]
         exact hK _ _ ⟨s0, s5, s6, s7, (by first | (simp only [go_sem, hg26, hg27, hg28, hg29, lA9, mA9]; done) | rfl), (by first | (simp only [go_sem, hg26, hg27, hg28, hg29, lA9, mA9]; done) | rfl), (by first | assumption | exact rfl)⟩
        ·simp only [hg26, hg27, hg28, hg29, Bool.not_true, Bool.not_false, eq_self, if_true, if_false, Bool.true_or, Bool.or_true, Bool.false_or, Bool.or_false, Bool.true_and, Bool.and_true, Bool.false_and, Bool.and_false, Bool.false_eq_true] at h_c23
         obtain rfl := sI9 h_c23
         simp only [go_sem, s5, b3f nf_w5, s6, hg26, hg27, hg28, hg29, b1a w5]
         exact hK _ _ ⟨s0, s5, s6, s7, (by first | (simp only [go_sem, hg26, hg27, hg28, hg29, lA9, mA9]; done) | rfl), (by first | (simp only [go_sem, hg26, hg27, hg28, hg29, lA9, mA9]; done) | rfl), (by first | assumption | exact rfl)⟩
     ·simp only [hg26, Bool.not_true, Bool.not_false, eq_self, if_true, if_false, Bool.true_or, Bool.or_true, Bool.false_or, Bool.or_false, Bool.true_and, Bool.and_true, Bool.false_and, Bool.and_false, Bool.false_eq_true] at h_c25
      obtain rfl := sI9 h_c25
      simp only [go_sem, s5, b3f nf_w5, s6, hg26, b1a w5]
      exact hK _ _ ⟨s0, s5, s6, s7, (by first | (simp only [go_sem, hg26, lA9, mA9]; done) | rfl), (by first | (simp only [go_sem, hg26, lA9, mA9]; done) | rfl), (by first | assumption | exact rfl)⟩
    ·rintro t h ⟨s0, s5, s6, s7, s10, s55, nf_w5⟩
     simp only [go_sem, s55]
     refine b0k (fun hc30 => ?_) (fun hc30 => ?_)
     ·rw [b02 hc30] at hm1
      refine b0c fun K hK => ?_
      simp only [go_sem, s10, b1a w5]
      refine hK _ _ ?_
      clear hK K
      refine b16 fun K hK => ?_
      simp only [go_sem, b1a w5]
      refine hK _ _ ?_
      clear hK K
      simp only [b0g, b0h]
      exact J13 (some y17) true (.fs 1 (List.map eI y17)) _ _ s0 (by first | (simp only [go_sem, s5, lA9, mA9]; done) | rfl) (by first | (simp only [go_sem, s6, lA9, mA9]; done) | rfl) s7 (by first | assumption | exact rfl) hm1
     ·rw [b01 hc30] at hm1
      simp only [b0x, b0g, b0h]
      exact J13 best_5 found_6 w5 _ _ s0 s5 s6 s7 (by first | assumption | exact rfl) hm1
   ·rw [b01 hc11] at hm1
    simp only [b2v, b24, b23, b22, b0g, b0h, Nat.reduceEqDiff, nF9]
    obtain rfl := sI9 hm1
    obtain rfl := hb7 _ rfl
    try dsimp only at hm0
    exact J6 best_5 w5 _ _ s5 (by first | assumption | exact rfl) hm0
theorem c15 (hf : Has O "newel/newelref10.Truth" x_r10_Truth) (b61 : b7v O) (b62 : b7w O) : c0f O := by
 intro l r hm0
 unfold b45 at hm0
 refine b1n hf rfl (b0f (b1o fun a _ => b3r a) b0p) (.tup _ (b0f (.agg _ (b0f (b0d _) (b0f (b0d _) b0p))) (b0f (b0d _) b0p))) ?_
 refine b1l (fun t h => t 0 = .fs 4 (List.map b0w l)) rfl fun t h s0 => ?_
 simp only [x_r10_Truth]
 refine b0c fun K hK => ?_
 simp only [go_sem]
 refine hK _ _ ?_
 clear hK K
 obtain ⟨y2, h_y2, hm0⟩ := b0i hm0
 refine b0c fun K hK => ?_
 simp only [go_sem, s0]
 refine b04 (b61 l _ h_y2) ?_
 simp only [go_sem, s0]
 refine hK _ _ ?_
 clear hK K
 refine b0y ?_
 refine b0c fun K hK => ?_
 simp only [go_sem]
 refine hK _ _ ?_
 clear hK K
 refine b0n fun K3 hK3 => ?_
 simp only [go_sem]
 refine b0k (fun hc4 => ?_) (fun hc4 => ?_)
 ·rw [b02 hc4] at hm0
  refine b0c fun K hK => ?_
  simp only [go_sem]
  refine hK _ _ ?_
  clear hK K
  simp only [b0r, b0t, b0s, b0u]
  obtain rfl := sI9 hm0
  exact b38 (id := h.nx) (m := 2) (cs := [I 0, I 0]) (u := I y2) (by simp only [go_sem, lA9, mA9]) (by simp only [go_sem, lA9, mA9]) rfl (by simp only [go_sem, lA9, mA9]) (.refl _ (.agg _ (b0f (b0d _) (b0f (b0d _) b0p)))) (.refl _ (b0d _))
 ·rw [b01 hc4] at hm0
  simp only [b0x, b0g, b0h]
  refine hK3 _ _ ?_
  obtain ⟨y6, h_y6, hm0⟩ := b0i hm0
  refine b0c fun K hK => ?_
  simp only [go_sem, s0]
  refine b04 (b62 l 0 _ h_y6) ?_
  simp only [go_sem, s0]
  refine hK _ _ ?_
  clear hK K
  refine b0y ?_
  refine b2w (fun t h => ∃ i2 : Nat, ∃ i5 : Nat, t 2 = .rp i2 0 0 ∧ t 5 = .rp i5 0 0 ∧ t 24 = B ((!y6.2) || (decide ((List.length l : Int) = 0))) ∧ h.ob i2 = some (2, [[I 0, I 0]]) ∧ i2 < h.nx ∧ h.ob i5 = some (2, [[I y6.1.Low, I y6.1.High]]) ∧ i5 < h.nx ∧ ¬i2 = i5) (fun K hK => ?_) ?_
  ·simp only [go_sem, s0]
   refine b0k (fun hg7 => ?_) (fun hg7 => ?_)
   ·simp only [go_sem, s0, hg7]
    exact hK _ _ ⟨h.nx, (nxs h.nx), (by first | (simp only [go_sem, hg7, lA9, mA9]; done) | rfl), (by first | (simp only [go_sem, hg7, lA9, mA9]; done) | rfl), (by first | (simp only [go_sem, hg7, lA9, mA9]; done) | rfl), (by simp only [go_sem, hg7, lA9, mA9]), (by simp only [go_sem]), (by simp only [go_sem, hg7, lA9, mA9]), (by simp only [go_sem]), (by first | first | assumption | omega | (simp only [nxs] <;> omega))⟩
   ·simp only [go_sem, s0, hg7]
    exact hK _ _ ⟨h.nx, (nxs h.nx), (by first | (simp only [go_sem, hg7, lA9, mA9]; done) | rfl), (by first | (simp only [go_sem, hg7, lA9, mA9]; done) | rfl), (by first | (simp only [go_sem, hg7, lA9, mA9]; done) | rfl), (by simp only [go_sem, hg7, lA9, mA9]), (by simp only [go_sem]), (by simp only [go_sem, hg7, lA9, mA9]), (by simp only [go_sem]), (by first | first | assumption | omega | (simp only [nxs] <;> omega))⟩
  ·rintro t h ⟨i2, i5, s2, s5, s24, Q7, Q8, Qa, Q9, Q3⟩
   refine b0n fun K8 hK8 => ?_
   simp only [go_sem, s24]
   refine b0k (fun hc9 => ?_) (fun hc9 => ?_)
   ·rw [b02 hc9] at hm0
    refine b0c fun K hK => ?_
    simp only [go_sem, s2, Q7, Q8, Q9, Q3, b1b Q3]
    refine hK _ _ ?_
    clear hK K
    simp only [b0r, b0t, b0s, b0u]
    obtain rfl := sI9 hm0
    exact b38 (id := i2) (m := 2) (cs := [I 0, I 0]) (u := I 3) (by simp only [go_sem, s2, Q7, Q8, Qa, Q9, Q3, b1b Q3, lA9, mA9]) (by simp only [go_sem, s2, Q7, Q8, Qa, Q9, Q3, b1b Q3, lA9, mA9]) rfl (by simp only [go_sem, s2, Q7, Q8, Qa, Q9, Q3, b1b Q3, lA9, mA9]) (.refl _ (.agg _ (b0f (b0d _) (b0f (b0d _) b0p)))) (.refl _ (b0d _))
   ·rw [b01 hc9] at hm0
    simp only [b0x, b0g, b0h]
    refine hK8 _ _ ?_
    refine b0c fun K hK => ?_
    simp only [go_sem, s2, s5, Q7, Q8, Qa, Q9, Q3, b1b Q3]
    refine hK _ _ ?_
    clear hK K
    simp only [b0r, b0t, b0s, b0u]
    obtain rfl := sI9 hm0
    exact b38 (id := i2) (m := 2) (cs := [I y6.1.Low, I y6.1.High]) (u := I 0) (by simp only [go_sem, s2, Q7, Q8, Qa, Q9, Q3, b1b Q3, lA9, mA9]) (by simp only [go_sem, s2, Q7, Q8, Qa, Q9, Q3, b1b Q3, lA9, mA9]) rfl (by simp only [go_sem, s2, Q7, Q8, Qa, Q9, Q3, b1b Q3, lA9, mA9]) (.refl _ (.agg _ (b0f (b0d _) (b0f (b0d _) b0p)))) (.refl _ (b0d _))
theorem c16 (hf : Has O "newel/newelref10.bits" x_r10_bits) : c0g O := by
 intro set r hm0
 unfold b55 at hm0
 refine b1n hf rfl (b0f (b0d _) b0p) (b1o fun a _ => b12 a) ?_
 refine b1l (fun t h => t 0 = I set) rfl fun t h s0 => ?_
 simp only [x_r10_bits]
 refine b0c fun K hK => ?_
 simp only [go_sem]
 refine hK _ _ ?_
 clear hK K
 refine b0c fun K hK => ?_
 simp only [go_sem]
 refine hK _ _ ?_
 clear hK K
 refine b0y ?_
 refine b0c fun K hK => ?_
 simp only [go_sem]
 refine hK _ _ ?_
 clear hK K
 refine b0n fun K1 hK1 => ?_
 have J2 : ∀ (out_3 : List Int) (v3 : AV) (t : Slots) (h : Heap), t 3 = v3 → b1i h v3 1 (List.map eI out_3) → b7d out_3 = some r → K1 t h := by
  intro out_3 v3 t h s3 Q6 hm0
  refine hK1 _ _ ?_
  unfold b7d at hm0
  refine b0c fun K hK => ?_
  simp only [go_sem, s3, b1a v3]
  refine hK _ _ ?_
  clear hK K
  simp only [b0r, b0t, b0s, b0u]
  obtain rfl := sI9 hm0
  exact c34 (v := v3) (by simp only [go_sem, b4h Q6, lA9, mA9]) (c1f (f := eI) (l := out_3) (b3s Q6 (by intro j hj hl; first | rfl | simp only [go_sem, hl]) (by first | omega | exact Nat.le_refl _ | (simp only [go_sem, nxs] <;> omega))) b12 c69)
 simp only [b1q]
 obtain ⟨b3, hl3, hm0⟩ := b0i hm0
 refine b3b hl3 (fun | (out_3, i_4), t, h => ∃ v3 : AV, t 0 = I set ∧ t 3 = v3 ∧ t 4 = I i_4 ∧ b1i h v3 1 (List.map eI out_3)) ?_ ?_
 ·exact ⟨(.v (.slice none 0 0)), s0, (by first | (simp only [go_sem, lA9, mA9]; done) | rfl), (by first | (simp only [go_sem, lA9, mA9]; done) | rfl), c76⟩
 ·rintro ⟨out_3, i_4⟩ o t h ⟨v3, s0, s3, s4, Q6⟩ hm1 hb3
  simp only [b9j] at hm1
  rw [c9g]
  refine b0y ?_
  obtain ⟨q5, h_q5, hm1⟩ := b0i hm1
  refine b0c fun K hK => ?_
  simp only [go_sem, s0, s4, b3e h_q5, b1a v3]
  refine hK _ _ ?_
  clear hK K
  refine b0n fun K6 hK6 => ?_
  simp only [go_sem]
  refine b0k (fun hc7 => ?_) (fun hc7 => ?_)
  ·rw [b02 hc7] at hm1
   simp only [b0x, b0g, b0h]
   refine hK6 _ _ ?_
   refine b0n fun K8 hK8 => ?_
   have J9 : ∀ (out_3_1 : List Int) (v3_1 : AV) (t : Slots) (h : Heap), t 0 = I set → t 3 = v3_1 → t 4 = I i_4 → b1i h v3_1 1 (List.map eI out_3_1) → b56 i_4 out_3_1 = some o → K8 t h := by
    intro out_3_1 v3_1 t h s0 s3 s4 Q6 hm1
    refine hK8 _ _ ?_
    unfold b56 at hm1
    refine b16 fun K hK => ?_
    simp only [go_sem, s4, b1a v3, b1a v3_1]
    refine hK _ _ ?_
    clear hK K
    simp only [b0g, b0h]
    obtain rfl := sI9 hm1
    refine ⟨_, rfl, ?_⟩
    exact ⟨v3_1, s0, s3, (by first | (simp only [go_sem, s4, lA9, mA9]; done) | rfl), Q6⟩
   simp only [b1q]
   refine b0c fun K hK => ?_
   simp only [go_sem, s0, s4, b3e h_q5, b1a v3]
   refine hK _ _ ?_
   clear hK K
   simp only [go_sem]
   refine b0k (fun hc10 => ?_) (fun hc10 => ?_)
   ·rw [b02 hc10] at hm1
    obtain ⟨l12, h_l12, hm1⟩ := b0i hm1
    refine b16 fun K hK => ?_
    simp only [go_sem, s3, s4, b1a v3]
    refine c1i (f := eI) (l := out_3) (m := ([i_4])) ?_ ?_ ?_ ?_ h_l12 ?_
    ·exact (b3s Q6 (by intro j hj hl; first | rfl | simp only [go_sem, hl]) (by first | omega | exact Nat.le_refl _ | (simp only [go_sem, nxs] <;> omega)))
    ·exact (c77 (by simp only [go_sem, b4h Q6, lA9, mA9]) (by simp only [go_sem, b4h Q6, lA9, mA9]))
    ·exact (c7n (by first | exact c7r | exact c7s (by first | omega | (simp only [nxs] <;> omega)) | assumption | exact c2o (by assumption) (by first | omega | (simp only [go_sem, nxs] <;> omega))))
    ·exact (fun _ => by simp)
    simp only [go_sem, s3, s4, b1a v3]
    refine hK _ _ ?_
    clear hK K
    simp only [b0g, b0h]
    exact J9 l12 (.rs (nxs h.nx) 0 (List.length l12)) _ _ s0 (by first | (simp only [go_sem, s3, lA9, mA9]; done) | rfl) s4 (b9d (by simp only [go_sem, b4h Q6, lA9, mA9]) (by first | rfl | simp only [go_sem, lA9, mA9]) (by simp only [go_sem])) hm1
   ·rw [b01 hc10] at hm1
    simp only [b0x, b0g, b0h]
    exact J9 out_3 v3 _ _ s0 s3 s4 Q6 hm1
  ·rw [b01 hc7] at hm1
   simp only [b2v, b24, b23, b22, b0g, b0h, Nat.reduceEqDiff, nF9]
   obtain rfl := sI9 hm1
   obtain rfl := hb3 _ rfl
   try dsimp only at hm0
   exact J2 out_3 v3 _ _ s3 Q6 hm0
theorem b62 (hf : Has O "newel/newelref10.common" x_r10_common) (c12 : c0c O) : b7w O := by
 intro l but r hm0
 unfold b57 at hm0
 refine b1n hf rfl (b0f (b1o fun a _ => b3r a) (b0f (b0d _) b0p)) (.tup _ (b0f (.agg _ (b0f (b0d _) (b0f (b0d _) b0p))) (b0f (b0d _) b0p))) ?_
 refine b1l (fun t h => t 0 = .fs 4 (List.map b0w l) ∧ t 1 = I but) ⟨rfl, rfl⟩ fun t h ⟨s0, s1⟩ => ?_
 simp only [x_r10_common]
 refine b0c fun K hK => ?_
 simp only [go_sem]
 refine hK _ _ ?_
 clear hK K
 refine b0c fun K hK => ?_
 simp only [go_sem]
 refine hK _ _ ?_
 clear hK K
 refine b0y ?_
 refine b0c fun K hK => ?_
 simp only [go_sem]
 refine hK _ _ ?_
 clear hK K
 refine b0n fun K1 hK1 => ?_
 have J2 : ∀ (s_6_0 : Int) (s_6_1 : Int) (i4 : Nat) (i6 : Nat) (t : Slots) (h : Heap), t 4 = .rp i4 0 0 → t 6 = .rp i6 0 0 → h.ob i4 = some (2, [[I 0, I 0]]) → i4 < h.nx → h.ob i6 = some (2, [[I s_6_0, I s_6_1]]) → i6 < h.nx → ¬i4 = i6 → c2v s_6_0 s_6_1 = some r → K1 t h := by
  intro s_6_0 s_6_1 i4 i6 t h s4 s6 Q5 Q2 Q4 Q1 Q0 hm0
  refine hK1 _ _ ?_
  unfold c2v at hm0
  refine b0y ?_
  refine c32 (s := 6) (id := i6) (n := 2) (cs := [I s_6_0, I s_6_1]) (by simp only [go_sem, s6, Q5, Q2, Q4, Q1, Q0, b1b Q0, lA9, mA9]) (by simp only [go_sem, s6, Q5, Q2, Q4, Q1, Q0, b1b Q0, lA9, mA9]) (b0f (b0d _) (b0f (b0d _) b0p)) ?_
  refine b0c fun K hK => ?_
  simp only [go_sem, s4, s6, Q5, Q2, Q1, Q0, b1b Q0]
  refine hK _ _ ?_
  clear hK K
  simp only [b0r, b0t, b0s, b0u]
  obtain rfl := sI9 hm0
  exact b38 (id := i4) (m := 2) (cs := [I s_6_0, I s_6_1]) (u := B (decide (s_6_0 ≤ s_6_1))) (by simp only [go_sem, s4, Q5, Q2, Q4, Q1, Q0, b1b Q0, lA9, mA9]) (by simp only [go_sem, s4, Q5, Q2, Q4, Q1, Q0, b1b Q0, lA9, mA9]) rfl (by simp only [go_sem, s4, Q5, Q2, Q4, Q1, Q0, b1b Q0, lA9, mA9]) (.refl _ (.agg _ (b0f (b0d _) (b0f (b0d _) b0p)))) (.refl _ (b0d _))
 simp only [b1q]
 obtain ⟨b3, hl3, hm0⟩ := b0i hm0
 refine b3b hl3 (fun | (s_6_0, s_6_1, i_7), t, h => ∃ i4 : Nat, ∃ i6 : Nat, t 0 = .fs 4 (List.map b0w l) ∧ t 1 = I but ∧ t 4 = .rp i4 0 0 ∧ t 6 = .rp i6 0 0 ∧ t 7 = I i_7 ∧ h.ob i4 = some (2, [[I 0, I 0]]) ∧ i4 < h.nx ∧ h.ob i6 = some (2, [[I s_6_0, I s_6_1]]) ∧ i6 < h.nx ∧ ¬i4 = i6) ?_ ?_
 ·exact ⟨h.nx, (nxs h.nx), s0, s1, (by first | (simp only [go_sem, lA9, mA9]; done) | rfl), (by first | (simp only [go_sem, lA9, mA9]; done) | rfl), (by first | (simp only [go_sem, lA9, mA9]; done) | rfl), (by simp only [go_sem, lA9, mA9]), (by simp only [go_sem]), (by simp only [go_sem, lA9, mA9]), (by simp only [go_sem]), (by first | first | assumption | omega | (simp only [nxs] <;> omega))⟩
 ·rintro ⟨s_6_0, s_6_1, i_7⟩ o t h ⟨i4, i6, s0, s1, s4, s6, s7, Q5, Q2, Q4, Q1, Q0⟩ hm1 hb3
  simp only [b7e] at hm1
  rw [c9h]
  refine b0y ?_
  refine b0c fun K hK => ?_
  simp only [go_sem, s0, s7, Q2, Q1]
  refine hK _ _ ?_
  clear hK K
  refine b0n fun K4 hK4 => ?_
  simp only [go_sem]
  refine b0k (fun hc5 => ?_) (fun hc5 => ?_)
  ·rw [b02 hc5] at hm1
   simp only [b0x, b0g, b0h]
   refine hK4 _ _ ?_
   refine b0n fun K6 hK6 => ?_
   have J7 : ∀ (s_6_0_1 : Int) (s_6_1_1 : Int) (t : Slots) (h : Heap), t 0 = .fs 4 (List.map b0w l) → t 1 = I but → t 4 = .rp i4 0 0 → t 6 = .rp i6 0 0 → t 7 = I i_7 → h.ob i4 = some (2, [[I 0, I 0]]) → i4 < h.nx → h.ob i6 = some (2, [[I s_6_0_1, I s_6_1_1]]) → i6 < h.nx → ¬i4 = i6 → b58 i_7 s_6_0_1 s_6_1_1 = some o → K6 t h := by
    try clear s0 s1 s4 s6 s7 Q5 Q2 Q4 Q1 Q0
    intro s_6_0_1 s_6_1_1 t h s0 s1 s4 s6 s7 Q5 Q2 Q4 Q1 Q0 hm1
    refine hK6 _ _ ?_
    unfold b58 at hm1
    refine b16 fun K hK => ?_
    simp only [go_sem, s7, Q2, Q1]
    refine hK _ _ ?_
    clear hK K
    simp only [b0g, b0h]
    obtain rfl := sI9 hm1
    refine ⟨_, rfl, ?_⟩
    exact ⟨i4, i6, s0, s1, s4, s6, (by first | (simp only [go_sem, s7, lA9, mA9]; done) | rfl), Q5, Q2, Q4, Q1, Q0⟩
   simp only [b1q]
   obtain ⟨q9, h_q9, hm1⟩ := b0i hm1
   refine b0c fun K hK => ?_
   simp only [go_sem, s1, s7, Q2, Q1, b3e h_q9]
   refine hK _ _ ?_
   clear hK K
   simp only [go_sem]
   refine b0k (fun hc10 => ?_) (fun hc10 => ?_)
   ·rw [b02 hc10] at hm1
    obtain ⟨x12, h_x12, hm1⟩ := b0i hm1
    have h_x120 := b2f h_x12
    have h_x121 := b21 h_x12
    refine b0c fun K hK => ?_
    simp only [go_sem, s0, s7, Q2, Q1, b1s h_x12, b1t h_x12, h_x120, h_x121]
    refine b04 (c12 x12) ?_
    simp only [go_sem, s0, s7, Q2, Q1, b1s h_x12, b1t h_x12, h_x120, h_x121]
    refine hK _ _ ?_
    clear hK K
    refine b0c fun K hK => ?_
    simp only [go_sem, s6, Q4, Q1, Q2, Q0, b1b Q0]
    refine hK _ _ ?_
    clear hK K
    refine b16 fun K hK => ?_
    simp only [go_sem, s6, Q4, Q1, Q2, Q0, b1b Q0]
    refine hK _ _ ?_
    clear hK K
    simp only [b0g, b0h]
    exact J7 (mx s_6_0 ((b3t x12).Low)) (mn s_6_1 ((b3t x12).High)) _ _ s0 s1 s4 s6 s7 (by simp only [go_sem, Q5, Q2, Q1, Q0, b1b Q0, lA9, mA9]) (by simp only [go_sem, Q2]) (by simp only [go_sem, Q4, Q1, lA9, mA9]) (by simp only [go_sem, Q1]) Q0 hm1
   ·rw [b01 hc10] at hm1
    simp only [b0x, b0g, b0h]
    exact J7 s_6_0 s_6_1 _ _ s0 s1 s4 s6 s7 Q5 Q2 Q4 Q1 Q0 hm1
  ·rw [b01 hc5] at hm1
   simp only [b2v, b24, b23, b22, b0g, b0h, Nat.reduceEqDiff, nF9]
   obtain rfl := sI9 hm1
   obtain rfl := hb3 _ rfl
   try dsimp only at hm0
   exact J2 s_6_0 s_6_1 i4 i6 _ _ s4 s6 Q5 Q2 Q4 Q1 Q0 hm0
theorem b50 (hf : Has O "newel/newelref10.from" x_r10_from) : c0h O := by
 intro n low high
 generalize hm0 : b2s n low high = r
 unfold b2s at hm0
 refine b1n hf rfl (b0f (b0d _) (b0f (b0d _) (b0f (b0d _) b0p))) (b0d _) ?_
 refine b1l (fun t h => t 0 = I n ∧ t 1 = I low ∧ t 2 = I high) ⟨rfl, rfl, rfl⟩ fun t h ⟨s0, s1, s2⟩ => ?_
 simp only [x_r10_from]
 refine b0c fun K hK => ?_
 simp only [go_sem]
 refine hK _ _ ?_
 clear hK K
 refine b2w (fun t h => t 6 = B ((decide (low ≤ n)) && (decide (n ≤ high)))) (fun K hK => ?_) ?_
 ·simp only [go_sem, s0, s1, s2]
  refine b0k (fun hg1 => ?_) (fun hg1 => ?_)
  ·simp only [go_sem, s0, s1, s2, hg1]
   exact hK _ _ (by first | (simp only [go_sem, hg1, lA9, mA9]; done) | rfl)
  ·simp only [go_sem, s0, s1, s2, hg1]
   exact hK _ _ (by first | (simp only [go_sem, hg1, lA9, mA9]; done) | rfl)
 ·rintro t h s6
  simp only [b0r, b0t, b0s, b0u]
  obtain rfl := hm0
  exact b07 (by simp only [go_sem, s6, lA9, mA9]) (b0d _)
theorem c17 (hf : Has O "slices.Compare[[]int,int]" x_slices_Compare___int_int_) (c1u : b91 O) : c0i O := by
 intro s1_ s2_ r hm0
 unfold b7n at hm0
 refine b1n hf rfl (b0f (b1o fun a _ => b12 a) (b0f (b1o fun a _ => b12 a) b0p)) (b0d _) ?_
 refine b1l (fun t h => t 0 = .fs 1 (List.map eI s1_) ∧ t 1 = .fs 1 (List.map eI s2_)) ⟨rfl, rfl⟩ fun t h ⟨s0, s1⟩ => ?_
 simp only [x_slices_Compare___int_int_]
 refine b0c fun K hK => ?_
 simp only [go_sem]
 refine hK _ _ ?_
 clear hK K
 refine b0y ?_
 refine b0c fun K hK => ?_
 simp only [go_sem, s0]
 refine hK _ _ ?_
 clear hK K
 refine b0n fun K1 hK1 => ?_
 have J2 : ∀ (t : Slots) (h : Heap), t 0 = .fs 1 (List.map eI s1_) → t 1 = .fs 1 (List.map eI s2_) → b9v s1_ s2_ = some r → K1 t h := by
  intro t h s0 s1 hm0
  refine hK1 _ _ ?_
  unfold b9v at hm0
  refine b0y ?_
  refine b0c fun K hK => ?_
  simp only [go_sem, s0, s1]
  refine hK _ _ ?_
  clear hK K
  refine b0n fun K3 hK3 => ?_
  simp only [go_sem]
  refine b0k (fun hc4 => ?_) (fun hc4 => ?_)
  ·rw [b02 hc4] at hm0
   refine b0c fun K hK => ?_
   simp only [go_sem]
   refine hK _ _ ?_
   clear hK K
   simp only [b0r, b0t, b0s, b0u]
   obtain rfl := sI9 hm0
   exact b07 (by simp only [go_sem, lA9, mA9]) (b0d _)
  ·rw [b01 hc4] at hm0
   simp only [b0x, b0g, b0h]
   refine hK3 _ _ ?_
   refine b0c fun K hK => ?_
   simp only [go_sem]
   refine hK _ _ ?_
   clear hK K
   simp only [b0r, b0t, b0s, b0u]
   obtain rfl := sI9 hm0
   exact b07 (by simp only [go_sem, lA9, mA9]) (b0d _)
 simp only [b1q]
 obtain ⟨b5, hl5, hm0⟩ := b0i hm0
 refine b3b hl5 (fun | x_11, t, h => t 0 = .fs 1 (List.map eI s1_) ∧ t 1 = .fs 1 (List.map eI s2_) ∧ t 9 = .fs 1 (List.map eI s1_) ∧ t 10 = I (List.length s1_ : Int) ∧ t 11 = I x_11) ?_ ?_
 ·exact ⟨s0, s1, (by first | (simp only [go_sem, lA9, mA9]; done) | rfl), (by first | (simp only [go_sem, lA9, mA9]; done) | rfl), (by first | (simp only [go_sem, lA9, mA9]; done) | rfl)⟩
 ·rintro x_11 o t h ⟨s0, s1, s9, s10, s11⟩ hm1 hb5
  simp only [b6b] at hm1
  rw [c9i]
  refine b0c fun K hK => ?_
  simp only [go_sem, s10, s11]
  refine hK _ _ ?_
  clear hK K
  refine b0n fun K6 hK6 => ?_
  simp only [go_sem]
  refine b0k (fun hc7 => ?_) (fun hc7 => ?_)
  ·rw [b02 hc7] at hm1
   simp only [b0x, b0g, b0h]
   refine hK6 _ _ ?_
   refine b0n fun K8 hK8 => ?_
   simp only [b1q]
   obtain ⟨x10, h_x10, hm1⟩ := b0i hm1
   have h_x100 := b2f h_x10
   have h_x101 := b21 h_x10
   refine b0c fun K hK => ?_
   simp only [go_sem, s9, s11, b1s h_x10, b1t h_x10, h_x100, h_x101]
   refine hK _ _ ?_
   clear hK K
   refine b0y ?_
   refine b0c fun K hK => ?_
   simp only [go_sem, s1]
   refine hK _ _ ?_
   clear hK K
   refine b0n fun K11 hK11 => ?_
   simp only [go_sem]
   refine b0k (fun hc12 => ?_) (fun hc12 => ?_)
   ·rw [b02 hc12] at hm1
    refine b0c fun K hK => ?_
    simp only [go_sem]
    refine hK _ _ ?_
    clear hK K
    simp only [b0r, b0t, b0s, b0u]
    obtain rfl := sI9 hm1
    obtain rfl := hb5 _ rfl
    try dsimp only at hm0
    obtain rfl := sI9 hm0
    exact b07 (by simp only [go_sem, lA9, mA9]) (b0d _)
   ·rw [b01 hc12] at hm1
    simp only [b0x, b0g, b0h]
    refine hK11 _ _ ?_
    obtain ⟨x14, h_x14, hm1⟩ := b0i hm1
    have h_x140 := b2f h_x14
    have h_x141 := b21 h_x14
    refine b0c fun K hK => ?_
    simp only [go_sem, s1, b1s h_x14, b1t h_x14, h_x140, h_x141]
    refine hK _ _ ?_
    clear hK K
    refine b0c fun K hK => ?_
    simp only [go_sem]
    refine b04 (c1u x10 x14) ?_
    simp only [go_sem]
    refine hK _ _ ?_
    clear hK K
    refine b0c fun K hK => ?_
    simp only [go_sem]
    refine hK _ _ ?_
    clear hK K
    simp only [go_sem]
    refine b0k (fun hc15 => ?_) (fun hc15 => ?_)
    ·rw [b02 hc15] at hm1
     refine b0c fun K hK => ?_
     simp only [go_sem]
     refine hK _ _ ?_
     clear hK K
     simp only [b0r, b0t, b0s, b0u]
     obtain rfl := sI9 hm1
     obtain rfl := hb5 _ rfl
     try dsimp only at hm0
     obtain rfl := sI9 hm0
     exact b07 (by simp only [go_sem, lA9, mA9]) (b0d _)
    ·rw [b01 hc15] at hm1
     simp only [b0x, b0g, b0h]
     refine hK8 _ _ ?_
     refine b16 fun K hK => ?_
     simp only [go_sem, s11]
     refine hK _ _ ?_
     clear hK K
     simp only [b0g, b0h]
     obtain rfl := sI9 hm1
     refine ⟨_, rfl, ?_⟩
     exact ⟨s0, s1, s9, s10, (by first | (simp only [go_sem, s11, lA9, mA9]; done) | rfl)⟩
  ·rw [b01 hc7] at hm1
   simp only [b2v, b24, b23, b22, b0g, b0h, Nat.reduceEqDiff, nF9]
   obtain rfl := sI9 hm1
   obtain rfl := hb5 _ rfl
   try dsimp only at hm0
   exact J2  _ _ s0 s1 hm0
end Go.Nw.FM
