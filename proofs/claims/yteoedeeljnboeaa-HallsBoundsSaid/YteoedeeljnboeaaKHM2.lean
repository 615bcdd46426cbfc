/- That the texts make what their models say: printed by a program. -/
import Derived.Test.YteoedeeljnboeaaHM
set_option linter.all false
set_option linter.unusedVariables false
set_option linter.unusedSimpArgs false
set_option linter.unusedSectionVars false
namespace Go.Nw.HM
open Go.Nw.Halls
set_option linter.unusedSimpArgs false
set_option linter.unusedVariables false
set_option maxHeartbeats 4000000
variable {O : Orac}
theorem d0x (hf : Has O "newel/newellaw06.Far" x_l06_Far) : c7z O := by
 intro h_ r hm0
 unfold c08 at hm0
 refine b2n hf rfl (b0e (.agg _ (b0e (b0y fun a _ => b2p a) (b0e (b0y fun a _ => b2o a) (b0e (b0y fun a _ => b2r a) (b0e (b0j _) b02))))) b02) (b0j _) ?_
 refine b2g (fun t h => t 0 = .agg [.fs 5 (List.map b0r h_.Combs), .fs 3 (List.map b0o h_.Trains), .fs 3 (List.map b0s h_.Shifts), I h_.Until]) rfl fun t h s0 => ?_
 simp only [x_l06_Far]
 refine b0f fun K hK => ?_
 simp only [go_sem, s0]
 refine hK _ _ ?_
 clear hK K
 refine b05 ?_
 refine b2j (fun t h => t 1 = .fp [.fs 5 (List.map b0r h_.Combs), .fs 3 (List.map b0o h_.Trains), .fs 3 (List.map b0s h_.Shifts), I h_.Until] 0 ∧ t 29 = B ((((decide (12 < (List.length h_.Combs : Int))) || (decide (20 < (List.length h_.Trains : Int)))) || (decide (40 < (List.length h_.Shifts : Int)))) || ((decide (40 < h_.Until)) && (decide (h_.Until ≤ 100))))) (fun K hK => ?_) ?_
 ·simp only [go_sem]
  refine b0w (fun hg1 => ?_) (fun hg1 => ?_)
  ·simp only [go_sem, hg1]
   exact hK _ _ ⟨(by first | (simp only [go_sem, hg1, lA9, mA9]; done) | rfl), (by first | (simp only [go_sem, hg1, lA9, mA9]; done) | rfl)⟩
  ·simp only [go_sem, hg1]
   refine b0w (fun hg2 => ?_) (fun hg2 => ?_)
   ·simp only [go_sem, hg1, hg2]
    exact hK _ _ ⟨(by first | (simp only [go_sem, hg1, hg2, lA9, mA9]; done) | rfl), (by first | (simp only [go_sem, hg1, hg2, lA9, mA9]; done) | rfl)⟩
   ·simp only [go_sem, hg1, hg2]
    refine b0w (fun hg3 => ?_) (fun hg3 => ?_)
    ·simp only [go_sem, hg1, hg2, hg3]
     exact hK _ _ ⟨(by first | (simp only [go_sem, hg1, hg2, hg3, lA9, mA9]; done) | rfl), (by first | (simp only [go_sem, hg1, hg2, hg3, lA9, mA9]; done) | rfl)⟩
    ·simp only [go_sem, hg1, hg2, hg3]
     refine b0w (fun hg4 => ?_) (fun hg4 => ?_)
     ·simp only [go_sem, hg1, hg2, hg3, hg4]
      exact hK _ _ ⟨(by first | (simp only [go_sem, hg1, hg2, hg3, hg4, lA9, mA9]; done) | rfl), (by first | (simp only [go_sem, hg1, hg2, hg3, hg4, lA9, mA9]; done) | rfl)⟩
     ·simp only [go_sem, hg1, hg2, hg3, hg4]
      exact hK _ _ ⟨(by first | (simp only [go_sem, hg1, hg2, hg3, hg4, lA9, mA9]; done) | rfl), (by first | (simp only [go_sem, hg1, hg2, hg3, hg4, lA9, mA9]; done) | rfl)⟩
 ·rintro t h ⟨s1, s29⟩
  refine b0x fun K5 hK5 => ?_
  simp only [go_sem, s29]
  refine b0w (fun hc6 => ?_) (fun hc6 => ?_)
  ·rw [b1b hc6] at hm0
   refine b0f fun K hK => ?_
   simp only [go_sem]
   refine hK _ _ ?_
   clear hK K
   simp only [b1i, b1m, b1l, b1n]
   obtain rfl := sI9 hm0
   exact b1z (by simp only [go_sem, lA9, mA9]) (b0j _)
  ·rw [b1a hc6] at hm0
   simp only [b08, b0m, b0n]
   refine hK5 _ _ ?_
   refine b05 ?_
   refine b0f fun K hK => ?_
   simp only [go_sem]
   refine hK _ _ ?_
   clear hK K
   refine b0x fun K7 hK7 => ?_
   have J8 : ∀ (t : Slots) (h : Heap), d08 = some r → K7 t h := by
    intro t h hm0
    refine hK7 _ _ ?_
    unfold d08 at hm0
    refine b0f fun K hK => ?_
    simp only [go_sem]
    refine hK _ _ ?_
    clear hK K
    simp only [b1i, b1m, b1l, b1n]
    obtain rfl := sI9 hm0
    exact b1z (by simp only [go_sem, lA9, mA9]) (b0j _)
   simp only [b1e]
   obtain ⟨b9, hl9, hm0⟩ := b0k hm0
   refine b2c hl9 (fun | i_3, t, h => t 1 = .fp [.fs 5 (List.map b0r h_.Combs), .fs 3 (List.map b0o h_.Trains), .fs 3 (List.map b0s h_.Shifts), I h_.Until] 0 ∧ t 3 = I i_3) ?_ ?_
   ·exact ⟨s1, (by first | (simp only [go_sem, lA9, mA9]; done) | rfl)⟩
   ·rintro i_3 o t h ⟨s1, s3⟩ hm1 hb9
    simp only [c09] at hm1
    rw [g0n]
    refine b05 ?_
    refine b0f fun K hK => ?_
    simp only [go_sem, s1, s3]
    refine hK _ _ ?_
    clear hK K
    refine b0x fun K10 hK10 => ?_
    simp only [go_sem]
    refine b0w (fun hc11 => ?_) (fun hc11 => ?_)
    ·rw [b1b hc11] at hm1
     simp only [b08, b0m, b0n]
     refine hK10 _ _ ?_
     refine b0x fun K12 hK12 => ?_
     simp only [b1e]
     obtain ⟨x14, h_x14, hm1⟩ := b0k hm1
     have h_x140 := b06 h_x14
     have h_x141 := b09 h_x14
     refine b0f fun K hK => ?_
     simp only [go_sem, s1, s3, b0u h_x14, b0v h_x14, h_x140, h_x141]
     refine hK _ _ ?_
     clear hK K
     simp only [go_sem]
     refine b0w (fun hc15 => ?_) (fun hc15 => ?_)
     ·rw [b1b hc15] at hm1
      refine b0f fun K hK => ?_
      simp only [go_sem]
      refine hK _ _ ?_
      clear hK K
      simp only [b1i, b1m, b1l, b1n]
      obtain rfl := sI9 hm1
      obtain rfl := hb9 _ rfl
      try dsimp only at hm0
      obtain rfl := sI9 hm0
      exact b1z (by simp only [go_sem, lA9, mA9]) (b0j _)
     ·rw [b1a hc15] at hm1
      simp only [b08, b0m, b0n]
      refine hK12 _ _ ?_
      refine b1t fun K hK => ?_
      simp only [go_sem, s3]
      refine hK _ _ ?_
      clear hK K
      simp only [b0m, b0n]
      obtain rfl := sI9 hm1
      refine ⟨_, rfl, ?_⟩
      exact ⟨s1, (by first | (simp only [go_sem, s3, lA9, mA9]; done) | rfl)⟩
    ·rw [b1a hc11] at hm1
     simp only [b17, b2b, b2a, b19, b0m, b0n, Nat.reduceEqDiff, nF9]
     obtain rfl := sI9 hm1
     obtain rfl := hb9 _ rfl
     try dsimp only at hm0
     exact J8  _ _  hm0
theorem j0t (hf : Has O "newel/newellaw06.HallsBounds" x_l06_HallsBounds) (d0x : c7z O) (c57 : c70 O) (d0n : c7o O) (d0y : c71 O) (d0q : c7r O) (d00 : c73 O) (d02 : c75 O) (c3i : c4j O) (d01 : c74 O) (d0o : c7p O) (d0z : c72 O) : d2o O := by
 intro h_ w_ r hm0
 unfold b9a at hm0
 refine b2n hf rfl (b0e (.agg _ (b0e (b0y fun a _ => b2p a) (b0e (b0y fun a _ => b2o a) (b0e (b0y fun a _ => b2r a) (b0e (b0j _) b02))))) (b0e (.agg _ (b0e (b0j _) (b0e (b0j _) (b0e (b0j _) b02)))) b02)) (b0j _) ?_
 refine b2g (fun t h => t 0 = .agg [.fs 5 (List.map b0r h_.Combs), .fs 3 (List.map b0o h_.Trains), .fs 3 (List.map b0s h_.Shifts), I h_.Until] ∧ t 1 = .agg [I w_.Comb, I w_.From, I w_.To]) ⟨rfl, rfl⟩ fun t h ⟨s0, s1⟩ => ?_
 simp only [x_l06_HallsBounds]
 refine b0f fun K hK => ?_
 simp only [go_sem, s0, s1]
 refine hK _ _ ?_
 clear hK K
 refine b05 ?_
 obtain ⟨y2, h_y2, hm0⟩ := b0k hm0
 refine b0f fun K hK => ?_
 simp only [go_sem]
 refine b1p (d0x h_ _ h_y2) ?_
 simp only [go_sem]
 refine hK _ _ ?_
 clear hK K
 refine b0x fun K3 hK3 => ?_
 simp only [go_sem]
 refine b0w (fun hc4 => ?_) (fun hc4 => ?_)
 ·rw [b1b hc4] at hm0
  obtain ⟨y6, h_y6, hm0⟩ := b0k hm0
  refine b0f fun K hK => ?_
  simp only [go_sem]
  refine b1p (c57  _ h_y6) ?_
  simp only [go_sem]
  refine hK _ _ ?_
  clear hK K
  simp only [b1i, b1m, b1l, b1n]
  obtain rfl := sI9 hm0
  exact b1z (by simp only [go_sem, lA9, mA9]) (b0j _)
 ·rw [b1a hc4] at hm0
  simp only [b08, b0m, b0n]
  refine hK3 _ _ ?_
  obtain ⟨y8, h_y8, hm0⟩ := b0k hm0
  refine b0f fun K hK => ?_
  simp only [go_sem]
  refine b1p (d0n h_ w_.Comb w_.From w_.To _ h_y8) ?_
  simp only [go_sem]
  refine hK _ _ ?_
  clear hK K
  obtain ⟨y10, h_y10, hm0⟩ := b0k hm0
  refine b0f fun K hK => ?_
  simp only [go_sem]
  refine b1p (d0y h_ w_.Comb w_.From w_.To _ h_y10) ?_
  simp only [go_sem]
  refine hK _ _ ?_
  clear hK K
  obtain ⟨y12, h_y12, hm0⟩ := b0k hm0
  refine b0f fun K hK => ?_
  simp only [go_sem]
  refine b1p (d0q h_ w_.Comb _ h_y12) ?_
  simp only [go_sem]
  refine hK _ _ ?_
  clear hK K
  obtain ⟨y14, h_y14, hm0⟩ := b0k hm0
  refine b0f fun K hK => ?_
  simp only [go_sem]
  refine b1p (d00 h_ w_.Comb _ h_y14) ?_
  simp only [go_sem]
  refine hK _ _ ?_
  clear hK K
  refine b05 ?_
  obtain ⟨c18, h_c18, hm0⟩ := b0k hm0
  refine b2j (fun t h => t 2 = .fp [.fs 5 (List.map b0r h_.Combs), .fs 3 (List.map b0o h_.Trains), .fs 3 (List.map b0s h_.Shifts), I h_.Until] 0 ∧ t 79 = B c18) (fun K hK => ?_) ?_
  ·simp only [go_sem]
   refine b0w (fun hg19 => ?_) (fun hg19 => ?_)
   ·simp only [hg19, Bool.not_true, Bool.not_false, eq_self, if_true, if_false, Bool.true_or, Bool.or_true, Bool.false_or, Bool.or_false, Bool.true_and, Bool.and_true, Bool.false_and, Bool.and_false, Bool.false_eq_true] at h_c18
    obtain rfl := sI9 h_c18
    simp only [go_sem, hg19]
    exact hK _ _ ⟨(by first | (simp only [go_sem, hg19, lA9, mA9]; done) | rfl), (by first | (simp only [go_sem, hg19, lA9, mA9]; done) | rfl)⟩
   ·simp only [go_sem, hg19]
    refine b0w (fun hg20 => ?_) (fun hg20 => ?_)
    ·simp only [hg19, hg20, Bool.not_true, Bool.not_false, eq_self, if_true, if_false, Bool.true_or, Bool.or_true, Bool.false_or, Bool.or_false, Bool.true_and, Bool.and_true, Bool.false_and, Bool.and_false, Bool.false_eq_true] at h_c18
     obtain rfl := sI9 h_c18
     simp only [go_sem, hg19, hg20]
     exact hK _ _ ⟨(by first | (simp only [go_sem, hg19, hg20, lA9, mA9]; done) | rfl), (by first | (simp only [go_sem, hg19, hg20, lA9, mA9]; done) | rfl)⟩
    ·simp only [go_sem, hg19, hg20]
     refine b0w (fun hg21 => ?_) (fun hg21 => ?_)
     ·simp only [hg19, hg20, hg21, Bool.not_true, Bool.not_false, eq_self, if_true, if_false, Bool.true_or, Bool.or_true, Bool.false_or, Bool.or_false, Bool.true_and, Bool.and_true, Bool.false_and, Bool.and_false, Bool.false_eq_true] at h_c18
      obtain rfl := sI9 h_c18
      simp only [go_sem, hg19, hg20, hg21]
      exact hK _ _ ⟨(by first | (simp only [go_sem, hg19, hg20, hg21, lA9, mA9]; done) | rfl), (by first | (simp only [go_sem, hg19, hg20, hg21, lA9, mA9]; done) | rfl)⟩
     ·simp only [hg19, hg20, hg21, Bool.not_true, Bool.not_false, eq_self, if_true, if_false, Bool.true_or, Bool.or_true, Bool.false_or, Bool.or_false, Bool.true_and, Bool.and_true, Bool.false_and, Bool.and_false, Bool.false_eq_true] at h_c18
      obtain ⟨y17, h_y17, h_c18⟩ := b0k h_c18
      obtain rfl := sI9 h_c18
      simp only [go_sem, hg19, hg20, hg21]
      refine b1p (d02 y12.1 y14.1 _ h_y17) ?_
      simp only [go_sem, hg19, hg20, hg21]
      exact hK _ _ ⟨(by first | (simp only [go_sem, hg19, hg20, hg21, lA9, mA9]; done) | rfl), (by first | (simp only [go_sem, hg19, hg20, hg21, lA9, mA9]; done) | rfl)⟩
  ·rintro t h ⟨s2, s79⟩
   refine b0x fun K22 hK22 => ?_
   simp only [go_sem, s79]
   refine b0w (fun hc23 => ?_) (fun hc23 => ?_)
   ·rw [b1b hc23] at hm0
    refine b0f fun K hK => ?_
    simp only [go_sem]
    refine hK _ _ ?_
    clear hK K
    simp only [b1i, b1m, b1l, b1n]
    obtain rfl := sI9 hm0
    exact b1z (by simp only [go_sem, lA9, mA9]) (b0j _)
   ·rw [b1a hc23] at hm0
    simp only [b08, b0m, b0n]
    refine hK22 _ _ ?_
    obtain ⟨y25, h_y25, hm0⟩ := b0k hm0
    refine b0f fun K hK => ?_
    simp only [go_sem, s2]
    refine b1p (c3i h_ _ h_y25) ?_
    simp only [go_sem, s2]
    refine hK _ _ ?_
    clear hK K
    obtain ⟨y27, h_y27, hm0⟩ := b0k hm0
    refine b0f fun K hK => ?_
    simp only [go_sem, s2]
    refine b1p (d01 h_ _ h_y27) ?_
    simp only [go_sem, s2]
    refine hK _ _ ?_
    clear hK K
    refine b05 ?_
    refine b2j (fun t h => t 2 = .fp [.fs 5 (List.map b0r h_.Combs), .fs 3 (List.map b0o h_.Trains), .fs 3 (List.map b0s h_.Shifts), I h_.Until] 0 ∧ t 13 = .fs 2 (List.map b3c y25.1) ∧ t 15 = .fs 2 (List.map b3c y27.1) ∧ t 99 = B ((decide (¬y25.2 = y27.2)) || (decide (¬(List.length y25.1 : Int) = (List.length y27.1 : Int))))) (fun K hK => ?_) ?_
    ·simp only [go_sem]
     refine b0w (fun hg28 => ?_) (fun hg28 => ?_)
     ·simp only [go_sem, hg28]
      exact hK _ _ ⟨s2, (by first | (simp only [go_sem, hg28, lA9, mA9]; done) | rfl), (by first | (simp only [go_sem, hg28, lA9, mA9]; done) | rfl), (by first | (simp only [go_sem, hg28, lA9, mA9]; done) | rfl)⟩
     ·simp only [go_sem, hg28]
      exact hK _ _ ⟨s2, (by first | (simp only [go_sem, hg28, lA9, mA9]; done) | rfl), (by first | (simp only [go_sem, hg28, lA9, mA9]; done) | rfl), (by first | (simp only [go_sem, hg28, lA9, mA9]; done) | rfl)⟩
    ·rintro t h ⟨s2, s13, s15, s99⟩
     refine b0x fun K29 hK29 => ?_
     simp only [go_sem, s99]
     refine b0w (fun hc30 => ?_) (fun hc30 => ?_)
     ·rw [b1b hc30] at hm0
      refine b0f fun K hK => ?_
      simp only [go_sem]
      refine hK _ _ ?_
      clear hK K
      simp only [b1i, b1m, b1l, b1n]
      obtain rfl := sI9 hm0
      exact b1z (by simp only [go_sem, lA9, mA9]) (b0j _)
     ·rw [b1a hc30] at hm0
      simp only [b08, b0m, b0n]
      refine hK29 _ _ ?_
      refine b05 ?_
      refine b0f fun K hK => ?_
      simp only [go_sem]
      refine hK _ _ ?_
      clear hK K
      refine b0x fun K31 hK31 => ?_
      have J32 : ∀ (t : Slots) (h : Heap), t 2 = .fp [.fs 5 (List.map b0r h_.Combs), .fs 3 (List.map b0o h_.Trains), .fs 3 (List.map b0s h_.Shifts), I h_.Until] 0 → c59 h_ = some r → K31 t h := by
       intro t h s2 hm0
       refine hK31 _ _ ?_
       unfold c59 at hm0
       obtain ⟨y34, h_y34, hm0⟩ := b0k hm0
       refine b0f fun K hK => ?_
       simp only [go_sem, s2]
       refine b1p (d0o h_ _ h_y34) ?_
       simp only [go_sem, s2]
       refine hK _ _ ?_
       clear hK K
       obtain ⟨y36, h_y36, hm0⟩ := b0k hm0
       refine b0f fun K hK => ?_
       simp only [go_sem, s2]
       refine b1p (d0z h_ _ h_y36) ?_
       simp only [go_sem, s2]
       refine hK _ _ ?_
       clear hK K
       obtain ⟨c40, h_c40, hm0⟩ := b0k hm0
       refine b2j (fun t h => t 4 = B c40) (fun K hK => ?_) ?_
       ·simp only [go_sem]
        refine b0w (fun hg41 => ?_) (fun hg41 => ?_)
        ·simp only [go_sem, hg41]
         refine b0w (fun hg42 => ?_) (fun hg42 => ?_)
         ·simp only [hg41, hg42, Bool.not_true, Bool.not_false, eq_self, if_true, if_false, Bool.true_or, Bool.or_true, Bool.false_or, Bool.or_false, Bool.true_and, Bool.and_true, Bool.false_and, Bool.and_false, Bool.false_eq_true] at h_c40
          obtain ⟨y39, h_y39, h_c40⟩ := b0k h_c40
          obtain rfl := sI9 h_c40
          simp only [go_sem, hg41, hg42]
          refine b1p (c57  _ h_y39) ?_
          simp only [go_sem, hg41, hg42]
          exact hK _ _ (by first | (simp only [go_sem, hg41, hg42, lA9, mA9]; done) | rfl)
         ·simp only [hg41, hg42, Bool.not_true, Bool.not_false, eq_self, if_true, if_false, Bool.true_or, Bool.or_true, Bool.false_or, Bool.or_false, Bool.true_and, Bool.and_true, Bool.false_and, Bool.and_false, Bool.false_eq_true] at h_c40
          obtain rfl := sI9 h_c40
          simp only [go_sem, hg41, hg42]
          exact hK _ _ (by first | (simp only [go_sem, hg41, hg42, lA9, mA9]; done) | rfl)
        ·simp only [hg41, Bool.not_true, Bool.not_false, eq_self, if_true, if_false, Bool.true_or, Bool.or_true, Bool.false_or, Bool.or_false, Bool.true_and, Bool.and_true, Bool.false_and, Bool.and_false, Bool.false_eq_true] at h_c40
         obtain rfl := sI9 h_c40
         simp only [go_sem, hg41]
         exact hK _ _ (by first | (simp only [go_sem, hg41, lA9, mA9]; done) | rfl)
       ·rintro t h s4
        simp only [b1i, b1m, b1l, b1n]
        obtain rfl := sI9 hm0
        exact b1z (by simp only [go_sem, s4, lA9, mA9]) (b0j _)
      simp only [b1e]
      obtain ⟨b43, hl43, hm0⟩ := b0k hm0
      refine b2c hl43 (fun | n_17, t, h => t 2 = .fp [.fs 5 (List.map b0r h_.Combs), .fs 3 (List.map b0o h_.Trains), .fs 3 (List.map b0s h_.Shifts), I h_.Until] 0 ∧ t 13 = .fs 2 (List.map b3c y25.1) ∧ t 15 = .fs 2 (List.map b3c y27.1) ∧ t 17 = I n_17) ?_ ?_
      ·exact ⟨s2, s13, s15, (by first | (simp only [go_sem, lA9, mA9]; done) | rfl)⟩
      ·rintro n_17 o t h ⟨s2, s13, s15, s17⟩ hm1 hb43
       simp only [c3m] at hm1
       rw [g0o]
       refine b05 ?_
       refine b0f fun K hK => ?_
       simp only [go_sem, s13, s17]
       refine hK _ _ ?_
       clear hK K
       refine b0x fun K44 hK44 => ?_
       simp only [go_sem]
       refine b0w (fun hc45 => ?_) (fun hc45 => ?_)
       ·rw [b1b hc45] at hm1
        simp only [b08, b0m, b0n]
        refine hK44 _ _ ?_
        refine b0x fun K46 hK46 => ?_
        simp only [b1e]
        obtain ⟨x49, h_x49, hm1⟩ := b0k hm1
        have h_x490 := b06 h_x49
        have h_x491 := b09 h_x49
        obtain ⟨x50, h_x50, hm1⟩ := b0k hm1
        have h_x500 := b06 h_x50
        have h_x501 := b09 h_x50
        refine b0f fun K hK => ?_
        simp only [go_sem, s13, s15, s17, b0u h_x49, b0v h_x49, h_x490, h_x491, b0u h_x50, b0v h_x50, h_x500, h_x501]
        refine hK _ _ ?_
        clear hK K
        simp only [go_sem]
        refine b0w (fun hc51 => ?_) (fun hc51 => ?_)
        ·rw [b1b hc51] at hm1
         refine b0f fun K hK => ?_
         simp only [go_sem]
         refine hK _ _ ?_
         clear hK K
         simp only [b1i, b1m, b1l, b1n]
         obtain rfl := sI9 hm1
         obtain rfl := hb43 _ rfl
         try dsimp only at hm0
         obtain rfl := sI9 hm0
         exact b1z (by simp only [go_sem, lA9, mA9]) (b0j _)
        ·rw [b1a hc51] at hm1
         simp only [b08, b0m, b0n]
         refine hK46 _ _ ?_
         refine b1t fun K hK => ?_
         simp only [go_sem, s17]
         refine hK _ _ ?_
         clear hK K
         simp only [b0m, b0n]
         obtain rfl := sI9 hm1
         refine ⟨_, rfl, ?_⟩
         exact ⟨s2, s13, s15, (by first | (simp only [go_sem, s17, lA9, mA9]; done) | rfl)⟩
       ·rw [b1a hc45] at hm1
        simp only [b17, b2b, b2a, b19, b0m, b0n, Nat.reduceEqDiff, nF9]
        obtain rfl := sI9 hm1
        obtain rfl := hb43 _ rfl
        try dsimp only at hm0
        exact J32  _ _ s2 hm0
theorem c57 (hf : Has O "newel/newellaw06.works" x_l06_works) (c56 : c7y O) (d0p : c7q O) (c3i : c4j O) : c70 O := by
 intro r hm0
 unfold b64 at hm0
 refine b2n hf rfl b02 (b0j _) ?_
 refine b2g (fun t h => True) trivial fun t h _ => ?_
 simp only [x_l06_works]
 refine b0f fun K hK => ?_
 simp only [go_sem]
 refine hK _ _ ?_
 clear hK K
 obtain ⟨y2, h_y2, hm0⟩ := b0k hm0
 refine b0f fun K hK => ?_
 simp only [go_sem]
 refine b1p (c56 ()) ?_
 simp only [go_sem]
 refine b1p (d0p l06_Example 0 5 _ h_y2) ?_
 simp only [go_sem]
 refine hK _ _ ?_
 clear hK K
 obtain ⟨y4, h_y4, hm0⟩ := b0k hm0
 refine b0f fun K hK => ?_
 simp only [go_sem]
 refine b1p (c56 ()) ?_
 simp only [go_sem]
 refine b1p (c3i l06_Example _ h_y4) ?_
 simp only [go_sem]
 refine hK _ _ ?_
 clear hK K
 obtain ⟨c8, h_c8, hm0⟩ := b0k hm0
 refine b2j (fun t h => t 0 = B c8) (fun K hK => ?_) ?_
 ·simp only [go_sem]
  refine b0w (fun hg9 => ?_) (fun hg9 => ?_)
  ·simp only [go_sem, hg9]
   refine b0w (fun hg10 => ?_) (fun hg10 => ?_)
   ·simp only [go_sem, hg9, hg10]
    refine b0w (fun hg11 => ?_) (fun hg11 => ?_)
    ·simp only [go_sem, hg9, hg10, hg11]
     refine b0w (fun hg12 => ?_) (fun hg12 => ?_)
     ·simp only [hg9, hg10, hg11, hg12, Bool.not_true, Bool.not_false, eq_self, if_true, if_false, Bool.true_or, Bool.or_true, Bool.false_or, Bool.or_false, Bool.true_and, Bool.and_true, Bool.false_and, Bool.and_false, Bool.false_eq_true] at h_c8
      obtain ⟨x7, h_x7, h_c8⟩ := b0k h_c8
      have h_x70 := b06 h_x7
      have h_x71 := b09 h_x7
      obtain rfl := sI9 h_c8
      simp only [go_sem, b0u h_x7, b0v h_x7, h_x70, h_x71, hg9, hg10, hg11, hg12]
      exact hK _ _ (by first | (simp only [go_sem, hg9, hg10, hg11, hg12, lA9, mA9]; done) | rfl)
     ·simp only [hg9, hg10, hg11, hg12, Bool.not_true, Bool.not_false, eq_self, if_true, if_false, Bool.true_or, Bool.or_true, Bool.false_or, Bool.or_false, Bool.true_and, Bool.and_true, Bool.false_and, Bool.and_false, Bool.false_eq_true] at h_c8
      obtain rfl := sI9 h_c8
      simp only [go_sem, hg9, hg10, hg11, hg12]
      exact hK _ _ (by first | (simp only [go_sem, hg9, hg10, hg11, hg12, lA9, mA9]; done) | rfl)
    ·simp only [hg9, hg10, hg11, Bool.not_true, Bool.not_false, eq_self, if_true, if_false, Bool.true_or, Bool.or_true, Bool.false_or, Bool.or_false, Bool.true_and, Bool.and_true, Bool.false_and, Bool.and_false, Bool.false_eq_true] at h_c8
     obtain rfl := sI9 h_c8
     simp only [go_sem, hg9, hg10, hg11]
     exact hK _ _ (by first | (simp only [go_sem, hg9, hg10, hg11, lA9, mA9]; done) | rfl)
   ·simp only [hg9, hg10, Bool.not_true, Bool.not_false, eq_self, if_true, if_false, Bool.true_or, Bool.or_true, Bool.false_or, Bool.or_false, Bool.true_and, Bool.and_true, Bool.false_and, Bool.and_false, Bool.false_eq_true] at h_c8
    obtain rfl := sI9 h_c8
    simp only [go_sem, hg9, hg10]
    exact hK _ _ (by first | (simp only [go_sem, hg9, hg10, lA9, mA9]; done) | rfl)
  ·simp only [hg9, Bool.not_true, Bool.not_false, eq_self, if_true, if_false, Bool.true_or, Bool.or_true, Bool.false_or, Bool.or_false, Bool.true_and, Bool.and_true, Bool.false_and, Bool.and_false, Bool.false_eq_true] at h_c8
   obtain rfl := sI9 h_c8
   simp only [go_sem, hg9]
   exact hK _ _ (by first | (simp only [go_sem, hg9, lA9, mA9]; done) | rfl)
 ·rintro t h s0
  simp only [b1i, b1m, b1l, b1n]
  obtain rfl := sI9 hm0
  exact b1z (by simp only [go_sem, s0, lA9, mA9]) (b0j _)
theorem b63 (hf : Has O "newel/newelref06.Check" x_r06_Check) (b4k : c17 O) (c07 : c78 O) : b91 O := by
 intro h_ r hm0
 unfold b5a at hm0
 refine b2n hf rfl (b0e (.agg _ (b0e (b0y fun a _ => b2p a) (b0e (b0y fun a _ => b2o a) (b0e (b0y fun a _ => b2r a) (b0e (b0j _) b02))))) b02) (b0j _) ?_
 refine b2g (fun t h => t 0 = .agg [.fs 5 (List.map b0r h_.Combs), .fs 3 (List.map b0o h_.Trains), .fs 3 (List.map b0s h_.Shifts), I h_.Until]) rfl fun t h s0 => ?_
 simp only [x_r06_Check]
 refine b0f fun K hK => ?_
 simp only [go_sem, s0]
 refine hK _ _ ?_
 clear hK K
 refine b05 ?_
 refine b2j (fun t h => t 1 = .fp [.fs 5 (List.map b0r h_.Combs), .fs 3 (List.map b0o h_.Trains), .fs 3 (List.map b0s h_.Shifts), I h_.Until] 0 ∧ t 34 = B ((((!(b2t h_.Until 1 100)) || (!(b2t (List.length h_.Combs : Int) 1 8))) || (decide (12 < (List.length h_.Trains : Int)))) || (decide (20 < (List.length h_.Shifts : Int))))) (fun K hK => ?_) ?_
 ·simp only [go_sem]
  refine b1p (b4k h_.Until 1 100) ?_
  simp only [go_sem]
  refine b0w (fun hg1 => ?_) (fun hg1 => ?_)
  ·simp only [go_sem, hg1]
   exact hK _ _ ⟨(by first | (simp only [go_sem, hg1, lA9, mA9]; done) | rfl), (by first | (simp only [go_sem, hg1, lA9, mA9]; done) | rfl)⟩
  ·simp only [go_sem, hg1]
   refine b1p (b4k (List.length h_.Combs : Int) 1 8) ?_
   simp only [go_sem, hg1]
   refine b0w (fun hg2 => ?_) (fun hg2 => ?_)
   ·simp only [go_sem, hg1, hg2]
    exact hK _ _ ⟨(by first | (simp only [go_sem, hg1, hg2, lA9, mA9]; done) | rfl), (by first | (simp only [go_sem, hg1, hg2, lA9, mA9]; done) | rfl)⟩
   ·simp only [go_sem, hg1, hg2]
    refine b0w (fun hg3 => ?_) (fun hg3 => ?_)
    ·simp only [go_sem, hg1, hg2, hg3]
     exact hK _ _ ⟨(by first | (simp only [go_sem, hg1, hg2, hg3, lA9, mA9]; done) | rfl), (by first | (simp only [go_sem, hg1, hg2, hg3, lA9, mA9]; done) | rfl)⟩
    ·simp only [go_sem, hg1, hg2, hg3]
     exact hK _ _ ⟨(by first | (simp only [go_sem, hg1, hg2, hg3, lA9, mA9]; done) | rfl), (by first | (simp only [go_sem, hg1, hg2, hg3, lA9, mA9]; done) | rfl)⟩
 ·rintro t h ⟨s1, s34⟩
  refine b0x fun K4 hK4 => ?_
  simp only [go_sem, s34]
  refine b0w (fun hc5 => ?_) (fun hc5 => ?_)
  ·rw [b1b hc5] at hm0
   refine b0f fun K hK => ?_
   simp only [go_sem]
   refine hK _ _ ?_
   clear hK K
   simp only [b1i, b1m, b1l, b1n]
   obtain rfl := sI9 hm0
   exact b1z (by simp only [go_sem, lA9, mA9]) (b0j _)
  ·rw [b1a hc5] at hm0
   simp only [b08, b0m, b0n]
   refine hK4 _ _ ?_
   refine b0f fun K hK => ?_
   simp only [go_sem, s1]
   refine hK _ _ ?_
   clear hK K
   refine b05 ?_
   refine b0f fun K hK => ?_
   simp only [go_sem]
   refine hK _ _ ?_
   clear hK K
   refine b0x fun K6 hK6 => ?_
   have J7 : ∀ (t : Slots) (h : Heap), t 1 = .fp [.fs 5 (List.map b0r h_.Combs), .fs 3 (List.map b0o h_.Trains), .fs 3 (List.map b0s h_.Shifts), I h_.Until] 0 → t 3 = I (List.length h_.Combs : Int) → c6z h_ = some r → K6 t h := by
    intro t h s1 s3 hm0
    refine hK6 _ _ ?_
    unfold c6z at hm0
    refine b05 ?_
    refine b0f fun K hK => ?_
    simp only [go_sem]
    refine hK _ _ ?_
    clear hK K
    refine b0x fun K8 hK8 => ?_
    have J9 : ∀ (t : Slots) (h : Heap), t 1 = .fp [.fs 5 (List.map b0r h_.Combs), .fs 3 (List.map b0o h_.Trains), .fs 3 (List.map b0s h_.Shifts), I h_.Until] 0 → t 3 = I (List.length h_.Combs : Int) → c60 h_ = some r → K8 t h := by
     intro t h s1 s3 hm0
     refine hK8 _ _ ?_
     unfold c60 at hm0
     refine b05 ?_
     refine b0f fun K hK => ?_
     simp only [go_sem]
     refine hK _ _ ?_
     clear hK K
     refine b0x fun K10 hK10 => ?_
     have J11 : ∀ (t : Slots) (h : Heap), d1w = some r → K10 t h := by
      intro t h hm0
      refine hK10 _ _ ?_
      unfold d1w at hm0
      refine b0f fun K hK => ?_
      simp only [go_sem]
      refine hK _ _ ?_
      clear hK K
      simp only [b1i, b1m, b1l, b1n]
      obtain rfl := sI9 hm0
      exact b1z (by simp only [go_sem, lA9, mA9]) (b0j _)
     simp only [b1e]
     obtain ⟨b12, hl12, hm0⟩ := b0k hm0
     refine b2c hl12 (fun | i_10, t, h => t 1 = .fp [.fs 5 (List.map b0r h_.Combs), .fs 3 (List.map b0o h_.Trains), .fs 3 (List.map b0s h_.Shifts), I h_.Until] 0 ∧ t 3 = I (List.length h_.Combs : Int) ∧ t 10 = I i_10) ?_ ?_
     ·exact ⟨s1, s3, (by first | (simp only [go_sem, lA9, mA9]; done) | rfl)⟩
     ·rintro i_10 o t h ⟨s1, s3, s10⟩ hm1 hb12
      simp only [c1v] at hm1
      rw [g03]
      refine b05 ?_
      refine b0f fun K hK => ?_
      simp only [go_sem, s1, s10]
      refine hK _ _ ?_
      clear hK K
      refine b0x fun K13 hK13 => ?_
      simp only [go_sem]
      refine b0w (fun hc14 => ?_) (fun hc14 => ?_)
      ·rw [b1b hc14] at hm1
       simp only [b08, b0m, b0n]
       refine hK13 _ _ ?_
       refine b0x fun K15 hK15 => ?_
       simp only [b1e]
       obtain ⟨x17, h_x17, hm1⟩ := b0k hm1
       have h_x170 := b06 h_x17
       have h_x171 := b09 h_x17
       refine b0f fun K hK => ?_
       simp only [go_sem, s1, s10, b0u h_x17, b0v h_x17, h_x170, h_x171]
       refine hK _ _ ?_
       clear hK K
       obtain ⟨c23, h_c23, hm1⟩ := b0k hm1
       refine b2j (fun t h => t 1 = .fp [.fs 5 (List.map b0r h_.Combs), .fs 3 (List.map b0o h_.Trains), .fs 3 (List.map b0s h_.Shifts), I h_.Until] 0 ∧ t 3 = I (List.length h_.Combs : Int) ∧ t 10 = I i_10 ∧ t 187 = B c23) (fun K hK => ?_) ?_
       ·simp only [go_sem, s1, s3, s10]
        refine b1p (b4k x17.At 0 (wr (h_.Until - 1))) ?_
        simp only [go_sem, s1, s3, s10]
        refine b0w (fun hg24 => ?_) (fun hg24 => ?_)
        ·simp only [hg24, Bool.not_true, Bool.not_false, eq_self, if_true, if_false, Bool.true_or, Bool.or_true, Bool.false_or, Bool.or_false, Bool.true_and, Bool.and_true, Bool.false_and, Bool.and_false, Bool.false_eq_true] at h_c23
         obtain rfl := sI9 h_c23
         simp only [go_sem, s1, s3, s10, hg24]
         exact hK _ _ ⟨s1, s3, s10, (by first | (simp only [go_sem, hg24, lA9, mA9]; done) | rfl)⟩
        ·simp only [go_sem, s1, s3, s10, hg24]
         refine b1p (b4k x17.Comb 0 (wr ((List.length h_.Combs : Int) - 1))) ?_
         simp only [go_sem, s1, s3, s10, hg24]
         refine b0w (fun hg25 => ?_) (fun hg25 => ?_)
         ·simp only [hg24, hg25, Bool.not_true, Bool.not_false, eq_self, if_true, if_false, Bool.true_or, Bool.or_true, Bool.false_or, Bool.or_false, Bool.true_and, Bool.and_true, Bool.false_and, Bool.and_false, Bool.false_eq_true] at h_c23
          obtain rfl := sI9 h_c23
          simp only [go_sem, s1, s3, s10, hg24, hg25]
          exact hK _ _ ⟨s1, s3, s10, (by first | (simp only [go_sem, hg24, hg25, lA9, mA9]; done) | rfl)⟩
         ·simp only [go_sem, s1, s3, s10, hg24, hg25]
          refine b1p (b4k x17.Rate 0 1000) ?_
          simp only [go_sem, s1, s3, s10, hg24, hg25]
          refine b0w (fun hg26 => ?_) (fun hg26 => ?_)
          ·simp only [hg24, hg25, hg26, Bool.not_true, Bool.not_false, eq_self, if_true, if_false, Bool.true_or, Bool.or_true, Bool.false_or, Bool.or_false, Bool.true_and, Bool.and_true, Bool.false_and, Bool.and_false, Bool.false_eq_true] at h_c23
           obtain rfl := sI9 h_c23
           simp only [go_sem, s1, s3, s10, hg24, hg25, hg26]
           exact hK _ _ ⟨s1, s3, s10, (by first | (simp only [go_sem, hg24, hg25, hg26, lA9, mA9]; done) | rfl)⟩
          ·simp only [hg24, hg25, hg26, Bool.not_true, Bool.not_false, eq_self, if_true, if_false, Bool.true_or, Bool.or_true, Bool.false_or, Bool.or_false, Bool.true_and, Bool.and_true, Bool.false_and, Bool.and_false, Bool.false_eq_true] at h_c23
           obtain ⟨c22, h_c22, h_c23⟩ := b0k h_c23
           obtain rfl := sI9 h_c23
           simp only [go_sem, s1, s3, s10, hg24, hg25, hg26]
           refine b0w (fun hg27 => ?_) (fun hg27 => ?_)
           ·simp only [hg24, hg25, hg26, hg27, Bool.not_true, Bool.not_false, eq_self, if_true, if_false, Bool.true_or, Bool.or_true, Bool.false_or, Bool.or_false, Bool.true_and, Bool.and_true, Bool.false_and, Bool.and_false, Bool.false_eq_true] at h_c22
            obtain ⟨x21, h_x21, h_c22⟩ := b0k h_c22
            have h_x210 := b06 h_x21
            have h_x211 := b09 h_x21
            obtain rfl := sI9 h_c22
            simp only [go_sem, s1, s3, s10, b0u h_x21, b0v h_x21, h_x210, h_x211, hg24, hg25, hg26, hg27]
            exact hK _ _ ⟨s1, s3, s10, (by first | (simp only [go_sem, hg24, hg25, hg26, hg27, lA9, mA9]; done) | rfl)⟩
           ·simp only [hg24, hg25, hg26, hg27, Bool.not_true, Bool.not_false, eq_self, if_true, if_false, Bool.true_or, Bool.or_true, Bool.false_or, Bool.or_false, Bool.true_and, Bool.and_true, Bool.false_and, Bool.and_false, Bool.false_eq_true] at h_c22
            obtain rfl := sI9 h_c22
            simp only [go_sem, s1, s3, s10, hg24, hg25, hg26, hg27]
            exact hK _ _ ⟨s1, s3, s10, (by first | (simp only [go_sem, hg24, hg25, hg26, hg27, lA9, mA9]; done) | rfl)⟩
       ·rintro t h ⟨s1, s3, s10, s187⟩
        simp only [go_sem, s187]
        refine b0w (fun hc28 => ?_) (fun hc28 => ?_)
        ·rw [b1b hc28] at hm1
         refine b0f fun K hK => ?_
         simp only [go_sem]
         refine hK _ _ ?_
         clear hK K
         simp only [b1i, b1m, b1l, b1n]
         obtain rfl := sI9 hm1
         obtain rfl := hb12 _ rfl
         try dsimp only at hm0
         obtain rfl := sI9 hm0
         exact b1z (by simp only [go_sem, lA9, mA9]) (b0j _)
        ·rw [b1a hc28] at hm1
         simp only [b08, b0m, b0n]
         refine hK15 _ _ ?_
         refine b1t fun K hK => ?_
         simp only [go_sem, s10]
         refine hK _ _ ?_
         clear hK K
         simp only [b0m, b0n]
         obtain rfl := sI9 hm1
         refine ⟨_, rfl, ?_⟩
         exact ⟨s1, s3, (by first | (simp only [go_sem, s10, lA9, mA9]; done) | rfl)⟩
      ·rw [b1a hc14] at hm1
       simp only [b17, b2b, b2a, b19, b0m, b0n, Nat.reduceEqDiff, nF9]
       obtain rfl := sI9 hm1
       obtain rfl := hb12 _ rfl
       try dsimp only at hm0
       exact J11  _ _  hm0
    simp only [b1e]
    obtain ⟨b30, hl30, hm0⟩ := b0k hm0
    refine b2c hl30 (fun | i_6, t, h => t 1 = .fp [.fs 5 (List.map b0r h_.Combs), .fs 3 (List.map b0o h_.Trains), .fs 3 (List.map b0s h_.Shifts), I h_.Until] 0 ∧ t 3 = I (List.length h_.Combs : Int) ∧ t 6 = I i_6) ?_ ?_
    ·exact ⟨s1, s3, (by first | (simp only [go_sem, lA9, mA9]; done) | rfl)⟩
    ·rintro i_6 o t h ⟨s1, s3, s6⟩ hm1 hb30
     simp only [c1u] at hm1
     rw [g02]
     refine b05 ?_
     refine b0f fun K hK => ?_
     simp only [go_sem, s1, s6]
     refine hK _ _ ?_
     clear hK K
     refine b0x fun K31 hK31 => ?_
     simp only [go_sem]
     refine b0w (fun hc32 => ?_) (fun hc32 => ?_)
     ·rw [b1b hc32] at hm1
      simp only [b08, b0m, b0n]
      refine hK31 _ _ ?_
      refine b0x fun K33 hK33 => ?_
      have J34 : ∀ (t : Slots) (h : Heap), t 1 = .fp [.fs 5 (List.map b0r h_.Combs), .fs 3 (List.map b0o h_.Trains), .fs 3 (List.map b0s h_.Shifts), I h_.Until] 0 → t 3 = I (List.length h_.Combs : Int) → t 6 = I i_6 → c6y i_6 = some o → K33 t h := by
       intro t h s1 s3 s6 hm1
       refine hK33 _ _ ?_
       unfold c6y at hm1
       refine b1t fun K hK => ?_
       simp only [go_sem, s6]
       refine hK _ _ ?_
       clear hK K
       simp only [b0m, b0n]
       obtain rfl := sI9 hm1
       refine ⟨_, rfl, ?_⟩
       exact ⟨s1, s3, (by first | (simp only [go_sem, s6, lA9, mA9]; done) | rfl)⟩
      simp only [b1e]
      obtain ⟨x36, h_x36, hm1⟩ := b0k hm1
      have h_x360 := b06 h_x36
      have h_x361 := b09 h_x36
      refine b0f fun K hK => ?_
      simp only [go_sem, s1, s6, b0u h_x36, b0v h_x36, h_x360, h_x361]
      refine hK _ _ ?_
      clear hK K
      refine b05 ?_
      refine b2j (fun t h => ∃ i7 : Nat, t 1 = .fp [.fs 5 (List.map b0r h_.Combs), .fs 3 (List.map b0o h_.Trains), .fs 3 (List.map b0s h_.Shifts), I h_.Until] 0 ∧ t 3 = I (List.length h_.Combs : Int) ∧ t 6 = I i_6 ∧ t 7 = .rp i7 0 0 ∧ t 103 = B ((!(b4m x36.At 0 (wr (h_.Until - 1)))) || (decide (4 < (List.length x36.Crowds : Int)))) ∧ h.ob i7 = some (3, [[I x36.At.Low, I x36.At.High, .fs 3 (List.map b20 x36.Crowds)]]) ∧ i7 < h.nx) (fun K hK => ?_) ?_
      ·simp only [go_sem, s1]
       refine b1p (c07 x36.At 0 (wr (h_.Until - 1))) ?_
       simp only [go_sem, s1]
       refine b0w (fun hg37 => ?_) (fun hg37 => ?_)
       ·simp only [go_sem, s1, hg37]
        exact hK _ _ ⟨h.nx, s1, s3, s6, (by first | (simp only [go_sem, hg37, lA9, mA9]; done) | rfl), (by first | (simp only [go_sem, hg37, lA9, mA9]; done) | rfl), (by simp only [go_sem, hg37, lA9, mA9]), (by simp only [go_sem])⟩
       ·simp only [go_sem, s1, hg37]
        exact hK _ _ ⟨h.nx, s1, s3, s6, (by first | (simp only [go_sem, hg37, lA9, mA9]; done) | rfl), (by first | (simp only [go_sem, hg37, lA9, mA9]; done) | rfl), (by simp only [go_sem, hg37, lA9, mA9]), (by simp only [go_sem])⟩
      ·rintro t h ⟨i7, s1, s3, s6, s7, s103, Q5, Q1⟩
       refine b0x fun K38 hK38 => ?_
       simp only [go_sem, s103]
       refine b0w (fun hc39 => ?_) (fun hc39 => ?_)
       ·rw [b1b hc39] at hm1
        refine b0f fun K hK => ?_
        simp only [go_sem, Q1]
        refine hK _ _ ?_
        clear hK K
        simp only [b1i, b1m, b1l, b1n]
        obtain rfl := sI9 hm1
        obtain rfl := hb30 _ rfl
        try dsimp only at hm0
        obtain rfl := sI9 hm0
        exact b1z (by simp only [go_sem, Q5, Q1, lA9, mA9]) (b0j _)
       ·rw [b1a hc39] at hm1
        simp only [b08, b0m, b0n]
        refine hK38 _ _ ?_
        refine b0f fun K hK => ?_
        simp only [go_sem, Q1]
        refine hK _ _ ?_
        clear hK K
        refine b0f fun K hK => ?_
        simp only [go_sem, Q1]
        refine hK _ _ ?_
        clear hK K
        simp only [b1e]
        obtain ⟨b40, hl40, hm1⟩ := b0k hm1
        refine b2c hl40 (fun | (last_8, k_9), t, h => t 1 = .fp [.fs 5 (List.map b0r h_.Combs), .fs 3 (List.map b0o h_.Trains), .fs 3 (List.map b0s h_.Shifts), I h_.Until] 0 ∧ t 3 = I (List.length h_.Combs : Int) ∧ t 6 = I i_6 ∧ t 7 = .rp i7 0 0 ∧ t 8 = I last_8 ∧ t 9 = I k_9 ∧ h.ob i7 = some (3, [[I x36.At.Low, I x36.At.High, .fs 3 (List.map b20 x36.Crowds)]]) ∧ i7 < h.nx) ?_ ?_
        ·exact ⟨s1, s3, s6, s7, (by first | (simp only [go_sem, lA9, mA9]; done) | rfl), (by first | (simp only [go_sem, lA9, mA9]; done) | rfl), Q5, Q1⟩
        ·rintro ⟨last_8, k_9⟩ o t h ⟨s1, s3, s6, s7, s8, s9, Q5, Q1⟩ hm2 hb40
         simp only [b71] at hm2
         rw [g01]
         refine b05 ?_
         refine b0f fun K hK => ?_
         simp only [go_sem, s7, s9, Q5, Q1]
         refine hK _ _ ?_
         clear hK K
         refine b0x fun K41 hK41 => ?_
         simp only [go_sem]
         refine b0w (fun hc42 => ?_) (fun hc42 => ?_)
         ·rw [b1b hc42] at hm2
          simp only [b08, b0m, b0n]
          refine hK41 _ _ ?_
          refine b0x fun K43 hK43 => ?_
          simp only [b1e]
          refine b05 ?_
          obtain ⟨x45, h_x45, hm2⟩ := b0k hm2
          have h_x450 := b06 h_x45
          have h_x451 := b09 h_x45
          refine b2j (fun t h => t 1 = .fp [.fs 5 (List.map b0r h_.Combs), .fs 3 (List.map b0o h_.Trains), .fs 3 (List.map b0s h_.Shifts), I h_.Until] 0 ∧ t 3 = I (List.length h_.Combs : Int) ∧ t 6 = I i_6 ∧ t 7 = .rp i7 0 0 ∧ t 9 = I k_9 ∧ t 132 = B ((!(b2t x45.Comb (wr (last_8 + 1)) (wr ((List.length h_.Combs : Int) - 1)))) || (!(b4m x45.People 0 1000))) ∧ h.ob i7 = some (3, [[I x36.At.Low, I x36.At.High, .fs 3 (List.map b20 x36.Crowds)]]) ∧ i7 < h.nx) (fun K hK => ?_) ?_
          ·simp only [go_sem, s3, s7, s8, s9, Q5, Q1, b0u h_x45, b0v h_x45, h_x450, h_x451]
           refine b1p (b4k x45.Comb (wr (last_8 + 1)) (wr ((List.length h_.Combs : Int) - 1))) ?_
           simp only [go_sem, s3, s7, s8, s9, Q5, Q1, b0u h_x45, b0v h_x45, h_x450, h_x451]
           refine b0w (fun hg46 => ?_) (fun hg46 => ?_)
           ·simp only [go_sem, s3, s7, s8, s9, Q5, Q1, b0u h_x45, b0v h_x45, h_x450, h_x451, hg46]
            exact hK _ _ ⟨s1, s3, s6, s7, s9, (by first | (simp only [go_sem, hg46, lA9, mA9]; done) | rfl), Q5, Q1⟩
           ·simp only [go_sem, s3, s7, s8, s9, Q5, Q1, b0u h_x45, b0v h_x45, h_x450, h_x451, hg46]
            refine b1p (c07 x45.People 0 1000) ?_
            simp only [go_sem, s3, s7, s8, s9, Q5, Q1, b0u h_x45, b0v h_x45, h_x450, h_x451, hg46]
            exact hK _ _ ⟨s1, s3, s6, s7, s9, (by first | (simp only [go_sem, hg46, lA9, mA9]; done) | rfl), Q5, Q1⟩
          ·rintro t h ⟨s1, s3, s6, s7, s9, s132, Q5, Q1⟩
           refine b0x fun K47 hK47 => ?_
           simp only [go_sem, s132]
           refine b0w (fun hc48 => ?_) (fun hc48 => ?_)
           ·rw [b1b hc48] at hm2
            refine b0f fun K hK => ?_
            simp only [go_sem, Q1]
            refine hK _ _ ?_
            clear hK K
            simp only [b1i, b1m, b1l, b1n]
            obtain rfl := sI9 hm2
            obtain rfl := hb40 _ rfl
            try dsimp only at hm1
            obtain rfl := sI9 hm1
            obtain rfl := hb30 _ rfl
            try dsimp only at hm0
            obtain rfl := sI9 hm0
            exact b1z (by simp only [go_sem, Q5, Q1, lA9, mA9]) (b0j _)
           ·rw [b1a hc48] at hm2
            simp only [b08, b0m, b0n]
            refine hK47 _ _ ?_
            refine b1t fun K hK => ?_
            simp only [go_sem, s7, s9, Q5, Q1, b0u h_x45, b0v h_x45, h_x450, h_x451]
            refine hK _ _ ?_
            clear hK K
            simp only [b0m, b0n]
            refine hK43 _ _ ?_
            refine b1t fun K hK => ?_
            simp only [go_sem, s9, Q1]
            refine hK _ _ ?_
            clear hK K
            simp only [b0m, b0n]
            obtain rfl := sI9 hm2
            refine ⟨_, rfl, ?_⟩
            exact ⟨s1, s3, s6, s7, (by first | (simp only [go_sem, lA9, mA9]; done) | rfl), (by first | (simp only [go_sem, s9, lA9, mA9]; done) | rfl), Q5, Q1⟩
         ·rw [b1a hc42] at hm2
          simp only [b17, b2b, b2a, b19, b0m, b0n, Nat.reduceEqDiff, nF9]
          obtain rfl := sI9 hm2
          obtain rfl := hb40 _ rfl
          try dsimp only at hm1
          exact J34  _ _ s1 s3 s6 hm1
     ·rw [b1a hc32] at hm1
      simp only [b17, b2b, b2a, b19, b0m, b0n, Nat.reduceEqDiff, nF9]
      obtain rfl := sI9 hm1
      obtain rfl := hb30 _ rfl
      try dsimp only at hm0
      exact J9  _ _ s1 s3 hm0
   simp only [b1e]
   obtain ⟨b51, hl51, hm0⟩ := b0k hm0
   refine b2c hl51 (fun | i_4, t, h => t 1 = .fp [.fs 5 (List.map b0r h_.Combs), .fs 3 (List.map b0o h_.Trains), .fs 3 (List.map b0s h_.Shifts), I h_.Until] 0 ∧ t 3 = I (List.length h_.Combs : Int) ∧ t 4 = I i_4) ?_ ?_
   ·exact ⟨s1, (by first | (simp only [go_sem, lA9, mA9]; done) | rfl), (by first | (simp only [go_sem, lA9, mA9]; done) | rfl)⟩
   ·rintro i_4 o t h ⟨s1, s3, s4⟩ hm1 hb51
    simp only [c1t] at hm1
    rw [g00]
    refine b05 ?_
    refine b0f fun K hK => ?_
    simp only [go_sem, s3, s4]
    refine hK _ _ ?_
    clear hK K
    refine b0x fun K52 hK52 => ?_
    simp only [go_sem]
    refine b0w (fun hc53 => ?_) (fun hc53 => ?_)
    ·rw [b1b hc53] at hm1
     simp only [b08, b0m, b0n]
     refine hK52 _ _ ?_
     refine b0x fun K54 hK54 => ?_
     simp only [b1e]
     obtain ⟨x56, h_x56, hm1⟩ := b0k hm1
     have h_x560 := b06 h_x56
     have h_x561 := b09 h_x56
     refine b0f fun K hK => ?_
     simp only [go_sem, s1, s4, b0u h_x56, b0v h_x56, h_x560, h_x561]
     refine hK _ _ ?_
     clear hK K
     refine b2j (fun t h => t 1 = .fp [.fs 5 (List.map b0r h_.Combs), .fs 3 (List.map b0o h_.Trains), .fs 3 (List.map b0s h_.Shifts), I h_.Until] 0 ∧ t 3 = I (List.length h_.Combs : Int) ∧ t 4 = I i_4 ∧ t 78 = B ((((!(b2t x56.Rate 0 1000)) || (!(b2t x56.Limit 0 100000))) || ((decide (¬x56.Next = (-1))) && (!(b2t x56.Next (wr (i_4 + 1)) (wr ((List.length h_.Combs : Int) - 1)))))) || (!(b4m x56.Walk 1 20)))) (fun K hK => ?_) ?_
     ·simp only [go_sem, s3, s4]
      refine b1p (b4k x56.Rate 0 1000) ?_
      simp only [go_sem, s3, s4]
      refine b0w (fun hg57 => ?_) (fun hg57 => ?_)
      ·simp only [go_sem, s3, s4, hg57]
       exact hK _ _ ⟨s1, s3, s4, (by first | (simp only [go_sem, hg57, lA9, mA9]; done) | rfl)⟩
      ·simp only [go_sem, s3, s4, hg57]
       refine b1p (b4k x56.Limit 0 100000) ?_
       simp only [go_sem, s3, s4, hg57]
       refine b0w (fun hg58 => ?_) (fun hg58 => ?_)
       ·simp only [go_sem, s3, s4, hg57, hg58]
        exact hK _ _ ⟨s1, s3, s4, (by first | (simp only [go_sem, hg57, hg58, lA9, mA9]; done) | rfl)⟩
       ·simp only [go_sem, s3, s4, hg57, hg58]
        refine b0w (fun hg59 => ?_) (fun hg59 => ?_)
        ·simp only [go_sem, s3, s4, hg57, hg58, hg59]
         refine b1p (b4k x56.Next (wr (i_4 + 1)) (wr ((List.length h_.Combs : Int) - 1))) ?_
         simp only [go_sem, s3, s4, hg57, hg58, hg59]
         refine b0w (fun hg60 => ?_) (fun hg60 => ?_)
         ·simp only [go_sem, s3, s4, hg57, hg58, hg59, hg60]
          exact hK _ _ ⟨s1, s3, s4, (by first | (simp only [go_sem, hg57, hg58, hg59, hg60, lA9, mA9]; done) | rfl)⟩
         ·simp only [go_sem, s3, s4, hg57, hg58, hg59, hg60]
          refine b1p (c07 x56.Walk 1 20) ?_
          simp only [go_sem, s3, s4, hg57, hg58, hg59, hg60]
          exact hK _ _ ⟨s1, s3, s4, (by first | (simp only [go_sem, hg57, hg58, hg59, hg60, lA9, mA9]; done) | rfl)⟩
        ·simp only [go_sem, s3, s4, hg57, hg58, hg59]
         refine b1p (c07 x56.Walk 1 20) ?_
         simp only [go_sem, s3, s4, hg57, hg58, hg59]
         exact hK _ _ ⟨s1, s3, s4, (by first | (simp only [go_sem, hg57, hg58, hg59, lA9, mA9]; done) | rfl)⟩
     ·rintro t h ⟨s1, s3, s4, s78⟩
      simp only [go_sem, s78]
      refine b0w (fun hc61 => ?_) (fun hc61 => ?_)
      ·rw [b1b hc61] at hm1
       refine b0f fun K hK => ?_
       simp only [go_sem]
       refine hK _ _ ?_
       clear hK K
       simp only [b1i, b1m, b1l, b1n]
       obtain rfl := sI9 hm1
       obtain rfl := hb51 _ rfl
       try dsimp only at hm0
       obtain rfl := sI9 hm0
       exact b1z (by simp only [go_sem, lA9, mA9]) (b0j _)
      ·rw [b1a hc61] at hm1
       simp only [b08, b0m, b0n]
       refine hK54 _ _ ?_
       refine b1t fun K hK => ?_
       simp only [go_sem, s4]
       refine hK _ _ ?_
       clear hK K
       simp only [b0m, b0n]
       obtain rfl := sI9 hm1
       refine ⟨_, rfl, ?_⟩
       exact ⟨s1, s3, (by first | (simp only [go_sem, s4, lA9, mA9]; done) | rfl)⟩
    ·rw [b1a hc53] at hm1
     simp only [b17, b2b, b2a, b19, b0m, b0n, Nat.reduceEqDiff, nF9]
     obtain rfl := sI9 hm1
     obtain rfl := hb51 _ rfl
     try dsimp only at hm0
     exact J7  _ _ s1 s3 hm0
theorem d0y (hf : Has O "newel/newelref06.Come" x_r06_Come) (b63 : b91 O) (c3k : c4n O) (b4k : c17 O) (b62 : b90 O) : c71 O := by
 intro h_ c from_ to_ r hm0
 unfold b9i at hm0
 refine b2n hf rfl (b0e (.agg _ (b0e (b0y fun a _ => b2p a) (b0e (b0y fun a _ => b2o a) (b0e (b0y fun a _ => b2r a) (b0e (b0j _) b02))))) (b0e (b0j _) (b0e (b0j _) (b0e (b0j _) b02)))) (.tup _ (b0e (b0j _) (b0e (b0j _) b02))) ?_
 refine b2g (fun t h => t 0 = .agg [.fs 5 (List.map b0r h_.Combs), .fs 3 (List.map b0o h_.Trains), .fs 3 (List.map b0s h_.Shifts), I h_.Until] ∧ t 1 = I c ∧ t 2 = I from_ ∧ t 3 = I to_) ⟨rfl, rfl, rfl, rfl⟩ fun t h ⟨s0, s1, s2, s3⟩ => ?_
 simp only [x_r06_Come]
 refine b0f fun K hK => ?_
 simp only [go_sem, s0]
 refine hK _ _ ?_
 clear hK K
 refine b05 ?_
 obtain ⟨y2, h_y2, hm0⟩ := b0k hm0
 refine b0f fun K hK => ?_
 simp only [go_sem]
 refine b1p (b63 h_ _ h_y2) ?_
 simp only [go_sem]
 refine hK _ _ ?_
 clear hK K
 refine b0x fun K3 hK3 => ?_
 simp only [go_sem]
 refine b0w (fun hc4 => ?_) (fun hc4 => ?_)
 ·rw [b1b hc4] at hm0
  refine b0f fun K hK => ?_
  simp only [go_sem]
  refine hK _ _ ?_
  clear hK K
  simp only [b1i, b1m, b1l, b1n]
  obtain rfl := sI9 hm0
  exact b33 (by simp only [go_sem, lA9, mA9]) (by simp only [go_sem, lA9, mA9]) (b0j _) (b0j _)
 ·rw [b1a hc4] at hm0
  simp only [b08, b0m, b0n]
  refine hK3 _ _ ?_
  refine b05 ?_
  refine b2j (fun t h => t 1 = I c ∧ t 2 = I from_ ∧ t 3 = I to_ ∧ t 4 = .fp [.fs 5 (List.map b0r h_.Combs), .fs 3 (List.map b0o h_.Trains), .fs 3 (List.map b0s h_.Shifts), I h_.Until] 0 ∧ t 32 = B (((!(b73 h_ c)) || (!(b2t from_ 0 (wr (h_.Until - 1))))) || (!(b2t to_ 0 (wr (h_.Until - 1)))))) (fun K hK => ?_) ?_
  ·simp only [go_sem, s1, s2, s3]
   refine b1p (c3k h_ c) ?_
   simp only [go_sem, s1, s2, s3]
   refine b0w (fun hg5 => ?_) (fun hg5 => ?_)
   ·simp only [go_sem, s1, s2, s3, hg5]
    exact hK _ _ ⟨s1, s2, s3, (by first | (simp only [go_sem, hg5, lA9, mA9]; done) | rfl), (by first | (simp only [go_sem, hg5, lA9, mA9]; done) | rfl)⟩
   ·simp only [go_sem, s1, s2, s3, hg5]
    refine b1p (b4k from_ 0 (wr (h_.Until - 1))) ?_
    simp only [go_sem, s1, s2, s3, hg5]
    refine b0w (fun hg6 => ?_) (fun hg6 => ?_)
    ·simp only [go_sem, s1, s2, s3, hg5, hg6]
     exact hK _ _ ⟨s1, s2, s3, (by first | (simp only [go_sem, hg5, hg6, lA9, mA9]; done) | rfl), (by first | (simp only [go_sem, hg5, hg6, lA9, mA9]; done) | rfl)⟩
    ·simp only [go_sem, s1, s2, s3, hg5, hg6]
     refine b1p (b4k to_ 0 (wr (h_.Until - 1))) ?_
     simp only [go_sem, s1, s2, s3, hg5, hg6]
     exact hK _ _ ⟨s1, s2, s3, (by first | (simp only [go_sem, hg5, hg6, lA9, mA9]; done) | rfl), (by first | (simp only [go_sem, hg5, hg6, lA9, mA9]; done) | rfl)⟩
  ·rintro t h ⟨s1, s2, s3, s4, s32⟩
   refine b0x fun K7 hK7 => ?_
   simp only [go_sem, s32]
   refine b0w (fun hc8 => ?_) (fun hc8 => ?_)
   ·rw [b1b hc8] at hm0
    refine b0f fun K hK => ?_
    simp only [go_sem]
    refine hK _ _ ?_
    clear hK K
    simp only [b1i, b1m, b1l, b1n]
    obtain rfl := sI9 hm0
    exact b33 (by simp only [go_sem, lA9, mA9]) (by simp only [go_sem, lA9, mA9]) (b0j _) (b0j _)
   ·rw [b1a hc8] at hm0
    simp only [b08, b0m, b0n]
    refine hK7 _ _ ?_
    refine b05 ?_
    refine b0f fun K hK => ?_
    simp only [go_sem, s2, s3]
    refine hK _ _ ?_
    clear hK K
    refine b0x fun K9 hK9 => ?_
    simp only [go_sem]
    refine b0w (fun hc10 => ?_) (fun hc10 => ?_)
    ·rw [b1b hc10] at hm0
     refine b0f fun K hK => ?_
     simp only [go_sem]
     refine hK _ _ ?_
     clear hK K
     simp only [b1i, b1m, b1l, b1n]
     obtain rfl := sI9 hm0
     exact b33 (by simp only [go_sem, lA9, mA9]) (by simp only [go_sem, lA9, mA9]) (b0j _) (b0j _)
    ·rw [b1a hc10] at hm0
     simp only [b08, b0m, b0n]
     refine hK9 _ _ ?_
     obtain ⟨y15, h_y15, hm0⟩ := b0k hm0
     obtain ⟨x16, h_x16, hm0⟩ := b0k hm0
     have h_x160 := b06 h_x16
     have h_x161 := b09 h_x16
     obtain ⟨x17, h_x17, hm0⟩ := b0k hm0
     have h_x170 := b06 h_x17
     have h_x171 := b09 h_x17
     obtain ⟨x18, h_x18, hm0⟩ := b0k hm0
     have h_x180 := b06 h_x18
     have h_x181 := b09 h_x18
     refine b0f fun K hK => ?_
     simp only [go_sem, s1, s2, s3, s4, b0u h_x16, b0v h_x16, h_x160, h_x161, b0u h_x17, b0v h_x17, h_x170, h_x171, b0u h_x18, b0v h_x18, h_x180, h_x181]
     refine b1p (b62 h_ _ h_y15) ?_
     simp only [go_sem, s1, s2, s3, s4, b0u h_x16, b0v h_x16, h_x160, h_x161, b0u h_x17, b0v h_x17, h_x170, h_x171, b0u h_x18, b0v h_x18, h_x180, h_x181]
     refine hK _ _ ?_
     clear hK K
     simp only [b1i, b1m, b1l, b1n]
     obtain rfl := sI9 hm0
     exact b33 (by simp only [go_sem, lA9, mA9]) (by simp only [go_sem, lA9, mA9]) (b0j _) (b0j _)
theorem d0z (hf : Has O "newel/newelref06.Empty" x_r06_Empty) (b63 : b91 O) (b62 : b90 O) : c72 O := by
 intro h_ r hm0
 unfold b9j at hm0
 refine b2n hf rfl (b0e (.agg _ (b0e (b0y fun a _ => b2p a) (b0e (b0y fun a _ => b2o a) (b0e (b0y fun a _ => b2r a) (b0e (b0j _) b02))))) b02) (.tup _ (b0e (b0j _) (b0e (b0j _) b02))) ?_
 refine b2g (fun t h => t 0 = .agg [.fs 5 (List.map b0r h_.Combs), .fs 3 (List.map b0o h_.Trains), .fs 3 (List.map b0s h_.Shifts), I h_.Until]) rfl fun t h s0 => ?_
 simp only [x_r06_Empty]
 refine b0f fun K hK => ?_
 simp only [go_sem, s0]
 refine hK _ _ ?_
 clear hK K
 refine b05 ?_
 obtain ⟨y2, h_y2, hm0⟩ := b0k hm0
 refine b0f fun K hK => ?_
 simp only [go_sem]
 refine b1p (b63 h_ _ h_y2) ?_
 simp only [go_sem]
 refine hK _ _ ?_
 clear hK K
 refine b0x fun K3 hK3 => ?_
 simp only [go_sem]
 refine b0w (fun hc4 => ?_) (fun hc4 => ?_)
 ·rw [b1b hc4] at hm0
  refine b0f fun K hK => ?_
  simp only [go_sem]
  refine hK _ _ ?_
  clear hK K
  simp only [b1i, b1m, b1l, b1n]
  obtain rfl := sI9 hm0
  exact b33 (by simp only [go_sem, lA9, mA9]) (by simp only [go_sem, lA9, mA9]) (b0j _) (b0j _)
 ·rw [b1a hc4] at hm0
  simp only [b08, b0m, b0n]
  refine hK3 _ _ ?_
  obtain ⟨y6, h_y6, hm0⟩ := b0k hm0
  refine b0f fun K hK => ?_
  simp only [go_sem]
  refine b1p (b62 h_ _ h_y6) ?_
  simp only [go_sem]
  refine hK _ _ ?_
  clear hK K
  refine b0f fun K hK => ?_
  simp only [go_sem]
  refine hK _ _ ?_
  clear hK K
  refine b05 ?_
  refine b0f fun K hK => ?_
  simp only [go_sem]
  refine hK _ _ ?_
  clear hK K
  refine b0x fun K7 hK7 => ?_
  have J8 : ∀ (last_5 : Int) (t : Slots) (h : Heap), t 5 = I last_5 → d1x last_5 = some r → K7 t h := by
   intro last_5 t h s5 hm0
   refine hK7 _ _ ?_
   unfold d1x at hm0
   refine b0f fun K hK => ?_
   simp only [go_sem, s5]
   refine hK _ _ ?_
   clear hK K
   simp only [b1i, b1m, b1l, b1n]
   obtain rfl := sI9 hm0
   exact b33 (by simp only [go_sem, lA9, mA9]) (by simp only [go_sem, lA9, mA9]) (b0j _) (b0j _)
  simp only [b1e]
  obtain ⟨b9, hl9, hm0⟩ := b0k hm0
  refine b2c hl9 (fun | (last_5, t_6), t, h => ∃ i4 : Nat, t 1 = .fp [.fs 5 (List.map b0r h_.Combs), .fs 3 (List.map b0o h_.Trains), .fs 3 (List.map b0s h_.Shifts), I h_.Until] 0 ∧ t 4 = .rp i4 0 0 ∧ t 5 = I last_5 ∧ t 6 = I t_6 ∧ h.ob i4 = some (4, [[.fs 1 (List.map b0z y6.Most), .fs 1 (List.map b0z y6.Flow), .fs 1 (List.map b03 y6.Come), .fs 1 (List.map b03 y6.Pass)]]) ∧ i4 < h.nx) ?_ ?_
  ·exact ⟨h.nx, (by first | (simp only [go_sem, lA9, mA9]; done) | rfl), (by first | (simp only [go_sem, lA9, mA9]; done) | rfl), (by first | (simp only [go_sem, lA9, mA9]; done) | rfl), (by first | (simp only [go_sem, lA9, mA9]; done) | rfl), (by simp only [go_sem, lA9, mA9]), (by simp only [go_sem])⟩
  ·rintro ⟨last_5, t_6⟩ o t h ⟨i4, s1, s4, s5, s6, Q8, Q3⟩ hm1 hb9
   simp only [b9k] at hm1
   rw [g05]
   refine b05 ?_
   refine b0f fun K hK => ?_
   simp only [go_sem, s6, Q3]
   refine hK _ _ ?_
   clear hK K
   refine b0x fun K10 hK10 => ?_
   simp only [go_sem]
   refine b0w (fun hc11 => ?_) (fun hc11 => ?_)
   ·rw [b1b hc11] at hm1
    simp only [b08, b0m, b0n]
    refine hK10 _ _ ?_
    refine b0x fun K12 hK12 => ?_
    have J13 : ∀ (t : Slots) (h : Heap), t 1 = .fp [.fs 5 (List.map b0r h_.Combs), .fs 3 (List.map b0o h_.Trains), .fs 3 (List.map b0s h_.Shifts), I h_.Until] 0 → t 4 = .rp i4 0 0 → t 5 = I t_6 → t 6 = I t_6 → h.ob i4 = some (4, [[.fs 1 (List.map b0z y6.Most), .fs 1 (List.map b0z y6.Flow), .fs 1 (List.map b03 y6.Come), .fs 1 (List.map b03 y6.Pass)]]) → i4 < h.nx → c61 t_6 = some o → K12 t h := by
     intro t h s1 s4 s5 s6 Q8 Q3 hm1
     refine hK12 _ _ ?_
     unfold c61 at hm1
     refine b1t fun K hK => ?_
     simp only [go_sem, s6, Q3]
     refine hK _ _ ?_
     clear hK K
     simp only [b0m, b0n]
     obtain rfl := sI9 hm1
     refine ⟨_, rfl, ?_⟩
     exact ⟨i4, s1, s4, s5, (by first | (simp only [go_sem, s6, lA9, mA9]; done) | rfl), Q8, Q3⟩
    simp only [b1e]
    refine b05 ?_
    refine b0f fun K hK => ?_
    simp only [go_sem, Q3]
    refine hK _ _ ?_
    clear hK K
    refine b0x fun K14 hK14 => ?_
    have J15 : ∀ (t : Slots) (h : Heap), t 1 = .fp [.fs 5 (List.map b0r h_.Combs), .fs 3 (List.map b0o h_.Trains), .fs 3 (List.map b0s h_.Shifts), I h_.Until] 0 → t 4 = .rp i4 0 0 → t 6 = I t_6 → h.ob i4 = some (4, [[.fs 1 (List.map b0z y6.Most), .fs 1 (List.map b0z y6.Flow), .fs 1 (List.map b03 y6.Come), .fs 1 (List.map b03 y6.Pass)]]) → i4 < h.nx → c62 t_6 = some o → K14 t h := by
     intro t h s1 s4 s6 Q8 Q3 hm1
     refine hK14 _ _ ?_
     unfold c62 at hm1
     refine b1t fun K hK => ?_
     simp only [go_sem, s6, Q3]
     refine hK _ _ ?_
     clear hK K
     simp only [b0m, b0n]
     exact J13  _ _ s1 s4 (by first | (simp only [go_sem, lA9, mA9]; done) | rfl) s6 Q8 Q3 hm1
    simp only [b1e]
    obtain ⟨b16, hl16, hm1⟩ := b0k hm1
    refine b2c hl16 (fun | c_7, t, h => t 1 = .fp [.fs 5 (List.map b0r h_.Combs), .fs 3 (List.map b0o h_.Trains), .fs 3 (List.map b0s h_.Shifts), I h_.Until] 0 ∧ t 4 = .rp i4 0 0 ∧ t 5 = I last_5 ∧ t 6 = I t_6 ∧ t 7 = I c_7 ∧ h.ob i4 = some (4, [[.fs 1 (List.map b0z y6.Most), .fs 1 (List.map b0z y6.Flow), .fs 1 (List.map b03 y6.Come), .fs 1 (List.map b03 y6.Pass)]]) ∧ i4 < h.nx) ?_ ?_
    ·exact ⟨s1, s4, s5, s6, (by first | (simp only [go_sem, lA9, mA9]; done) | rfl), Q8, Q3⟩
    ·rintro c_7 o t h ⟨s1, s4, s5, s6, s7, Q8, Q3⟩ hm2 hb16
     simp only [b72] at hm2
     rw [g04]
     refine b05 ?_
     refine b0f fun K hK => ?_
     simp only [go_sem, s1, s7, Q3]
     refine hK _ _ ?_
     clear hK K
     refine b0x fun K17 hK17 => ?_
     simp only [go_sem]
     refine b0w (fun hc18 => ?_) (fun hc18 => ?_)
     ·rw [b1b hc18] at hm2
      simp only [b08, b0m, b0n]
      refine hK17 _ _ ?_
      refine b0x fun K19 hK19 => ?_
      simp only [b1e]
      obtain ⟨x22, h_x22, hm2⟩ := b0k hm2
      have h_x220 := b06 h_x22
      have h_x221 := b09 h_x22
      obtain ⟨x23, h_x23, hm2⟩ := b0k hm2
      have h_x230 := b06 h_x23
      have h_x231 := b09 h_x23
      refine b0f fun K hK => ?_
      simp only [go_sem, s4, s6, s7, Q8, Q3, b0u h_x22, b0v h_x22, h_x220, h_x221, b0u h_x23, b0v h_x23, h_x230, h_x231]
      refine hK _ _ ?_
      clear hK K
      simp only [go_sem]
      refine b0w (fun hc24 => ?_) (fun hc24 => ?_)
      ·rw [b1b hc24] at hm2
       refine b0f fun K hK => ?_
       simp only [go_sem, s5, Q3]
       refine hK _ _ ?_
       clear hK K
       simp only [b1i, b1m, b1l, b1n]
       obtain rfl := sI9 hm2
       obtain rfl := hb16 _ rfl
       try dsimp only at hm1
       obtain rfl := sI9 hm1
       obtain rfl := hb9 _ rfl
       try dsimp only at hm0
       obtain rfl := sI9 hm0
       exact b33 (by simp only [go_sem, Q8, Q3, lA9, mA9]) (by simp only [go_sem, Q8, Q3, lA9, mA9]) (b0j _) (b0j _)
      ·rw [b1a hc24] at hm2
       simp only [b08, b0m, b0n]
       refine hK19 _ _ ?_
       refine b1t fun K hK => ?_
       simp only [go_sem, s7, Q3]
       refine hK _ _ ?_
       clear hK K
       simp only [b0m, b0n]
       obtain rfl := sI9 hm2
       refine ⟨_, rfl, ?_⟩
       exact ⟨s1, s4, s5, s6, (by first | (simp only [go_sem, s7, lA9, mA9]; done) | rfl), Q8, Q3⟩
     ·rw [b1a hc18] at hm2
      simp only [b17, b2b, b2a, b19, b0m, b0n, Nat.reduceEqDiff, nF9]
      obtain rfl := sI9 hm2
      obtain rfl := hb16 _ rfl
      try dsimp only at hm1
      exact J15  _ _ s1 s4 s6 Q8 Q3 hm1
   ·rw [b1a hc11] at hm1
    simp only [b17, b2b, b2a, b19, b0m, b0n, Nat.reduceEqDiff, nF9]
    obtain rfl := sI9 hm1
    obtain rfl := hb9 _ rfl
    try dsimp only at hm0
    exact J8 last_5 _ _ s5 hm0
theorem d01 (hf : Has O "newel/newelref06.Over" x_r06_Over) (b63 : b91 O) (d03 : c76 O) : c74 O := by
 intro h_ r hm0
 unfold b9m at hm0
 refine b2n hf rfl (b0e (.agg _ (b0e (b0y fun a _ => b2p a) (b0e (b0y fun a _ => b2o a) (b0e (b0y fun a _ => b2r a) (b0e (b0j _) b02))))) b02) (.tup _ (b0e (b0y fun a _ => b7g a) (b0e (b0j _) b02))) ?_
 refine b2g (fun t h => t 0 = .agg [.fs 5 (List.map b0r h_.Combs), .fs 3 (List.map b0o h_.Trains), .fs 3 (List.map b0s h_.Shifts), I h_.Until]) rfl fun t h s0 => ?_
 simp only [x_r06_Over]
 refine b0f fun K hK => ?_
 simp only [go_sem, s0]
 refine hK _ _ ?_
 clear hK K
 refine b05 ?_
 obtain ⟨y2, h_y2, hm0⟩ := b0k hm0
 refine b0f fun K hK => ?_
 simp only [go_sem]
 refine b1p (b63 h_ _ h_y2) ?_
 simp only [go_sem]
 refine hK _ _ ?_
 clear hK K
 refine b0x fun K3 hK3 => ?_
 simp only [go_sem]
 refine b0w (fun hc4 => ?_) (fun hc4 => ?_)
 ·rw [b1b hc4] at hm0
  refine b0f fun K hK => ?_
  simp only [go_sem]
  refine hK _ _ ?_
  clear hK K
  simp only [b1i, b1m, b1l, b1n]
  obtain rfl := sI9 hm0
  exact c2r (v := .v (.slice none 0 0)) (u := I 60) (by simp only [go_sem, lA9, mA9]) (by simp only [go_sem, lA9, mA9]) (.nil _) (.refl _ (b0j _))
 ·rw [b1a hc4] at hm0
  simp only [b08, b0m, b0n]
  refine hK3 _ _ ?_
  obtain ⟨y6, h_y6, hm0⟩ := b0k hm0
  refine b0f fun K hK => ?_
  simp only [go_sem]
  refine b1p (d03 h_ _ h_y6) ?_
  simp only [go_sem]
  refine hK _ _ ?_
  clear hK K
  simp only [b1i, b1m, b1l, b1n]
  obtain rfl := sI9 hm0
  exact b33 (by simp only [go_sem, lA9, mA9]) (by simp only [go_sem, lA9, mA9]) (b0y fun a _ => b7g a) (b0j _)
theorem d02 (hf : Has O "newel/newelref06.Same" x_r06_Same) : c75 O := by
 intro a b r hm0
 unfold c3y at hm0
 refine b2n hf rfl (b0e (b0y fun a _ => b21 a) (b0e (b0y fun a _ => b21 a) b02)) (b0j _) ?_
 refine b2g (fun t h => t 0 = .fs 1 (List.map eI a) ∧ t 1 = .fs 1 (List.map eI b)) ⟨rfl, rfl⟩ fun t h ⟨s0, s1⟩ => ?_
 simp only [x_r06_Same]
 refine b0f fun K hK => ?_
 simp only [go_sem]
 refine hK _ _ ?_
 clear hK K
 refine b05 ?_
 refine b0f fun K hK => ?_
 simp only [go_sem, s0, s1]
 refine hK _ _ ?_
 clear hK K
 refine b0x fun K1 hK1 => ?_
 simp only [go_sem]
 refine b0w (fun hc2 => ?_) (fun hc2 => ?_)
 ·rw [b1b hc2] at hm0
  refine b0f fun K hK => ?_
  simp only [go_sem]
  refine hK _ _ ?_
  clear hK K
  simp only [b1i, b1m, b1l, b1n]
  obtain rfl := sI9 hm0
  exact b1z (by simp only [go_sem, lA9, mA9]) (b0j _)
 ·rw [b1a hc2] at hm0
  simp only [b08, b0m, b0n]
  refine hK1 _ _ ?_
  refine b05 ?_
  refine b0f fun K hK => ?_
  simp only [go_sem]
  refine hK _ _ ?_
  clear hK K
  refine b0x fun K3 hK3 => ?_
  have J4 : ∀ (t : Slots) (h : Heap), d1y = some r → K3 t h := by
   intro t h hm0
   refine hK3 _ _ ?_
   unfold d1y at hm0
   refine b0f fun K hK => ?_
   simp only [go_sem]
   refine hK _ _ ?_
   clear hK K
   simp only [b1i, b1m, b1l, b1n]
   obtain rfl := sI9 hm0
   exact b1z (by simp only [go_sem, lA9, mA9]) (b0j _)
  simp only [b1e]
  obtain ⟨b5, hl5, hm0⟩ := b0k hm0
  refine b2c hl5 (fun | i_5, t, h => t 0 = .fs 1 (List.map eI a) ∧ t 1 = .fs 1 (List.map eI b) ∧ t 5 = I i_5) ?_ ?_
  ·exact ⟨s0, s1, (by first | (simp only [go_sem, lA9, mA9]; done) | rfl)⟩
  ·rintro i_5 o t h ⟨s0, s1, s5⟩ hm1 hb5
   simp only [c3z] at hm1
   rw [g06]
   refine b05 ?_
   refine b0f fun K hK => ?_
   simp only [go_sem, s0, s5]
   refine hK _ _ ?_
   clear hK K
   refine b0x fun K6 hK6 => ?_
   simp only [go_sem]
   refine b0w (fun hc7 => ?_) (fun hc7 => ?_)
   ·rw [b1b hc7] at hm1
    simp only [b08, b0m, b0n]
    refine hK6 _ _ ?_
    refine b0x fun K8 hK8 => ?_
    simp only [b1e]
    obtain ⟨x11, h_x11, hm1⟩ := b0k hm1
    have h_x110 := b06 h_x11
    have h_x111 := b09 h_x11
    obtain ⟨x12, h_x12, hm1⟩ := b0k hm1
    have h_x120 := b06 h_x12
    have h_x121 := b09 h_x12
    refine b0f fun K hK => ?_
    simp only [go_sem, s0, s1, s5, b0u h_x11, b0v h_x11, h_x110, h_x111, b0u h_x12, b0v h_x12, h_x120, h_x121]
    refine hK _ _ ?_
    clear hK K
    simp only [go_sem]
    refine b0w (fun hc13 => ?_) (fun hc13 => ?_)
    ·rw [b1b hc13] at hm1
     refine b0f fun K hK => ?_
     simp only [go_sem]
     refine hK _ _ ?_
     clear hK K
     simp only [b1i, b1m, b1l, b1n]
     obtain rfl := sI9 hm1
     obtain rfl := hb5 _ rfl
     try dsimp only at hm0
     obtain rfl := sI9 hm0
     exact b1z (by simp only [go_sem, lA9, mA9]) (b0j _)
    ·rw [b1a hc13] at hm1
     simp only [b08, b0m, b0n]
     refine hK8 _ _ ?_
     refine b1t fun K hK => ?_
     simp only [go_sem, s5]
     refine hK _ _ ?_
     clear hK K
     simp only [b0m, b0n]
     obtain rfl := sI9 hm1
     refine ⟨_, rfl, ?_⟩
     exact ⟨s0, s1, (by first | (simp only [go_sem, s5, lA9, mA9]; done) | rfl)⟩
   ·rw [b1a hc7] at hm1
    simp only [b17, b2b, b2a, b19, b0m, b0n, Nat.reduceEqDiff, nF9]
    obtain rfl := sI9 hm1
    obtain rfl := hb5 _ rfl
    try dsimp only at hm0
    exact J4  _ _  hm0
theorem c3k (hf : Has O "newel/newelref06.comb" x_r06_comb) (b4k : c17 O) : c4n O := by
 intro h_ n
 generalize hm0 : b73 h_ n = r
 unfold b73 at hm0
 refine b2n hf rfl (b0e (.agg _ (b0e (b0y fun a _ => b2p a) (b0e (b0y fun a _ => b2o a) (b0e (b0y fun a _ => b2r a) (b0e (b0j _) b02))))) (b0e (b0j _) b02)) (b0j _) ?_
 refine b2g (fun t h => t 0 = .agg [.fs 5 (List.map b0r h_.Combs), .fs 3 (List.map b0o h_.Trains), .fs 3 (List.map b0s h_.Shifts), I h_.Until] ∧ t 1 = I n) ⟨rfl, rfl⟩ fun t h ⟨s0, s1⟩ => ?_
 simp only [x_r06_comb]
 refine b0f fun K hK => ?_
 simp only [go_sem, s0]
 refine hK _ _ ?_
 clear hK K
 refine b0f fun K hK => ?_
 simp only [go_sem, s1]
 refine b1p (b4k n 0 (wr ((List.length h_.Combs : Int) - 1))) ?_
 simp only [go_sem, s1]
 refine hK _ _ ?_
 clear hK K
 simp only [b1i, b1m, b1l, b1n]
 obtain rfl := hm0
 exact b1z (by simp only [go_sem, lA9, mA9]) (b0j _)
theorem d03 (hf : Has O "newel/newelref06.over" x_r06_over) (b62 : b90 O) : c76 O := by
 intro h_ r hm0
 unfold c1w at hm0
 refine b2n hf rfl (b0e (.agg _ (b0e (b0y fun a _ => b2p a) (b0e (b0y fun a _ => b2o a) (b0e (b0y fun a _ => b2r a) (b0e (b0j _) b02))))) b02) (b0y fun a _ => b7g a) ?_
 refine b2g (fun t h => t 0 = .agg [.fs 5 (List.map b0r h_.Combs), .fs 3 (List.map b0o h_.Trains), .fs 3 (List.map b0s h_.Shifts), I h_.Until]) rfl fun t h s0 => ?_
 simp only [x_r06_over]
 refine b0f fun K hK => ?_
 simp only [go_sem, s0]
 refine hK _ _ ?_
 clear hK K
 obtain ⟨y2, h_y2, hm0⟩ := b0k hm0
 refine b0f fun K hK => ?_
 simp only [go_sem]
 refine b1p (b62 h_ _ h_y2) ?_
 simp only [go_sem]
 refine hK _ _ ?_
 clear hK K
 refine b0f fun K hK => ?_
 simp only [go_sem]
 refine hK _ _ ?_
 clear hK K
 refine b05 ?_
 refine b0f fun K hK => ?_
 simp only [go_sem]
 refine hK _ _ ?_
 clear hK K
 refine b0x fun K3 hK3 => ?_
 have J4 : ∀ (l_4 : List (Int × Int)) (v4 : AV) (t : Slots) (h : Heap), t 4 = v4 → b0l h v4 2 (List.map b3c l_4) → d1z l_4 = some r → K3 t h := by
  intro l_4 v4 t h s4 Q6 hm0
  refine hK3 _ _ ?_
  unfold d1z at hm0
  refine b0f fun K hK => ?_
  simp only [go_sem, s4, b0b v4]
  refine hK _ _ ?_
  clear hK K
  simp only [b1i, b1m, b1l, b1n]
  obtain rfl := sI9 hm0
  exact c8r (v := v4) (by simp only [go_sem, b0t Q6, lA9, mA9]) (b5f (f := b3c) (l := l_4) (b1g Q6 (by intro j hj hl; first | rfl | simp only [go_sem, hl]) (by first | omega | exact Nat.le_refl _ | (simp only [go_sem, nxs] <;> omega))) b7g d71)
 simp only [b1e]
 obtain ⟨b5, hl5, hm0⟩ := b0k hm0
 refine b2c hl5 (fun | (l_4, c_5), t, h => ∃ i3 : Nat, ∃ v4 : AV, t 1 = .fp [.fs 5 (List.map b0r h_.Combs), .fs 3 (List.map b0o h_.Trains), .fs 3 (List.map b0s h_.Shifts), I h_.Until] 0 ∧ t 3 = .rp i3 0 0 ∧ t 4 = v4 ∧ t 5 = I c_5 ∧ h.ob i3 = some (4, [[.fs 1 (List.map b0z y2.Most), .fs 1 (List.map b0z y2.Flow), .fs 1 (List.map b03 y2.Come), .fs 1 (List.map b03 y2.Pass)]]) ∧ i3 < h.nx ∧ b0l h v4 2 (List.map b3c l_4) ∧ b0a v4 i3) ?_ ?_
 ·exact ⟨h.nx, (.v (.slice none 0 0)), (by first | (simp only [go_sem, lA9, mA9]; done) | rfl), (by first | (simp only [go_sem, lA9, mA9]; done) | rfl), (by first | (simp only [go_sem, lA9, mA9]; done) | rfl), (by first | (simp only [go_sem, lA9, mA9]; done) | rfl), (by simp only [go_sem, lA9, mA9]), (by simp only [go_sem]), b68, (by first | exact b1j | exact b1k (by first | assumption | omega | (simp only [nxs] <;> omega)) | assumption | exact b01 (by assumption) (by first | assumption | omega | (simp only [nxs] <;> omega)))⟩
 ·rintro ⟨l_4, c_5⟩ o t h ⟨i3, v4, s1, s3, s4, s5, Q9, Q4, Q6, Q7⟩ hm1 hb5
  simp only [c30] at hm1
  rw [g08]
  refine b05 ?_
  refine b0f fun K hK => ?_
  simp only [go_sem, s1, s5, Q4, b0b v4]
  refine hK _ _ ?_
  clear hK K
  refine b0x fun K6 hK6 => ?_
  simp only [go_sem]
  refine b0w (fun hc7 => ?_) (fun hc7 => ?_)
  ·rw [b1b hc7] at hm1
   simp only [b08, b0m, b0n]
   refine hK6 _ _ ?_
   refine b0x fun K8 hK8 => ?_
   have J9 : ∀ (l_4_1 : List (Int × Int)) (v4_1 : AV) (t : Slots) (h : Heap), t 1 = .fp [.fs 5 (List.map b0r h_.Combs), .fs 3 (List.map b0o h_.Trains), .fs 3 (List.map b0s h_.Shifts), I h_.Until] 0 → t 3 = .rp i3 0 0 → t 4 = v4_1 → t 5 = I c_5 → h.ob i3 = some (4, [[.fs 1 (List.map b0z y2.Most), .fs 1 (List.map b0z y2.Flow), .fs 1 (List.map b03 y2.Come), .fs 1 (List.map b03 y2.Pass)]]) → i3 < h.nx → b0l h v4_1 2 (List.map b3c l_4_1) → b0a v4_1 i3 → c63 c_5 l_4_1 = some o → K8 t h := by
    intro l_4_1 v4_1 t h s1 s3 s4 s5 Q9 Q4 Q6 Q7 hm1
    refine hK8 _ _ ?_
    unfold c63 at hm1
    refine b1t fun K hK => ?_
    simp only [go_sem, s5, Q4, b0b v4, b0b v4_1]
    refine hK _ _ ?_
    clear hK K
    simp only [b0m, b0n]
    obtain rfl := sI9 hm1
    refine ⟨_, rfl, ?_⟩
    exact ⟨i3, v4_1, s1, s3, s4, (by first | (simp only [go_sem, s5, lA9, mA9]; done) | rfl), Q9, Q4, Q6, Q7⟩
   simp only [b1e]
   refine b0f fun K hK => ?_
   simp only [go_sem, Q4, b0b v4]
   refine hK _ _ ?_
   clear hK K
   simp only [b1e]
   obtain ⟨b10, hl10, hm1⟩ := b0k hm1
   refine b2c hl10 (fun | t_6, t, h => t 1 = .fp [.fs 5 (List.map b0r h_.Combs), .fs 3 (List.map b0o h_.Trains), .fs 3 (List.map b0s h_.Shifts), I h_.Until] 0 ∧ t 3 = .rp i3 0 0 ∧ t 4 = v4 ∧ t 5 = I c_5 ∧ t 6 = I t_6 ∧ h.ob i3 = some (4, [[.fs 1 (List.map b0z y2.Most), .fs 1 (List.map b0z y2.Flow), .fs 1 (List.map b03 y2.Come), .fs 1 (List.map b03 y2.Pass)]]) ∧ i3 < h.nx ∧ b0l h v4 2 (List.map b3c l_4) ∧ b0a v4 i3) ?_ ?_
   ·exact ⟨s1, s3, s4, s5, (by first | (simp only [go_sem, lA9, mA9]; done) | rfl), Q9, Q4, Q6, Q7⟩
   ·rintro t_6 o t h ⟨s1, s3, s4, s5, s6, Q9, Q4, Q6, Q7⟩ hm2 hb10
    simp only [c1x] at hm2
    rw [g07]
    refine b05 ?_
    refine b0f fun K hK => ?_
    simp only [go_sem, s1, s6, Q4, b0b v4]
    refine hK _ _ ?_
    clear hK K
    refine b0x fun K11 hK11 => ?_
    simp only [go_sem]
    refine b0w (fun hc12 => ?_) (fun hc12 => ?_)
    ·rw [b1b hc12] at hm2
     simp only [b08, b0m, b0n]
     refine hK11 _ _ ?_
     refine b0x fun K13 hK13 => ?_
     simp only [b1e]
     obtain ⟨x17, h_x17, hm2⟩ := b0k hm2
     have h_x170 := b06 h_x17
     have h_x171 := b09 h_x17
     obtain ⟨x18, h_x18, hm2⟩ := b0k hm2
     have h_x180 := b06 h_x18
     have h_x181 := b09 h_x18
     obtain ⟨x19, h_x19, hm2⟩ := b0k hm2
     have h_x190 := b06 h_x19
     have h_x191 := b09 h_x19
     refine b0f fun K hK => ?_
     simp only [go_sem, s1, s3, s5, s6, Q9, Q4, Q7, b0u h_x17, b0v h_x17, h_x170, h_x171, b0u h_x18, b0v h_x18, h_x180, h_x181, b0u h_x19, b0v h_x19, h_x190, h_x191, b0b v4]
     refine hK _ _ ?_
     clear hK K
     simp only [go_sem]
     refine b0w (fun hc20 => ?_) (fun hc20 => ?_)
     ·rw [b1b hc20] at hm2
      obtain ⟨l22, h_l22, hm2⟩ := b0k hm2
      refine b0f fun K hK => ?_
      simp only [go_sem, s4, s5, s6, Q4, Q7, b0b v4]
      refine b55 (f := b3c) (l := l_4) (m := ([(c_5, t_6)])) ?_ ?_ ?_ ?_ h_l22 ?_
      ·exact (b1g Q6 (by intro j hj hl; first | rfl | simp only [go_sem, hl, b1h hj Q7]) (by first | omega | exact Nat.le_refl _ | (simp only [go_sem, nxs] <;> omega)))
      ·exact (b6c (by simp only [go_sem, Q9, Q4, b0t Q6, Q7, lA9, mA9]) (by simp only [go_sem, Q9, Q4, b0t Q6, Q7, lA9, mA9]))
      ·exact (b24 (by first | exact b1j | exact b1k (by first | omega | (simp only [nxs] <;> omega)) | assumption | exact b01 (by assumption) (by first | omega | (simp only [go_sem, nxs] <;> omega))))
      ·exact (fun _ => by simp)
      simp only [go_sem, s4, s5, s6, Q4, Q7, b0b v4]
      refine hK _ _ ?_
      clear hK K
      simp only [b17, b2b, b2a, b19, b0m, b0n, Nat.reduceEqDiff, nF9]
      obtain rfl := sI9 hm2
      obtain rfl := hb10 _ rfl
      try dsimp only at hm1
      exact J9 l22 (.rs (nxs h.nx) 0 (List.length l22)) _ _ s1 s3 (by first | (simp only [go_sem, s4, lA9, mA9]; done) | rfl) s5 (by simp only [go_sem, Q9, Q4, b0t Q6, Q7, lA9, mA9]) (by simp only [go_sem, Q4]) (b3v (by simp only [go_sem, b0t Q6, lA9, mA9]) (by first | rfl | simp only [go_sem, lA9, mA9]) (by simp only [go_sem])) (by first | exact b1j | exact b1k (by first | assumption | omega | (simp only [nxs] <;> omega)) | assumption | exact b01 (by assumption) (by first | assumption | omega | (simp only [nxs] <;> omega))) hm1
     ·rw [b1a hc20] at hm2
      simp only [b08, b0m, b0n]
      refine hK13 _ _ ?_
      refine b1t fun K hK => ?_
      simp only [go_sem, s6, Q4, b0b v4]
      refine hK _ _ ?_
      clear hK K
      simp only [b0m, b0n]
      obtain rfl := sI9 hm2
      refine ⟨_, rfl, ?_⟩
      exact ⟨s1, s3, s4, s5, (by first | (simp only [go_sem, s6, lA9, mA9]; done) | rfl), Q9, Q4, Q6, Q7⟩
    ·rw [b1a hc12] at hm2
     simp only [b17, b2b, b2a, b19, b0m, b0n, Nat.reduceEqDiff, nF9]
     obtain rfl := sI9 hm2
     obtain rfl := hb10 _ rfl
     try dsimp only at hm1
     exact J9 l_4 v4 _ _ s1 s3 s4 s5 Q9 Q4 Q6 Q7 hm1
  ·rw [b1a hc7] at hm1
   simp only [b17, b2b, b2a, b19, b0m, b0n, Nat.reduceEqDiff, nF9]
   obtain rfl := sI9 hm1
   obtain rfl := hb5 _ rfl
   try dsimp only at hm0
   exact J4 l_4 v4 _ _ s4 Q6 hm0
theorem d04 (hf : Has O "newel/newelref06.rates" x_r06_rates) : c77 O := by
 intro h_ comb r hm0
 unfold b9n at hm0
 refine b2n hf rfl (b0e (.agg _ (b0e (b0y fun a _ => b2p a) (b0e (b0y fun a _ => b2o a) (b0e (b0y fun a _ => b2r a) (b0e (b0j _) b02))))) (b0e (b0j _) b02)) (b0y fun a _ => b21 a) ?_
 refine b2g (fun t h => t 0 = .agg [.fs 5 (List.map b0r h_.Combs), .fs 3 (List.map b0o h_.Trains), .fs 3 (List.map b0s h_.Shifts), I h_.Until] ∧ t 1 = I comb) ⟨rfl, rfl⟩ fun t h ⟨s0, s1⟩ => ?_
 simp only [x_r06_rates]
 refine b0f fun K hK => ?_
 simp only [go_sem, s0]
 refine hK _ _ ?_
 clear hK K
 obtain ⟨l2, h_l2, hm0⟩ := b0k hm0
 refine b0f fun K hK => ?_
 simp only [go_sem]
 refine b7w (f := eI) (z := 0) rfl h_l2 ?_
 simp only [go_sem]
 refine hK _ _ ?_
 clear hK K
 refine b05 ?_
 refine b0f fun K hK => ?_
 simp only [go_sem]
 refine hK _ _ ?_
 clear hK K
 refine b0x fun K3 hK3 => ?_
 have J4 : ∀ (l_5 : List Int) (i5 : Nat) (t : Slots) (h : Heap), t 5 = .rs i5 0 (List.length l_5) → h.ob i5 = some (1, List.map eI l_5) → i5 < h.nx → d10 l_5 = some r → K3 t h := by
  intro l_5 i5 t h s5 Q2 Q0 hm0
  refine hK3 _ _ ?_
  unfold d10 at hm0
  refine b0f fun K hK => ?_
  simp only [go_sem, s5, Q2, Q0]
  refine hK _ _ ?_
  clear hK K
  simp only [b1i, b1m, b1l, b1n]
  obtain rfl := sI9 hm0
  exact c8r (v := .rs i5 0 (List.length l_5)) (by simp only [go_sem, Q2, Q0, lA9, mA9]) (b6x (f := eI) (l := l_5) (id := i5) (by simp only [go_sem, Q2, Q0, lA9, mA9]) (by first | rfl | simp only [go_sem, lA9, mA9]) b21 b59)
 simp only [b1e]
 obtain ⟨b5, hl5, hm0⟩ := b0k hm0
 refine b2c hl5 (fun | (l_5, t_6), t, h => ∃ i5 : Nat, t 1 = I comb ∧ t 2 = .fp [.fs 5 (List.map b0r h_.Combs), .fs 3 (List.map b0o h_.Trains), .fs 3 (List.map b0s h_.Shifts), I h_.Until] 0 ∧ t 5 = .rs i5 0 (List.length l_5) ∧ t 6 = I t_6 ∧ h.ob i5 = some (1, List.map eI l_5) ∧ i5 < h.nx) ?_ ?_
 ·exact ⟨h.nx, s1, (by first | (simp only [go_sem, lA9, mA9]; done) | rfl), (by first | (simp only [go_sem, lA9, mA9]; done) | rfl), (by first | (simp only [go_sem, lA9, mA9]; done) | rfl), (by simp only [go_sem, lA9, mA9]), (by simp only [go_sem])⟩
 ·rintro ⟨l_5, t_6⟩ o t h ⟨i5, s1, s2, s5, s6, Q2, Q0⟩ hm1 hb5
  simp only [c32] at hm1
  rw [g1a]
  refine b05 ?_
  refine b0f fun K hK => ?_
  simp only [go_sem, s2, s6, Q0]
  refine hK _ _ ?_
  clear hK K
  refine b0x fun K6 hK6 => ?_
  simp only [go_sem]
  refine b0w (fun hc7 => ?_) (fun hc7 => ?_)
  ·rw [b1b hc7] at hm1
   simp only [b08, b0m, b0n]
   refine hK6 _ _ ?_
   refine b0x fun K8 hK8 => ?_
   have J9 : ∀ (l_5_1 : List Int) (t : Slots) (h : Heap), t 1 = I comb → t 2 = .fp [.fs 5 (List.map b0r h_.Combs), .fs 3 (List.map b0o h_.Trains), .fs 3 (List.map b0s h_.Shifts), I h_.Until] 0 → t 5 = .rs i5 0 (List.length l_5_1) → t 6 = I t_6 → h.ob i5 = some (1, List.map eI l_5_1) → i5 < h.nx → c64 t_6 l_5_1 = some o → K8 t h := by
    intro l_5_1 t h s1 s2 s5 s6 Q2 Q0 hm1
    refine hK8 _ _ ?_
    unfold c64 at hm1
    refine b1t fun K hK => ?_
    simp only [go_sem, s6, Q0]
    refine hK _ _ ?_
    clear hK K
    simp only [b0m, b0n]
    obtain rfl := sI9 hm1
    refine ⟨_, rfl, ?_⟩
    exact ⟨i5, s1, s2, (by first | exact s5 | simp only [go_sem, s5, lA9, mA9]), (by first | (simp only [go_sem, s6, lA9, mA9]; done) | rfl), Q2, Q0⟩
   simp only [b1e]
   obtain ⟨x12, h_x12, hm1⟩ := b0k hm1
   have h_x120 := b06 h_x12
   have h_x121 := b09 h_x12
   obtain ⟨x13, h_x13, hm1⟩ := b0k hm1
   have h_x130 := b06 h_x13
   have h_x131 := b09 h_x13
   refine b0f fun K hK => ?_
   simp only [go_sem, s1, s2, s5, s6, Q2, Q0, b0u h_x12, b0v h_x12, h_x120, h_x121, b0u h_x13, b0v h_x13, h_x130, h_x131]
   refine hK _ _ ?_
   clear hK K
   refine b0f fun K hK => ?_
   simp only [go_sem, Q0]
   refine hK _ _ ?_
   clear hK K
   simp only [b1e]
   obtain ⟨b14, hl14, hm1⟩ := b0k hm1
   refine b2c hl14 (fun | (l_5_1, i_7), t, h => t 1 = I comb ∧ t 2 = .fp [.fs 5 (List.map b0r h_.Combs), .fs 3 (List.map b0o h_.Trains), .fs 3 (List.map b0s h_.Shifts), I h_.Until] 0 ∧ t 5 = .rs i5 0 (List.length l_5_1) ∧ t 6 = I t_6 ∧ t 7 = I i_7 ∧ h.ob i5 = some (1, List.map eI l_5_1) ∧ i5 < h.nx) ?_ ?_
   ·exact ⟨s1, s2, (by first | exact s5 | simp only [go_sem, s5, lA9, mA9]), s6, (by first | (simp only [go_sem, lA9, mA9]; done) | rfl), (by simp only [go_sem, Q2, Q0, lA9, mA9]), (by simp only [go_sem, Q0])⟩
   ·rintro ⟨l_5_1, i_7⟩ o t h ⟨s1, s2, s5, s6, s7, Q2, Q0⟩ hm2 hb14
    simp only [c31] at hm2
    rw [g09]
    refine b05 ?_
    refine b0f fun K hK => ?_
    simp only [go_sem, s2, s7, Q0]
    refine hK _ _ ?_
    clear hK K
    refine b0x fun K15 hK15 => ?_
    simp only [go_sem]
    refine b0w (fun hc16 => ?_) (fun hc16 => ?_)
    ·rw [b1b hc16] at hm2
     simp only [b08, b0m, b0n]
     refine hK15 _ _ ?_
     refine b0x fun K17 hK17 => ?_
     have J18 : ∀ (l_5_2 : List Int) (t : Slots) (h : Heap), t 1 = I comb → t 2 = .fp [.fs 5 (List.map b0r h_.Combs), .fs 3 (List.map b0o h_.Trains), .fs 3 (List.map b0s h_.Shifts), I h_.Until] 0 → t 5 = .rs i5 0 (List.length l_5_2) → t 6 = I t_6 → t 7 = I i_7 → h.ob i5 = some (1, List.map eI l_5_2) → i5 < h.nx → c1y i_7 l_5_2 = some o → K17 t h := by
      intro l_5_2 t h s1 s2 s5 s6 s7 Q2 Q0 hm2
      refine hK17 _ _ ?_
      unfold c1y at hm2
      refine b1t fun K hK => ?_
      simp only [go_sem, s7, Q0]
      refine hK _ _ ?_
      clear hK K
      simp only [b0m, b0n]
      obtain rfl := sI9 hm2
      refine ⟨_, rfl, ?_⟩
      exact ⟨s1, s2, (by first | exact s5 | simp only [go_sem, s5, lA9, mA9]), s6, (by first | (simp only [go_sem, s7, lA9, mA9]; done) | rfl), Q2, Q0⟩
     simp only [b1e]
     obtain ⟨x20, h_x20, hm2⟩ := b0k hm2
     have h_x200 := b06 h_x20
     have h_x201 := b09 h_x20
     refine b2j (fun t h => t 1 = I comb ∧ t 2 = .fp [.fs 5 (List.map b0r h_.Combs), .fs 3 (List.map b0o h_.Trains), .fs 3 (List.map b0s h_.Shifts), I h_.Until] 0 ∧ t 5 = .rs i5 0 (List.length l_5_1) ∧ t 6 = I t_6 ∧ t 7 = I i_7 ∧ t 50 = B ((decide (x20.Comb = comb)) && (decide (x20.At ≤ t_6))) ∧ h.ob i5 = some (1, List.map eI l_5_1) ∧ i5 < h.nx) (fun K hK => ?_) ?_
     ·simp only [go_sem, s1, s2, s6, s7, Q0, b0u h_x20, b0v h_x20, h_x200, h_x201]
      refine b0w (fun hg21 => ?_) (fun hg21 => ?_)
      ·simp only [go_sem, s1, s2, s6, s7, Q0, b0u h_x20, b0v h_x20, h_x200, h_x201, hg21]
       exact hK _ _ ⟨s1, s2, (by first | exact s5 | simp only [go_sem, s5, lA9, mA9]), s6, s7, (by first | (simp only [go_sem, hg21, lA9, mA9]; done) | rfl), Q2, Q0⟩
      ·simp only [go_sem, s1, s2, s6, s7, Q0, b0u h_x20, b0v h_x20, h_x200, h_x201, hg21]
       exact hK _ _ ⟨s1, s2, (by first | exact s5 | simp only [go_sem, s5, lA9, mA9]), s6, s7, (by first | (simp only [go_sem, hg21, lA9, mA9]; done) | rfl), Q2, Q0⟩
     ·rintro t h ⟨s1, s2, s5, s6, s7, s50, Q2, Q0⟩
      simp only [go_sem, s50]
      refine b0w (fun hc22 => ?_) (fun hc22 => ?_)
      ·rw [b1b hc22] at hm2
       obtain ⟨x24, h_x24, hm2⟩ := b0k hm2
       have h_x240 := b06 h_x24
       have h_x241 := b09 h_x24
       refine b1t fun K hK => ?_
       simp only [go_sem, s2, s5, s6, s7, Q2, Q0, b0u h_x24, b0v h_x24, h_x240, h_x241, b0u h_x20, b0v h_x20, h_x200, h_x201]
       refine hK _ _ ?_
       clear hK K
       simp only [b0m, b0n]
       exact J18 (List.set l_5_1 (Int.toNat t_6) x20.Rate) _ _ s1 s2 (by first | exact s5 | simp only [go_sem, s5, lA9, mA9]) s6 s7 (by simp only [go_sem, Q2, Q0, lA9, mA9]) (by simp only [go_sem, Q0]) hm2
      ·rw [b1a hc22] at hm2
       simp only [b08, b0m, b0n]
       exact J18 l_5_1 _ _ s1 s2 (by first | exact s5 | simp only [go_sem, s5, lA9, mA9]) s6 s7 Q2 Q0 hm2
    ·rw [b1a hc16] at hm2
     simp only [b17, b2b, b2a, b19, b0m, b0n, Nat.reduceEqDiff, nF9]
     obtain rfl := sI9 hm2
     obtain rfl := hb14 _ rfl
     try dsimp only at hm1
     exact J9 l_5_1 _ _ s1 s2 (by first | exact s5 | simp only [go_sem, s5, lA9, mA9]) s6 Q2 Q0 hm1
  ·rw [b1a hc7] at hm1
   simp only [b17, b2b, b2a, b19, b0m, b0n, Nat.reduceEqDiff, nF9]
   obtain rfl := sI9 hm1
   obtain rfl := hb5 _ rfl
   try dsimp only at hm0
   exact J4 l_5 i5 _ _ (by first | exact s5 | simp only [go_sem, s5, lA9, mA9]) Q2 Q0 hm0
theorem c07 (hf : Has O "newel/newelref06.spanned" x_r06_spanned) : c78 O := by
 intro s low high
 generalize hm0 : b4m s low high = r
 unfold b4m at hm0
 refine b2n hf rfl (b0e (.agg _ (b0e (b0j _) (b0e (b0j _) b02))) (b0e (b0j _) (b0e (b0j _) b02))) (b0j _) ?_
 refine b2g (fun t h => t 0 = .agg [I s.Low, I s.High] ∧ t 1 = I low ∧ t 2 = I high) ⟨rfl, rfl, rfl⟩ fun t h ⟨s0, s1, s2⟩ => ?_
 simp only [x_r06_spanned]
 refine b0f fun K hK => ?_
 simp only [go_sem, s0]
 refine hK _ _ ?_
 clear hK K
 refine b2j (fun t h => t 6 = B (((decide (low ≤ s.Low)) && (decide (s.Low ≤ s.High))) && (decide (s.High ≤ high)))) (fun K hK => ?_) ?_
 ·simp only [go_sem, s1, s2]
  refine b0w (fun hg1 => ?_) (fun hg1 => ?_)
  ·simp only [go_sem, s1, s2, hg1]
   refine b0w (fun hg2 => ?_) (fun hg2 => ?_)
   ·simp only [go_sem, s1, s2, hg1, hg2]
    exact hK _ _ (by first | (simp only [go_sem, hg1, hg2, lA9, mA9]; done) | rfl)
   ·simp only [go_sem, s1, s2, hg1, hg2]
    exact hK _ _ (by first | (simp only [go_sem, hg1, hg2, lA9, mA9]; done) | rfl)
  ·simp only [go_sem, s1, s2, hg1]
   exact hK _ _ (by first | (simp only [go_sem, hg1, lA9, mA9]; done) | rfl)
 ·rintro t h s6
  simp only [b1i, b1m, b1l, b1n]
  obtain rfl := hm0
  exact b1z (by simp only [go_sem, s6, lA9, mA9]) (b0j _)
theorem b4k (hf : Has O "newel/newelref06.within" x_r06_within) : c17 O := by
 intro n low high
 generalize hm0 : b2t n low high = r
 unfold b2t at hm0
 refine b2n hf rfl (b0e (b0j _) (b0e (b0j _) (b0e (b0j _) b02))) (b0j _) ?_
 refine b2g (fun t h => t 0 = I n ∧ t 1 = I low ∧ t 2 = I high) ⟨rfl, rfl, rfl⟩ fun t h ⟨s0, s1, s2⟩ => ?_
 simp only [x_r06_within]
 refine b0f fun K hK => ?_
 simp only [go_sem]
 refine hK _ _ ?_
 clear hK K
 refine b2j (fun t h => t 6 = B ((decide (low ≤ n)) && (decide (n ≤ high)))) (fun K hK => ?_) ?_
 ·simp only [go_sem, s0, s1, s2]
  refine b0w (fun hg1 => ?_) (fun hg1 => ?_)
  ·simp only [go_sem, s0, s1, s2, hg1]
   exact hK _ _ (by first | (simp only [go_sem, hg1, lA9, mA9]; done) | rfl)
  ·simp only [go_sem, s0, s1, s2, hg1]
   exact hK _ _ (by first | (simp only [go_sem, hg1, lA9, mA9]; done) | rfl)
 ·rintro t h s6
  simp only [b1i, b1m, b1l, b1n]
  obtain rfl := hm0
  exact b1z (by simp only [go_sem, s6, lA9, mA9]) (b0j _)
theorem d05 (hf : Has O "slices.ContainsFunc[[]newel/api.Train,newel/api.Train]" x_slices_ContainsFunc___api_Train_api_Train_) (d07 : c8b O) : c79 O := by
 intro s f_n f_a f_b f f_z f_h r hm0
 unfold c12 at hm0
 refine b2n hf rfl (b0e (b0y fun a _ => b2o a) (b0e f_z b02)) (b0j _) ?_
 refine b2g (fun t h => t 0 = .fs 3 (List.map b0o s) ∧ t 1 = .fn f_n f_a f_b) ⟨rfl, rfl⟩ fun t h ⟨s0, s1⟩ => ?_
 simp only [x_slices_ContainsFunc___api_Train_api_Train_]
 refine b0f fun K hK => ?_
 simp only [go_sem]
 refine hK _ _ ?_
 clear hK K
 obtain ⟨y2, h_y2, hm0⟩ := b0k hm0
 refine b0f fun K hK => ?_
 simp only [go_sem, s0, s1]
 refine b1p (d07 s f_n f_a f_b f f_z f_h _ h_y2) ?_
 simp only [go_sem, s0, s1]
 refine hK _ _ ?_
 clear hK K
 simp only [b1i, b1m, b1l, b1n]
 obtain rfl := sI9 hm0
 exact b1z (by simp only [go_sem, lA9, mA9]) (b0j _)
theorem d06 (hf : Has O "slices.ContainsFunc[[]int,int]" x_slices_ContainsFunc___int_int_) (c3l : c4o O) : c8a O := by
 intro s f_n f_a f_b f f_z f_h r hm0
 unfold c13 at hm0
 refine b2n hf rfl (b0e (b0y fun a _ => b21 a) (b0e f_z b02)) (b0j _) ?_
 refine b2g (fun t h => t 0 = .fs 1 (List.map eI s) ∧ t 1 = .fn f_n f_a f_b) ⟨rfl, rfl⟩ fun t h ⟨s0, s1⟩ => ?_
 simp only [x_slices_ContainsFunc___int_int_]
 refine b0f fun K hK => ?_
 simp only [go_sem]
 refine hK _ _ ?_
 clear hK K
 obtain ⟨y2, h_y2, hm0⟩ := b0k hm0
 refine b0f fun K hK => ?_
 simp only [go_sem, s0, s1]
 refine b1p (c3l s f_n f_a f_b f f_z f_h _ h_y2) ?_
 simp only [go_sem, s0, s1]
 refine hK _ _ ?_
 clear hK K
 simp only [b1i, b1m, b1l, b1n]
 obtain rfl := sI9 hm0
 exact b1z (by simp only [go_sem, lA9, mA9]) (b0j _)
theorem d07 (hf : Has O "slices.IndexFunc[[]newel/api.Train,newel/api.Train]" x_slices_IndexFunc___api_Train_api_Train_) : c8b O := by
 intro s f_n f_a f_b f f_z f_h r hm0
 unfold c4a at hm0
 refine b2n hf rfl (b0e (b0y fun a _ => b2o a) (b0e f_z b02)) (b0j _) ?_
 refine b2g (fun t h => t 0 = .fs 3 (List.map b0o s) ∧ t 1 = .fn f_n f_a f_b) ⟨rfl, rfl⟩ fun t h ⟨s0, s1⟩ => ?_
 simp only [x_slices_IndexFunc___api_Train_api_Train_]
 refine b0f fun K hK => ?_
 simp only [go_sem]
 refine hK _ _ ?_
 clear hK K
 refine b05 ?_
 refine b0f fun K hK => ?_
 simp only [go_sem, s0]
 refine hK _ _ ?_
 clear hK K
 refine b0x fun K1 hK1 => ?_
 have J2 : ∀ (t : Slots) (h : Heap), c4b = some r → K1 t h := by
  intro t h hm0
  refine hK1 _ _ ?_
  unfold c4b at hm0
  refine b0f fun K hK => ?_
  simp only [go_sem]
  refine hK _ _ ?_
  clear hK K
  simp only [b1i, b1m, b1l, b1n]
  obtain rfl := sI9 hm0
  exact b1z (by simp only [go_sem, lA9, mA9]) (b0j _)
 simp only [b1e]
 obtain ⟨b3, hl3, hm0⟩ := b0k hm0
 refine b2c hl3 (fun | x_8, t, h => t 0 = .fs 3 (List.map b0o s) ∧ t 1 = .fn f_n f_a f_b ∧ t 7 = I (List.length s : Int) ∧ t 8 = I x_8) ?_ ?_
 ·exact ⟨s0, s1, (by first | (simp only [go_sem, lA9, mA9]; done) | rfl), (by first | (simp only [go_sem, lA9, mA9]; done) | rfl)⟩
 ·rintro x_8 o t h ⟨s0, s1, s7, s8⟩ hm1 hb3
  simp only [c7c] at hm1
  rw [g1b]
  refine b0f fun K hK => ?_
  simp only [go_sem, s7, s8]
  refine hK _ _ ?_
  clear hK K
  refine b0x fun K4 hK4 => ?_
  simp only [go_sem]
  refine b0w (fun hc5 => ?_) (fun hc5 => ?_)
  ·rw [b1b hc5] at hm1
   simp only [b08, b0m, b0n]
   refine hK4 _ _ ?_
   refine b0x fun K6 hK6 => ?_
   simp only [b1e]
   refine b0f fun K hK => ?_
   simp only [go_sem, s8]
   refine hK _ _ ?_
   clear hK K
   obtain ⟨x9, h_x9, hm1⟩ := b0k hm1
   have h_x90 := b06 h_x9
   have h_x91 := b09 h_x9
   obtain ⟨y10, h_y10, hm1⟩ := b0k hm1
   refine b0f fun K hK => ?_
   simp only [go_sem, s0, s1, b0u h_x9, b0v h_x9, h_x90, h_x91]
   refine d6k (f_h x9 _ h_y10) ?_
   simp only [go_sem, s0, s1, b0u h_x9, b0v h_x9, h_x90, h_x91]
   refine hK _ _ ?_
   clear hK K
   simp only [go_sem]
   refine b0w (fun hc11 => ?_) (fun hc11 => ?_)
   ·rw [b1b hc11] at hm1
    refine b0f fun K hK => ?_
    simp only [go_sem]
    refine hK _ _ ?_
    clear hK K
    simp only [b1i, b1m, b1l, b1n]
    obtain rfl := sI9 hm1
    obtain rfl := hb3 _ rfl
    try dsimp only at hm0
    obtain rfl := sI9 hm0
    exact b1z (by simp only [go_sem, lA9, mA9]) (b0j _)
   ·rw [b1a hc11] at hm1
    simp only [b08, b0m, b0n]
    refine hK6 _ _ ?_
    refine b1t fun K hK => ?_
    simp only [go_sem, s8]
    refine hK _ _ ?_
    clear hK K
    simp only [b0m, b0n]
    obtain rfl := sI9 hm1
    refine ⟨_, rfl, ?_⟩
    exact ⟨s0, s1, s7, (by first | (simp only [go_sem, s8, lA9, mA9]; done) | rfl)⟩
  ·rw [b1a hc5] at hm1
   simp only [b17, b2b, b2a, b19, b0m, b0n, Nat.reduceEqDiff, nF9]
   obtain rfl := sI9 hm1
   obtain rfl := hb3 _ rfl
   try dsimp only at hm0
   exact J2  _ _  hm0
theorem c3l (hf : Has O "slices.IndexFunc[[]int,int]" x_slices_IndexFunc___int_int_) : c4o O := by
 intro s f_n f_a f_b f f_z f_h r hm0
 unfold b9t at hm0
 refine b2n hf rfl (b0e (b0y fun a _ => b21 a) (b0e f_z b02)) (b0j _) ?_
 refine b2g (fun t h => t 0 = .fs 1 (List.map eI s) ∧ t 1 = .fn f_n f_a f_b) ⟨rfl, rfl⟩ fun t h ⟨s0, s1⟩ => ?_
 simp only [x_slices_IndexFunc___int_int_]
 refine b0f fun K hK => ?_
 simp only [go_sem]
 refine hK _ _ ?_
 clear hK K
 refine b05 ?_
 refine b0f fun K hK => ?_
 simp only [go_sem, s0]
 refine hK _ _ ?_
 clear hK K
 refine b0x fun K1 hK1 => ?_
 have J2 : ∀ (t : Slots) (h : Heap), c4c = some r → K1 t h := by
  intro t h hm0
  refine hK1 _ _ ?_
  unfold c4c at hm0
  refine b0f fun K hK => ?_
  simp only [go_sem]
  refine hK _ _ ?_
  clear hK K
  simp only [b1i, b1m, b1l, b1n]
  obtain rfl := sI9 hm0
  exact b1z (by simp only [go_sem, lA9, mA9]) (b0j _)
 simp only [b1e]
 obtain ⟨b3, hl3, hm0⟩ := b0k hm0
 refine b2c hl3 (fun | x_8, t, h => t 0 = .fs 1 (List.map eI s) ∧ t 1 = .fn f_n f_a f_b ∧ t 7 = I (List.length s : Int) ∧ t 8 = I x_8) ?_ ?_
 ·exact ⟨s0, s1, (by first | (simp only [go_sem, lA9, mA9]; done) | rfl), (by first | (simp only [go_sem, lA9, mA9]; done) | rfl)⟩
 ·rintro x_8 o t h ⟨s0, s1, s7, s8⟩ hm1 hb3
  simp only [c7d] at hm1
  rw [g1c]
  refine b0f fun K hK => ?_
  simp only [go_sem, s7, s8]
  refine hK _ _ ?_
  clear hK K
  refine b0x fun K4 hK4 => ?_
  simp only [go_sem]
  refine b0w (fun hc5 => ?_) (fun hc5 => ?_)
  ·rw [b1b hc5] at hm1
   simp only [b08, b0m, b0n]
   refine hK4 _ _ ?_
   refine b0x fun K6 hK6 => ?_
   simp only [b1e]
   refine b0f fun K hK => ?_
   simp only [go_sem, s8]
   refine hK _ _ ?_
   clear hK K
   obtain ⟨x9, h_x9, hm1⟩ := b0k hm1
   have h_x90 := b06 h_x9
   have h_x91 := b09 h_x9
   obtain ⟨y10, h_y10, hm1⟩ := b0k hm1
   refine b0f fun K hK => ?_
   simp only [go_sem, s0, s1, b0u h_x9, b0v h_x9, h_x90, h_x91]
   refine d6k (f_h x9 _ h_y10) ?_
   simp only [go_sem, s0, s1, b0u h_x9, b0v h_x9, h_x90, h_x91]
   refine hK _ _ ?_
   clear hK K
   simp only [go_sem]
   refine b0w (fun hc11 => ?_) (fun hc11 => ?_)
   ·rw [b1b hc11] at hm1
    refine b0f fun K hK => ?_
    simp only [go_sem]
    refine hK _ _ ?_
    clear hK K
    simp only [b1i, b1m, b1l, b1n]
    obtain rfl := sI9 hm1
    obtain rfl := hb3 _ rfl
    try dsimp only at hm0
    obtain rfl := sI9 hm0
    exact b1z (by simp only [go_sem, lA9, mA9]) (b0j _)
   ·rw [b1a hc11] at hm1
    simp only [b08, b0m, b0n]
    refine hK6 _ _ ?_
    refine b1t fun K hK => ?_
    simp only [go_sem, s8]
    refine hK _ _ ?_
    clear hK K
    simp only [b0m, b0n]
    obtain rfl := sI9 hm1
    refine ⟨_, rfl, ?_⟩
    exact ⟨s0, s1, s7, (by first | (simp only [go_sem, s8, lA9, mA9]; done) | rfl)⟩
  ·rw [b1a hc5] at hm1
   simp only [b17, b2b, b2a, b19, b0m, b0n, Nat.reduceEqDiff, nF9]
   obtain rfl := sI9 hm1
   obtain rfl := hb3 _ rfl
   try dsimp only at hm0
   exact J2  _ _  hm0
end Go.Nw.HM
