/- That the texts make what their models say: printed by a program. -/
import Derived.Test.YteoedeeljnboeaaHM
set_option linter.all false
set_option linter.unusedVariables false
set_option linter.unusedSimpArgs false
set_option linter.unusedSectionVars false
namespace Go.Nw.HM
open Go.Nw.Halls
set_option linter.unusedSimpArgs false
set_option linter.unusedVariables false
set_option maxHeartbeats 4000000
variable {O : Orac}
theorem d05 (hf : Has O "newel/newellaw06.farDay" x_l06_farDay) : c7w O := by
 intro d r hm0
 unfold c01 at hm0
 refine b2k hf rfl (b0e (.agg _ (b0e (b0w fun a _ => b2i a) (b0e (b0w fun a _ => b3g a) (b0e (b0w fun a _ => b3g a) b0z)))) b0z) (b0j _) ?_
 refine b2f (fun t h => t 0 = .agg [.fs 1 (List.map eI d.At), .fs 1 (List.map b0o d.People), .fs 1 (List.map b0o d.Walks)]) rfl fun t h s0 => ?_
 simp only [x_l06_farDay]
 refine b0d fun K hK => ?_
 simp only [go_sem, s0]
 refine hK _ _ ?_
 clear hK K
 refine b06 ?_
 refine b2e (fun t h => t 1 = .fp [.fs 1 (List.map eI d.At), .fs 1 (List.map b0o d.People), .fs 1 (List.map b0o d.Walks)] 0 ∧ t 20 = B (((decide (20 < (List.length d.At : Int))) || (decide (20 < (List.length d.People : Int)))) || (decide (20 < (List.length d.Walks : Int))))) (fun K hK => ?_) ?_
 ·simp only [go_sem]
  refine b0r (fun hg1 => ?_) (fun hg1 => ?_)
  ·simp only [go_sem, hg1]
   exact hK _ _ ⟨(by first | (simp only [go_sem, hg1, List.length_append, List.map_append]; done) | rfl), (by first | (simp only [go_sem, hg1, List.length_append, List.map_append]; done) | rfl)⟩
  ·simp only [go_sem, hg1]
   refine b0r (fun hg2 => ?_) (fun hg2 => ?_)
   ·simp only [go_sem, hg1, hg2]
    exact hK _ _ ⟨(by first | (simp only [go_sem, hg1, hg2, List.length_append, List.map_append]; done) | rfl), (by first | (simp only [go_sem, hg1, hg2, List.length_append, List.map_append]; done) | rfl)⟩
   ·simp only [go_sem, hg1, hg2]
    exact hK _ _ ⟨(by first | (simp only [go_sem, hg1, hg2, List.length_append, List.map_append]; done) | rfl), (by first | (simp only [go_sem, hg1, hg2, List.length_append, List.map_append]; done) | rfl)⟩
 ·rintro t h ⟨s1, s20⟩
  refine b0u fun K3 hK3 => ?_
  simp only [go_sem, s20]
  refine b0r (fun hc4 => ?_) (fun hc4 => ?_)
  ·rw [b04 hc4] at hm0
   refine b0d fun K hK => ?_
   simp only [go_sem]
   refine hK _ _ ?_
   clear hK K
   simp only [b1c, b1e, b1d, b1f]
   obtain rfl := Option.some.inj hm0
   exact b1s (by simp only [go_sem, List.length_append, List.map_append]) (b0j _)
  ·rw [b03 hc4] at hm0
   simp only [b02, b0h, b0i]
   refine hK3 _ _ ?_
   refine b06 ?_
   refine b0d fun K hK => ?_
   simp only [go_sem]
   refine hK _ _ ?_
   clear hK K
   refine b0u fun K5 hK5 => ?_
   have J6 : ∀ (t : Slots) (h : Heap), t 1 = .fp [.fs 1 (List.map eI d.At), .fs 1 (List.map b0o d.People), .fs 1 (List.map b0o d.Walks)] 0 → c6d d = some r → K5 t h := by
    intro t h s1 hm0
    refine hK5 _ _ ?_
    unfold c6d at hm0
    refine b06 ?_
    refine b0d fun K hK => ?_
    simp only [go_sem]
    refine hK _ _ ?_
    clear hK K
    refine b0u fun K7 hK7 => ?_
    have J8 : ∀ (t : Slots) (h : Heap), d1e = some r → K7 t h := by
     intro t h hm0
     refine hK7 _ _ ?_
     unfold d1e at hm0
     refine b0d fun K hK => ?_
     simp only [go_sem]
     refine hK _ _ ?_
     clear hK K
     simp only [b1c, b1e, b1d, b1f]
     obtain rfl := Option.some.inj hm0
     exact b1s (by simp only [go_sem, List.length_append, List.map_append]) (b0j _)
    simp only [b05]
    obtain ⟨b9, hl9, hm0⟩ := b0g hm0
    refine b10 hl9 (fun | i_4, t, h => t 1 = .fp [.fs 1 (List.map eI d.At), .fs 1 (List.map b0o d.People), .fs 1 (List.map b0o d.Walks)] 0 ∧ t 4 = I i_4) ?_ ?_
    ·exact ⟨s1, (by first | (simp only [go_sem, List.length_append, List.map_append]; done) | rfl)⟩
    ·rintro i_4 o t h ⟨s1, s4⟩ hm1 hb9
     simp only [c02] at hm1
     rw [g1j]
     refine b06 ?_
     refine b0d fun K hK => ?_
     simp only [go_sem, s1, s4]
     refine hK _ _ ?_
     clear hK K
     refine b0u fun K10 hK10 => ?_
     simp only [go_sem]
     refine b0r (fun hc11 => ?_) (fun hc11 => ?_)
     ·rw [b04 hc11] at hm1
      simp only [b02, b0h, b0i]
      refine hK10 _ _ ?_
      refine b0u fun K12 hK12 => ?_
      simp only [b05]
      obtain ⟨x14, h_x14, hm1⟩ := b0g hm1
      have h_x140 := b0x h_x14
      have h_x141 := b0y h_x14
      refine b0d fun K hK => ?_
      simp only [go_sem, s1, s4, b0l h_x14, b0m h_x14, h_x140, h_x141]
      refine hK _ _ ?_
      clear hK K
      simp only [go_sem]
      refine b0r (fun hc15 => ?_) (fun hc15 => ?_)
      ·rw [b04 hc15] at hm1
       refine b0d fun K hK => ?_
       simp only [go_sem]
       refine hK _ _ ?_
       clear hK K
       simp only [b1c, b1e, b1d, b1f]
       obtain rfl := Option.some.inj hm1
       obtain rfl := hb9 _ rfl
       try dsimp only at hm0
       obtain rfl := Option.some.inj hm0
       exact b1s (by simp only [go_sem, List.length_append, List.map_append]) (b0j _)
      ·rw [b03 hc15] at hm1
       simp only [b02, b0h, b0i]
       refine hK12 _ _ ?_
       refine b1n fun K hK => ?_
       simp only [go_sem, s4]
       refine hK _ _ ?_
       clear hK K
       simp only [b0h, b0i]
       obtain rfl := Option.some.inj hm1
       refine ⟨_, rfl, ?_⟩
       exact ⟨s1, (by first | (simp only [go_sem, s4, List.length_append, List.map_append]; done) | rfl)⟩
     ·rw [b03 hc11] at hm1
      simp only [b1w, b1z, b1y, b1x, b0h, b0i, Nat.reduceEqDiff, not_false_eq_true]
      obtain rfl := Option.some.inj hm1
      obtain rfl := hb9 _ rfl
      try dsimp only at hm0
      exact J8  _ _  hm0
   simp only [b05]
   obtain ⟨b17, hl17, hm0⟩ := b0g hm0
   refine b10 hl17 (fun | i_3, t, h => t 1 = .fp [.fs 1 (List.map eI d.At), .fs 1 (List.map b0o d.People), .fs 1 (List.map b0o d.Walks)] 0 ∧ t 3 = I i_3) ?_ ?_
   ·exact ⟨s1, (by first | (simp only [go_sem, List.length_append, List.map_append]; done) | rfl)⟩
   ·rintro i_3 o t h ⟨s1, s3⟩ hm1 hb17
    simp only [c03] at hm1
    rw [g1k]
    refine b06 ?_
    refine b0d fun K hK => ?_
    simp only [go_sem, s1, s3]
    refine hK _ _ ?_
    clear hK K
    refine b0u fun K18 hK18 => ?_
    simp only [go_sem]
    refine b0r (fun hc19 => ?_) (fun hc19 => ?_)
    ·rw [b04 hc19] at hm1
     simp only [b02, b0h, b0i]
     refine hK18 _ _ ?_
     refine b0u fun K20 hK20 => ?_
     simp only [b05]
     obtain ⟨x22, h_x22, hm1⟩ := b0g hm1
     have h_x220 := b0x h_x22
     have h_x221 := b0y h_x22
     refine b0d fun K hK => ?_
     simp only [go_sem, s1, s3, b0l h_x22, b0m h_x22, h_x220, h_x221]
     refine hK _ _ ?_
     clear hK K
     simp only [go_sem]
     refine b0r (fun hc23 => ?_) (fun hc23 => ?_)
     ·rw [b04 hc23] at hm1
      refine b0d fun K hK => ?_
      simp only [go_sem]
      refine hK _ _ ?_
      clear hK K
      simp only [b1c, b1e, b1d, b1f]
      obtain rfl := Option.some.inj hm1
      obtain rfl := hb17 _ rfl
      try dsimp only at hm0
      obtain rfl := Option.some.inj hm0
      exact b1s (by simp only [go_sem, List.length_append, List.map_append]) (b0j _)
     ·rw [b03 hc23] at hm1
      simp only [b02, b0h, b0i]
      refine hK20 _ _ ?_
      refine b1n fun K hK => ?_
      simp only [go_sem, s3]
      refine hK _ _ ?_
      clear hK K
      simp only [b0h, b0i]
      obtain rfl := Option.some.inj hm1
      refine ⟨_, rfl, ?_⟩
      exact ⟨s1, (by first | (simp only [go_sem, s3, List.length_append, List.map_append]; done) | rfl)⟩
    ·rw [b03 hc19] at hm1
     simp only [b1w, b1z, b1y, b1x, b0h, b0i, Nat.reduceEqDiff, not_false_eq_true]
     obtain rfl := Option.some.inj hm1
     obtain rfl := hb17 _ rfl
     try dsimp only at hm0
     exact J6  _ _ s1 hm0
theorem c3c (hf : Has O "newel/newellaw06.works" x_l06_works) (c6b : c7u O) (d0q : c7g O) (d0s : c7i O) : c7x O := by
 intro r hm0
 unfold b6z at hm0
 refine b2k hf rfl b0z (b0j _) ?_
 refine b2f (fun t h => True) trivial fun t h _ => ?_
 simp only [x_l06_works]
 refine b0d fun K hK => ?_
 simp only [go_sem]
 refine hK _ _ ?_
 clear hK K
 obtain ⟨y2, h_y2, hm0⟩ := b0g hm0
 refine b0d fun K hK => ?_
 simp only [go_sem]
 refine b1o (c6b ()) ?_
 simp only [go_sem]
 refine b1o (d0q l06_Example 0 5 _ h_y2) ?_
 simp only [go_sem]
 refine hK _ _ ?_
 clear hK K
 obtain ⟨y4, h_y4, hm0⟩ := b0g hm0
 refine b0d fun K hK => ?_
 simp only [go_sem]
 refine b1o (c6b ()) ?_
 simp only [go_sem]
 refine b1o (d0s l06_Example _ h_y4) ?_
 simp only [go_sem]
 refine hK _ _ ?_
 clear hK K
 obtain ⟨c8, h_c8, hm0⟩ := b0g hm0
 refine b2e (fun t h => t 0 = B c8) (fun K hK => ?_) ?_
 ·simp only [go_sem]
  refine b0r (fun hg9 => ?_) (fun hg9 => ?_)
  ·simp only [go_sem, hg9]
   refine b0r (fun hg10 => ?_) (fun hg10 => ?_)
   ·simp only [go_sem, hg9, hg10]
    refine b0r (fun hg11 => ?_) (fun hg11 => ?_)
    ·simp only [go_sem, hg9, hg10, hg11]
     refine b0r (fun hg12 => ?_) (fun hg12 => ?_)
     ·simp only [hg9, hg10, hg11, hg12, Bool.not_true, Bool.not_false, eq_self, if_true, if_false, Bool.true_or, Bool.or_true, Bool.false_or, Bool.or_false, Bool.true_and, Bool.and_true, Bool.false_and, Bool.and_false, Bool.false_eq_true] at h_c8
      obtain ⟨x7, h_x7, h_c8⟩ := b0g h_c8
      have h_x70 := b0x h_x7
      have h_x71 := b0y h_x7
      obtain rfl := Option.some.inj h_c8
      simp only [go_sem, b0l h_x7, b0m h_x7, h_x70, h_x71, hg9, hg10, hg11, hg12]
      exact hK _ _ (by first | (simp only [go_sem, hg9, hg10, hg11, hg12, List.length_append, List.map_append]; done) | rfl)
     ·simp only [hg9, hg10, hg11, hg12, Bool.not_true, Bool.not_false, eq_self, if_true, if_false, Bool.true_or, Bool.or_true, Bool.false_or, Bool.or_false, Bool.true_and, Bool.and_true, Bool.false_and, Bool.and_false, Bool.false_eq_true] at h_c8
      obtain rfl := Option.some.inj h_c8
      simp only [go_sem, hg9, hg10, hg11, hg12]
      exact hK _ _ (by first | (simp only [go_sem, hg9, hg10, hg11, hg12, List.length_append, List.map_append]; done) | rfl)
    ·simp only [hg9, hg10, hg11, Bool.not_true, Bool.not_false, eq_self, if_true, if_false, Bool.true_or, Bool.or_true, Bool.false_or, Bool.or_false, Bool.true_and, Bool.and_true, Bool.false_and, Bool.and_false, Bool.false_eq_true] at h_c8
     obtain rfl := Option.some.inj h_c8
     simp only [go_sem, hg9, hg10, hg11]
     exact hK _ _ (by first | (simp only [go_sem, hg9, hg10, hg11, List.length_append, List.map_append]; done) | rfl)
   ·simp only [hg9, hg10, Bool.not_true, Bool.not_false, eq_self, if_true, if_false, Bool.true_or, Bool.or_true, Bool.false_or, Bool.or_false, Bool.true_and, Bool.and_true, Bool.false_and, Bool.and_false, Bool.false_eq_true] at h_c8
    obtain rfl := Option.some.inj h_c8
    simp only [go_sem, hg9, hg10]
    exact hK _ _ (by first | (simp only [go_sem, hg9, hg10, List.length_append, List.map_append]; done) | rfl)
  ·simp only [hg9, Bool.not_true, Bool.not_false, eq_self, if_true, if_false, Bool.true_or, Bool.or_true, Bool.false_or, Bool.or_false, Bool.true_and, Bool.and_true, Bool.false_and, Bool.and_false, Bool.false_eq_true] at h_c8
   obtain rfl := Option.some.inj h_c8
   simp only [go_sem, hg9]
   exact hK _ _ (by first | (simp only [go_sem, hg9, List.length_append, List.map_append]; done) | rfl)
 ·rintro t h s0
  simp only [b1c, b1e, b1d, b1f]
  obtain rfl := Option.some.inj hm0
  exact b1s (by simp only [go_sem, s0, List.length_append, List.map_append]) (b0j _)
theorem d06 (hf : Has O "newel/newelref06.Check" x_r06_Check) (b4l : c4e O) (c0z : c71 O) : c7y O := by
 intro h_ r hm0
 unfold b5g at hm0
 refine b2k hf rfl (b0e (.agg _ (b0e (b0w fun a _ => b2l a) (b0e (b0w fun a _ => b2n a) (b0e (b0w fun a _ => b2p a) (b0e (b0j _) b0z))))) b0z) (b0j _) ?_
 refine b2f (fun t h => t 0 = .agg [.fs 5 (List.map b0n h_.Combs), .fs 3 (List.map b0k h_.Trains), .fs 3 (List.map b0s h_.Shifts), I h_.Until]) rfl fun t h s0 => ?_
 simp only [x_r06_Check]
 refine b0d fun K hK => ?_
 simp only [go_sem, s0]
 refine hK _ _ ?_
 clear hK K
 refine b06 ?_
 refine b2e (fun t h => t 1 = .fp [.fs 5 (List.map b0n h_.Combs), .fs 3 (List.map b0k h_.Trains), .fs 3 (List.map b0s h_.Shifts), I h_.Until] 0 ∧ t 34 = B ((((!(b2h h_.Until 1 100)) || (!(b2h (List.length h_.Combs : Int) 1 8))) || (decide (12 < (List.length h_.Trains : Int)))) || (decide (20 < (List.length h_.Shifts : Int))))) (fun K hK => ?_) ?_
 ·simp only [go_sem]
  refine b1o (b4l h_.Until 1 100) ?_
  simp only [go_sem]
  refine b0r (fun hg1 => ?_) (fun hg1 => ?_)
  ·simp only [go_sem, hg1]
   exact hK _ _ ⟨(by first | (simp only [go_sem, hg1, List.length_append, List.map_append]; done) | rfl), (by first | (simp only [go_sem, hg1, List.length_append, List.map_append]; done) | rfl)⟩
  ·simp only [go_sem, hg1]
   refine b1o (b4l (List.length h_.Combs : Int) 1 8) ?_
   simp only [go_sem, hg1]
   refine b0r (fun hg2 => ?_) (fun hg2 => ?_)
   ·simp only [go_sem, hg1, hg2]
    exact hK _ _ ⟨(by first | (simp only [go_sem, hg1, hg2, List.length_append, List.map_append]; done) | rfl), (by first | (simp only [go_sem, hg1, hg2, List.length_append, List.map_append]; done) | rfl)⟩
   ·simp only [go_sem, hg1, hg2]
    refine b0r (fun hg3 => ?_) (fun hg3 => ?_)
    ·simp only [go_sem, hg1, hg2, hg3]
     exact hK _ _ ⟨(by first | (simp only [go_sem, hg1, hg2, hg3, List.length_append, List.map_append]; done) | rfl), (by first | (simp only [go_sem, hg1, hg2, hg3, List.length_append, List.map_append]; done) | rfl)⟩
    ·simp only [go_sem, hg1, hg2, hg3]
     exact hK _ _ ⟨(by first | (simp only [go_sem, hg1, hg2, hg3, List.length_append, List.map_append]; done) | rfl), (by first | (simp only [go_sem, hg1, hg2, hg3, List.length_append, List.map_append]; done) | rfl)⟩
 ·rintro t h ⟨s1, s34⟩
  refine b0u fun K4 hK4 => ?_
  simp only [go_sem, s34]
  refine b0r (fun hc5 => ?_) (fun hc5 => ?_)
  ·rw [b04 hc5] at hm0
   refine b0d fun K hK => ?_
   simp only [go_sem]
   refine hK _ _ ?_
   clear hK K
   simp only [b1c, b1e, b1d, b1f]
   obtain rfl := Option.some.inj hm0
   exact b1s (by simp only [go_sem, List.length_append, List.map_append]) (b0j _)
  ·rw [b03 hc5] at hm0
   simp only [b02, b0h, b0i]
   refine hK4 _ _ ?_
   refine b0d fun K hK => ?_
   simp only [go_sem, s1]
   refine hK _ _ ?_
   clear hK K
   refine b06 ?_
   refine b0d fun K hK => ?_
   simp only [go_sem]
   refine hK _ _ ?_
   clear hK K
   refine b0u fun K6 hK6 => ?_
   have J7 : ∀ (t : Slots) (h : Heap), t 1 = .fp [.fs 5 (List.map b0n h_.Combs), .fs 3 (List.map b0k h_.Trains), .fs 3 (List.map b0s h_.Shifts), I h_.Until] 0 → t 3 = I (List.length h_.Combs : Int) → c6o h_ = some r → K6 t h := by
    intro t h s1 s3 hm0
    refine hK6 _ _ ?_
    unfold c6o at hm0
    refine b06 ?_
    refine b0d fun K hK => ?_
    simp only [go_sem]
    refine hK _ _ ?_
    clear hK K
    refine b0u fun K8 hK8 => ?_
    have J9 : ∀ (t : Slots) (h : Heap), t 1 = .fp [.fs 5 (List.map b0n h_.Combs), .fs 3 (List.map b0k h_.Trains), .fs 3 (List.map b0s h_.Shifts), I h_.Until] 0 → t 3 = I (List.length h_.Combs : Int) → c6p h_ = some r → K8 t h := by
     intro t h s1 s3 hm0
     refine hK8 _ _ ?_
     unfold c6p at hm0
     refine b06 ?_
     refine b0d fun K hK => ?_
     simp only [go_sem]
     refine hK _ _ ?_
     clear hK K
     refine b0u fun K10 hK10 => ?_
     have J11 : ∀ (t : Slots) (h : Heap), d12 = some r → K10 t h := by
      intro t h hm0
      refine hK10 _ _ ?_
      unfold d12 at hm0
      refine b0d fun K hK => ?_
      simp only [go_sem]
      refine hK _ _ ?_
      clear hK K
      simp only [b1c, b1e, b1d, b1f]
      obtain rfl := Option.some.inj hm0
      exact b1s (by simp only [go_sem, List.length_append, List.map_append]) (b0j _)
     simp only [b05]
     obtain ⟨b12, hl12, hm0⟩ := b0g hm0
     refine b10 hl12 (fun | i_10, t, h => t 1 = .fp [.fs 5 (List.map b0n h_.Combs), .fs 3 (List.map b0k h_.Trains), .fs 3 (List.map b0s h_.Shifts), I h_.Until] 0 ∧ t 3 = I (List.length h_.Combs : Int) ∧ t 10 = I i_10) ?_ ?_
     ·exact ⟨s1, s3, (by first | (simp only [go_sem, List.length_append, List.map_append]; done) | rfl)⟩
     ·rintro i_10 o t h ⟨s1, s3, s10⟩ hm1 hb12
      simp only [c09] at hm1
      rw [g1o]
      refine b06 ?_
      refine b0d fun K hK => ?_
      simp only [go_sem, s1, s10]
      refine hK _ _ ?_
      clear hK K
      refine b0u fun K13 hK13 => ?_
      simp only [go_sem]
      refine b0r (fun hc14 => ?_) (fun hc14 => ?_)
      ·rw [b04 hc14] at hm1
       simp only [b02, b0h, b0i]
       refine hK13 _ _ ?_
       refine b0u fun K15 hK15 => ?_
       simp only [b05]
       obtain ⟨x17, h_x17, hm1⟩ := b0g hm1
       have h_x170 := b0x h_x17
       have h_x171 := b0y h_x17
       refine b0d fun K hK => ?_
       simp only [go_sem, s1, s10, b0l h_x17, b0m h_x17, h_x170, h_x171]
       refine hK _ _ ?_
       clear hK K
       obtain ⟨c23, h_c23, hm1⟩ := b0g hm1
       refine b2e (fun t h => t 1 = .fp [.fs 5 (List.map b0n h_.Combs), .fs 3 (List.map b0k h_.Trains), .fs 3 (List.map b0s h_.Shifts), I h_.Until] 0 ∧ t 3 = I (List.length h_.Combs : Int) ∧ t 10 = I i_10 ∧ t 187 = B c23) (fun K hK => ?_) ?_
       ·simp only [go_sem, s1, s3, s10]
        refine b1o (b4l x17.At 0 (wr (h_.Until - 1))) ?_
        simp only [go_sem, s1, s3, s10]
        refine b0r (fun hg24 => ?_) (fun hg24 => ?_)
        ·simp only [hg24, Bool.not_true, Bool.not_false, eq_self, if_true, if_false, Bool.true_or, Bool.or_true, Bool.false_or, Bool.or_false, Bool.true_and, Bool.and_true, Bool.false_and, Bool.and_false, Bool.false_eq_true] at h_c23
         obtain rfl := Option.some.inj h_c23
         simp only [go_sem, s1, s3, s10, hg24]
         exact hK _ _ ⟨s1, s3, s10, (by first | (simp only [go_sem, hg24, List.length_append, List.map_append]; done) | rfl)⟩
        ·simp only [go_sem, s1, s3, s10, hg24]
         refine b1o (b4l x17.Comb 0 (wr ((List.length h_.Combs : Int) - 1))) ?_
         simp only [go_sem, s1, s3, s10, hg24]
         refine b0r (fun hg25 => ?_) (fun hg25 => ?_)
         ·simp only [hg24, hg25, Bool.not_true, Bool.not_false, eq_self, if_true, if_false, Bool.true_or, Bool.or_true, Bool.false_or, Bool.or_false, Bool.true_and, Bool.and_true, Bool.false_and, Bool.and_false, Bool.false_eq_true] at h_c23
          obtain rfl := Option.some.inj h_c23
          simp only [go_sem, s1, s3, s10, hg24, hg25]
          exact hK _ _ ⟨s1, s3, s10, (by first | (simp only [go_sem, hg24, hg25, List.length_append, List.map_append]; done) | rfl)⟩
         ·simp only [go_sem, s1, s3, s10, hg24, hg25]
          refine b1o (b4l x17.Rate 0 1000) ?_
          simp only [go_sem, s1, s3, s10, hg24, hg25]
          refine b0r (fun hg26 => ?_) (fun hg26 => ?_)
          ·simp only [hg24, hg25, hg26, Bool.not_true, Bool.not_false, eq_self, if_true, if_false, Bool.true_or, Bool.or_true, Bool.false_or, Bool.or_false, Bool.true_and, Bool.and_true, Bool.false_and, Bool.and_false, Bool.false_eq_true] at h_c23
           obtain rfl := Option.some.inj h_c23
           simp only [go_sem, s1, s3, s10, hg24, hg25, hg26]
           exact hK _ _ ⟨s1, s3, s10, (by first | (simp only [go_sem, hg24, hg25, hg26, List.length_append, List.map_append]; done) | rfl)⟩
          ·simp only [hg24, hg25, hg26, Bool.not_true, Bool.not_false, eq_self, if_true, if_false, Bool.true_or, Bool.or_true, Bool.false_or, Bool.or_false, Bool.true_and, Bool.and_true, Bool.false_and, Bool.and_false, Bool.false_eq_true] at h_c23
           obtain ⟨c22, h_c22, h_c23⟩ := b0g h_c23
           obtain rfl := Option.some.inj h_c23
           simp only [go_sem, s1, s3, s10, hg24, hg25, hg26]
           refine b0r (fun hg27 => ?_) (fun hg27 => ?_)
           ·simp only [hg24, hg25, hg26, hg27, Bool.not_true, Bool.not_false, eq_self, if_true, if_false, Bool.true_or, Bool.or_true, Bool.false_or, Bool.or_false, Bool.true_and, Bool.and_true, Bool.false_and, Bool.and_false, Bool.false_eq_true] at h_c22
            obtain ⟨x21, h_x21, h_c22⟩ := b0g h_c22
            have h_x210 := b0x h_x21
            have h_x211 := b0y h_x21
            obtain rfl := Option.some.inj h_c22
            simp only [go_sem, s1, s3, s10, b0l h_x21, b0m h_x21, h_x210, h_x211, hg24, hg25, hg26, hg27]
            exact hK _ _ ⟨s1, s3, s10, (by first | (simp only [go_sem, hg24, hg25, hg26, hg27, List.length_append, List.map_append]; done) | rfl)⟩
           ·simp only [hg24, hg25, hg26, hg27, Bool.not_true, Bool.not_false, eq_self, if_true, if_false, Bool.true_or, Bool.or_true, Bool.false_or, Bool.or_false, Bool.true_and, Bool.and_true, Bool.false_and, Bool.and_false, Bool.false_eq_true] at h_c22
            obtain rfl := Option.some.inj h_c22
            simp only [go_sem, s1, s3, s10, hg24, hg25, hg26, hg27]
            exact hK _ _ ⟨s1, s3, s10, (by first | (simp only [go_sem, hg24, hg25, hg26, hg27, List.length_append, List.map_append]; done) | rfl)⟩
       ·rintro t h ⟨s1, s3, s10, s187⟩
        simp only [go_sem, s187]
        refine b0r (fun hc28 => ?_) (fun hc28 => ?_)
        ·rw [b04 hc28] at hm1
         refine b0d fun K hK => ?_
         simp only [go_sem]
         refine hK _ _ ?_
         clear hK K
         simp only [b1c, b1e, b1d, b1f]
         obtain rfl := Option.some.inj hm1
         obtain rfl := hb12 _ rfl
         try dsimp only at hm0
         obtain rfl := Option.some.inj hm0
         exact b1s (by simp only [go_sem, List.length_append, List.map_append]) (b0j _)
        ·rw [b03 hc28] at hm1
         simp only [b02, b0h, b0i]
         refine hK15 _ _ ?_
         refine b1n fun K hK => ?_
         simp only [go_sem, s10]
         refine hK _ _ ?_
         clear hK K
         simp only [b0h, b0i]
         obtain rfl := Option.some.inj hm1
         refine ⟨_, rfl, ?_⟩
         exact ⟨s1, s3, (by first | (simp only [go_sem, s10, List.length_append, List.map_append]; done) | rfl)⟩
      ·rw [b03 hc14] at hm1
       simp only [b1w, b1z, b1y, b1x, b0h, b0i, Nat.reduceEqDiff, not_false_eq_true]
       obtain rfl := Option.some.inj hm1
       obtain rfl := hb12 _ rfl
       try dsimp only at hm0
       exact J11  _ _  hm0
    simp only [b05]
    obtain ⟨b30, hl30, hm0⟩ := b0g hm0
    refine b10 hl30 (fun | i_6, t, h => t 1 = .fp [.fs 5 (List.map b0n h_.Combs), .fs 3 (List.map b0k h_.Trains), .fs 3 (List.map b0s h_.Shifts), I h_.Until] 0 ∧ t 3 = I (List.length h_.Combs : Int) ∧ t 6 = I i_6) ?_ ?_
    ·exact ⟨s1, s3, (by first | (simp only [go_sem, List.length_append, List.map_append]; done) | rfl)⟩
    ·rintro i_6 o t h ⟨s1, s3, s6⟩ hm1 hb30
     simp only [c08] at hm1
     rw [g1n]
     refine b06 ?_
     refine b0d fun K hK => ?_
     simp only [go_sem, s1, s6]
     refine hK _ _ ?_
     clear hK K
     refine b0u fun K31 hK31 => ?_
     simp only [go_sem]
     refine b0r (fun hc32 => ?_) (fun hc32 => ?_)
     ·rw [b04 hc32] at hm1
      simp only [b02, b0h, b0i]
      refine hK31 _ _ ?_
      refine b0u fun K33 hK33 => ?_
      have J34 : ∀ (t : Slots) (h : Heap), t 1 = .fp [.fs 5 (List.map b0n h_.Combs), .fs 3 (List.map b0k h_.Trains), .fs 3 (List.map b0s h_.Shifts), I h_.Until] 0 → t 3 = I (List.length h_.Combs : Int) → t 6 = I i_6 → c6n i_6 = some o → K33 t h := by
       intro t h s1 s3 s6 hm1
       refine hK33 _ _ ?_
       unfold c6n at hm1
       refine b1n fun K hK => ?_
       simp only [go_sem, s6]
       refine hK _ _ ?_
       clear hK K
       simp only [b0h, b0i]
       obtain rfl := Option.some.inj hm1
       refine ⟨_, rfl, ?_⟩
       exact ⟨s1, s3, (by first | (simp only [go_sem, s6, List.length_append, List.map_append]; done) | rfl)⟩
      simp only [b05]
      obtain ⟨x36, h_x36, hm1⟩ := b0g hm1
      have h_x360 := b0x h_x36
      have h_x361 := b0y h_x36
      refine b0d fun K hK => ?_
      simp only [go_sem, s1, s6, b0l h_x36, b0m h_x36, h_x360, h_x361]
      refine hK _ _ ?_
      clear hK K
      refine b06 ?_
      refine b2e (fun t h => ∃ i7 : Nat, t 1 = .fp [.fs 5 (List.map b0n h_.Combs), .fs 3 (List.map b0k h_.Trains), .fs 3 (List.map b0s h_.Shifts), I h_.Until] 0 ∧ t 3 = I (List.length h_.Combs : Int) ∧ t 6 = I i_6 ∧ t 7 = .rp i7 0 0 ∧ t 103 = B ((!(b4m x36.At 0 (wr (h_.Until - 1)))) || (decide (4 < (List.length x36.Crowds : Int)))) ∧ h.ob i7 = some (3, [[I x36.At.Low, I x36.At.High, .fs 3 (List.map b2j x36.Crowds)]]) ∧ i7 < h.nx) (fun K hK => ?_) ?_
      ·simp only [go_sem, s1]
       refine b1o (c0z x36.At 0 (wr (h_.Until - 1))) ?_
       simp only [go_sem, s1]
       refine b0r (fun hg37 => ?_) (fun hg37 => ?_)
       ·simp only [go_sem, s1, hg37]
        exact hK _ _ ⟨h.nx, s1, s3, s6, (by first | (simp only [go_sem, hg37, List.length_append, List.map_append]; done) | rfl), (by first | (simp only [go_sem, hg37, List.length_append, List.map_append]; done) | rfl), (by simp only [go_sem, hg37, List.length_append, List.map_append]), (by simp only [go_sem])⟩
       ·simp only [go_sem, s1, hg37]
        exact hK _ _ ⟨h.nx, s1, s3, s6, (by first | (simp only [go_sem, hg37, List.length_append, List.map_append]; done) | rfl), (by first | (simp only [go_sem, hg37, List.length_append, List.map_append]; done) | rfl), (by simp only [go_sem, hg37, List.length_append, List.map_append]), (by simp only [go_sem])⟩
      ·rintro t h ⟨i7, s1, s3, s6, s7, s103, q1, q0⟩
       refine b0u fun K38 hK38 => ?_
       simp only [go_sem, s103]
       refine b0r (fun hc39 => ?_) (fun hc39 => ?_)
       ·rw [b04 hc39] at hm1
        refine b0d fun K hK => ?_
        simp only [go_sem, q0]
        refine hK _ _ ?_
        clear hK K
        simp only [b1c, b1e, b1d, b1f]
        obtain rfl := Option.some.inj hm1
        obtain rfl := hb30 _ rfl
        try dsimp only at hm0
        obtain rfl := Option.some.inj hm0
        exact b1s (by simp only [go_sem, q1, q0, List.length_append, List.map_append]) (b0j _)
       ·rw [b03 hc39] at hm1
        simp only [b02, b0h, b0i]
        refine hK38 _ _ ?_
        refine b0d fun K hK => ?_
        simp only [go_sem, q0]
        refine hK _ _ ?_
        clear hK K
        refine b0d fun K hK => ?_
        simp only [go_sem, q0]
        refine hK _ _ ?_
        clear hK K
        simp only [b05]
        obtain ⟨b40, hl40, hm1⟩ := b0g hm1
        refine b10 hl40 (fun | (last_8, k_9), t, h => t 1 = .fp [.fs 5 (List.map b0n h_.Combs), .fs 3 (List.map b0k h_.Trains), .fs 3 (List.map b0s h_.Shifts), I h_.Until] 0 ∧ t 3 = I (List.length h_.Combs : Int) ∧ t 6 = I i_6 ∧ t 7 = .rp i7 0 0 ∧ t 8 = I last_8 ∧ t 9 = I k_9 ∧ h.ob i7 = some (3, [[I x36.At.Low, I x36.At.High, .fs 3 (List.map b2j x36.Crowds)]]) ∧ i7 < h.nx) ?_ ?_
        ·exact ⟨s1, s3, s6, s7, (by first | (simp only [go_sem, List.length_append, List.map_append]; done) | rfl), (by first | (simp only [go_sem, List.length_append, List.map_append]; done) | rfl), q1, q0⟩
        ·rintro ⟨last_8, k_9⟩ o t h ⟨s1, s3, s6, s7, s8, s9, q1, q0⟩ hm2 hb40
         simp only [b79] at hm2
         rw [g1m]
         refine b06 ?_
         refine b0d fun K hK => ?_
         simp only [go_sem, s7, s9, q1, q0]
         refine hK _ _ ?_
         clear hK K
         refine b0u fun K41 hK41 => ?_
         simp only [go_sem]
         refine b0r (fun hc42 => ?_) (fun hc42 => ?_)
         ·rw [b04 hc42] at hm2
          simp only [b02, b0h, b0i]
          refine hK41 _ _ ?_
          refine b0u fun K43 hK43 => ?_
          simp only [b05]
          refine b06 ?_
          obtain ⟨x45, h_x45, hm2⟩ := b0g hm2
          have h_x450 := b0x h_x45
          have h_x451 := b0y h_x45
          refine b2e (fun t h => t 1 = .fp [.fs 5 (List.map b0n h_.Combs), .fs 3 (List.map b0k h_.Trains), .fs 3 (List.map b0s h_.Shifts), I h_.Until] 0 ∧ t 3 = I (List.length h_.Combs : Int) ∧ t 6 = I i_6 ∧ t 7 = .rp i7 0 0 ∧ t 9 = I k_9 ∧ t 132 = B ((!(b2h x45.Comb (wr (last_8 + 1)) (wr ((List.length h_.Combs : Int) - 1)))) || (!(b4m x45.People 0 1000))) ∧ h.ob i7 = some (3, [[I x36.At.Low, I x36.At.High, .fs 3 (List.map b2j x36.Crowds)]]) ∧ i7 < h.nx) (fun K hK => ?_) ?_
          ·simp only [go_sem, s3, s7, s8, s9, q1, q0, b0l h_x45, b0m h_x45, h_x450, h_x451]
           refine b1o (b4l x45.Comb (wr (last_8 + 1)) (wr ((List.length h_.Combs : Int) - 1))) ?_
           simp only [go_sem, s3, s7, s8, s9, q1, q0, b0l h_x45, b0m h_x45, h_x450, h_x451]
           refine b0r (fun hg46 => ?_) (fun hg46 => ?_)
           ·simp only [go_sem, s3, s7, s8, s9, q1, q0, b0l h_x45, b0m h_x45, h_x450, h_x451, hg46]
            exact hK _ _ ⟨s1, s3, s6, s7, s9, (by first | (simp only [go_sem, hg46, List.length_append, List.map_append]; done) | rfl), q1, q0⟩
           ·simp only [go_sem, s3, s7, s8, s9, q1, q0, b0l h_x45, b0m h_x45, h_x450, h_x451, hg46]
            refine b1o (c0z x45.People 0 1000) ?_
            simp only [go_sem, s3, s7, s8, s9, q1, q0, b0l h_x45, b0m h_x45, h_x450, h_x451, hg46]
            exact hK _ _ ⟨s1, s3, s6, s7, s9, (by first | (simp only [go_sem, hg46, List.length_append, List.map_append]; done) | rfl), q1, q0⟩
          ·rintro t h ⟨s1, s3, s6, s7, s9, s132, q1, q0⟩
           refine b0u fun K47 hK47 => ?_
           simp only [go_sem, s132]
           refine b0r (fun hc48 => ?_) (fun hc48 => ?_)
           ·rw [b04 hc48] at hm2
            refine b0d fun K hK => ?_
            simp only [go_sem, q0]
            refine hK _ _ ?_
            clear hK K
            simp only [b1c, b1e, b1d, b1f]
            obtain rfl := Option.some.inj hm2
            obtain rfl := hb40 _ rfl
            try dsimp only at hm1
            obtain rfl := Option.some.inj hm1
            obtain rfl := hb30 _ rfl
            try dsimp only at hm0
            obtain rfl := Option.some.inj hm0
            exact b1s (by simp only [go_sem, q1, q0, List.length_append, List.map_append]) (b0j _)
           ·rw [b03 hc48] at hm2
            simp only [b02, b0h, b0i]
            refine hK47 _ _ ?_
            refine b1n fun K hK => ?_
            simp only [go_sem, s7, s9, q1, q0, b0l h_x45, b0m h_x45, h_x450, h_x451]
            refine hK _ _ ?_
            clear hK K
            simp only [b0h, b0i]
            refine hK43 _ _ ?_
            refine b1n fun K hK => ?_
            simp only [go_sem, s9, q0]
            refine hK _ _ ?_
            clear hK K
            simp only [b0h, b0i]
            obtain rfl := Option.some.inj hm2
            refine ⟨_, rfl, ?_⟩
            exact ⟨s1, s3, s6, s7, (by first | (simp only [go_sem, List.length_append, List.map_append]; done) | rfl), (by first | (simp only [go_sem, s9, List.length_append, List.map_append]; done) | rfl), q1, q0⟩
         ·rw [b03 hc42] at hm2
          simp only [b1w, b1z, b1y, b1x, b0h, b0i, Nat.reduceEqDiff, not_false_eq_true]
          obtain rfl := Option.some.inj hm2
          obtain rfl := hb40 _ rfl
          try dsimp only at hm1
          exact J34  _ _ s1 s3 s6 hm1
     ·rw [b03 hc32] at hm1
      simp only [b1w, b1z, b1y, b1x, b0h, b0i, Nat.reduceEqDiff, not_false_eq_true]
      obtain rfl := Option.some.inj hm1
      obtain rfl := hb30 _ rfl
      try dsimp only at hm0
      exact J9  _ _ s1 s3 hm0
   simp only [b05]
   obtain ⟨b51, hl51, hm0⟩ := b0g hm0
   refine b10 hl51 (fun | i_4, t, h => t 1 = .fp [.fs 5 (List.map b0n h_.Combs), .fs 3 (List.map b0k h_.Trains), .fs 3 (List.map b0s h_.Shifts), I h_.Until] 0 ∧ t 3 = I (List.length h_.Combs : Int) ∧ t 4 = I i_4) ?_ ?_
   ·exact ⟨s1, (by first | (simp only [go_sem, List.length_append, List.map_append]; done) | rfl), (by first | (simp only [go_sem, List.length_append, List.map_append]; done) | rfl)⟩
   ·rintro i_4 o t h ⟨s1, s3, s4⟩ hm1 hb51
    simp only [c07] at hm1
    rw [g1l]
    refine b06 ?_
    refine b0d fun K hK => ?_
    simp only [go_sem, s3, s4]
    refine hK _ _ ?_
    clear hK K
    refine b0u fun K52 hK52 => ?_
    simp only [go_sem]
    refine b0r (fun hc53 => ?_) (fun hc53 => ?_)
    ·rw [b04 hc53] at hm1
     simp only [b02, b0h, b0i]
     refine hK52 _ _ ?_
     refine b0u fun K54 hK54 => ?_
     simp only [b05]
     obtain ⟨x56, h_x56, hm1⟩ := b0g hm1
     have h_x560 := b0x h_x56
     have h_x561 := b0y h_x56
     refine b0d fun K hK => ?_
     simp only [go_sem, s1, s4, b0l h_x56, b0m h_x56, h_x560, h_x561]
     refine hK _ _ ?_
     clear hK K
     refine b2e (fun t h => t 1 = .fp [.fs 5 (List.map b0n h_.Combs), .fs 3 (List.map b0k h_.Trains), .fs 3 (List.map b0s h_.Shifts), I h_.Until] 0 ∧ t 3 = I (List.length h_.Combs : Int) ∧ t 4 = I i_4 ∧ t 78 = B ((((!(b2h x56.Rate 0 1000)) || (!(b2h x56.Limit 0 100000))) || ((decide (¬x56.Next = (-1))) && (!(b2h x56.Next (wr (i_4 + 1)) (wr ((List.length h_.Combs : Int) - 1)))))) || (!(b4m x56.Walk 1 20)))) (fun K hK => ?_) ?_
     ·simp only [go_sem, s3, s4]
      refine b1o (b4l x56.Rate 0 1000) ?_
      simp only [go_sem, s3, s4]
      refine b0r (fun hg57 => ?_) (fun hg57 => ?_)
      ·simp only [go_sem, s3, s4, hg57]
       exact hK _ _ ⟨s1, s3, s4, (by first | (simp only [go_sem, hg57, List.length_append, List.map_append]; done) | rfl)⟩
      ·simp only [go_sem, s3, s4, hg57]
       refine b1o (b4l x56.Limit 0 100000) ?_
       simp only [go_sem, s3, s4, hg57]
       refine b0r (fun hg58 => ?_) (fun hg58 => ?_)
       ·simp only [go_sem, s3, s4, hg57, hg58]
        exact hK _ _ ⟨s1, s3, s4, (by first | (simp only [go_sem, hg57, hg58, List.length_append, List.map_append]; done) | rfl)⟩
       ·simp only [go_sem, s3, s4, hg57, hg58]
        refine b0r (fun hg59 => ?_) (fun hg59 => ?_)
        ·simp only [go_sem, s3, s4, hg57, hg58, hg59]
         refine b1o (b4l x56.Next (wr (i_4 + 1)) (wr ((List.length h_.Combs : Int) - 1))) ?_
         simp only [go_sem, s3, s4, hg57, hg58, hg59]
         refine b0r (fun hg60 => ?_) (fun hg60 => ?_)
         ·simp only [go_sem, s3, s4, hg57, hg58, hg59, hg60]
          exact hK _ _ ⟨s1, s3, s4, (by first | (simp only [go_sem, hg57, hg58, hg59, hg60, List.length_append, List.map_append]; done) | rfl)⟩
         ·simp only [go_sem, s3, s4, hg57, hg58, hg59, hg60]
          refine b1o (c0z x56.Walk 1 20) ?_
          simp only [go_sem, s3, s4, hg57, hg58, hg59, hg60]
          exact hK _ _ ⟨s1, s3, s4, (by first | (simp only [go_sem, hg57, hg58, hg59, hg60, List.length_append, List.map_append]; done) | rfl)⟩
        ·simp only [go_sem, s3, s4, hg57, hg58, hg59]
         refine b1o (c0z x56.Walk 1 20) ?_
         simp only [go_sem, s3, s4, hg57, hg58, hg59]
         exact hK _ _ ⟨s1, s3, s4, (by first | (simp only [go_sem, hg57, hg58, hg59, List.length_append, List.map_append]; done) | rfl)⟩
     ·rintro t h ⟨s1, s3, s4, s78⟩
      simp only [go_sem, s78]
      refine b0r (fun hc61 => ?_) (fun hc61 => ?_)
      ·rw [b04 hc61] at hm1
       refine b0d fun K hK => ?_
       simp only [go_sem]
       refine hK _ _ ?_
       clear hK K
       simp only [b1c, b1e, b1d, b1f]
       obtain rfl := Option.some.inj hm1
       obtain rfl := hb51 _ rfl
       try dsimp only at hm0
       obtain rfl := Option.some.inj hm0
       exact b1s (by simp only [go_sem, List.length_append, List.map_append]) (b0j _)
      ·rw [b03 hc61] at hm1
       simp only [b02, b0h, b0i]
       refine hK54 _ _ ?_
       refine b1n fun K hK => ?_
       simp only [go_sem, s4]
       refine hK _ _ ?_
       clear hK K
       simp only [b0h, b0i]
       obtain rfl := Option.some.inj hm1
       refine ⟨_, rfl, ?_⟩
       exact ⟨s1, s3, (by first | (simp only [go_sem, s4, List.length_append, List.map_append]; done) | rfl)⟩
    ·rw [b03 hc53] at hm1
     simp only [b1w, b1z, b1y, b1x, b0h, b0i, Nat.reduceEqDiff, not_false_eq_true]
     obtain rfl := Option.some.inj hm1
     obtain rfl := hb51 _ rfl
     try dsimp only at hm0
     exact J7  _ _ s1 s3 hm0
theorem d07 (hf : Has O "newel/newelref06.First" x_r06_First) : c7z O := by
 intro h_ c r hm0
 unfold c1a at hm0
 refine b2k hf rfl (b0e (.agg _ (b0e (b0w fun a _ => b2l a) (b0e (b0w fun a _ => b2n a) (b0e (b0w fun a _ => b2p a) (b0e (b0j _) b0z))))) (b0e (b0j _) b0z)) (b0j _) ?_
 refine b2f (fun t h => t 0 = .agg [.fs 5 (List.map b0n h_.Combs), .fs 3 (List.map b0k h_.Trains), .fs 3 (List.map b0s h_.Shifts), I h_.Until] ∧ t 1 = I c) ⟨rfl, rfl⟩ fun t h ⟨s0, s1⟩ => ?_
 simp only [x_r06_First]
 refine b0d fun K hK => ?_
 simp only [go_sem, s0]
 refine hK _ _ ?_
 clear hK K
 refine b06 ?_
 refine b0d fun K hK => ?_
 simp only [go_sem]
 refine hK _ _ ?_
 clear hK K
 refine b0u fun K1 hK1 => ?_
 have J2 : ∀ (t : Slots) (h : Heap), d13 = some r → K1 t h := by
  intro t h hm0
  refine hK1 _ _ ?_
  unfold d13 at hm0
  refine b0d fun K hK => ?_
  simp only [go_sem]
  refine hK _ _ ?_
  clear hK K
  simp only [b1c, b1e, b1d, b1f]
  obtain rfl := Option.some.inj hm0
  exact b1s (by simp only [go_sem, List.length_append, List.map_append]) (b0j _)
 simp only [b05]
 obtain ⟨b3, hl3, hm0⟩ := b0g hm0
 refine b10 hl3 (fun | u_5, t, h => t 1 = I c ∧ t 2 = .fp [.fs 5 (List.map b0n h_.Combs), .fs 3 (List.map b0k h_.Trains), .fs 3 (List.map b0s h_.Shifts), I h_.Until] 0 ∧ t 5 = I u_5) ?_ ?_
 ·exact ⟨s1, (by first | (simp only [go_sem, List.length_append, List.map_append]; done) | rfl), (by first | (simp only [go_sem, List.length_append, List.map_append]; done) | rfl)⟩
 ·rintro u_5 o t h ⟨s1, s2, s5⟩ hm1 hb3
  simp only [c1b] at hm1
  rw [g1p]
  refine b06 ?_
  refine b0d fun K hK => ?_
  simp only [go_sem, s2, s5]
  refine hK _ _ ?_
  clear hK K
  refine b0u fun K4 hK4 => ?_
  simp only [go_sem]
  refine b0r (fun hc5 => ?_) (fun hc5 => ?_)
  ·rw [b04 hc5] at hm1
   simp only [b02, b0h, b0i]
   refine hK4 _ _ ?_
   refine b0u fun K6 hK6 => ?_
   simp only [b05]
   obtain ⟨x8, h_x8, hm1⟩ := b0g hm1
   have h_x80 := b0x h_x8
   have h_x81 := b0y h_x8
   refine b0d fun K hK => ?_
   simp only [go_sem, s1, s2, s5, b0l h_x8, b0m h_x8, h_x80, h_x81]
   refine hK _ _ ?_
   clear hK K
   simp only [go_sem]
   refine b0r (fun hc9 => ?_) (fun hc9 => ?_)
   ·rw [b04 hc9] at hm1
    refine b0d fun K hK => ?_
    simp only [go_sem]
    refine hK _ _ ?_
    clear hK K
    simp only [b1c, b1e, b1d, b1f]
    obtain rfl := Option.some.inj hm1
    obtain rfl := hb3 _ rfl
    try dsimp only at hm0
    obtain rfl := Option.some.inj hm0
    exact b1s (by simp only [go_sem, List.length_append, List.map_append]) (b0j _)
   ·rw [b03 hc9] at hm1
    simp only [b02, b0h, b0i]
    refine hK6 _ _ ?_
    refine b1n fun K hK => ?_
    simp only [go_sem, s5]
    refine hK _ _ ?_
    clear hK K
    simp only [b0h, b0i]
    obtain rfl := Option.some.inj hm1
    refine ⟨_, rfl, ?_⟩
    exact ⟨s1, s2, (by first | (simp only [go_sem, s5, List.length_append, List.map_append]; done) | rfl)⟩
  ·rw [b03 hc5] at hm1
   simp only [b1w, b1z, b1y, b1x, b0h, b0i, Nat.reduceEqDiff, not_false_eq_true]
   obtain rfl := Option.some.inj hm1
   obtain rfl := hb3 _ rfl
   try dsimp only at hm0
   exact J2  _ _  hm0
theorem d08 (hf : Has O "newel/newelref06.Fits" x_r06_Fits) (b4l : c4e O) : c70 O := by
 intro h_ d r hm0
 unfold c1c at hm0
 refine b2k hf rfl (b0e (.agg _ (b0e (b0w fun a _ => b2l a) (b0e (b0w fun a _ => b2n a) (b0e (b0w fun a _ => b2p a) (b0e (b0j _) b0z))))) (b0e (.agg _ (b0e (b0w fun a _ => b2i a) (b0e (b0w fun a _ => b3g a) (b0e (b0w fun a _ => b3g a) b0z)))) b0z)) (b0j _) ?_
 refine b2f (fun t h => t 0 = .agg [.fs 5 (List.map b0n h_.Combs), .fs 3 (List.map b0k h_.Trains), .fs 3 (List.map b0s h_.Shifts), I h_.Until] ∧ t 1 = .agg [.fs 1 (List.map eI d.At), .fs 1 (List.map b0o d.People), .fs 1 (List.map b0o d.Walks)]) ⟨rfl, rfl⟩ fun t h ⟨s0, s1⟩ => ?_
 simp only [x_r06_Fits]
 refine b0d fun K hK => ?_
 simp only [go_sem, s0, s1]
 refine hK _ _ ?_
 clear hK K
 refine b06 ?_
 refine b2e (fun t h => t 2 = .fp [.fs 5 (List.map b0n h_.Combs), .fs 3 (List.map b0k h_.Trains), .fs 3 (List.map b0s h_.Shifts), I h_.Until] 0 ∧ t 3 = .fp [.fs 1 (List.map eI d.At), .fs 1 (List.map b0o d.People), .fs 1 (List.map b0o d.Walks)] 0 ∧ t 34 = B (((decide (¬(List.length d.At : Int) = (List.length h_.Trains : Int))) || (decide (¬(List.length d.People : Int) = (List.length h_.Trains : Int)))) || (decide (¬(List.length d.Walks : Int) = (List.length h_.Combs : Int))))) (fun K hK => ?_) ?_
 ·simp only [go_sem]
  refine b0r (fun hg1 => ?_) (fun hg1 => ?_)
  ·simp only [go_sem, hg1]
   exact hK _ _ ⟨(by first | (simp only [go_sem, hg1, List.length_append, List.map_append]; done) | rfl), (by first | (simp only [go_sem, hg1, List.length_append, List.map_append]; done) | rfl), (by first | (simp only [go_sem, hg1, List.length_append, List.map_append]; done) | rfl)⟩
  ·simp only [go_sem, hg1]
   refine b0r (fun hg2 => ?_) (fun hg2 => ?_)
   ·simp only [go_sem, hg1, hg2]
    exact hK _ _ ⟨(by first | (simp only [go_sem, hg1, hg2, List.length_append, List.map_append]; done) | rfl), (by first | (simp only [go_sem, hg1, hg2, List.length_append, List.map_append]; done) | rfl), (by first | (simp only [go_sem, hg1, hg2, List.length_append, List.map_append]; done) | rfl)⟩
   ·simp only [go_sem, hg1, hg2]
    exact hK _ _ ⟨(by first | (simp only [go_sem, hg1, hg2, List.length_append, List.map_append]; done) | rfl), (by first | (simp only [go_sem, hg1, hg2, List.length_append, List.map_append]; done) | rfl), (by first | (simp only [go_sem, hg1, hg2, List.length_append, List.map_append]; done) | rfl)⟩
 ·rintro t h ⟨s2, s3, s34⟩
  refine b0u fun K3 hK3 => ?_
  simp only [go_sem, s34]
  refine b0r (fun hc4 => ?_) (fun hc4 => ?_)
  ·rw [b04 hc4] at hm0
   refine b0d fun K hK => ?_
   simp only [go_sem]
   refine hK _ _ ?_
   clear hK K
   simp only [b1c, b1e, b1d, b1f]
   obtain rfl := Option.some.inj hm0
   exact b1s (by simp only [go_sem, List.length_append, List.map_append]) (b0j _)
  ·rw [b03 hc4] at hm0
   simp only [b02, b0h, b0i]
   refine hK3 _ _ ?_
   refine b06 ?_
   refine b0d fun K hK => ?_
   simp only [go_sem]
   refine hK _ _ ?_
   clear hK K
   refine b0u fun K5 hK5 => ?_
   have J6 : ∀ (t : Slots) (h : Heap), t 2 = .fp [.fs 5 (List.map b0n h_.Combs), .fs 3 (List.map b0k h_.Trains), .fs 3 (List.map b0s h_.Shifts), I h_.Until] 0 → t 3 = .fp [.fs 1 (List.map eI d.At), .fs 1 (List.map b0o d.People), .fs 1 (List.map b0o d.Walks)] 0 → c6s h_ d = some r → K5 t h := by
    intro t h s2 s3 hm0
    refine hK5 _ _ ?_
    unfold c6s at hm0
    refine b06 ?_
    refine b0d fun K hK => ?_
    simp only [go_sem]
    refine hK _ _ ?_
    clear hK K
    refine b0u fun K7 hK7 => ?_
    have J8 : ∀ (t : Slots) (h : Heap), d14 = some r → K7 t h := by
     intro t h hm0
     refine hK7 _ _ ?_
     unfold d14 at hm0
     refine b0d fun K hK => ?_
     simp only [go_sem]
     refine hK _ _ ?_
     clear hK K
     simp only [b1c, b1e, b1d, b1f]
     obtain rfl := Option.some.inj hm0
     exact b1s (by simp only [go_sem, List.length_append, List.map_append]) (b0j _)
    simp only [b05]
    obtain ⟨b9, hl9, hm0⟩ := b0g hm0
    refine b10 hl9 (fun | i_8, t, h => t 2 = .fp [.fs 5 (List.map b0n h_.Combs), .fs 3 (List.map b0k h_.Trains), .fs 3 (List.map b0s h_.Shifts), I h_.Until] 0 ∧ t 3 = .fp [.fs 1 (List.map eI d.At), .fs 1 (List.map b0o d.People), .fs 1 (List.map b0o d.Walks)] 0 ∧ t 8 = I i_8) ?_ ?_
    ·exact ⟨s2, s3, (by first | (simp only [go_sem, List.length_append, List.map_append]; done) | rfl)⟩
    ·rintro i_8 o t h ⟨s2, s3, s8⟩ hm1 hb9
     simp only [c1e] at hm1
     rw [g1t]
     refine b06 ?_
     refine b0d fun K hK => ?_
     simp only [go_sem, s2, s8]
     refine hK _ _ ?_
     clear hK K
     refine b0u fun K10 hK10 => ?_
     simp only [go_sem]
     refine b0r (fun hc11 => ?_) (fun hc11 => ?_)
     ·rw [b04 hc11] at hm1
      simp only [b02, b0h, b0i]
      refine hK10 _ _ ?_
      refine b0u fun K12 hK12 => ?_
      have J13 : ∀ (t : Slots) (h : Heap), t 2 = .fp [.fs 5 (List.map b0n h_.Combs), .fs 3 (List.map b0k h_.Trains), .fs 3 (List.map b0s h_.Shifts), I h_.Until] 0 → t 3 = .fp [.fs 1 (List.map eI d.At), .fs 1 (List.map b0o d.People), .fs 1 (List.map b0o d.Walks)] 0 → t 8 = I i_8 → c6q i_8 = some o → K12 t h := by
       intro t h s2 s3 s8 hm1
       refine hK12 _ _ ?_
       unfold c6q at hm1
       refine b1n fun K hK => ?_
       simp only [go_sem, s8]
       refine hK _ _ ?_
       clear hK K
       simp only [b0h, b0i]
       obtain rfl := Option.some.inj hm1
       refine ⟨_, rfl, ?_⟩
       exact ⟨s2, s3, (by first | (simp only [go_sem, s8, List.length_append, List.map_append]; done) | rfl)⟩
      simp only [b05]
      refine b06 ?_
      obtain ⟨x15, h_x15, hm1⟩ := b0g hm1
      have h_x150 := b0x h_x15
      have h_x151 := b0y h_x15
      refine b0d fun K hK => ?_
      simp only [go_sem, s3, s8, b0l h_x15, b0m h_x15, h_x150, h_x151]
      refine b1o (b4l (List.length x15 : Int) 1 20) ?_
      simp only [go_sem, s3, s8, b0l h_x15, b0m h_x15, h_x150, h_x151]
      refine hK _ _ ?_
      clear hK K
      refine b0u fun K16 hK16 => ?_
      simp only [go_sem]
      refine b0r (fun hc17 => ?_) (fun hc17 => ?_)
      ·rw [b04 hc17] at hm1
       refine b0d fun K hK => ?_
       simp only [go_sem]
       refine hK _ _ ?_
       clear hK K
       simp only [b1c, b1e, b1d, b1f]
       obtain rfl := Option.some.inj hm1
       obtain rfl := hb9 _ rfl
       try dsimp only at hm0
       obtain rfl := Option.some.inj hm0
       exact b1s (by simp only [go_sem, List.length_append, List.map_append]) (b0j _)
      ·rw [b03 hc17] at hm1
       simp only [b02, b0h, b0i]
       refine hK16 _ _ ?_
       refine b0d fun K hK => ?_
       simp only [go_sem]
       refine hK _ _ ?_
       clear hK K
       simp only [b05]
       obtain ⟨b18, hl18, hm1⟩ := b0g hm1
       refine b10 hl18 (fun | k_9, t, h => t 2 = .fp [.fs 5 (List.map b0n h_.Combs), .fs 3 (List.map b0k h_.Trains), .fs 3 (List.map b0s h_.Shifts), I h_.Until] 0 ∧ t 3 = .fp [.fs 1 (List.map eI d.At), .fs 1 (List.map b0o d.People), .fs 1 (List.map b0o d.Walks)] 0 ∧ t 8 = I i_8 ∧ t 9 = I k_9) ?_ ?_
       ·exact ⟨s2, s3, s8, (by first | (simp only [go_sem, List.length_append, List.map_append]; done) | rfl)⟩
       ·rintro k_9 o t h ⟨s2, s3, s8, s9⟩ hm2 hb18
        simp only [b8b] at hm2
        rw [g1s]
        refine b06 ?_
        obtain ⟨x20, h_x20, hm2⟩ := b0g hm2
        have h_x200 := b0x h_x20
        have h_x201 := b0y h_x20
        refine b0d fun K hK => ?_
        simp only [go_sem, s3, s8, s9, b0l h_x20, b0m h_x20, h_x200, h_x201]
        refine hK _ _ ?_
        clear hK K
        refine b0u fun K21 hK21 => ?_
        simp only [go_sem]
        refine b0r (fun hc22 => ?_) (fun hc22 => ?_)
        ·rw [b04 hc22] at hm2
         simp only [b02, b0h, b0i]
         refine hK21 _ _ ?_
         refine b0u fun K23 hK23 => ?_
         simp only [b05]
         obtain ⟨x26, h_x26, hm2⟩ := b0g hm2
         have h_x260 := b0x h_x26
         have h_x261 := b0y h_x26
         obtain ⟨x27, h_x27, hm2⟩ := b0g hm2
         have h_x270 := b0x h_x27
         have h_x271 := b0y h_x27
         refine b0d fun K hK => ?_
         simp only [go_sem, s2, s3, s8, s9, b0l h_x26, b0m h_x26, h_x260, h_x261, b0l h_x27, b0m h_x27, h_x270, h_x271, b0l h_x20, b0m h_x20, h_x200, h_x201]
         refine b1o (b4l x26 x27.Walk.Low x27.Walk.High) ?_
         simp only [go_sem, s2, s3, s8, s9, b0l h_x26, b0m h_x26, h_x260, h_x261, b0l h_x27, b0m h_x27, h_x270, h_x271, b0l h_x20, b0m h_x20, h_x200, h_x201]
         refine hK _ _ ?_
         clear hK K
         simp only [go_sem]
         refine b0r (fun hc28 => ?_) (fun hc28 => ?_)
         ·rw [b04 hc28] at hm2
          refine b0d fun K hK => ?_
          simp only [go_sem]
          refine hK _ _ ?_
          clear hK K
          simp only [b1c, b1e, b1d, b1f]
          obtain rfl := Option.some.inj hm2
          obtain rfl := hb18 _ rfl
          try dsimp only at hm1
          obtain rfl := Option.some.inj hm1
          obtain rfl := hb9 _ rfl
          try dsimp only at hm0
          obtain rfl := Option.some.inj hm0
          exact b1s (by simp only [go_sem, List.length_append, List.map_append]) (b0j _)
         ·rw [b03 hc28] at hm2
          simp only [b02, b0h, b0i]
          refine hK23 _ _ ?_
          refine b1n fun K hK => ?_
          simp only [go_sem, s9]
          refine hK _ _ ?_
          clear hK K
          simp only [b0h, b0i]
          obtain rfl := Option.some.inj hm2
          refine ⟨_, rfl, ?_⟩
          exact ⟨s2, s3, s8, (by first | (simp only [go_sem, s9, List.length_append, List.map_append]; done) | rfl)⟩
        ·rw [b03 hc22] at hm2
         simp only [b1w, b1z, b1y, b1x, b0h, b0i, Nat.reduceEqDiff, not_false_eq_true]
         obtain rfl := Option.some.inj hm2
         obtain rfl := hb18 _ rfl
         try dsimp only at hm1
         exact J13  _ _ s2 s3 s8 hm1
     ·rw [b03 hc11] at hm1
      simp only [b1w, b1z, b1y, b1x, b0h, b0i, Nat.reduceEqDiff, not_false_eq_true]
      obtain rfl := Option.some.inj hm1
      obtain rfl := hb9 _ rfl
      try dsimp only at hm0
      exact J8  _ _  hm0
   simp only [b05]
   obtain ⟨b31, hl31, hm0⟩ := b0g hm0
   refine b10 hl31 (fun | i_5, t, h => t 2 = .fp [.fs 5 (List.map b0n h_.Combs), .fs 3 (List.map b0k h_.Trains), .fs 3 (List.map b0s h_.Shifts), I h_.Until] 0 ∧ t 3 = .fp [.fs 1 (List.map eI d.At), .fs 1 (List.map b0o d.People), .fs 1 (List.map b0o d.Walks)] 0 ∧ t 5 = I i_5) ?_ ?_
   ·exact ⟨s2, s3, (by first | (simp only [go_sem, List.length_append, List.map_append]; done) | rfl)⟩
   ·rintro i_5 o t h ⟨s2, s3, s5⟩ hm1 hb31
    simp only [c1d] at hm1
    rw [g1r]
    refine b06 ?_
    refine b0d fun K hK => ?_
    simp only [go_sem, s2, s5]
    refine hK _ _ ?_
    clear hK K
    refine b0u fun K32 hK32 => ?_
    simp only [go_sem]
    refine b0r (fun hc33 => ?_) (fun hc33 => ?_)
    ·rw [b04 hc33] at hm1
     simp only [b02, b0h, b0i]
     refine hK32 _ _ ?_
     refine b0u fun K34 hK34 => ?_
     have J35 : ∀ (t : Slots) (h : Heap), t 2 = .fp [.fs 5 (List.map b0n h_.Combs), .fs 3 (List.map b0k h_.Trains), .fs 3 (List.map b0s h_.Shifts), I h_.Until] 0 → t 3 = .fp [.fs 1 (List.map eI d.At), .fs 1 (List.map b0o d.People), .fs 1 (List.map b0o d.Walks)] 0 → t 5 = I i_5 → c6r i_5 = some o → K34 t h := by
      intro t h s2 s3 s5 hm1
      refine hK34 _ _ ?_
      unfold c6r at hm1
      refine b1n fun K hK => ?_
      simp only [go_sem, s5]
      refine hK _ _ ?_
      clear hK K
      simp only [b0h, b0i]
      obtain rfl := Option.some.inj hm1
      refine ⟨_, rfl, ?_⟩
      exact ⟨s2, s3, (by first | (simp only [go_sem, s5, List.length_append, List.map_append]; done) | rfl)⟩
     simp only [b05]
     obtain ⟨x37, h_x37, hm1⟩ := b0g hm1
     have h_x370 := b0x h_x37
     have h_x371 := b0y h_x37
     refine b0d fun K hK => ?_
     simp only [go_sem, s2, s5, b0l h_x37, b0m h_x37, h_x370, h_x371]
     refine hK _ _ ?_
     clear hK K
     refine b06 ?_
     obtain ⟨x41, h_x41, hm1⟩ := b0g hm1
     have h_x410 := b0x h_x41
     have h_x411 := b0y h_x41
     obtain ⟨c43, h_c43, hm1⟩ := b0g hm1
     refine b2e (fun t h => ∃ i6 : Nat, t 2 = .fp [.fs 5 (List.map b0n h_.Combs), .fs 3 (List.map b0k h_.Trains), .fs 3 (List.map b0s h_.Shifts), I h_.Until] 0 ∧ t 3 = .fp [.fs 1 (List.map eI d.At), .fs 1 (List.map b0o d.People), .fs 1 (List.map b0o d.Walks)] 0 ∧ t 5 = I i_5 ∧ t 6 = .rp i6 0 0 ∧ t 71 = B c43 ∧ h.ob i6 = some (3, [[I x37.At.Low, I x37.At.High, .fs 3 (List.map b2j x37.Crowds)]]) ∧ i6 < h.nx) (fun K hK => ?_) ?_
     ·simp only [go_sem, s3, s5, b0l h_x41, b0m h_x41, h_x410, h_x411]
      refine b1o (b4l x41 x37.At.Low x37.At.High) ?_
      simp only [go_sem, s3, s5, b0l h_x41, b0m h_x41, h_x410, h_x411]
      refine b0r (fun hg44 => ?_) (fun hg44 => ?_)
      ·simp only [hg44, Bool.not_true, Bool.not_false, eq_self, if_true, if_false, Bool.true_or, Bool.or_true, Bool.false_or, Bool.or_false, Bool.true_and, Bool.and_true, Bool.false_and, Bool.and_false, Bool.false_eq_true] at h_c43
       obtain rfl := Option.some.inj h_c43
       simp only [go_sem, s3, s5, b0l h_x41, b0m h_x41, h_x410, h_x411, hg44]
       exact hK _ _ ⟨h.nx, s2, s3, s5, (by first | (simp only [go_sem, hg44, List.length_append, List.map_append]; done) | rfl), (by first | (simp only [go_sem, hg44, List.length_append, List.map_append]; done) | rfl), (by simp only [go_sem, hg44, List.length_append, List.map_append]), (by simp only [go_sem])⟩
      ·simp only [hg44, Bool.not_true, Bool.not_false, eq_self, if_true, if_false, Bool.true_or, Bool.or_true, Bool.false_or, Bool.or_false, Bool.true_and, Bool.and_true, Bool.false_and, Bool.and_false, Bool.false_eq_true] at h_c43
       obtain ⟨x42, h_x42, h_c43⟩ := b0g h_c43
       have h_x420 := b0x h_x42
       have h_x421 := b0y h_x42
       obtain rfl := Option.some.inj h_c43
       simp only [go_sem, s3, s5, b0l h_x41, b0m h_x41, h_x410, h_x411, b0l h_x42, b0m h_x42, h_x420, h_x421, hg44]
       exact hK _ _ ⟨h.nx, s2, s3, s5, (by first | (simp only [go_sem, hg44, List.length_append, List.map_append]; done) | rfl), (by first | (simp only [go_sem, hg44, List.length_append, List.map_append]; done) | rfl), (by simp only [go_sem, hg44, List.length_append, List.map_append]), (by simp only [go_sem])⟩
     ·rintro t h ⟨i6, s2, s3, s5, s6, s71, q3, q2⟩
      refine b0u fun K45 hK45 => ?_
      simp only [go_sem, s71]
      refine b0r (fun hc46 => ?_) (fun hc46 => ?_)
      ·rw [b04 hc46] at hm1
       refine b0d fun K hK => ?_
       simp only [go_sem, q2]
       refine hK _ _ ?_
       clear hK K
       simp only [b1c, b1e, b1d, b1f]
       obtain rfl := Option.some.inj hm1
       obtain rfl := hb31 _ rfl
       try dsimp only at hm0
       obtain rfl := Option.some.inj hm0
       exact b1s (by simp only [go_sem, q3, q2, List.length_append, List.map_append]) (b0j _)
      ·rw [b03 hc46] at hm1
       simp only [b02, b0h, b0i]
       refine hK45 _ _ ?_
       refine b0d fun K hK => ?_
       simp only [go_sem, q2]
       refine hK _ _ ?_
       clear hK K
       simp only [b05]
       obtain ⟨b47, hl47, hm1⟩ := b0g hm1
       refine b10 hl47 (fun | k_7, t, h => t 2 = .fp [.fs 5 (List.map b0n h_.Combs), .fs 3 (List.map b0k h_.Trains), .fs 3 (List.map b0s h_.Shifts), I h_.Until] 0 ∧ t 3 = .fp [.fs 1 (List.map eI d.At), .fs 1 (List.map b0o d.People), .fs 1 (List.map b0o d.Walks)] 0 ∧ t 5 = I i_5 ∧ t 6 = .rp i6 0 0 ∧ t 7 = I k_7 ∧ h.ob i6 = some (3, [[I x37.At.Low, I x37.At.High, .fs 3 (List.map b2j x37.Crowds)]]) ∧ i6 < h.nx) ?_ ?_
       ·exact ⟨s2, s3, s5, s6, (by first | (simp only [go_sem, List.length_append, List.map_append]; done) | rfl), q3, q2⟩
       ·rintro k_7 o t h ⟨s2, s3, s5, s6, s7, q3, q2⟩ hm2 hb47
        simp only [b8a] at hm2
        rw [g1q]
        refine b06 ?_
        refine b0d fun K hK => ?_
        simp only [go_sem, s6, s7, q3, q2]
        refine hK _ _ ?_
        clear hK K
        refine b0u fun K48 hK48 => ?_
        simp only [go_sem]
        refine b0r (fun hc49 => ?_) (fun hc49 => ?_)
        ·rw [b04 hc49] at hm2
         simp only [b02, b0h, b0i]
         refine hK48 _ _ ?_
         refine b0u fun K50 hK50 => ?_
         simp only [b05]
         obtain ⟨x54, h_x54, hm2⟩ := b0g hm2
         have h_x540 := b0x h_x54
         have h_x541 := b0y h_x54
         obtain ⟨x55, h_x55, hm2⟩ := b0g hm2
         have h_x550 := b0x h_x55
         have h_x551 := b0y h_x55
         obtain ⟨x56, h_x56, hm2⟩ := b0g hm2
         have h_x560 := b0x h_x56
         have h_x561 := b0y h_x56
         refine b0d fun K hK => ?_
         simp only [go_sem, s3, s5, s6, s7, q3, q2, b0l h_x54, b0m h_x54, h_x540, h_x541, b0l h_x55, b0m h_x55, h_x550, h_x551, b0l h_x56, b0m h_x56, h_x560, h_x561]
         refine b1o (b4l x55 x56.People.Low x56.People.High) ?_
         simp only [go_sem, s3, s5, s6, s7, q3, q2, b0l h_x54, b0m h_x54, h_x540, h_x541, b0l h_x55, b0m h_x55, h_x550, h_x551, b0l h_x56, b0m h_x56, h_x560, h_x561]
         refine hK _ _ ?_
         clear hK K
         simp only [go_sem]
         refine b0r (fun hc57 => ?_) (fun hc57 => ?_)
         ·rw [b04 hc57] at hm2
          refine b0d fun K hK => ?_
          simp only [go_sem, q2]
          refine hK _ _ ?_
          clear hK K
          simp only [b1c, b1e, b1d, b1f]
          obtain rfl := Option.some.inj hm2
          obtain rfl := hb47 _ rfl
          try dsimp only at hm1
          obtain rfl := Option.some.inj hm1
          obtain rfl := hb31 _ rfl
          try dsimp only at hm0
          obtain rfl := Option.some.inj hm0
          exact b1s (by simp only [go_sem, q3, q2, List.length_append, List.map_append]) (b0j _)
         ·rw [b03 hc57] at hm2
          simp only [b02, b0h, b0i]
          refine hK50 _ _ ?_
          refine b1n fun K hK => ?_
          simp only [go_sem, s7, q2]
          refine hK _ _ ?_
          clear hK K
          simp only [b0h, b0i]
          obtain rfl := Option.some.inj hm2
          refine ⟨_, rfl, ?_⟩
          exact ⟨s2, s3, s5, s6, (by first | (simp only [go_sem, s7, List.length_append, List.map_append]; done) | rfl), q3, q2⟩
        ·rw [b03 hc49] at hm2
         simp only [b1w, b1z, b1y, b1x, b0h, b0i, Nat.reduceEqDiff, not_false_eq_true]
         obtain rfl := Option.some.inj hm2
         obtain rfl := hb47 _ rfl
         try dsimp only at hm1
         exact J35  _ _ s2 s3 s5 hm1
    ·rw [b03 hc33] at hm1
     simp only [b1w, b1z, b1y, b1x, b0h, b0i, Nat.reduceEqDiff, not_false_eq_true]
     obtain rfl := Option.some.inj hm1
     obtain rfl := hb31 _ rfl
     try dsimp only at hm0
     exact J6  _ _ s2 s3 hm0
theorem c0z (hf : Has O "newel/newelref06.spanned" x_r06_spanned) : c71 O := by
 intro s low high
 generalize hm0 : b4m s low high = r
 unfold b4m at hm0
 refine b2k hf rfl (b0e (.agg _ (b0e (b0j _) (b0e (b0j _) b0z))) (b0e (b0j _) (b0e (b0j _) b0z))) (b0j _) ?_
 refine b2f (fun t h => t 0 = .agg [I s.Low, I s.High] ∧ t 1 = I low ∧ t 2 = I high) ⟨rfl, rfl, rfl⟩ fun t h ⟨s0, s1, s2⟩ => ?_
 simp only [x_r06_spanned]
 refine b0d fun K hK => ?_
 simp only [go_sem, s0]
 refine hK _ _ ?_
 clear hK K
 refine b2e (fun t h => t 6 = B (((decide (low ≤ s.Low)) && (decide (s.Low ≤ s.High))) && (decide (s.High ≤ high)))) (fun K hK => ?_) ?_
 ·simp only [go_sem, s1, s2]
  refine b0r (fun hg1 => ?_) (fun hg1 => ?_)
  ·simp only [go_sem, s1, s2, hg1]
   refine b0r (fun hg2 => ?_) (fun hg2 => ?_)
   ·simp only [go_sem, s1, s2, hg1, hg2]
    exact hK _ _ (by first | (simp only [go_sem, hg1, hg2, List.length_append, List.map_append]; done) | rfl)
   ·simp only [go_sem, s1, s2, hg1, hg2]
    exact hK _ _ (by first | (simp only [go_sem, hg1, hg2, List.length_append, List.map_append]; done) | rfl)
  ·simp only [go_sem, s1, s2, hg1]
   exact hK _ _ (by first | (simp only [go_sem, hg1, List.length_append, List.map_append]; done) | rfl)
 ·rintro t h s6
  simp only [b1c, b1e, b1d, b1f]
  obtain rfl := hm0
  exact b1s (by simp only [go_sem, s6, List.length_append, List.map_append]) (b0j _)
theorem b4l (hf : Has O "newel/newelref06.within" x_r06_within) : c4e O := by
 intro n low high
 generalize hm0 : b2h n low high = r
 unfold b2h at hm0
 refine b2k hf rfl (b0e (b0j _) (b0e (b0j _) (b0e (b0j _) b0z))) (b0j _) ?_
 refine b2f (fun t h => t 0 = I n ∧ t 1 = I low ∧ t 2 = I high) ⟨rfl, rfl, rfl⟩ fun t h ⟨s0, s1, s2⟩ => ?_
 simp only [x_r06_within]
 refine b0d fun K hK => ?_
 simp only [go_sem]
 refine hK _ _ ?_
 clear hK K
 refine b2e (fun t h => t 6 = B ((decide (low ≤ n)) && (decide (n ≤ high)))) (fun K hK => ?_) ?_
 ·simp only [go_sem, s0, s1, s2]
  refine b0r (fun hg1 => ?_) (fun hg1 => ?_)
  ·simp only [go_sem, s0, s1, s2, hg1]
   exact hK _ _ (by first | (simp only [go_sem, hg1, List.length_append, List.map_append]; done) | rfl)
  ·simp only [go_sem, s0, s1, s2, hg1]
   exact hK _ _ (by first | (simp only [go_sem, hg1, List.length_append, List.map_append]; done) | rfl)
 ·rintro t h s6
  simp only [b1c, b1e, b1d, b1f]
  obtain rfl := hm0
  exact b1s (by simp only [go_sem, s6, List.length_append, List.map_append]) (b0j _)
theorem d09 (hf : Has O "slices.ContainsFunc[[]newel/api.Comb,newel/api.Comb]" x_slices_ContainsFunc___api_Comb_api_Comb_) (d1b : c74 O) : c72 O := by
 intro s f_n f_a f_b f f_z f_h r hm0
 unfold c65 at hm0
 refine b2k hf rfl (b0e (b0w fun a _ => b2l a) (b0e f_z b0z)) (b0j _) ?_
 refine b2f (fun t h => t 0 = .fs 5 (List.map b0n s) ∧ t 1 = .fn f_n f_a f_b) ⟨rfl, rfl⟩ fun t h ⟨s0, s1⟩ => ?_
 simp only [x_slices_ContainsFunc___api_Comb_api_Comb_]
 refine b0d fun K hK => ?_
 simp only [go_sem]
 refine hK _ _ ?_
 clear hK K
 obtain ⟨y2, h_y2, hm0⟩ := b0g hm0
 refine b0d fun K hK => ?_
 simp only [go_sem, s0, s1]
 refine b1o (d1b s f_n f_a f_b f f_z f_h _ h_y2) ?_
 simp only [go_sem, s0, s1]
 refine hK _ _ ?_
 clear hK K
 simp only [b1c, b1e, b1d, b1f]
 obtain rfl := Option.some.inj hm0
 exact b1s (by simp only [go_sem, List.length_append, List.map_append]) (b0j _)
theorem d1a (hf : Has O "slices.ContainsFunc[[]newel/api.Train,newel/api.Train]" x_slices_ContainsFunc___api_Train_api_Train_) (d1c : c75 O) : c73 O := by
 intro s f_n f_a f_b f f_z f_h r hm0
 unfold c1h at hm0
 refine b2k hf rfl (b0e (b0w fun a _ => b2n a) (b0e f_z b0z)) (b0j _) ?_
 refine b2f (fun t h => t 0 = .fs 3 (List.map b0k s) ∧ t 1 = .fn f_n f_a f_b) ⟨rfl, rfl⟩ fun t h ⟨s0, s1⟩ => ?_
 simp only [x_slices_ContainsFunc___api_Train_api_Train_]
 refine b0d fun K hK => ?_
 simp only [go_sem]
 refine hK _ _ ?_
 clear hK K
 obtain ⟨y2, h_y2, hm0⟩ := b0g hm0
 refine b0d fun K hK => ?_
 simp only [go_sem, s0, s1]
 refine b1o (d1c s f_n f_a f_b f f_z f_h _ h_y2) ?_
 simp only [go_sem, s0, s1]
 refine hK _ _ ?_
 clear hK K
 simp only [b1c, b1e, b1d, b1f]
 obtain rfl := Option.some.inj hm0
 exact b1s (by simp only [go_sem, List.length_append, List.map_append]) (b0j _)
theorem c3d (hf : Has O "slices.ContainsFunc[[]int,int]" x_slices_ContainsFunc___int_int_) (c3e : c4g O) : c4f O := by
 intro s f_n f_a f_b f f_z f_h r hm0
 unfold b9k at hm0
 refine b2k hf rfl (b0e (b0w fun a _ => b2i a) (b0e f_z b0z)) (b0j _) ?_
 refine b2f (fun t h => t 0 = .fs 1 (List.map eI s) ∧ t 1 = .fn f_n f_a f_b) ⟨rfl, rfl⟩ fun t h ⟨s0, s1⟩ => ?_
 simp only [x_slices_ContainsFunc___int_int_]
 refine b0d fun K hK => ?_
 simp only [go_sem]
 refine hK _ _ ?_
 clear hK K
 obtain ⟨y2, h_y2, hm0⟩ := b0g hm0
 refine b0d fun K hK => ?_
 simp only [go_sem, s0, s1]
 refine b1o (c3e s f_n f_a f_b f f_z f_h _ h_y2) ?_
 simp only [go_sem, s0, s1]
 refine hK _ _ ?_
 clear hK K
 simp only [b1c, b1e, b1d, b1f]
 obtain rfl := Option.some.inj hm0
 exact b1s (by simp only [go_sem, List.length_append, List.map_append]) (b0j _)
theorem d1b (hf : Has O "slices.IndexFunc[[]newel/api.Comb,newel/api.Comb]" x_slices_IndexFunc___api_Comb_api_Comb_) : c74 O := by
 intro s f_n f_a f_b f f_z f_h r hm0
 unfold d2f at hm0
 refine b2k hf rfl (b0e (b0w fun a _ => b2l a) (b0e f_z b0z)) (b0j _) ?_
 refine b2f (fun t h => t 0 = .fs 5 (List.map b0n s) ∧ t 1 = .fn f_n f_a f_b) ⟨rfl, rfl⟩ fun t h ⟨s0, s1⟩ => ?_
 simp only [x_slices_IndexFunc___api_Comb_api_Comb_]
 refine b0d fun K hK => ?_
 simp only [go_sem]
 refine hK _ _ ?_
 clear hK K
 refine b06 ?_
 refine b0d fun K hK => ?_
 simp only [go_sem, s0]
 refine hK _ _ ?_
 clear hK K
 refine b0u fun K1 hK1 => ?_
 have J2 : ∀ (t : Slots) (h : Heap), d2g = some r → K1 t h := by
  intro t h hm0
  refine hK1 _ _ ?_
  unfold d2g at hm0
  refine b0d fun K hK => ?_
  simp only [go_sem]
  refine hK _ _ ?_
  clear hK K
  simp only [b1c, b1e, b1d, b1f]
  obtain rfl := Option.some.inj hm0
  exact b1s (by simp only [go_sem, List.length_append, List.map_append]) (b0j _)
 simp only [b05]
 obtain ⟨b3, hl3, hm0⟩ := b0g hm0
 refine b10 hl3 (fun | x_8, t, h => t 0 = .fs 5 (List.map b0n s) ∧ t 1 = .fn f_n f_a f_b ∧ t 7 = I (List.length s : Int) ∧ t 8 = I x_8) ?_ ?_
 ·exact ⟨s0, s1, (by first | (simp only [go_sem, List.length_append, List.map_append]; done) | rfl), (by first | (simp only [go_sem, List.length_append, List.map_append]; done) | rfl)⟩
 ·rintro x_8 o t h ⟨s0, s1, s7, s8⟩ hm1 hb3
  simp only [d98] at hm1
  rw [g1u]
  refine b0d fun K hK => ?_
  simp only [go_sem, s7, s8]
  refine hK _ _ ?_
  clear hK K
  refine b0u fun K4 hK4 => ?_
  simp only [go_sem]
  refine b0r (fun hc5 => ?_) (fun hc5 => ?_)
  ·rw [b04 hc5] at hm1
   simp only [b02, b0h, b0i]
   refine hK4 _ _ ?_
   refine b0u fun K6 hK6 => ?_
   simp only [b05]
   refine b0d fun K hK => ?_
   simp only [go_sem, s8]
   refine hK _ _ ?_
   clear hK K
   obtain ⟨x9, h_x9, hm1⟩ := b0g hm1
   have h_x90 := b0x h_x9
   have h_x91 := b0y h_x9
   obtain ⟨y10, h_y10, hm1⟩ := b0g hm1
   refine b0d fun K hK => ?_
   simp only [go_sem, s0, s1, b0l h_x9, b0m h_x9, h_x90, h_x91]
   refine d0h (f_h x9 _ h_y10) ?_
   simp only [go_sem, s0, s1, b0l h_x9, b0m h_x9, h_x90, h_x91]
   refine hK _ _ ?_
   clear hK K
   simp only [go_sem]
   refine b0r (fun hc11 => ?_) (fun hc11 => ?_)
   ·rw [b04 hc11] at hm1
    refine b0d fun K hK => ?_
    simp only [go_sem]
    refine hK _ _ ?_
    clear hK K
    simp only [b1c, b1e, b1d, b1f]
    obtain rfl := Option.some.inj hm1
    obtain rfl := hb3 _ rfl
    try dsimp only at hm0
    obtain rfl := Option.some.inj hm0
    exact b1s (by simp only [go_sem, List.length_append, List.map_append]) (b0j _)
   ·rw [b03 hc11] at hm1
    simp only [b02, b0h, b0i]
    refine hK6 _ _ ?_
    refine b1n fun K hK => ?_
    simp only [go_sem, s8]
    refine hK _ _ ?_
    clear hK K
    simp only [b0h, b0i]
    obtain rfl := Option.some.inj hm1
    refine ⟨_, rfl, ?_⟩
    exact ⟨s0, s1, s7, (by first | (simp only [go_sem, s8, List.length_append, List.map_append]; done) | rfl)⟩
  ·rw [b03 hc5] at hm1
   simp only [b1w, b1z, b1y, b1x, b0h, b0i, Nat.reduceEqDiff, not_false_eq_true]
   obtain rfl := Option.some.inj hm1
   obtain rfl := hb3 _ rfl
   try dsimp only at hm0
   exact J2  _ _  hm0
theorem d1c (hf : Has O "slices.IndexFunc[[]newel/api.Train,newel/api.Train]" x_slices_IndexFunc___api_Train_api_Train_) : c75 O := by
 intro s f_n f_a f_b f f_z f_h r hm0
 unfold c3x at hm0
 refine b2k hf rfl (b0e (b0w fun a _ => b2n a) (b0e f_z b0z)) (b0j _) ?_
 refine b2f (fun t h => t 0 = .fs 3 (List.map b0k s) ∧ t 1 = .fn f_n f_a f_b) ⟨rfl, rfl⟩ fun t h ⟨s0, s1⟩ => ?_
 simp only [x_slices_IndexFunc___api_Train_api_Train_]
 refine b0d fun K hK => ?_
 simp only [go_sem]
 refine hK _ _ ?_
 clear hK K
 refine b06 ?_
 refine b0d fun K hK => ?_
 simp only [go_sem, s0]
 refine hK _ _ ?_
 clear hK K
 refine b0u fun K1 hK1 => ?_
 have J2 : ∀ (t : Slots) (h : Heap), c3y = some r → K1 t h := by
  intro t h hm0
  refine hK1 _ _ ?_
  unfold c3y at hm0
  refine b0d fun K hK => ?_
  simp only [go_sem]
  refine hK _ _ ?_
  clear hK K
  simp only [b1c, b1e, b1d, b1f]
  obtain rfl := Option.some.inj hm0
  exact b1s (by simp only [go_sem, List.length_append, List.map_append]) (b0j _)
 simp only [b05]
 obtain ⟨b3, hl3, hm0⟩ := b0g hm0
 refine b10 hl3 (fun | x_8, t, h => t 0 = .fs 3 (List.map b0k s) ∧ t 1 = .fn f_n f_a f_b ∧ t 7 = I (List.length s : Int) ∧ t 8 = I x_8) ?_ ?_
 ·exact ⟨s0, s1, (by first | (simp only [go_sem, List.length_append, List.map_append]; done) | rfl), (by first | (simp only [go_sem, List.length_append, List.map_append]; done) | rfl)⟩
 ·rintro x_8 o t h ⟨s0, s1, s7, s8⟩ hm1 hb3
  simp only [c66] at hm1
  rw [g1v]
  refine b0d fun K hK => ?_
  simp only [go_sem, s7, s8]
  refine hK _ _ ?_
  clear hK K
  refine b0u fun K4 hK4 => ?_
  simp only [go_sem]
  refine b0r (fun hc5 => ?_) (fun hc5 => ?_)
  ·rw [b04 hc5] at hm1
   simp only [b02, b0h, b0i]
   refine hK4 _ _ ?_
   refine b0u fun K6 hK6 => ?_
   simp only [b05]
   refine b0d fun K hK => ?_
   simp only [go_sem, s8]
   refine hK _ _ ?_
   clear hK K
   obtain ⟨x9, h_x9, hm1⟩ := b0g hm1
   have h_x90 := b0x h_x9
   have h_x91 := b0y h_x9
   obtain ⟨y10, h_y10, hm1⟩ := b0g hm1
   refine b0d fun K hK => ?_
   simp only [go_sem, s0, s1, b0l h_x9, b0m h_x9, h_x90, h_x91]
   refine d0h (f_h x9 _ h_y10) ?_
   simp only [go_sem, s0, s1, b0l h_x9, b0m h_x9, h_x90, h_x91]
   refine hK _ _ ?_
   clear hK K
   simp only [go_sem]
   refine b0r (fun hc11 => ?_) (fun hc11 => ?_)
   ·rw [b04 hc11] at hm1
    refine b0d fun K hK => ?_
    simp only [go_sem]
    refine hK _ _ ?_
    clear hK K
    simp only [b1c, b1e, b1d, b1f]
    obtain rfl := Option.some.inj hm1
    obtain rfl := hb3 _ rfl
    try dsimp only at hm0
    obtain rfl := Option.some.inj hm0
    exact b1s (by simp only [go_sem, List.length_append, List.map_append]) (b0j _)
   ·rw [b03 hc11] at hm1
    simp only [b02, b0h, b0i]
    refine hK6 _ _ ?_
    refine b1n fun K hK => ?_
    simp only [go_sem, s8]
    refine hK _ _ ?_
    clear hK K
    simp only [b0h, b0i]
    obtain rfl := Option.some.inj hm1
    refine ⟨_, rfl, ?_⟩
    exact ⟨s0, s1, s7, (by first | (simp only [go_sem, s8, List.length_append, List.map_append]; done) | rfl)⟩
  ·rw [b03 hc5] at hm1
   simp only [b1w, b1z, b1y, b1x, b0h, b0i, Nat.reduceEqDiff, not_false_eq_true]
   obtain rfl := Option.some.inj hm1
   obtain rfl := hb3 _ rfl
   try dsimp only at hm0
   exact J2  _ _  hm0
theorem c3e (hf : Has O "slices.IndexFunc[[]int,int]" x_slices_IndexFunc___int_int_) : c4g O := by
 intro s f_n f_a f_b f f_z f_h r hm0
 unfold c1i at hm0
 refine b2k hf rfl (b0e (b0w fun a _ => b2i a) (b0e f_z b0z)) (b0j _) ?_
 refine b2f (fun t h => t 0 = .fs 1 (List.map eI s) ∧ t 1 = .fn f_n f_a f_b) ⟨rfl, rfl⟩ fun t h ⟨s0, s1⟩ => ?_
 simp only [x_slices_IndexFunc___int_int_]
 refine b0d fun K hK => ?_
 simp only [go_sem]
 refine hK _ _ ?_
 clear hK K
 refine b06 ?_
 refine b0d fun K hK => ?_
 simp only [go_sem, s0]
 refine hK _ _ ?_
 clear hK K
 refine b0u fun K1 hK1 => ?_
 have J2 : ∀ (t : Slots) (h : Heap), c3z = some r → K1 t h := by
  intro t h hm0
  refine hK1 _ _ ?_
  unfold c3z at hm0
  refine b0d fun K hK => ?_
  simp only [go_sem]
  refine hK _ _ ?_
  clear hK K
  simp only [b1c, b1e, b1d, b1f]
  obtain rfl := Option.some.inj hm0
  exact b1s (by simp only [go_sem, List.length_append, List.map_append]) (b0j _)
 simp only [b05]
 obtain ⟨b3, hl3, hm0⟩ := b0g hm0
 refine b10 hl3 (fun | x_8, t, h => t 0 = .fs 1 (List.map eI s) ∧ t 1 = .fn f_n f_a f_b ∧ t 7 = I (List.length s : Int) ∧ t 8 = I x_8) ?_ ?_
 ·exact ⟨s0, s1, (by first | (simp only [go_sem, List.length_append, List.map_append]; done) | rfl), (by first | (simp only [go_sem, List.length_append, List.map_append]; done) | rfl)⟩
 ·rintro x_8 o t h ⟨s0, s1, s7, s8⟩ hm1 hb3
  simp only [c67] at hm1
  rw [g1w]
  refine b0d fun K hK => ?_
  simp only [go_sem, s7, s8]
  refine hK _ _ ?_
  clear hK K
  refine b0u fun K4 hK4 => ?_
  simp only [go_sem]
  refine b0r (fun hc5 => ?_) (fun hc5 => ?_)
  ·rw [b04 hc5] at hm1
   simp only [b02, b0h, b0i]
   refine hK4 _ _ ?_
   refine b0u fun K6 hK6 => ?_
   simp only [b05]
   refine b0d fun K hK => ?_
   simp only [go_sem, s8]
   refine hK _ _ ?_
   clear hK K
   obtain ⟨x9, h_x9, hm1⟩ := b0g hm1
   have h_x90 := b0x h_x9
   have h_x91 := b0y h_x9
   obtain ⟨y10, h_y10, hm1⟩ := b0g hm1
   refine b0d fun K hK => ?_
   simp only [go_sem, s0, s1, b0l h_x9, b0m h_x9, h_x90, h_x91]
   refine d0h (f_h x9 _ h_y10) ?_
   simp only [go_sem, s0, s1, b0l h_x9, b0m h_x9, h_x90, h_x91]
   refine hK _ _ ?_
   clear hK K
   simp only [go_sem]
   refine b0r (fun hc11 => ?_) (fun hc11 => ?_)
   ·rw [b04 hc11] at hm1
    refine b0d fun K hK => ?_
    simp only [go_sem]
    refine hK _ _ ?_
    clear hK K
    simp only [b1c, b1e, b1d, b1f]
    obtain rfl := Option.some.inj hm1
    obtain rfl := hb3 _ rfl
    try dsimp only at hm0
    obtain rfl := Option.some.inj hm0
    exact b1s (by simp only [go_sem, List.length_append, List.map_append]) (b0j _)
   ·rw [b03 hc11] at hm1
    simp only [b02, b0h, b0i]
    refine hK6 _ _ ?_
    refine b1n fun K hK => ?_
    simp only [go_sem, s8]
    refine hK _ _ ?_
    clear hK K
    simp only [b0h, b0i]
    obtain rfl := Option.some.inj hm1
    refine ⟨_, rfl, ?_⟩
    exact ⟨s0, s1, s7, (by first | (simp only [go_sem, s8, List.length_append, List.map_append]; done) | rfl)⟩
  ·rw [b03 hc5] at hm1
   simp only [b1w, b1z, b1y, b1x, b0h, b0i, Nat.reduceEqDiff, not_false_eq_true]
   obtain rfl := Option.some.inj hm1
   obtain rfl := hb3 _ rfl
   try dsimp only at hm0
   exact J2  _ _  hm0
end Go.Nw.HM
