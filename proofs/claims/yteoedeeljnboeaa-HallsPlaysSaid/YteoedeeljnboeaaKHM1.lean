/- That the texts make what their models say: printed by a program. -/
import Derived.Test.YteoedeeljnboeaaHM
set_option linter.all false
set_option linter.unusedVariables false
set_option linter.unusedSimpArgs false
set_option linter.unusedSectionVars false
namespace Go.Nw.HM
open Go.Nw.Halls
set_option linter.unusedSimpArgs false
set_option linter.unusedVariables false
set_option maxHeartbeats 4000000
variable {O : Orac}
theorem c15 (hf : Has O "(*newel/halls.bound).passes" x___halls_bound__passes) : c3h O := by
 intro b from_ to_ r hm0
 unfold c0v at hm0
 refine b2k hf rfl (b0e (.fp _ _ (b0e (b0s fun a _ => b2b a) (b0e (b0s fun a _ => b2b a) (b0e (b0s fun a _ => b2b a) (b0e (b0s fun a _ => b2v a) b0y))))) (b0e (b0l _) (b0e (b0l _) b0y))) (b0l _) ?_
 refine b2h (fun t h => t 0 = .fp [.fs 1 (List.map eI b.rates), .fs 1 (List.map eI b.flow), .fs 1 (List.map eI b.most), .fs 1 (List.map b0k b.come)] 0 ∧ t 1 = I from_ ∧ t 2 = I to_) ⟨rfl, rfl, rfl⟩ fun t h ⟨s0, s1, s2⟩ => ?_
 simp only [x___halls_bound__passes]
 refine b0d fun K hK => ?_
 simp only [go_sem]
 refine hK _ _ ?_
 clear hK K
 refine b03 ?_
 refine b2d (fun t h => t 0 = .fp [.fs 1 (List.map eI b.rates), .fs 1 (List.map eI b.flow), .fs 1 (List.map eI b.most), .fs 1 (List.map b0k b.come)] 0 ∧ t 1 = I from_ ∧ t 2 = I to_ ∧ t 16 = B ((decide (to_ < from_)) || (decide (to_ < 0)))) (fun K hK => ?_) ?_
 ·simp only [go_sem, s1, s2]
  refine b0u (fun hg1 => ?_) (fun hg1 => ?_)
  ·simp only [go_sem, s1, s2, hg1]
   exact hK _ _ ⟨s0, s1, s2, (by first | (simp only [go_sem, hg1, List.length_append, List.map_append]; done) | rfl)⟩
  ·simp only [go_sem, s1, s2, hg1]
   exact hK _ _ ⟨s0, s1, s2, (by first | (simp only [go_sem, hg1, List.length_append, List.map_append]; done) | rfl)⟩
 ·rintro t h ⟨s0, s1, s2, s16⟩
  refine b0r fun K2 hK2 => ?_
  simp only [go_sem, s16]
  refine b0u (fun hc3 => ?_) (fun hc3 => ?_)
  ·rw [b02 hc3] at hm0
   refine b0d fun K hK => ?_
   simp only [go_sem]
   refine hK _ _ ?_
   clear hK K
   simp only [b1a, b1c, b1b, b1d]
   obtain rfl := Option.some.inj hm0
   exact b1q (by simp only [go_sem, List.length_append, List.map_append]) (b0l _)
  ·rw [b01 hc3] at hm0
   simp only [b0z, b0i, b0j]
   refine hK2 _ _ ?_
   refine b0d fun K hK => ?_
   simp only [go_sem, s1]
   refine hK _ _ ?_
   clear hK K
   obtain ⟨x8, h_x8, hm0⟩ := b0h hm0
   have h_x80 := b0w h_x8
   have h_x81 := b0x h_x8
   obtain ⟨x9, h_x9, hm0⟩ := b0h hm0
   have h_x90 := b0w h_x9
   have h_x91 := b0x h_x9
   obtain ⟨x10, h_x10, hm0⟩ := b0h hm0
   have h_x100 := b0w h_x10
   have h_x101 := b0x h_x10
   obtain ⟨x11, h_x11, hm0⟩ := b0h hm0
   have h_x110 := b0w h_x11
   have h_x111 := b0x h_x11
   refine b0d fun K hK => ?_
   simp only [go_sem, s0, s1, s2, b0m h_x8, b0n h_x8, h_x80, h_x81, b0m h_x9, b0n h_x9, h_x90, h_x91, b0m h_x10, b0n h_x10, h_x100, h_x101, b0m h_x11, b0n h_x11, h_x110, h_x111]
   refine hK _ _ ?_
   clear hK K
   refine b03 ?_
   refine b0d fun K hK => ?_
   simp only [go_sem, s1]
   refine hK _ _ ?_
   clear hK K
   refine b0r fun K12 hK12 => ?_
   have J13 : ∀ (least_7 : Int) (t : Slots) (h : Heap), t 7 = I least_7 → c0w least_7 = some r → K12 t h := by
    intro least_7 t h s7 hm0
    refine hK12 _ _ ?_
    unfold c0w at hm0
    refine b0d fun K hK => ?_
    simp only [go_sem, s7]
    refine hK _ _ ?_
    clear hK K
    simp only [b1a, b1c, b1b, b1d]
    obtain rfl := Option.some.inj hm0
    exact b1q (by simp only [go_sem, List.length_append, List.map_append]) (b0l _)
   simp only [b00]
   obtain ⟨b14, hl14, hm0⟩ := b0h hm0
   refine b1x hl14 (fun | (least_7, k_8), t, h => t 0 = .fp [.fs 1 (List.map eI b.rates), .fs 1 (List.map eI b.flow), .fs 1 (List.map eI b.most), .fs 1 (List.map b0k b.come)] 0 ∧ t 1 = I (mx from_ 0) ∧ t 2 = I to_ ∧ t 7 = I least_7 ∧ t 8 = I k_8) ?_ ?_
   ·exact ⟨s0, (by first | (simp only [go_sem, s1, List.length_append, List.map_append]; done) | rfl), s2, (by first | (simp only [go_sem, List.length_append, List.map_append]; done) | rfl), (by first | (simp only [go_sem, List.length_append, List.map_append]; done) | rfl)⟩
   ·rintro ⟨least_7, k_8⟩ o t h ⟨s0, s1, s2, s7, s8⟩ hm1 hb14
    simp only [c3t] at hm1
    rw [d9w]
    refine b03 ?_
    refine b0d fun K hK => ?_
    simp only [go_sem, s2, s8]
    refine hK _ _ ?_
    clear hK K
    refine b0r fun K15 hK15 => ?_
    simp only [go_sem]
    refine b0u (fun hc16 => ?_) (fun hc16 => ?_)
    ·rw [b02 hc16] at hm1
     simp only [b0z, b0i, b0j]
     refine hK15 _ _ ?_
     refine b0r fun K17 hK17 => ?_
     simp only [b00]
     refine b0d fun K hK => ?_
     simp only [go_sem]
     refine hK _ _ ?_
     clear hK K
     refine b03 ?_
     refine b0d fun K hK => ?_
     simp only [go_sem, s2, s8]
     refine hK _ _ ?_
     clear hK K
     refine b0r fun K18 hK18 => ?_
     have J19 : ∀ (behind_9 : Int) (t : Slots) (h : Heap), t 0 = .fp [.fs 1 (List.map eI b.rates), .fs 1 (List.map eI b.flow), .fs 1 (List.map eI b.most), .fs 1 (List.map b0k b.come)] 0 → t 1 = I (mx from_ 0) → t 2 = I to_ → t 7 = I least_7 → t 8 = I k_8 → t 9 = I behind_9 → b8z b from_ least_7 k_8 behind_9 = some o → K18 t h := by
      intro behind_9 t h s0 s1 s2 s7 s8 s9 hm1
      refine hK18 _ _ ?_
      unfold b8z at hm1
      obtain ⟨x23, h_x23, hm1⟩ := b0h hm1
      have h_x230 := b0w h_x23
      have h_x231 := b0x h_x23
      obtain ⟨x24, h_x24, hm1⟩ := b0h hm1
      have h_x240 := b0w h_x24
      have h_x241 := b0x h_x24
      obtain ⟨x25, h_x25, hm1⟩ := b0h hm1
      have h_x250 := b0w h_x25
      have h_x251 := b0x h_x25
      refine b1i fun K hK => ?_
      simp only [go_sem, s0, s1, s7, s8, s9, b0m h_x23, b0n h_x23, h_x230, h_x231, b0m h_x24, b0n h_x24, h_x240, h_x241, b0m h_x25, b0n h_x25, h_x250, h_x251]
      refine hK _ _ ?_
      clear hK K
      simp only [b0i, b0j]
      refine hK17 _ _ ?_
      refine b1i fun K hK => ?_
      simp only [go_sem, s8]
      refine hK _ _ ?_
      clear hK K
      simp only [b0i, b0j]
      obtain rfl := Option.some.inj hm1
      refine ⟨_, rfl, ?_⟩
      exact ⟨s0, s1, s2, (by first | (simp only [go_sem, s7, List.length_append, List.map_append]; done) | rfl), (by first | (simp only [go_sem, s8, List.length_append, List.map_append]; done) | rfl)⟩
     simp only [go_sem]
     refine b0u (fun hc26 => ?_) (fun hc26 => ?_)
     ·rw [b02 hc26] at hm1
      obtain ⟨x29, h_x29, hm1⟩ := b0h hm1
      have h_x290 := b0w h_x29
      have h_x291 := b0x h_x29
      obtain ⟨x30, h_x30, hm1⟩ := b0h hm1
      have h_x300 := b0w h_x30
      have h_x301 := b0x h_x30
      refine b1i fun K hK => ?_
      simp only [go_sem, s0, s2, s8, b0m h_x29, b0n h_x29, h_x290, h_x291, b0m h_x30, b0n h_x30, h_x300, h_x301]
      refine hK _ _ ?_
      clear hK K
      simp only [b0i, b0j]
      exact J19 x30 _ _ s0 s1 s2 s7 s8 (by first | (simp only [go_sem, List.length_append, List.map_append]; done) | rfl) hm1
     ·rw [b01 hc26] at hm1
      simp only [b0z, b0i, b0j]
      exact J19 0 _ _ s0 s1 s2 s7 s8 (by first | (simp only [go_sem, List.length_append, List.map_append]; done) | rfl) hm1
    ·rw [b01 hc16] at hm1
     simp only [b1t, b1w, b1v, b1u, b0i, b0j, Nat.reduceEqDiff, not_false_eq_true]
     obtain rfl := Option.some.inj hm1
     obtain rfl := hb14 _ rfl
     try dsimp only at hm0
     exact J13 least_7 _ _ s7 hm0
theorem b6f (hf : Has O "newel/halls.Check" x_halls_Check) (d0a : c60 O) (d0p : c7i O) (c92 : c6s O) (b48 : b8u O) : b8t O := by
 intro h_ r hm0
 unfold b3z at hm0
 refine b2k hf rfl (b0e (.agg _ (b0e (b0s fun a _ => b2m a) (b0e (b0s fun a _ => b2l a) (b0e (b0s fun a _ => b2o a) (b0e (b0l _) b0y))))) b0y) (b0l _) ?_
 refine b2h (fun t h => t 0 = .agg [.fs 5 (List.map b0p h_.Combs), .fs 3 (List.map b0o h_.Trains), .fs 3 (List.map b0q h_.Shifts), I h_.Until]) rfl fun t h s0 => ?_
 simp only [x_halls_Check]
 refine b0d fun K hK => ?_
 simp only [go_sem, s0]
 refine hK _ _ ?_
 clear hK K
 refine b03 ?_
 refine b2d (fun t h => t 1 = .fp [.fs 5 (List.map b0p h_.Combs), .fs 3 (List.map b0o h_.Trains), .fs 3 (List.map b0q h_.Shifts), I h_.Until] 0 ∧ t 37 = B ((((((decide (h_.Until < 1)) || (decide (100 < h_.Until))) || (decide ((List.length h_.Combs : Int) < 1))) || (decide (8 < (List.length h_.Combs : Int)))) || (decide (12 < (List.length h_.Trains : Int)))) || (decide (20 < (List.length h_.Shifts : Int))))) (fun K hK => ?_) ?_
 ·simp only [go_sem]
  refine b0u (fun hg1 => ?_) (fun hg1 => ?_)
  ·simp only [go_sem, hg1]
   exact hK _ _ ⟨(by first | (simp only [go_sem, hg1, List.length_append, List.map_append]; done) | rfl), (by first | (simp only [go_sem, hg1, List.length_append, List.map_append]; done) | rfl)⟩
  ·simp only [go_sem, hg1]
   refine b0u (fun hg2 => ?_) (fun hg2 => ?_)
   ·simp only [go_sem, hg1, hg2]
    exact hK _ _ ⟨(by first | (simp only [go_sem, hg1, hg2, List.length_append, List.map_append]; done) | rfl), (by first | (simp only [go_sem, hg1, hg2, List.length_append, List.map_append]; done) | rfl)⟩
   ·simp only [go_sem, hg1, hg2]
    refine b0u (fun hg3 => ?_) (fun hg3 => ?_)
    ·simp only [go_sem, hg1, hg2, hg3]
     exact hK _ _ ⟨(by first | (simp only [go_sem, hg1, hg2, hg3, List.length_append, List.map_append]; done) | rfl), (by first | (simp only [go_sem, hg1, hg2, hg3, List.length_append, List.map_append]; done) | rfl)⟩
    ·simp only [go_sem, hg1, hg2, hg3]
     refine b0u (fun hg4 => ?_) (fun hg4 => ?_)
     ·simp only [go_sem, hg1, hg2, hg3, hg4]
      exact hK _ _ ⟨(by first | (simp only [go_sem, hg1, hg2, hg3, hg4, List.length_append, List.map_append]; done) | rfl), (by first | (simp only [go_sem, hg1, hg2, hg3, hg4, List.length_append, List.map_append]; done) | rfl)⟩
     ·simp only [go_sem, hg1, hg2, hg3, hg4]
      refine b0u (fun hg5 => ?_) (fun hg5 => ?_)
      ·simp only [go_sem, hg1, hg2, hg3, hg4, hg5]
       exact hK _ _ ⟨(by first | (simp only [go_sem, hg1, hg2, hg3, hg4, hg5, List.length_append, List.map_append]; done) | rfl), (by first | (simp only [go_sem, hg1, hg2, hg3, hg4, hg5, List.length_append, List.map_append]; done) | rfl)⟩
      ·simp only [go_sem, hg1, hg2, hg3, hg4, hg5]
       exact hK _ _ ⟨(by first | (simp only [go_sem, hg1, hg2, hg3, hg4, hg5, List.length_append, List.map_append]; done) | rfl), (by first | (simp only [go_sem, hg1, hg2, hg3, hg4, hg5, List.length_append, List.map_append]; done) | rfl)⟩
 ·rintro t h ⟨s1, s37⟩
  refine b0r fun K6 hK6 => ?_
  simp only [go_sem, s37]
  refine b0u (fun hc7 => ?_) (fun hc7 => ?_)
  ·rw [b02 hc7] at hm0
   refine b0d fun K hK => ?_
   simp only [go_sem]
   refine hK _ _ ?_
   clear hK K
   simp only [b1a, b1c, b1b, b1d]
   obtain rfl := Option.some.inj hm0
   exact b1q (by simp only [go_sem, List.length_append, List.map_append]) (b0l _)
  ·rw [b01 hc7] at hm0
   simp only [b0z, b0i, b0j]
   refine hK6 _ _ ?_
   refine b03 ?_
   refine b0d fun K hK => ?_
   simp only [go_sem, s1]
   refine hK _ _ ?_
   clear hK K
   refine b0r fun K8 hK8 => ?_
   have J9 : ∀ (t : Slots) (h : Heap), t 1 = .fp [.fs 5 (List.map b0p h_.Combs), .fs 3 (List.map b0o h_.Trains), .fs 3 (List.map b0q h_.Shifts), I h_.Until] 0 → b9c h_ = some r → K8 t h := by
    intro t h s1 hm0
    refine hK8 _ _ ?_
    unfold b9c at hm0
    refine b03 ?_
    obtain ⟨y13, h_y13, hm0⟩ := b0h hm0
    refine b0d fun K hK => ?_
    simp only [go_sem, s1]
    refine b1j (d0p h_.Trains "newel/halls.Check$1" [] [.fp [.fs 5 (List.map b0p h_.Combs), .fs 3 (List.map b0o h_.Trains), .fs 3 (List.map b0q h_.Shifts), I h_.Until] 0] (fun z12 => b6r z12 h_) (.fn _ _ _ b0y (b0e (.fp _ _ (b0e (b0s fun a _ => b2m a) (b0e (b0s fun a _ => b2l a) (b0e (b0s fun a _ => b2o a) (b0e (b0l _) b0y))))) b0y)) (fun z0 y hz => c92 z0 h_ y hz) _ h_y13) ?_
    simp only [go_sem, s1]
    refine hK _ _ ?_
    clear hK K
    refine b0r fun K14 hK14 => ?_
    simp only [go_sem]
    refine b0u (fun hc15 => ?_) (fun hc15 => ?_)
    ·rw [b02 hc15] at hm0
     refine b0d fun K hK => ?_
     simp only [go_sem]
     refine hK _ _ ?_
     clear hK K
     simp only [b1a, b1c, b1b, b1d]
     obtain rfl := Option.some.inj hm0
     exact b1q (by simp only [go_sem, List.length_append, List.map_append]) (b0l _)
    ·rw [b01 hc15] at hm0
     simp only [b0z, b0i, b0j]
     refine hK14 _ _ ?_
     refine b03 ?_
     refine b0d fun K hK => ?_
     simp only [go_sem, s1]
     refine hK _ _ ?_
     clear hK K
     refine b0r fun K16 hK16 => ?_
     have J17 : ∀ (t : Slots) (h : Heap), c1f = some r → K16 t h := by
      intro t h hm0
      refine hK16 _ _ ?_
      unfold c1f at hm0
      refine b0d fun K hK => ?_
      simp only [go_sem]
      refine hK _ _ ?_
      clear hK K
      simp only [b1a, b1c, b1b, b1d]
      obtain rfl := Option.some.inj hm0
      exact b1q (by simp only [go_sem, List.length_append, List.map_append]) (b0l _)
     simp only [b00]
     obtain ⟨b18, hl18, hm0⟩ := b0h hm0
     refine b1x hl18 (fun | x_56, t, h => t 1 = .fp [.fs 5 (List.map b0p h_.Combs), .fs 3 (List.map b0o h_.Trains), .fs 3 (List.map b0q h_.Shifts), I h_.Until] 0 ∧ t 54 = .fs 3 (List.map b0q h_.Shifts) ∧ t 55 = I (List.length h_.Shifts : Int) ∧ t 56 = I x_56) ?_ ?_
     ·exact ⟨s1, (by first | (simp only [go_sem, List.length_append, List.map_append]; done) | rfl), (by first | (simp only [go_sem, List.length_append, List.map_append]; done) | rfl), (by first | (simp only [go_sem, List.length_append, List.map_append]; done) | rfl)⟩
     ·rintro x_56 o t h ⟨s1, s54, s55, s56⟩ hm1 hb18
      simp only [b6s] at hm1
      rw [d9x]
      refine b0d fun K hK => ?_
      simp only [go_sem, s55, s56]
      refine hK _ _ ?_
      clear hK K
      refine b0r fun K19 hK19 => ?_
      simp only [go_sem]
      refine b0u (fun hc20 => ?_) (fun hc20 => ?_)
      ·rw [b02 hc20] at hm1
       simp only [b0z, b0i, b0j]
       refine hK19 _ _ ?_
       refine b0r fun K21 hK21 => ?_
       simp only [b00]
       obtain ⟨x23, h_x23, hm1⟩ := b0h hm1
       have h_x230 := b0w h_x23
       have h_x231 := b0x h_x23
       refine b0d fun K hK => ?_
       simp only [go_sem, s54, s56, b0m h_x23, b0n h_x23, h_x230, h_x231]
       refine hK _ _ ?_
       clear hK K
       obtain ⟨c29, h_c29, hm1⟩ := b0h hm1
       refine b2d (fun t h => t 1 = .fp [.fs 5 (List.map b0p h_.Combs), .fs 3 (List.map b0o h_.Trains), .fs 3 (List.map b0q h_.Shifts), I h_.Until] 0 ∧ t 54 = .fs 3 (List.map b0q h_.Shifts) ∧ t 55 = I (List.length h_.Shifts : Int) ∧ t 56 = I x_56 ∧ t 106 = B (((c29 || (decide (x23.Comb < 0))) || (decide ((List.length h_.Combs : Int) ≤ x23.Comb))) || (!(b28 x23.Rate (Span.mk 0 1000))))) (fun K hK => ?_) ?_
       ·simp only [go_sem, s1]
        refine b0u (fun hg30 => ?_) (fun hg30 => ?_)
        ·simp only [hg30, Bool.not_true, Bool.not_false, eq_self, if_true, if_false, Bool.true_or, Bool.or_true, Bool.false_or, Bool.or_false, Bool.true_and, Bool.and_true, Bool.false_and, Bool.and_false, Bool.false_eq_true] at h_c29
         obtain rfl := Option.some.inj h_c29
         simp only [go_sem, s1, hg30]
         exact hK _ _ ⟨s1, s54, s55, s56, (by first | (simp only [go_sem, hg30, List.length_append, List.map_append]; done) | rfl)⟩
        ·simp only [go_sem, s1, hg30]
         refine b0u (fun hg31 => ?_) (fun hg31 => ?_)
         ·simp only [hg30, hg31, Bool.not_true, Bool.not_false, eq_self, if_true, if_false, Bool.true_or, Bool.or_true, Bool.false_or, Bool.or_false, Bool.true_and, Bool.and_true, Bool.false_and, Bool.and_false, Bool.false_eq_true] at h_c29
          obtain rfl := Option.some.inj h_c29
          simp only [go_sem, s1, hg30, hg31]
          exact hK _ _ ⟨s1, s54, s55, s56, (by first | (simp only [go_sem, hg30, hg31, List.length_append, List.map_append]; done) | rfl)⟩
         ·simp only [hg30, hg31, Bool.not_true, Bool.not_false, eq_self, if_true, if_false, Bool.true_or, Bool.or_true, Bool.false_or, Bool.or_false, Bool.true_and, Bool.and_true, Bool.false_and, Bool.and_false, Bool.false_eq_true] at h_c29
          obtain ⟨c28, h_c28, h_c29⟩ := b0h h_c29
          obtain rfl := Option.some.inj h_c29
          simp only [go_sem, s1, hg30, hg31]
          refine b0u (fun hg32 => ?_) (fun hg32 => ?_)
          ·simp only [hg30, hg31, hg32, Bool.not_true, Bool.not_false, eq_self, if_true, if_false, Bool.true_or, Bool.or_true, Bool.false_or, Bool.or_false, Bool.true_and, Bool.and_true, Bool.false_and, Bool.and_false, Bool.false_eq_true] at h_c28
           obtain ⟨x27, h_x27, h_c28⟩ := b0h h_c28
           have h_x270 := b0w h_x27
           have h_x271 := b0x h_x27
           obtain rfl := Option.some.inj h_c28
           simp only [go_sem, s1, b0m h_x27, b0n h_x27, h_x270, h_x271, hg30, hg31, hg32]
           refine b0u (fun hg33 => ?_) (fun hg33 => ?_)
           ·simp only [go_sem, s1, b0m h_x27, b0n h_x27, h_x270, h_x271, hg30, hg31, hg32, hg33]
            exact hK _ _ ⟨s1, s54, s55, s56, (by first | (simp only [go_sem, hg30, hg31, hg32, hg33, List.length_append, List.map_append]; done) | rfl)⟩
           ·simp only [go_sem, s1, b0m h_x27, b0n h_x27, h_x270, h_x271, hg30, hg31, hg32, hg33]
            refine b0u (fun hg34 => ?_) (fun hg34 => ?_)
            ·simp only [go_sem, s1, b0m h_x27, b0n h_x27, h_x270, h_x271, hg30, hg31, hg32, hg33, hg34]
             exact hK _ _ ⟨s1, s54, s55, s56, (by first | (simp only [go_sem, hg30, hg31, hg32, hg33, hg34, List.length_append, List.map_append]; done) | rfl)⟩
            ·simp only [go_sem, s1, b0m h_x27, b0n h_x27, h_x270, h_x271, hg30, hg31, hg32, hg33, hg34]
             refine b0u (fun hg35 => ?_) (fun hg35 => ?_)
             ·simp only [go_sem, s1, b0m h_x27, b0n h_x27, h_x270, h_x271, hg30, hg31, hg32, hg33, hg34, hg35]
              exact hK _ _ ⟨s1, s54, s55, s56, (by first | (simp only [go_sem, hg30, hg31, hg32, hg33, hg34, hg35, List.length_append, List.map_append]; done) | rfl)⟩
             ·simp only [go_sem, s1, b0m h_x27, b0n h_x27, h_x270, h_x271, hg30, hg31, hg32, hg33, hg34, hg35]
              refine b1j (b48 x23.Rate (Span.mk 0 1000)) ?_
              simp only [go_sem, s1, b0m h_x27, b0n h_x27, h_x270, h_x271, hg30, hg31, hg32, hg33, hg34, hg35]
              exact hK _ _ ⟨s1, s54, s55, s56, (by first | (simp only [go_sem, hg30, hg31, hg32, hg33, hg34, hg35, List.length_append, List.map_append]; done) | rfl)⟩
          ·simp only [hg30, hg31, hg32, Bool.not_true, Bool.not_false, eq_self, if_true, if_false, Bool.true_or, Bool.or_true, Bool.false_or, Bool.or_false, Bool.true_and, Bool.and_true, Bool.false_and, Bool.and_false, Bool.false_eq_true] at h_c28
           obtain rfl := Option.some.inj h_c28
           simp only [go_sem, s1, hg30, hg31, hg32]
           refine b0u (fun hg36 => ?_) (fun hg36 => ?_)
           ·simp only [go_sem, s1, hg30, hg31, hg32, hg36]
            exact hK _ _ ⟨s1, s54, s55, s56, (by first | (simp only [go_sem, hg30, hg31, hg32, hg36, List.length_append, List.map_append]; done) | rfl)⟩
           ·simp only [go_sem, s1, hg30, hg31, hg32, hg36]
            refine b0u (fun hg37 => ?_) (fun hg37 => ?_)
            ·simp only [go_sem, s1, hg30, hg31, hg32, hg36, hg37]
             exact hK _ _ ⟨s1, s54, s55, s56, (by first | (simp only [go_sem, hg30, hg31, hg32, hg36, hg37, List.length_append, List.map_append]; done) | rfl)⟩
            ·simp only [go_sem, s1, hg30, hg31, hg32, hg36, hg37]
             refine b1j (b48 x23.Rate (Span.mk 0 1000)) ?_
             simp only [go_sem, s1, hg30, hg31, hg32, hg36, hg37]
             exact hK _ _ ⟨s1, s54, s55, s56, (by first | (simp only [go_sem, hg30, hg31, hg32, hg36, hg37, List.length_append, List.map_append]; done) | rfl)⟩
       ·rintro t h ⟨s1, s54, s55, s56, s106⟩
        simp only [go_sem, s106]
        refine b0u (fun hc38 => ?_) (fun hc38 => ?_)
        ·rw [b02 hc38] at hm1
         refine b0d fun K hK => ?_
         simp only [go_sem]
         refine hK _ _ ?_
         clear hK K
         simp only [b1a, b1c, b1b, b1d]
         obtain rfl := Option.some.inj hm1
         obtain rfl := hb18 _ rfl
         try dsimp only at hm0
         obtain rfl := Option.some.inj hm0
         exact b1q (by simp only [go_sem, List.length_append, List.map_append]) (b0l _)
        ·rw [b01 hc38] at hm1
         simp only [b0z, b0i, b0j]
         refine hK21 _ _ ?_
         refine b1i fun K hK => ?_
         simp only [go_sem, s56]
         refine hK _ _ ?_
         clear hK K
         simp only [b0i, b0j]
         obtain rfl := Option.some.inj hm1
         refine ⟨_, rfl, ?_⟩
         exact ⟨s1, s54, s55, (by first | (simp only [go_sem, s56, List.length_append, List.map_append]; done) | rfl)⟩
      ·rw [b01 hc20] at hm1
       simp only [b1t, b1w, b1v, b1u, b0i, b0j, Nat.reduceEqDiff, not_false_eq_true]
       obtain rfl := Option.some.inj hm1
       obtain rfl := hb18 _ rfl
       try dsimp only at hm0
       exact J17  _ _  hm0
   simp only [b00]
   obtain ⟨b40, hl40, hm0⟩ := b0h hm0
   refine b1x hl40 (fun | x_41, t, h => t 1 = .fp [.fs 5 (List.map b0p h_.Combs), .fs 3 (List.map b0o h_.Trains), .fs 3 (List.map b0q h_.Shifts), I h_.Until] 0 ∧ t 40 = I (List.length h_.Combs : Int) ∧ t 41 = I x_41) ?_ ?_
   ·exact ⟨s1, (by first | (simp only [go_sem, List.length_append, List.map_append]; done) | rfl), (by first | (simp only [go_sem, List.length_append, List.map_append]; done) | rfl)⟩
   ·rintro x_41 o t h ⟨s1, s40, s41⟩ hm1 hb40
    simp only [b6t] at hm1
    rw [d9y]
    refine b0d fun K hK => ?_
    simp only [go_sem, s40, s41]
    refine hK _ _ ?_
    clear hK K
    refine b0r fun K41 hK41 => ?_
    simp only [go_sem]
    refine b0u (fun hc42 => ?_) (fun hc42 => ?_)
    ·rw [b02 hc42] at hm1
     simp only [b0z, b0i, b0j]
     refine hK41 _ _ ?_
     refine b0r fun K43 hK43 => ?_
     simp only [b00]
     refine b0d fun K hK => ?_
     simp only [go_sem, s41]
     refine hK _ _ ?_
     clear hK K
     obtain ⟨y45, h_y45, hm1⟩ := b0h hm1
     refine b0d fun K hK => ?_
     simp only [go_sem, s1]
     refine b1j (d0a h_ x_41 _ h_y45) ?_
     simp only [go_sem, s1]
     refine hK _ _ ?_
     clear hK K
     simp only [go_sem]
     refine b0u (fun hc46 => ?_) (fun hc46 => ?_)
     ·rw [b02 hc46] at hm1
      refine b0d fun K hK => ?_
      simp only [go_sem]
      refine hK _ _ ?_
      clear hK K
      simp only [b1a, b1c, b1b, b1d]
      obtain rfl := Option.some.inj hm1
      obtain rfl := hb40 _ rfl
      try dsimp only at hm0
      obtain rfl := Option.some.inj hm0
      exact b1q (by simp only [go_sem, List.length_append, List.map_append]) (b0l _)
     ·rw [b01 hc46] at hm1
      simp only [b0z, b0i, b0j]
      refine hK43 _ _ ?_
      refine b1i fun K hK => ?_
      simp only [go_sem, s41]
      refine hK _ _ ?_
      clear hK K
      simp only [b0i, b0j]
      obtain rfl := Option.some.inj hm1
      refine ⟨_, rfl, ?_⟩
      exact ⟨s1, s40, (by first | (simp only [go_sem, s41, List.length_append, List.map_append]; done) | rfl)⟩
    ·rw [b01 hc42] at hm1
     simp only [b1t, b1w, b1v, b1u, b0i, b0j, Nat.reduceEqDiff, not_false_eq_true]
     obtain rfl := Option.some.inj hm1
     obtain rfl := hb40 _ rfl
     try dsimp only at hm0
     exact J9  _ _ s1 hm0
theorem c92 (hf : Has O "newel/halls.Check$1" x_halls_CheckD1) (d0d : c63 O) : c6s O := by
 intro t_ c0 r hm0
 unfold b6r at hm0
 refine b2k hf rfl (b0e (.agg _ (b0e (b0l _) (b0e (b0l _) (b0e (b0s fun a _ => c1a a) b0y)))) (b0e (.fp _ _ (b0e (b0s fun a _ => b2m a) (b0e (b0s fun a _ => b2l a) (b0e (b0s fun a _ => b2o a) (b0e (b0l _) b0y))))) b0y)) (b0l _) ?_
 refine b2h (fun t h => t 0 = .agg [I t_.At.Low, I t_.At.High, .fs 3 (List.map b2t t_.Crowds)] ∧ t 1 = .fp [.fs 5 (List.map b0p c0.Combs), .fs 3 (List.map b0o c0.Trains), .fs 3 (List.map b0q c0.Shifts), I c0.Until] 0) ⟨rfl, rfl⟩ fun t h ⟨s0, s1⟩ => ?_
 simp only [x_halls_CheckD1]
 refine b0d fun K hK => ?_
 simp only [go_sem, s0]
 refine hK _ _ ?_
 clear hK K
 obtain ⟨y2, h_y2, hm0⟩ := b0h hm0
 refine b0d fun K hK => ?_
 simp only [go_sem, s1]
 refine b1j (d0d c0 t_ _ h_y2) ?_
 simp only [go_sem, s1]
 refine hK _ _ ?_
 clear hK K
 simp only [b1a, b1c, b1b, b1d]
 obtain rfl := Option.some.inj hm0
 exact b1q (by simp only [go_sem, List.length_append, List.map_append]) (b0l _)
theorem c93 (hf : Has O "newel/halls.Guard" x_halls_Guard) (c17 : c3j O) (d0f : c65 O) (c98 : c6y O) (c18 : c3k O) : c6t O := by
 intro h_ comb from_ r hm0
 unfold c1g at hm0
 refine b2k hf rfl (b0e (.agg _ (b0e (b0s fun a _ => b2m a) (b0e (b0s fun a _ => b2l a) (b0e (b0s fun a _ => b2o a) (b0e (b0l _) b0y))))) (b0e (b0l _) (b0e (b0l _) b0y))) (.tup _ (b0e (b0l _) (b0e (b0l _) b0y))) ?_
 refine b2h (fun t h => t 0 = .agg [.fs 5 (List.map b0p h_.Combs), .fs 3 (List.map b0o h_.Trains), .fs 3 (List.map b0q h_.Shifts), I h_.Until] ∧ t 1 = I comb ∧ t 2 = I from_) ⟨rfl, rfl, rfl⟩ fun t h ⟨s0, s1, s2⟩ => ?_
 simp only [x_halls_Guard]
 refine b0d fun K hK => ?_
 simp only [go_sem, s0]
 refine hK _ _ ?_
 clear hK K
 refine b03 ?_
 obtain ⟨y2, h_y2, hm0⟩ := b0h hm0
 refine b0d fun K hK => ?_
 simp only [go_sem, s1, s2]
 refine c9u ?_ (c17 h_ comb ([from_]) _ h_y2) (.v _) ?_
 ·exact .cons (.refl _ (.agg _ (b0e (b0s fun a _ => b2m a) (b0e (b0s fun a _ => b2l a) (b0e (b0s fun a _ => b2o a) (b0e (b0l _) b0y)))))) (.cons (.refl _ (b0l _)) (.cons (b42 (f := eI) (l := ([from_])) (id := h.nx) (by simp only [go_sem, List.length_append, List.map_append]) (by first | rfl | simp only [go_sem, List.length_append, List.map_append]) b2b b38) (.nil)))
 simp only [go_sem, s1, s2]
 refine hK _ _ ?_
 clear hK K
 refine b03 ?_
 refine b0d fun K hK => ?_
 simp only [go_sem]
 refine hK _ _ ?_
 clear hK K
 refine b0r fun K3 hK3 => ?_
 simp only [go_sem]
 refine b0u (fun hc4 => ?_) (fun hc4 => ?_)
 ·rw [b02 hc4] at hm0
  refine b0d fun K hK => ?_
  simp only [go_sem]
  refine hK _ _ ?_
  clear hK K
  simp only [b1a, b1c, b1b, b1d]
  obtain rfl := Option.some.inj hm0
  exact b88 (by simp only [go_sem, List.length_append, List.map_append]) (by simp only [go_sem, List.length_append, List.map_append]) (b0l _) (b0l _)
 ·rw [b01 hc4] at hm0
  simp only [b0z, b0i, b0j]
  refine hK3 _ _ ?_
  obtain ⟨y6, h_y6, hm0⟩ := b0h hm0
  refine b2d (fun t h => ∃ v9 : AV, ∃ hs9 : List AV, t 1 = I comb ∧ t 2 = I from_ ∧ t 3 = .fp [.fs 5 (List.map b0p h_.Combs), .fs 3 (List.map b0o h_.Trains), .fs 3 (List.map b0q h_.Shifts), I h_.Until] 0 ∧ t 9 = v9 ∧ RR h v9 hs9 1 eI y6) (fun K hK => ?_) ?_
  ·simp only [go_sem]
   refine d6g (d0f h_ _  _ h_y6) ?_
   rintro rv_y6 hq_y6 ⟨rh_y6, rw_y6, fr_y6, fx_y6, ge_y6⟩
   simp only [go_sem]
   exact hK _ _ ⟨rv_y6, rh_y6, s1, s2, (by first | (simp only [go_sem, List.length_append, List.map_append]; done) | rfl), (by first | (simp only [go_sem, List.length_append, List.map_append]; done) | rfl), rw_y6⟩
  ·rintro t h ⟨v9, hs9, s1, s2, s3, s9, qv⟩
   refine b0d fun K hK => ?_
   simp only [go_sem, b0a v9]
   refine hK _ _ ?_
   clear hK K
   simp only [b00]
   obtain ⟨b7, hl7, hm0⟩ := b0h hm0
   refine b1x hl7 (fun | (all_9, n_10), t, h => ∃ v9_1 : AV, t 1 = I comb ∧ t 2 = I from_ ∧ t 3 = .fp [.fs 5 (List.map b0p h_.Combs), .fs 3 (List.map b0o h_.Trains), .fs 3 (List.map b0q h_.Shifts), I h_.Until] 0 ∧ t 9 = v9_1 ∧ t 10 = I n_10 ∧ RR h v9_1 hs9 1 eI all_9) ?_ ?_
   ·exact ⟨v9, s1, s2, s3, s9, (by first | (simp only [go_sem, List.length_append, List.map_append]; done) | rfl), qv⟩
   ·rintro ⟨all_9, n_10⟩ o t h ⟨v9_1, s1, s2, s3, s9, s10, qv⟩ hm1 hb7
    simp only [c4m] at hm1
    rw [d9z]
    refine b0r fun K8 hK8 => ?_
    simp only [b00]
    refine b03 ?_
    obtain ⟨y11, h_y11, hm1⟩ := b0h hm1
    obtain ⟨y12, h_y12, hm1⟩ := b0h hm1
    refine b2d (fun t h => t 1 = I comb ∧ t 2 = I from_ ∧ t 3 = .fp [.fs 5 (List.map b0p h_.Combs), .fs 3 (List.map b0o h_.Trains), .fs 3 (List.map b0q h_.Shifts), I h_.Until] 0 ∧ t 9 = v9_1 ∧ t 10 = I n_10 ∧ t 29 = B (decide ((List.length y12 : Int) = 0)) ∧ RR h v9_1 hs9 1 eI all_9) (fun K hK => ?_) ?_
    ·simp only [go_sem, s3, s9, b2c qv, b0a v9, b0a v9_1]
     refine d6g (c98 h_ all_9 v9_1 hs9 _ qv _ h_y11) ?_
     rintro _ hq_y11 ⟨rfl, fr_y11, fx_y11⟩
     simp only [go_sem, s3, s9, b2c qv, b0a v9, b0a v9_1]
     refine b1j (c18 h_ y11 _ h_y12) ?_
     simp only [go_sem, s3, s9, b2c qv, b0a v9, b0a v9_1]
     exact hK _ _ ⟨s1, s2, s3, s9, s10, (by first | (simp only [go_sem, List.length_append, List.map_append]; done) | rfl), (b2f qv (by intro j hj  hl; first | rfl | simp only [go_sem, hl, fr_y11]) (by first | omega | exact Nat.le_refl _ | (simp only [go_sem, nxs] <;> omega)))⟩
    ·rintro t h ⟨s1, s2, s3, s9, s10, s29, qv⟩
     refine b0r fun K13 hK13 => ?_
     simp only [go_sem, s29]
     refine b0u (fun hc14 => ?_) (fun hc14 => ?_)
     ·rw [b02 hc14] at hm1
      refine b0d fun K hK => ?_
      simp only [go_sem, s10, b0a v9, b0a v9_1]
      refine hK _ _ ?_
      clear hK K
      simp only [b1a, b1c, b1b, b1d]
      obtain rfl := Option.some.inj hm1
      obtain rfl := hb7 _ rfl
      try dsimp only at hm0
      obtain rfl := Option.some.inj hm0
      exact b88 (by simp only [go_sem, b1h qv, List.length_append, List.map_append]) (by simp only [go_sem, b1h qv, List.length_append, List.map_append]) (b0l _) (b0l _)
     ·rw [b01 hc14] at hm1
      simp only [b0z, b0i, b0j]
      refine hK13 _ _ ?_
      refine b03 ?_
      refine b0d fun K hK => ?_
      simp only [go_sem, s2, s3, s10, b0a v9, b0a v9_1]
      refine hK _ _ ?_
      clear hK K
      refine b0r fun K15 hK15 => ?_
      simp only [go_sem]
      refine b0u (fun hc16 => ?_) (fun hc16 => ?_)
      ·rw [b02 hc16] at hm1
       refine b0d fun K hK => ?_
       simp only [go_sem, b0a v9, b0a v9_1]
       refine hK _ _ ?_
       clear hK K
       simp only [b1a, b1c, b1b, b1d]
       obtain rfl := Option.some.inj hm1
       obtain rfl := hb7 _ rfl
       try dsimp only at hm0
       obtain rfl := Option.some.inj hm0
       exact b88 (by simp only [go_sem, b1h qv, List.length_append, List.map_append]) (by simp only [go_sem, b1h qv, List.length_append, List.map_append]) (b0l _) (b0l _)
      ·rw [b01 hc16] at hm1
       simp only [b0z, b0i, b0j]
       refine hK15 _ _ ?_
       obtain ⟨x19, h_x19, hm1⟩ := b0h hm1
       have h_x190 := b0w h_x19
       have h_x191 := b0x h_x19
       obtain ⟨iqp34, rfl, qu, qi⟩ := b3w qv h_x19
       obtain ⟨wp35, hw_wp35, os_wp35⟩ := b3v qv h_x19
       obtain ⟨x20, h_x20, hm1⟩ := b0h hm1
       have h_x200 := b0w h_x20
       have h_x201 := b0x h_x20
       obtain ⟨irp36, rfl, obr_irp36, ltr_irp36⟩ := b3m os_wp35 h_x20
       refine b5g (fun t h => ∃ v9_2 : AV, t 1 = I comb ∧ t 2 = I from_ ∧ t 3 = .fp [.fs 5 (List.map b0p h_.Combs), .fs 3 (List.map b0o h_.Trains), .fs 3 (List.map b0q h_.Shifts), I h_.Until] 0 ∧ t 9 = v9_2 ∧ t 10 = I n_10 ∧ RR h v9_2 hs9 1 eI (List.set all_9 (Int.toNat comb) (List.set x19 (Int.toNat (wr (from_ + n_10))) 0))) (fun K hK => ?_) ?_
       ·simp only [go_sem, s1, s2, s9, b2c qv, s10, qu, qi, b0m h_x19, b0n h_x19, h_x190, h_x191, b0m hw_wp35, b0n hw_wp35, b3i os_wp35, b0m h_x20, b0n h_x20, h_x200, h_x201, obr_irp36, ltr_irp36, b0a v9]
        exact hK _ _ ⟨(.rs iqp34 0 (List.length all_9)), s1, s2, s3, (by first | (simp only [go_sem, s9, List.length_append, List.map_append]; done) | rfl), s10, (b7e qv h_x19 hw_wp35 (by simp only [go_sem, b1h qv, qu, qi, b2w qv hw_wp35, b0b (b2w qv hw_wp35), List.length_append, List.map_append]) (by simp only [List.length_set]) (by intro j hj hne hl; first | rfl | simp only [go_sem, hne, hl, qi]) (by first | omega | exact Nat.le_refl _ | (simp only [go_sem, nxs] <;> omega)))⟩
       ·try clear s1 s2 s3 s9 s10 s29 qv qu qi
        rintro t h ⟨v9_2, s1, s2, s3, s9, s10, qv⟩
        simp only [b0i, b0j]
        refine hK8 _ _ ?_
        refine b1i fun K hK => ?_
        simp only [go_sem, s10, b0a v9, b0a v9_2]
        refine hK _ _ ?_
        clear hK K
        simp only [b0i, b0j]
        obtain rfl := Option.some.inj hm1
        refine ⟨_, rfl, ?_⟩
        exact ⟨v9_2, s1, s2, s3, s9, (by first | (simp only [go_sem, s10, List.length_append, List.map_append]; done) | rfl), qv⟩
theorem c94 (hf : Has O "newel/halls.Over" x_halls_Over) (b6f : b8t O) (d0e : c64 O) (c97 : c6x O) (c18 : c3k O) : c6u O := by
 intro h_ r hm0
 unfold c1h at hm0
 refine b2k hf rfl (b0e (.agg _ (b0e (b0s fun a _ => b2m a) (b0e (b0s fun a _ => b2l a) (b0e (b0s fun a _ => b2o a) (b0e (b0l _) b0y))))) b0y) (.tup _ (b0e (b0s fun a _ => c4g a) (b0e (b0l _) b0y))) ?_
 refine b2h (fun t h => t 0 = .agg [.fs 5 (List.map b0p h_.Combs), .fs 3 (List.map b0o h_.Trains), .fs 3 (List.map b0q h_.Shifts), I h_.Until]) rfl fun t h s0 => ?_
 simp only [x_halls_Over]
 refine b0d fun K hK => ?_
 simp only [go_sem, s0]
 refine hK _ _ ?_
 clear hK K
 refine b03 ?_
 obtain ⟨y2, h_y2, hm0⟩ := b0h hm0
 refine b0d fun K hK => ?_
 simp only [go_sem]
 refine b1j (b6f h_ _ h_y2) ?_
 simp only [go_sem]
 refine hK _ _ ?_
 clear hK K
 refine b03 ?_
 refine b0d fun K hK => ?_
 simp only [go_sem]
 refine hK _ _ ?_
 clear hK K
 refine b0r fun K3 hK3 => ?_
 simp only [go_sem]
 refine b0u (fun hc4 => ?_) (fun hc4 => ?_)
 ·rw [b02 hc4] at hm0
  refine b0d fun K hK => ?_
  simp only [go_sem]
  refine hK _ _ ?_
  clear hK K
  simp only [b1a, b1c, b1b, b1d]
  obtain rfl := Option.some.inj hm0
  exact b5u (v := .v (.slice none 0 0)) (u := I y2) (by simp only [go_sem, List.length_append, List.map_append]) (by simp only [go_sem, List.length_append, List.map_append]) (.nil _) (.refl _ (b0l _))
 ·rw [b01 hc4] at hm0
  simp only [b0z, b0i, b0j]
  refine hK3 _ _ ?_
  obtain ⟨y8, h_y8, hm0⟩ := b0h hm0
  obtain ⟨y9, h_y9, hm0⟩ := b0h hm0
  obtain ⟨y10, h_y10, hm0⟩ := b0h hm0
  refine b0d fun K hK => ?_
  simp only [go_sem]
  refine b1j (d0e h_ _ h_y8) ?_
  simp only [go_sem]
  refine b1j (c97 h_ y8 _ h_y9) ?_
  simp only [go_sem]
  refine b1j (c18 h_ y9 _ h_y10) ?_
  simp only [go_sem]
  refine hK _ _ ?_
  clear hK K
  simp only [b1a, b1c, b1b, b1d]
  obtain rfl := Option.some.inj hm0
  exact b88 (by simp only [go_sem, List.length_append, List.map_append]) (by simp only [go_sem, List.length_append, List.map_append]) (b0s fun a _ => c4g a) (b0l _)
theorem c95 (hf : Has O "newel/halls.Play" x_halls_Play) (b6f : b8t O) (d0b : c61 O) (b6g : b8v O) : c6v O := by
 intro h_ d r hm0
 unfold b6u at hm0
 refine b2k hf rfl (b0e (.agg _ (b0e (b0s fun a _ => b2m a) (b0e (b0s fun a _ => b2l a) (b0e (b0s fun a _ => b2o a) (b0e (b0l _) b0y))))) (b0e (.agg _ (b0e (b0s fun a _ => b2b a) (b0e (b0s fun a _ => b2v a) (b0e (b0s fun a _ => b2v a) b0y)))) b0y)) (.tup _ (b0e (b0s fun a _ => b2v a) (b0e (b0l _) b0y))) ?_
 refine b2h (fun t h => t 0 = .agg [.fs 5 (List.map b0p h_.Combs), .fs 3 (List.map b0o h_.Trains), .fs 3 (List.map b0q h_.Shifts), I h_.Until] ∧ t 1 = .agg [.fs 1 (List.map eI d.At), .fs 1 (List.map b0k d.People), .fs 1 (List.map b0k d.Walks)]) ⟨rfl, rfl⟩ fun t h ⟨s0, s1⟩ => ?_
 simp only [x_halls_Play]
 refine b0d fun K hK => ?_
 simp only [go_sem, s0, s1]
 refine hK _ _ ?_
 clear hK K
 refine b03 ?_
 obtain ⟨y2, h_y2, hm0⟩ := b0h hm0
 refine b0d fun K hK => ?_
 simp only [go_sem]
 refine b1j (b6f h_ _ h_y2) ?_
 simp only [go_sem]
 refine hK _ _ ?_
 clear hK K
 refine b03 ?_
 refine b0d fun K hK => ?_
 simp only [go_sem]
 refine hK _ _ ?_
 clear hK K
 refine b0r fun K3 hK3 => ?_
 simp only [go_sem]
 refine b0u (fun hc4 => ?_) (fun hc4 => ?_)
 ·rw [b02 hc4] at hm0
  refine b0d fun K hK => ?_
  simp only [go_sem]
  refine hK _ _ ?_
  clear hK K
  simp only [b1a, b1c, b1b, b1d]
  obtain rfl := Option.some.inj hm0
  exact b5u (v := .v (.slice none 0 0)) (u := I y2) (by simp only [go_sem, List.length_append, List.map_append]) (by simp only [go_sem, List.length_append, List.map_append]) (.nil _) (.refl _ (b0l _))
 ·rw [b01 hc4] at hm0
  simp only [b0z, b0i, b0j]
  refine hK3 _ _ ?_
  refine b03 ?_
  obtain ⟨y6, h_y6, hm0⟩ := b0h hm0
  refine b0d fun K hK => ?_
  simp only [go_sem]
  refine b1j (d0b h_ d _ h_y6) ?_
  simp only [go_sem]
  refine hK _ _ ?_
  clear hK K
  refine b0r fun K7 hK7 => ?_
  simp only [go_sem]
  refine b0u (fun hc8 => ?_) (fun hc8 => ?_)
  ·rw [b02 hc8] at hm0
   refine b0d fun K hK => ?_
   simp only [go_sem]
   refine hK _ _ ?_
   clear hK K
   simp only [b1a, b1c, b1b, b1d]
   obtain rfl := Option.some.inj hm0
   exact b5u (v := .v (.slice none 0 0)) (u := I 61) (by simp only [go_sem, List.length_append, List.map_append]) (by simp only [go_sem, List.length_append, List.map_append]) (.nil _) (.refl _ (b0l _))
  ·rw [b01 hc8] at hm0
   simp only [b0z, b0i, b0j]
   refine hK7 _ _ ?_
   refine b0d fun K hK => ?_
   simp only [go_sem]
   refine hK _ _ ?_
   clear hK K
   refine b03 ?_
   refine b0d fun K hK => ?_
   simp only [go_sem]
   refine hK _ _ ?_
   clear hK K
   refine b0r fun K9 hK9 => ?_
   have J10 : ∀ (rows_7 : List (List Int)) (v7 : AV) (hs7 : List AV) (t : Slots) (h : Heap), t 2 = .fp [.fs 5 (List.map b0p h_.Combs), .fs 3 (List.map b0o h_.Trains), .fs 3 (List.map b0q h_.Shifts), I h_.Until] 0 → t 3 = .fp [.fs 1 (List.map eI d.At), .fs 1 (List.map b0k d.People), .fs 1 (List.map b0k d.Walks)] 0 → t 7 = v7 → RR h v7 hs7 1 eI rows_7 → c4n h_ d rows_7 = some r → K9 t h := by
    intro rows_7 v7 hs7 t h s2 s3 s7 q3 hm0
    refine hK9 _ _ ?_
    unfold c4n at hm0
    refine b03 ?_
    refine b0d fun K hK => ?_
    simp only [go_sem, s2, b0a v7]
    refine hK _ _ ?_
    clear hK K
    refine b0r fun K11 hK11 => ?_
    have J12 : ∀ (rows_7_1 : List (List Int)) (v7_1 : AV) (t : Slots) (h : Heap), t 2 = .fp [.fs 5 (List.map b0p h_.Combs), .fs 3 (List.map b0o h_.Trains), .fs 3 (List.map b0q h_.Shifts), I h_.Until] 0 → t 3 = .fp [.fs 1 (List.map eI d.At), .fs 1 (List.map b0k d.People), .fs 1 (List.map b0k d.Walks)] 0 → t 7 = v7_1 → RR h v7_1 hs7 1 eI rows_7_1 → c4o h_ d rows_7_1 = some r → K11 t h := by
     intro rows_7_1 v7_1 t h s2 s3 s7 q3 hm0
     refine hK11 _ _ ?_
     unfold c4o at hm0
     obtain ⟨l14, h_l14, hm0⟩ := b0h hm0
     refine b2d (fun t h => ∃ v12 : AV, ∃ hs12 : List AV, t 2 = .fp [.fs 5 (List.map b0p h_.Combs), .fs 3 (List.map b0o h_.Trains), .fs 3 (List.map b0q h_.Shifts), I h_.Until] 0 ∧ t 3 = .fp [.fs 1 (List.map eI d.At), .fs 1 (List.map b0k d.People), .fs 1 (List.map b0k d.Walks)] 0 ∧ t 7 = v7_1 ∧ t 12 = v12 ∧ RR h v7_1 hs7 1 eI rows_7_1 ∧ RR h v12 hs12 1 eI l14 ∧ (∀ j, ¬b0f v12 hs12 j → b0f v7_1 hs7 j)) (fun K hK => ?_) ?_
     ·simp only [go_sem, s2, b0a v7, b0a v7_1]
      refine g8u h_l14 ?_
      simp only [go_sem, s2, b0a v7, b0a v7_1]
      exact hK _ _ ⟨(.rs h.nx 0 (List.length l14)), (List.map (fun _ => nilS) l14), s2, s3, s7, (by first | (simp only [go_sem, List.length_append, List.map_append]; done) | rfl), (b2f q3 (by intro j hj  hl; first | rfl | simp only [go_sem, hl]) (by first | omega | exact Nat.le_refl _ | (simp only [go_sem, nxs] <;> omega))), (j57 (by simp only [go_sem, List.length_append, List.map_append]) rfl (by simp only [go_sem]) (j0e h_l14)), (b2q (fun j hj => (j5r (b0b (b3d hj (by first | assumption | exact b2r (by assumption) (by first | assumption | omega | (simp only [nxs] <;> omega))))))))⟩
     ·rintro t h ⟨v12, hs12, s2, s3, s7, s12, q3, qj, rs_o7_o12⟩
      refine b03 ?_
      refine b0d fun K hK => ?_
      simp only [go_sem, s2, b0a v7, b0a v7_1, b0a v12]
      refine hK _ _ ?_
      clear hK K
      refine b0r fun K15 hK15 => ?_
      have J16 : ∀ (open_12 : List (List Int)) (v12_1 : AV) (hs12_1 : List AV) (t : Slots) (h : Heap), t 2 = .fp [.fs 5 (List.map b0p h_.Combs), .fs 3 (List.map b0o h_.Trains), .fs 3 (List.map b0q h_.Shifts), I h_.Until] 0 → t 3 = .fp [.fs 1 (List.map eI d.At), .fs 1 (List.map b0k d.People), .fs 1 (List.map b0k d.Walks)] 0 → t 7 = v7_1 → t 12 = v12_1 → RR h v7_1 hs7 1 eI rows_7_1 → RR h v12_1 hs12_1 1 eI open_12 → (∀ j, ¬b0f v12_1 hs12_1 j → b0f v7_1 hs7 j) → c4p h_ d rows_7_1 open_12 = some r → K15 t h := by
       intro open_12 v12_1 hs12_1 t h s2 s3 s7 s12 q3 qj rs_o7_o12 hm0
       refine hK15 _ _ ?_
       unfold c4p at hm0
       refine b03 ?_
       refine b0d fun K hK => ?_
       simp only [go_sem, s7, b2c q3, b0a v7, b0a v7_1, b0a v12, b0a v12_1]
       refine hK _ _ ?_
       clear hK K
       refine b0r fun K17 hK17 => ?_
       have J18 : ∀ (rows_7_2 : List (List Int)) (v7_2 : AV) (t : Slots) (h : Heap), t 7 = v7_2 → RR h v7_2 hs7 1 eI rows_7_2 → c8q rows_7_2 = some r → K17 t h := by
        intro rows_7_2 v7_2 t h s7 q3 hm0
        refine hK17 _ _ ?_
        unfold c8q at hm0
        refine b0d fun K hK => ?_
        simp only [go_sem, s7, b2c q3, b0a v7, b0a v7_1, b0a v12, b0a v12_1, b0a v7_2]
        refine hK _ _ ?_
        clear hK K
        simp only [b1a, b1c, b1b, b1d]
        obtain rfl := Option.some.inj hm0
        exact b5u (v := v7_2) (u := I 0) (by simp only [go_sem, b1h q3, List.length_append, List.map_append]) (by simp only [go_sem, b1h q3, List.length_append, List.map_append]) (c6d (e := b0k) (b2f q3 (by intro j hj  hl; first | rfl | simp only [go_sem, hl]) (by first | omega | exact Nat.le_refl _ | (simp only [go_sem, nxs] <;> omega))) (fun _ => rfl) b2b b38) (.refl _ (b0l _))
       simp only [b00]
       obtain ⟨b19, hl19, hm0⟩ := b0h hm0
       refine b1x hl19 (fun | (rows_7_2, x_101), t, h => ∃ v7_2 : AV, ∃ v12_2 : AV, t 2 = .fp [.fs 5 (List.map b0p h_.Combs), .fs 3 (List.map b0o h_.Trains), .fs 3 (List.map b0q h_.Shifts), I h_.Until] 0 ∧ t 3 = .fp [.fs 1 (List.map eI d.At), .fs 1 (List.map b0k d.People), .fs 1 (List.map b0k d.Walks)] 0 ∧ t 7 = v7_2 ∧ t 12 = v12_2 ∧ t 99 = v7_2 ∧ t 100 = I (List.length rows_7_1 : Int) ∧ t 101 = I x_101 ∧ RR h v7_2 hs7 1 eI rows_7_2 ∧ RR h v12_2 hs12_1 1 eI open_12 ∧ (∀ j, ¬b0f v12_2 hs12_1 j → b0f v7_2 hs7 j)) ?_ ?_
       ·exact ⟨v7_1, v12_1, s2, s3, s7, s12, (by first | (simp only [go_sem, List.length_append, List.map_append]; done) | rfl), (by first | (simp only [go_sem, List.length_append, List.map_append]; done) | rfl), (by first | (simp only [go_sem, List.length_append, List.map_append]; done) | rfl), q3, qj, (fun j hj => (rs_o7_o12 j hj))⟩
       ·rintro ⟨rows_7_2, x_101⟩ o t h ⟨v7_2, v12_2, s2, s3, s7, s12, s99, s100, s101, q3, qj, rs_o7_o12⟩ hm1 hb19
        simp only [c1l] at hm1
        rw [d95]
        refine b0d fun K hK => ?_
        simp only [go_sem, s100, s101, b0a v7, b0a v7_1, b0a v12, b0a v12_1, b0a v7_2, b0a v12_2]
        refine hK _ _ ?_
        clear hK K
        refine b0r fun K20 hK20 => ?_
        simp only [go_sem]
        refine b0u (fun hc21 => ?_) (fun hc21 => ?_)
        ·rw [b02 hc21] at hm1
         simp only [b0z, b0i, b0j]
         refine hK20 _ _ ?_
         refine b0r fun K22 hK22 => ?_
         have J23 : ∀ (rows_7_3 : List (List Int)) (v7_3 : AV) (v12_3 : AV) (t : Slots) (h : Heap), t 2 = .fp [.fs 5 (List.map b0p h_.Combs), .fs 3 (List.map b0o h_.Trains), .fs 3 (List.map b0q h_.Shifts), I h_.Until] 0 → t 3 = .fp [.fs 1 (List.map eI d.At), .fs 1 (List.map b0k d.People), .fs 1 (List.map b0k d.Walks)] 0 → t 7 = v7_3 → t 12 = v12_3 → t 99 = v7_3 → t 100 = I (List.length rows_7_1 : Int) → t 101 = I x_101 → RR h v7_3 hs7 1 eI rows_7_3 → RR h v12_3 hs12_1 1 eI open_12 → (∀ j, ¬b0f v12_3 hs12_1 j → b0f v7_3 hs7 j) → c4q x_101 rows_7_3 = some o → K22 t h := by
          try clear s2 s3 s7 s12 s99 s100 s101 q3 qj rs_o7_o12
          intro rows_7_3 v7_3 v12_3 t h s2 s3 s7 s12 s99 s100 s101 q3 qj rs_o7_o12 hm1
          refine hK22 _ _ ?_
          unfold c4q at hm1
          refine b1i fun K hK => ?_
          simp only [go_sem, s101, b0a v7, b0a v7_1, b0a v12, b0a v12_1, b0a v7_2, b0a v12_2, b0a v7_3, b0a v12_3]
          refine hK _ _ ?_
          clear hK K
          simp only [b0i, b0j]
          obtain rfl := Option.some.inj hm1
          refine ⟨_, rfl, ?_⟩
          exact ⟨v7_3, v12_3, s2, s3, s7, s12, s99, s100, (by first | (simp only [go_sem, s101, List.length_append, List.map_append]; done) | rfl), q3, qj, (fun j hj => (rs_o7_o12 j hj))⟩
         simp only [b00]
         obtain ⟨x25, h_x25, hm1⟩ := b0h hm1
         have h_x250 := b0w h_x25
         have h_x251 := b0x h_x25
         obtain ⟨iqp1087, rfl, q7, q0⟩ := b3w q3 h_x25
         obtain ⟨wp1088, hw_wp1088, os_wp1088⟩ := b3v q3 h_x25
         refine b2d (fun t h => ∃ v7_3 : AV, ∃ w15 : AV, t 2 = .fp [.fs 5 (List.map b0p h_.Combs), .fs 3 (List.map b0o h_.Trains), .fs 3 (List.map b0q h_.Shifts), I h_.Until] 0 ∧ t 3 = .fp [.fs 1 (List.map eI d.At), .fs 1 (List.map b0k d.People), .fs 1 (List.map b0k d.Walks)] 0 ∧ t 7 = v7_3 ∧ t 12 = v12_2 ∧ t 14 = I x_101 ∧ t 15 = w15 ∧ t 99 = v7_3 ∧ t 100 = I (List.length rows_7_1 : Int) ∧ t 101 = I x_101 ∧ RR h v7_3 hs7 1 eI rows_7_2 ∧ RR h v12_2 hs12_1 1 eI open_12 ∧ get hs7 x_101 = some w15 ∧ (∀ j, ¬b0f v12_2 hs12_1 j → b0f v7_3 hs7 j)) (fun K hK => ?_) ?_
         ·simp only [go_sem, s99, b2c q3, s101, q7, q0, b0m h_x25, b0n h_x25, h_x250, h_x251, b0m hw_wp1088, b0n hw_wp1088, b3i os_wp1088, b0a v7, b0a v7_1, b0a v12, b0a v12_1, b0a v12_2]
          exact hK _ _ ⟨(.rs iqp1087 0 (List.length rows_7_2)), wp1088, s2, s3, (by first | (simp only [go_sem, s7, List.length_append, List.map_append]; done) | rfl), s12, (by first | (simp only [go_sem, List.length_append, List.map_append]; done) | rfl), (by first | (simp only [go_sem, List.length_append, List.map_append]; done) | rfl), (by first | (simp only [go_sem, s99, List.length_append, List.map_append]; done) | rfl), s100, s101, (b2f q3 (by intro j hj  hl; first | rfl | simp only [go_sem, hl]) (by first | omega | exact Nat.le_refl _ | (simp only [go_sem, nxs] <;> omega))), qj, (by first | assumption | simp only [go_sem]), (fun j hj => (rs_o7_o12 j hj))⟩
         ·try clear s2 s3 s7 s12 s99 s100 s101 q3 qj rs_o7_o12 q7 q0
          rintro t h ⟨v7_3, w15, s2, s3, s7, s12, s14, s15, s99, s100, s101, q3, qj, ra_15, rs_o7_o12⟩
          have os_w15 := d82 q3 ra_15 h_x25
          refine b2d (fun t h => ∃ w106 : AV, t 2 = .fp [.fs 5 (List.map b0p h_.Combs), .fs 3 (List.map b0o h_.Trains), .fs 3 (List.map b0q h_.Shifts), I h_.Until] 0 ∧ t 3 = .fp [.fs 1 (List.map eI d.At), .fs 1 (List.map b0k d.People), .fs 1 (List.map b0k d.Walks)] 0 ∧ t 7 = v7_3 ∧ t 12 = v12_2 ∧ t 14 = I x_101 ∧ t 99 = v7_3 ∧ t 100 = I (List.length rows_7_1 : Int) ∧ t 101 = I x_101 ∧ t 106 = w106 ∧ t 107 = I (List.length x25 : Int) ∧ t 108 = I 0 ∧ RR h v7_3 hs7 1 eI rows_7_2 ∧ RR h v12_2 hs12_1 1 eI open_12 ∧ get hs7 x_101 = some w106 ∧ (∀ j, ¬b0f v12_2 hs12_1 j → b0f v7_3 hs7 j)) (fun K hK => ?_) ?_
          ·simp only [go_sem, s15, b2c q3, b3i os_w15, b0m h_x25, b0n h_x25, h_x250, h_x251, b0a v7, b0a v7_1, b0a v12, b0a v12_1, b0a v12_2, b0a v7_3, b0a w15]
           exact hK _ _ ⟨w15, s2, s3, s7, s12, s14, s99, s100, s101, (by first | (simp only [go_sem, List.length_append, List.map_append]; done) | rfl), (by first | (simp only [go_sem, List.length_append, List.map_append]; done) | rfl), (by first | (simp only [go_sem, List.length_append, List.map_append]; done) | rfl), (b2f q3 (by intro j hj  hl; first | rfl | simp only [go_sem, hl]) (by first | omega | exact Nat.le_refl _ | (simp only [go_sem, nxs] <;> omega))), qj, (by first | assumption | simp only [go_sem]), (fun j hj => (rs_o7_o12 j hj))⟩
          ·try clear s2 s3 s7 s12 s14 s15 s99 s100 s101 q3 qj ra_15 rs_o7_o12
           rintro t h ⟨w106, s2, s3, s7, s12, s14, s99, s100, s101, s106, s107, s108, q3, qj, ra_106, rs_o7_o12⟩
           simp only [b00]
           obtain ⟨b26, hl26, hm1⟩ := b0h hm1
           refine b1x hl26 (fun | (rows_7_3, x_108), t, h => ∃ v7_4 : AV, ∃ v12_3 : AV, ∃ w106_1 : AV, t 2 = .fp [.fs 5 (List.map b0p h_.Combs), .fs 3 (List.map b0o h_.Trains), .fs 3 (List.map b0q h_.Shifts), I h_.Until] 0 ∧ t 3 = .fp [.fs 1 (List.map eI d.At), .fs 1 (List.map b0k d.People), .fs 1 (List.map b0k d.Walks)] 0 ∧ t 7 = v7_4 ∧ t 12 = v12_3 ∧ t 14 = I x_101 ∧ t 99 = v7_4 ∧ t 100 = I (List.length rows_7_1 : Int) ∧ t 101 = I x_101 ∧ t 106 = w106_1 ∧ t 107 = I (List.length x25 : Int) ∧ t 108 = I x_108 ∧ RR h v7_4 hs7 1 eI rows_7_3 ∧ RR h v12_3 hs12_1 1 eI open_12 ∧ get hs7 x_101 = some w106_1 ∧ (∀ j, ¬b0f v12_3 hs12_1 j → b0f v7_4 hs7 j)) ?_ ?_
           ·exact ⟨v7_3, v12_2, w106, s2, s3, s7, s12, s14, s99, s100, s101, s106, s107, s108, q3, qj, (by first | assumption | simp only [go_sem]), (fun j hj => (rs_o7_o12 j hj))⟩
           ·try clear s2 s3 s7 s12 s14 s99 s100 s101 s106 s107 s108 q3 qj ra_106 rs_o7_o12
            rintro ⟨rows_7_3, x_108⟩ o t h ⟨v7_4, v12_3, w106_1, s2, s3, s7, s12, s14, s99, s100, s101, s106, s107, s108, q3, qj, ra_106, rs_o7_o12⟩ hm2 hb26
            simp only [b9e] at hm2
            rw [d94]
            refine b0d fun K hK => ?_
            simp only [go_sem, s107, s108, b0a v7, b0a v7_1, b0a v12, b0a v12_1, b0a v12_2, b0a v7_3, b0a w15, b0a w106, b0a v7_4, b0a v12_3, b0a w106_1]
            refine hK _ _ ?_
            clear hK K
            refine b0r fun K27 hK27 => ?_
            simp only [go_sem]
            refine b0u (fun hc28 => ?_) (fun hc28 => ?_)
            ·rw [b02 hc28] at hm2
             simp only [b0z, b0i, b0j]
             refine hK27 _ _ ?_
             refine b0r fun K29 hK29 => ?_
             have J30 : ∀ (rows_7_4 : List (List Int)) (v7_5 : AV) (v12_4 : AV) (w106_2 : AV) (t : Slots) (h : Heap), t 2 = .fp [.fs 5 (List.map b0p h_.Combs), .fs 3 (List.map b0o h_.Trains), .fs 3 (List.map b0q h_.Shifts), I h_.Until] 0 → t 3 = .fp [.fs 1 (List.map eI d.At), .fs 1 (List.map b0k d.People), .fs 1 (List.map b0k d.Walks)] 0 → t 7 = v7_5 → t 12 = v12_4 → t 14 = I x_101 → t 99 = v7_5 → t 100 = I (List.length rows_7_1 : Int) → t 101 = I x_101 → t 106 = w106_2 → t 107 = I (List.length x25 : Int) → t 108 = I x_108 → RR h v7_5 hs7 1 eI rows_7_4 → RR h v12_4 hs12_1 1 eI open_12 → get hs7 x_101 = some w106_2 → (∀ j, ¬b0f v12_4 hs12_1 j → b0f v7_5 hs7 j) → b9f x_108 rows_7_4 = some o → K29 t h := by
              try clear s2 s3 s7 s12 s14 s99 s100 s101 s106 s107 s108 q3 qj ra_106 rs_o7_o12
              intro rows_7_4 v7_5 v12_4 w106_2 t h s2 s3 s7 s12 s14 s99 s100 s101 s106 s107 s108 q3 qj ra_106 rs_o7_o12 hm2
              refine hK29 _ _ ?_
              unfold b9f at hm2
              refine b1i fun K hK => ?_
              simp only [go_sem, s108, b0a v7, b0a v7_1, b0a v12, b0a v12_1, b0a v12_2, b0a v7_3, b0a w15, b0a w106, b0a v7_4, b0a v12_3, b0a w106_1, b0a v7_5, b0a v12_4, b0a w106_2]
              refine hK _ _ ?_
              clear hK K
              simp only [b0i, b0j]
              obtain rfl := Option.some.inj hm2
              refine ⟨_, rfl, ?_⟩
              exact ⟨v7_5, v12_4, w106_2, s2, s3, s7, s12, s14, s99, s100, s101, s106, s107, (by first | (simp only [go_sem, s108, List.length_append, List.map_append]; done) | rfl), q3, qj, (by first | assumption | simp only [go_sem]), (fun j hj => (rs_o7_o12 j hj))⟩
             simp only [b00]
             obtain ⟨x33, h_x33, hm2⟩ := b0h hm2
             have h_x330 := b0w h_x33
             have h_x331 := b0x h_x33
             have os_w106_1 := d82 q3 ra_106 h_x33
             obtain ⟨x34, h_x34, hm2⟩ := b0h hm2
             have h_x340 := b0w h_x34
             have h_x341 := b0x h_x34
             obtain ⟨irp1220, rfl, obr_irp1220, ltr_irp1220⟩ := b3m os_w106_1 h_x34
             refine b2d (fun t h => ∃ w106_2 : AV, t 2 = .fp [.fs 5 (List.map b0p h_.Combs), .fs 3 (List.map b0o h_.Trains), .fs 3 (List.map b0q h_.Shifts), I h_.Until] 0 ∧ t 3 = .fp [.fs 1 (List.map eI d.At), .fs 1 (List.map b0k d.People), .fs 1 (List.map b0k d.Walks)] 0 ∧ t 7 = v7_4 ∧ t 12 = v12_3 ∧ t 14 = I x_101 ∧ t 16 = I x_108 ∧ t 17 = I x34 ∧ t 99 = v7_4 ∧ t 100 = I (List.length rows_7_1 : Int) ∧ t 101 = I x_101 ∧ t 106 = w106_2 ∧ t 107 = I (List.length x25 : Int) ∧ t 108 = I x_108 ∧ RR h v7_4 hs7 1 eI rows_7_3 ∧ RR h v12_3 hs12_1 1 eI open_12 ∧ get hs7 x_101 = some w106_2 ∧ (∀ j, ¬b0f v12_3 hs12_1 j → b0f v7_4 hs7 j)) (fun K hK => ?_) ?_
             ·simp only [go_sem, s106, b2c q3, s108, b0m h_x33, b0n h_x33, h_x330, h_x331, b3i os_w106_1, b0m h_x34, b0n h_x34, h_x340, h_x341, obr_irp1220, ltr_irp1220, b0a v7, b0a v7_1, b0a v12, b0a v12_1, b0a v12_2, b0a v7_3, b0a w15, b0a w106, b0a v7_4, b0a v12_3]
              exact hK _ _ ⟨(.rs irp1220 0 (List.length x33)), s2, s3, s7, s12, s14, (by first | (simp only [go_sem, List.length_append, List.map_append]; done) | rfl), (by first | (simp only [go_sem, List.length_append, List.map_append]; done) | rfl), s99, s100, s101, (by first | (simp only [go_sem, s106, List.length_append, List.map_append]; done) | rfl), s107, s108, (b2f q3 (by intro j hj  hl; first | rfl | simp only [go_sem, hl]) (by first | omega | exact Nat.le_refl _ | (simp only [go_sem, nxs] <;> omega))), qj, (by first | assumption | simp only [go_sem]), (fun j hj => (rs_o7_o12 j hj))⟩
             ·try clear s2 s3 s7 s12 s14 s99 s100 s101 s106 s107 s108 q3 qj ra_106 rs_o7_o12
              rintro t h ⟨w106_2, s2, s3, s7, s12, s14, s16, s17, s99, s100, s101, s106, s107, s108, q3, qj, ra_106, rs_o7_o12⟩
              obtain ⟨x37, h_x37, hm2⟩ := b0h hm2
              have h_x370 := b0w h_x37
              have h_x371 := b0x h_x37
              obtain ⟨iqp1224, rfl, q10, qy⟩ := b3w qj h_x37
              obtain ⟨wp1225, hw_wp1225, os_wp1225⟩ := b3v qj h_x37
              obtain ⟨x38, h_x38, hm2⟩ := b0h hm2
              have h_x380 := b0w h_x38
              have h_x381 := b0x h_x38
              obtain ⟨irp1226, rfl, obr_irp1226, ltr_irp1226⟩ := b3m os_wp1225 h_x38
              refine b2d (fun t h => ∃ v12_4 : AV, ∃ w106_3 : AV, t 2 = .fp [.fs 5 (List.map b0p h_.Combs), .fs 3 (List.map b0o h_.Trains), .fs 3 (List.map b0q h_.Shifts), I h_.Until] 0 ∧ t 3 = .fp [.fs 1 (List.map eI d.At), .fs 1 (List.map b0k d.People), .fs 1 (List.map b0k d.Walks)] 0 ∧ t 7 = v7_4 ∧ t 12 = v12_4 ∧ t 14 = I x_101 ∧ t 16 = I x_108 ∧ t 17 = I x34 ∧ t 18 = I (mn x34 x38) ∧ t 99 = v7_4 ∧ t 100 = I (List.length rows_7_1 : Int) ∧ t 101 = I x_101 ∧ t 106 = w106_3 ∧ t 107 = I (List.length x25 : Int) ∧ t 108 = I x_108 ∧ RR h v7_4 hs7 1 eI rows_7_3 ∧ RR h v12_4 hs12_1 1 eI open_12 ∧ get hs7 x_101 = some w106_3 ∧ (∀ j, ¬b0f v12_4 hs12_1 j → b0f v7_4 hs7 j)) (fun K hK => ?_) ?_
              ·simp only [go_sem, s12, b2c qj, s14, s16, s17, q10, qy, b0m h_x37, b0n h_x37, h_x370, h_x371, b0m hw_wp1225, b0n hw_wp1225, b3i os_wp1225, b0m h_x38, b0n h_x38, h_x380, h_x381, obr_irp1226, ltr_irp1226, b0a v7, b0a v7_1, b0a v12, b0a v12_1, b0a v12_2, b0a v7_3, b0a w15, b0a w106, b0a v7_4, b0a w106_2]
               exact hK _ _ ⟨(.rs iqp1224 0 (List.length open_12)), w106_2, s2, s3, s7, (by first | (simp only [go_sem, s12, List.length_append, List.map_append]; done) | rfl), s14, s16, s17, (by first | (simp only [go_sem, List.length_append, List.map_append]; done) | rfl), s99, s100, s101, s106, s107, s108, q3, (b2f qj (by intro j hj  hl; first | rfl | simp only [go_sem, hl]) (by first | omega | exact Nat.le_refl _ | (simp only [go_sem, nxs] <;> omega))), (by first | assumption | simp only [go_sem]), (fun j hj => (rs_o7_o12 j hj))⟩
              ·try clear s2 s3 s7 s12 s14 s16 s17 s99 s100 s101 s106 s107 s108 q3 qj ra_106 rs_o7_o12 q10 qy
               rintro t h ⟨v12_4, w106_3, s2, s3, s7, s12, s14, s16, s17, s18, s99, s100, s101, s106, s107, s108, q3, qj, ra_106, rs_o7_o12⟩
               refine b03 ?_
               refine b0d fun K hK => ?_
               simp only [go_sem, s2, s14, b0a v7, b0a v7_1, b0a v12, b0a v12_1, b0a v12_2, b0a v7_3, b0a w15, b0a w106, b0a v7_4, b0a w106_2, b0a v12_4, b0a w106_3]
               refine hK _ _ ?_
               clear hK K
               refine b0r fun K39 hK39 => ?_
               have J40 : ∀ (rows_7_4 : List (List Int)) (v7_5 : AV) (w106_4 : AV) (t : Slots) (h : Heap), t 2 = .fp [.fs 5 (List.map b0p h_.Combs), .fs 3 (List.map b0o h_.Trains), .fs 3 (List.map b0q h_.Shifts), I h_.Until] 0 → t 3 = .fp [.fs 1 (List.map eI d.At), .fs 1 (List.map b0k d.People), .fs 1 (List.map b0k d.Walks)] 0 → t 7 = v7_5 → t 12 = v12_4 → t 14 = I x_101 → t 16 = I x_108 → t 18 = I (mn x34 x38) → t 99 = v7_5 → t 100 = I (List.length rows_7_1 : Int) → t 101 = I x_101 → t 106 = w106_4 → t 107 = I (List.length x25 : Int) → t 108 = I x_108 → RR h v7_5 hs7 1 eI rows_7_4 → RR h v12_4 hs12_1 1 eI open_12 → get hs7 x_101 = some w106_4 → (∀ j, ¬b0f v12_4 hs12_1 j → b0f v7_5 hs7 j) → b9g h_ d x_101 x_108 x34 x38 rows_7_4 = some o → K39 t h := by
                try clear s2 s3 s7 s12 s14 s16 s17 s18 s99 s100 s101 s106 s107 s108 q3 qj ra_106 rs_o7_o12
                intro rows_7_4 v7_5 w106_4 t h s2 s3 s7 s12 s14 s16 s18 s99 s100 s101 s106 s107 s108 q3 qj ra_106 rs_o7_o12 hm2
                refine hK39 _ _ ?_
                unfold b9g at hm2
                obtain ⟨x44, h_x44, hm2⟩ := b0h hm2
                have h_x440 := b0w h_x44
                have h_x441 := b0x h_x44
                obtain ⟨q45, h_q45, hm2⟩ := b0h hm2
                obtain ⟨x46, h_x46, hm2⟩ := b0h hm2
                have h_x460 := b0w h_x46
                have h_x461 := b0x h_x46
                refine b0d fun K hK => ?_
                simp only [go_sem, s3, s14, s16, b0m h_x44, b0n h_x44, h_x440, h_x441, d51 h_q45, b0m h_x46, b0n h_x46, h_x460, h_x461, b0a v7, b0a v7_1, b0a v12, b0a v12_1, b0a v12_2, b0a v7_3, b0a w15, b0a w106, b0a v7_4, b0a w106_2, b0a v12_4, b0a w106_3, b0a v7_5, b0a w106_4]
                refine hK _ _ ?_
                clear hK K
                obtain ⟨x48, h_x48, hm2⟩ := b0h hm2
                have h_x480 := b0w h_x48
                have h_x481 := b0x h_x48
                refine b0d fun K hK => ?_
                simp only [go_sem, s2, s16, b0m h_x48, b0n h_x48, h_x480, h_x481, b0a v7, b0a v7_1, b0a v12, b0a v12_1, b0a v12_2, b0a v7_3, b0a w15, b0a w106, b0a v7_4, b0a w106_2, b0a v12_4, b0a w106_3, b0a v7_5, b0a w106_4]
                refine hK _ _ ?_
                clear hK K
                refine b2d (fun t h => ∃ w106_5 : AV, t 2 = .fp [.fs 5 (List.map b0p h_.Combs), .fs 3 (List.map b0o h_.Trains), .fs 3 (List.map b0q h_.Shifts), I h_.Until] 0 ∧ t 3 = .fp [.fs 1 (List.map eI d.At), .fs 1 (List.map b0k d.People), .fs 1 (List.map b0k d.Walks)] 0 ∧ t 7 = v7_5 ∧ t 12 = v12_4 ∧ t 14 = I x_101 ∧ t 18 = I (mn x34 x38) ∧ t 19 = I x46 ∧ t 20 = I x48.Next ∧ t 99 = v7_5 ∧ t 100 = I (List.length rows_7_1 : Int) ∧ t 101 = I x_101 ∧ t 106 = w106_5 ∧ t 107 = I (List.length x25 : Int) ∧ t 108 = I x_108 ∧ t 170 = B ((decide (0 ≤ x48.Next)) && (decide ((wr (x_101 + x46)) < h_.Until))) ∧ RR h v7_5 hs7 1 eI rows_7_4 ∧ RR h v12_4 hs12_1 1 eI open_12 ∧ get hs7 x_101 = some w106_5 ∧ (∀ j, ¬b0f v12_4 hs12_1 j → b0f v7_5 hs7 j)) (fun K hK => ?_) ?_
                ·simp only [go_sem, s2, s14, b0a v7, b0a v7_1, b0a v12, b0a v12_1, b0a v12_2, b0a v7_3, b0a w15, b0a w106, b0a v7_4, b0a w106_2, b0a v12_4, b0a w106_3, b0a v7_5, b0a w106_4]
                 refine b0u (fun hg49 => ?_) (fun hg49 => ?_)
                 ·simp only [go_sem, s2, s14, hg49, b0a v7, b0a v7_1, b0a v12, b0a v12_1, b0a v12_2, b0a v7_3, b0a w15, b0a w106, b0a v7_4, b0a w106_2, b0a v12_4, b0a w106_3, b0a v7_5, b0a w106_4]
                  exact hK _ _ ⟨w106_4, s2, s3, s7, s12, s14, s18, (by first | (simp only [go_sem, hg49, List.length_append, List.map_append]; done) | rfl), (by first | (simp only [go_sem, hg49, List.length_append, List.map_append]; done) | rfl), s99, s100, s101, s106, s107, s108, (by first | (simp only [go_sem, hg49, List.length_append, List.map_append]; done) | rfl), q3, qj, (by first | assumption | simp only [go_sem]), (fun j hj => (rs_o7_o12 j hj))⟩
                 ·simp only [go_sem, s2, s14, hg49, b0a v7, b0a v7_1, b0a v12, b0a v12_1, b0a v12_2, b0a v7_3, b0a w15, b0a w106, b0a v7_4, b0a w106_2, b0a v12_4, b0a w106_3, b0a v7_5, b0a w106_4]
                  exact hK _ _ ⟨w106_4, s2, s3, s7, s12, s14, s18, (by first | (simp only [go_sem, hg49, List.length_append, List.map_append]; done) | rfl), (by first | (simp only [go_sem, hg49, List.length_append, List.map_append]; done) | rfl), s99, s100, s101, s106, s107, s108, (by first | (simp only [go_sem, hg49, List.length_append, List.map_append]; done) | rfl), q3, qj, (by first | assumption | simp only [go_sem]), (fun j hj => (rs_o7_o12 j hj))⟩
                ·try clear s2 s3 s7 s12 s14 s16 s18 s99 s100 s101 s106 s107 s108 q3 qj ra_106 rs_o7_o12
                 rintro t h ⟨w106_5, s2, s3, s7, s12, s14, s18, s19, s20, s99, s100, s101, s106, s107, s108, s170, q3, qj, ra_106, rs_o7_o12⟩
                 simp only [go_sem, s170]
                 refine b0u (fun hc50 => ?_) (fun hc50 => ?_)
                 ·rw [b02 hc50] at hm2
                  obtain ⟨x53, h_x53, hm2⟩ := b0h hm2
                  have h_x530 := b0w h_x53
                  have h_x531 := b0x h_x53
                  obtain ⟨iqp1236, rfl, q7, q0⟩ := b3w q3 h_x53
                  obtain ⟨wp1237, hw_wp1237, os_wp1237⟩ := b3v q3 h_x53
                  obtain ⟨x54, h_x54, hm2⟩ := b0h hm2
                  have h_x540 := b0w h_x54
                  have h_x541 := b0x h_x54
                  obtain ⟨irp1238, rfl, obr_irp1238, ltr_irp1238⟩ := b3m os_wp1237 h_x54
                  refine b5g (fun t h => ∃ v7_6 : AV, ∃ w106_6 : AV, t 2 = .fp [.fs 5 (List.map b0p h_.Combs), .fs 3 (List.map b0o h_.Trains), .fs 3 (List.map b0q h_.Shifts), I h_.Until] 0 ∧ t 3 = .fp [.fs 1 (List.map eI d.At), .fs 1 (List.map b0k d.People), .fs 1 (List.map b0k d.Walks)] 0 ∧ t 7 = v7_6 ∧ t 12 = v12_4 ∧ t 14 = I x_101 ∧ t 99 = v7_6 ∧ t 100 = I (List.length rows_7_1 : Int) ∧ t 101 = I x_101 ∧ t 106 = w106_6 ∧ t 107 = I (List.length x25 : Int) ∧ t 108 = I x_108 ∧ RR h v7_6 hs7 1 eI (List.set rows_7_4 (Int.toNat (wr (x_101 + x46))) (List.set x53 (Int.toNat x48.Next) (wr (x54 + (mn x34 x38))))) ∧ RR h v12_4 hs12_1 1 eI open_12 ∧ get hs7 x_101 = some w106_6 ∧ (∀ j, ¬b0f v12_4 hs12_1 j → b0f v7_6 hs7 j)) (fun K hK => ?_) ?_
                  ·simp only [go_sem, s7, b2c q3, s14, s18, s19, s20, q7, q0, b0m h_x53, b0n h_x53, h_x530, h_x531, b0m hw_wp1237, b0n hw_wp1237, b3i os_wp1237, b0m h_x54, b0n h_x54, h_x540, h_x541, obr_irp1238, ltr_irp1238, b0a v7, b0a v7_1, b0a v12, b0a v12_1, b0a v12_2, b0a v7_3, b0a w15, b0a w106, b0a v7_4, b0a w106_2, b0a v12_4, b0a w106_3, b0a w106_4, b0a w106_5]
                   exact hK _ _ ⟨(.rs iqp1236 0 (List.length rows_7_4)), w106_5, s2, s3, (by first | (simp only [go_sem, s7, List.length_append, List.map_append]; done) | rfl), s12, s14, (by first | (simp only [go_sem, s99, List.length_append, List.map_append]; done) | rfl), s100, s101, s106, s107, s108, (b7e q3 h_x53 hw_wp1237 (by simp only [go_sem, b1h q3, q7, q0, b2w q3 hw_wp1237, b0b (b2w q3 hw_wp1237), List.length_append, List.map_append]) (by simp only [List.length_set]) (by intro j hj hne hl; first | rfl | simp only [go_sem, hne, hl, q0]) (by first | omega | exact Nat.le_refl _ | (simp only [go_sem, nxs] <;> omega))), (b2f qj (by intro j hj  hl; first | rfl | simp only [go_sem, hl, b08 (rs_o7_o12 j hj), b04 (rs_o7_o12 j hj), b0b (b04 (rs_o7_o12 j hj)), b05 (rs_o7_o12 j hj) hw_wp1237, b0b (b05 (rs_o7_o12 j hj) hw_wp1237), q0]) (by first | omega | exact Nat.le_refl _ | (simp only [go_sem, nxs] <;> omega))), (by first | assumption | simp only [go_sem]), (fun j hj => (rs_o7_o12 j hj))⟩
                  ·try clear s2 s3 s7 s12 s14 s18 s19 s20 s99 s100 s101 s106 s107 s108 s170 q3 qj ra_106 rs_o7_o12 q7 q0
                   rintro t h ⟨v7_6, w106_6, s2, s3, s7, s12, s14, s99, s100, s101, s106, s107, s108, q3, qj, ra_106, rs_o7_o12⟩
                   simp only [b0i, b0j]
                   exact J30 (List.set rows_7_4 (Int.toNat (wr (x_101 + x46))) (List.set x53 (Int.toNat x48.Next) (wr (x54 + (mn x34 x38))))) v7_6 v12_4 w106_6 _ _ s2 s3 s7 s12 s14 s99 s100 s101 s106 s107 s108 q3 qj (by first | assumption | simp only [go_sem]) (fun j hj => (rs_o7_o12 j hj)) hm2
                 ·rw [b01 hc50] at hm2
                  simp only [b0z, b0i, b0j]
                  exact J30 rows_7_4 v7_5 v12_4 w106_5 _ _ s2 s3 s7 s12 s14 s99 s100 s101 s106 s107 s108 q3 qj (by first | assumption | simp only [go_sem]) (fun j hj => (rs_o7_o12 j hj)) hm2
               simp only [go_sem]
               refine b0u (fun hc55 => ?_) (fun hc55 => ?_)
               ·rw [b02 hc55] at hm2
                obtain ⟨x58, h_x58, hm2⟩ := b0h hm2
                have h_x580 := b0w h_x58
                have h_x581 := b0x h_x58
                obtain ⟨iqp1242, rfl, q7, q0⟩ := b3w q3 h_x58
                obtain ⟨wp1243, hw_wp1243, os_wp1243⟩ := b3v q3 h_x58
                obtain ⟨x59, h_x59, hm2⟩ := b0h hm2
                have h_x590 := b0w h_x59
                have h_x591 := b0x h_x59
                obtain ⟨irp1244, rfl, obr_irp1244, ltr_irp1244⟩ := b3m os_wp1243 h_x59
                refine b5g (fun t h => ∃ v7_5 : AV, ∃ w106_4 : AV, t 2 = .fp [.fs 5 (List.map b0p h_.Combs), .fs 3 (List.map b0o h_.Trains), .fs 3 (List.map b0q h_.Shifts), I h_.Until] 0 ∧ t 3 = .fp [.fs 1 (List.map eI d.At), .fs 1 (List.map b0k d.People), .fs 1 (List.map b0k d.Walks)] 0 ∧ t 7 = v7_5 ∧ t 12 = v12_4 ∧ t 14 = I x_101 ∧ t 16 = I x_108 ∧ t 18 = I (mn x34 x38) ∧ t 99 = v7_5 ∧ t 100 = I (List.length rows_7_1 : Int) ∧ t 101 = I x_101 ∧ t 106 = w106_4 ∧ t 107 = I (List.length x25 : Int) ∧ t 108 = I x_108 ∧ RR h v7_5 hs7 1 eI (List.set rows_7_3 (Int.toNat (wr (x_101 + 1))) (List.set x58 (Int.toNat x_108) (wr (x59 + (wr (x34 - (mn x34 x38))))))) ∧ RR h v12_4 hs12_1 1 eI open_12 ∧ get hs7 x_101 = some w106_4 ∧ (∀ j, ¬b0f v12_4 hs12_1 j → b0f v7_5 hs7 j)) (fun K hK => ?_) ?_
                ·simp only [go_sem, s7, b2c q3, s14, s16, s17, s18, q7, q0, b0m h_x58, b0n h_x58, h_x580, h_x581, b0m hw_wp1243, b0n hw_wp1243, b3i os_wp1243, b0m h_x59, b0n h_x59, h_x590, h_x591, obr_irp1244, ltr_irp1244, b0a v7, b0a v7_1, b0a v12, b0a v12_1, b0a v12_2, b0a v7_3, b0a w15, b0a w106, b0a w106_2, b0a v12_4, b0a w106_3]
                 exact hK _ _ ⟨(.rs iqp1242 0 (List.length rows_7_3)), w106_3, s2, s3, (by first | (simp only [go_sem, s7, List.length_append, List.map_append]; done) | rfl), s12, s14, s16, s18, (by first | (simp only [go_sem, s99, List.length_append, List.map_append]; done) | rfl), s100, s101, s106, s107, s108, (b7e q3 h_x58 hw_wp1243 (by simp only [go_sem, b1h q3, q7, q0, b2w q3 hw_wp1243, b0b (b2w q3 hw_wp1243), List.length_append, List.map_append]) (by simp only [List.length_set]) (by intro j hj hne hl; first | rfl | simp only [go_sem, hne, hl, q0]) (by first | omega | exact Nat.le_refl _ | (simp only [go_sem, nxs] <;> omega))), (b2f qj (by intro j hj  hl; first | rfl | simp only [go_sem, hl, b08 (rs_o7_o12 j hj), b04 (rs_o7_o12 j hj), b0b (b04 (rs_o7_o12 j hj)), b05 (rs_o7_o12 j hj) hw_wp1243, b0b (b05 (rs_o7_o12 j hj) hw_wp1243), q0]) (by first | omega | exact Nat.le_refl _ | (simp only [go_sem, nxs] <;> omega))), (by first | assumption | simp only [go_sem]), (fun j hj => (rs_o7_o12 j hj))⟩
                ·try clear s2 s3 s7 s12 s14 s16 s17 s18 s99 s100 s101 s106 s107 s108 q3 qj ra_106 rs_o7_o12 q7 q0
                 rintro t h ⟨v7_5, w106_4, s2, s3, s7, s12, s14, s16, s18, s99, s100, s101, s106, s107, s108, q3, qj, ra_106, rs_o7_o12⟩
                 simp only [b0i, b0j]
                 exact J40 (List.set rows_7_3 (Int.toNat (wr (x_101 + 1))) (List.set x58 (Int.toNat x_108) (wr (x59 + (wr (x34 - (mn x34 x38))))))) v7_5 w106_4 _ _ s2 s3 s7 s12 s14 s16 s18 s99 s100 s101 s106 s107 s108 q3 qj (by first | assumption | simp only [go_sem]) (fun j hj => (rs_o7_o12 j hj)) hm2
               ·rw [b01 hc55] at hm2
                simp only [b0z, b0i, b0j]
                exact J40 rows_7_3 v7_4 w106_3 _ _ s2 s3 s7 s12 s14 s16 s18 s99 s100 s101 s106 s107 s108 q3 qj (by first | assumption | simp only [go_sem]) (fun j hj => (rs_o7_o12 j hj)) hm2
            ·rw [b01 hc28] at hm2
             simp only [b1t, b1w, b1v, b1u, b0i, b0j, Nat.reduceEqDiff, not_false_eq_true]
             obtain rfl := Option.some.inj hm2
             obtain rfl := hb26 _ rfl
             try dsimp only at hm1
             exact J23 rows_7_3 v7_4 v12_3 _ _ s2 s3 s7 s12 s99 s100 s101 q3 qj (fun j hj => (rs_o7_o12 j hj)) hm1
        ·rw [b01 hc21] at hm1
         simp only [b1t, b1w, b1v, b1u, b0i, b0j, Nat.reduceEqDiff, not_false_eq_true]
         obtain rfl := Option.some.inj hm1
         obtain rfl := hb19 _ rfl
         try dsimp only at hm0
         exact J18 rows_7_2 v7_2 _ _ s7 q3 hm0
      simp only [b00]
      obtain ⟨b62, hl62, hm0⟩ := b0h hm0
      refine b1x hl62 (fun | (open_12, x_89), t, h => ∃ v12_1 : AV, ∃ hs12_1 : List AV, t 2 = .fp [.fs 5 (List.map b0p h_.Combs), .fs 3 (List.map b0o h_.Trains), .fs 3 (List.map b0q h_.Shifts), I h_.Until] 0 ∧ t 3 = .fp [.fs 1 (List.map eI d.At), .fs 1 (List.map b0k d.People), .fs 1 (List.map b0k d.Walks)] 0 ∧ t 7 = v7_1 ∧ t 12 = v12_1 ∧ t 88 = I (List.length h_.Combs : Int) ∧ t 89 = I x_89 ∧ RR h v7_1 hs7 1 eI rows_7_1 ∧ RR h v12_1 hs12_1 1 eI open_12 ∧ (∀ j, ¬b0f v12_1 hs12_1 j → b0f v7_1 hs7 j)) ?_ ?_
      ·exact ⟨v12, hs12, s2, s3, s7, s12, (by first | (simp only [go_sem, List.length_append, List.map_append]; done) | rfl), (by first | (simp only [go_sem, List.length_append, List.map_append]; done) | rfl), q3, qj, (fun j hj => (rs_o7_o12 j hj))⟩
      ·rintro ⟨open_12, x_89⟩ o t h ⟨v12_1, hs12_1, s2, s3, s7, s12, s88, s89, q3, qj, rs_o7_o12⟩ hm1 hb62
       simp only [c1k] at hm1
       rw [d93]
       refine b0d fun K hK => ?_
       simp only [go_sem, s88, s89, b0a v7, b0a v7_1, b0a v12, b0a v12_1]
       refine hK _ _ ?_
       clear hK K
       refine b0r fun K63 hK63 => ?_
       simp only [go_sem]
       refine b0u (fun hc64 => ?_) (fun hc64 => ?_)
       ·rw [b02 hc64] at hm1
        simp only [b0z, b0i, b0j]
        refine hK63 _ _ ?_
        refine b0r fun K65 hK65 => ?_
        simp only [b00]
        refine b0d fun K hK => ?_
        simp only [go_sem, s89, b0a v7, b0a v7_1, b0a v12, b0a v12_1]
        refine hK _ _ ?_
        clear hK K
        obtain ⟨y68, h_y68, hm1⟩ := b0h hm1
        obtain ⟨x69, h_x69, hm1⟩ := b0h hm1
        have h_x690 := b0w h_x69
        have h_x691 := b0x h_x69
        obtain ⟨iqp1267, rfl, q10, qy⟩ := b3w qj h_x69
        obtain ⟨wp1268, hw_wp1268, os_wp1268⟩ := b3v qj h_x69
        refine b5g (fun t h => ∃ v12_2 : AV, ∃ hs12_2 : List AV, t 2 = .fp [.fs 5 (List.map b0p h_.Combs), .fs 3 (List.map b0o h_.Trains), .fs 3 (List.map b0q h_.Shifts), I h_.Until] 0 ∧ t 3 = .fp [.fs 1 (List.map eI d.At), .fs 1 (List.map b0k d.People), .fs 1 (List.map b0k d.Walks)] 0 ∧ t 7 = v7_1 ∧ t 12 = v12_2 ∧ t 88 = I (List.length h_.Combs : Int) ∧ t 89 = I x_89 ∧ RR h v7_1 hs7 1 eI rows_7_1 ∧ RR h v12_2 hs12_2 1 eI (List.set open_12 (Int.toNat x_89) y68) ∧ (∀ j, ¬b0f v12_2 hs12_2 j → b0f v7_1 hs7 j)) (fun K hK => ?_) ?_
        ·simp only [go_sem, s2, s12, b2c qj, q10, qy, b0m h_x69, b0n h_x69, h_x690, h_x691, b0m hw_wp1268, b0n hw_wp1268, b3i os_wp1268, b0a v7, b0a v7_1, b0a v12]
         refine c5a (e := eI) (l := y68) ?_ (b6g h_ x_89 _ h_y68) ?_
         ·exact .cons (.refl _ (.agg _ (b0e (b0s fun a _ => b2m a) (b0e (b0s fun a _ => b2l a) (b0e (b0s fun a _ => b2o a) (b0e (b0l _) b0y)))))) (.cons (.refl _ (b0l _)) (.nil))
         simp only [go_sem, s2, s12, b2c qj, q10, qy, b0m h_x69, b0n h_x69, h_x690, h_x691, b0m hw_wp1268, b0n hw_wp1268, b3i os_wp1268, b0a v7, b0a v7_1, b0a v12]
         exact hK _ _ ⟨(.rs iqp1267 0 (List.length open_12)), (List.set hs12_1 (Int.toNat x_89) (.rs h.nx 0 (List.length y68))), s2, s3, s7, (by first | (simp only [go_sem, s12, List.length_append, List.map_append]; done) | rfl), s88, s89, (b2f q3 (by intro j hj  hl; first | rfl | simp only [go_sem, hl, b08 (b2q rs_o7_o12 j hj), b04 (b2q rs_o7_o12 j hj), b0b (b04 (b2q rs_o7_o12 j hj)), qy]) (by first | omega | exact Nat.le_refl _ | (simp only [go_sem, nxs] <;> omega))), (j58 qj h_x69 (by simp only [go_sem, b1h qj, q10, qy, List.length_append, List.map_append]) (b3c (by simp only [go_sem, b1h qj, qy, List.length_append, List.map_append]) (by simp only [go_sem, b1h qj, qy, List.length_append, List.map_append]) (by simp only [go_sem])) (b58 (by first | assumption | exact b2r qj (by first | omega | (simp only [nxs] <;> omega)))) (by intro j hj hne hl; first | rfl | simp only [go_sem, hne, hl, qy]) (by first | omega | exact Nat.le_refl _ | (simp only [go_sem, nxs] <;> omega))), (b2q (fun j hj => (j5t (b2q rs_o7_o12 j hj) (by first | exact b1k | exact b1l (b0b (b3d hj (by first | assumption | exact b2r (by assumption) (by first | assumption | omega | (simp only [nxs] <;> omega))))) | exact b4n (by assumption) j hj))))⟩
        ·try clear s2 s3 s7 s12 s88 s89 q3 qj rs_o7_o12 q10 qy
         rintro t h ⟨v12_2, hs12_2, s2, s3, s7, s12, s88, s89, q3, qj, rs_o7_o12⟩
         simp only [b0i, b0j]
         refine hK65 _ _ ?_
         refine b1i fun K hK => ?_
         simp only [go_sem, s89, b0a v7, b0a v7_1, b0a v12, b0a v12_2]
         refine hK _ _ ?_
         clear hK K
         simp only [b0i, b0j]
         obtain rfl := Option.some.inj hm1
         refine ⟨_, rfl, ?_⟩
         exact ⟨v12_2, hs12_2, s2, s3, s7, s12, s88, (by first | (simp only [go_sem, s89, List.length_append, List.map_append]; done) | rfl), q3, qj, (fun j hj => (rs_o7_o12 j hj))⟩
       ·rw [b01 hc64] at hm1
        simp only [b1t, b1w, b1v, b1u, b0i, b0j, Nat.reduceEqDiff, not_false_eq_true]
        obtain rfl := Option.some.inj hm1
        obtain rfl := hb62 _ rfl
        try dsimp only at hm0
        exact J16 open_12 v12_1 hs12_1 _ _ s2 s3 s7 s12 q3 qj (fun j hj => (rs_o7_o12 j hj)) hm0
    simp only [b00]
    obtain ⟨b71, hl71, hm0⟩ := b0h hm0
    refine b1x hl71 (fun | (rows_7_1, x_45), t, h => ∃ v7_1 : AV, t 2 = .fp [.fs 5 (List.map b0p h_.Combs), .fs 3 (List.map b0o h_.Trains), .fs 3 (List.map b0q h_.Shifts), I h_.Until] 0 ∧ t 3 = .fp [.fs 1 (List.map eI d.At), .fs 1 (List.map b0k d.People), .fs 1 (List.map b0k d.Walks)] 0 ∧ t 7 = v7_1 ∧ t 43 = .fs 3 (List.map b0o h_.Trains) ∧ t 44 = I (List.length h_.Trains : Int) ∧ t 45 = I x_45 ∧ RR h v7_1 hs7 1 eI rows_7_1) ?_ ?_
    ·exact ⟨v7, s2, s3, s7, (by first | (simp only [go_sem, List.length_append, List.map_append]; done) | rfl), (by first | (simp only [go_sem, List.length_append, List.map_append]; done) | rfl), (by first | (simp only [go_sem, List.length_append, List.map_append]; done) | rfl), q3⟩
    ·rintro ⟨rows_7_1, x_45⟩ o t h ⟨v7_1, s2, s3, s7, s43, s44, s45, q3⟩ hm1 hb71
     simp only [b9d] at hm1
     rw [d92]
     refine b0d fun K hK => ?_
     simp only [go_sem, s44, s45, b0a v7, b0a v7_1]
     refine hK _ _ ?_
     clear hK K
     refine b0r fun K72 hK72 => ?_
     simp only [go_sem]
     refine b0u (fun hc73 => ?_) (fun hc73 => ?_)
     ·rw [b02 hc73] at hm1
      simp only [b0z, b0i, b0j]
      refine hK72 _ _ ?_
      refine b0r fun K74 hK74 => ?_
      have J75 : ∀ (rows_7_2 : List (List Int)) (v7_2 : AV) (t : Slots) (h : Heap), t 2 = .fp [.fs 5 (List.map b0p h_.Combs), .fs 3 (List.map b0o h_.Trains), .fs 3 (List.map b0q h_.Shifts), I h_.Until] 0 → t 3 = .fp [.fs 1 (List.map eI d.At), .fs 1 (List.map b0k d.People), .fs 1 (List.map b0k d.Walks)] 0 → t 7 = v7_2 → t 43 = .fs 3 (List.map b0o h_.Trains) → t 44 = I (List.length h_.Trains : Int) → t 45 = I x_45 → RR h v7_2 hs7 1 eI rows_7_2 → c4r x_45 rows_7_2 = some o → K74 t h := by
       intro rows_7_2 v7_2 t h s2 s3 s7 s43 s44 s45 q3 hm1
       refine hK74 _ _ ?_
       unfold c4r at hm1
       refine b1i fun K hK => ?_
       simp only [go_sem, s45, b0a v7, b0a v7_1, b0a v7_2]
       refine hK _ _ ?_
       clear hK K
       simp only [b0i, b0j]
       obtain rfl := Option.some.inj hm1
       refine ⟨_, rfl, ?_⟩
       exact ⟨v7_2, s2, s3, s7, s43, s44, (by first | (simp only [go_sem, s45, List.length_append, List.map_append]; done) | rfl), q3⟩
      simp only [b00]
      obtain ⟨x77, h_x77, hm1⟩ := b0h hm1
      have h_x770 := b0w h_x77
      have h_x771 := b0x h_x77
      refine b0d fun K hK => ?_
      simp only [go_sem, s43, s45, b0m h_x77, b0n h_x77, h_x770, h_x771, b0a v7, b0a v7_1]
      refine hK _ _ ?_
      clear hK K
      refine b0d fun K hK => ?_
      simp only [go_sem, b0a v7, b0a v7_1]
      refine hK _ _ ?_
      clear hK K
      simp only [b00]
      obtain ⟨b78, hl78, hm1⟩ := b0h hm1
      refine b1x hl78 (fun | (rows_7_2, x_53), t, h => ∃ v7_2 : AV, t 2 = .fp [.fs 5 (List.map b0p h_.Combs), .fs 3 (List.map b0o h_.Trains), .fs 3 (List.map b0q h_.Shifts), I h_.Until] 0 ∧ t 3 = .fp [.fs 1 (List.map eI d.At), .fs 1 (List.map b0k d.People), .fs 1 (List.map b0k d.Walks)] 0 ∧ t 7 = v7_2 ∧ t 8 = I x_45 ∧ t 43 = .fs 3 (List.map b0o h_.Trains) ∧ t 44 = I (List.length h_.Trains : Int) ∧ t 45 = I x_45 ∧ t 51 = .fs 3 (List.map b2t x77.Crowds) ∧ t 52 = I (List.length x77.Crowds : Int) ∧ t 53 = I x_53 ∧ RR h v7_2 hs7 1 eI rows_7_2) ?_ ?_
      ·exact ⟨v7_1, s2, s3, s7, (by first | (simp only [go_sem, List.length_append, List.map_append]; done) | rfl), s43, s44, s45, (by first | (simp only [go_sem, List.length_append, List.map_append]; done) | rfl), (by first | (simp only [go_sem, List.length_append, List.map_append]; done) | rfl), (by first | (simp only [go_sem, List.length_append, List.map_append]; done) | rfl), (b2f q3 (by intro j hj  hl; first | rfl | simp only [go_sem, hl]) (by first | omega | exact Nat.le_refl _ | (simp only [go_sem, nxs] <;> omega)))⟩
      ·rintro ⟨rows_7_2, x_53⟩ o t h ⟨v7_2, s2, s3, s7, s8, s43, s44, s45, s51, s52, s53, q3⟩ hm2 hb78
       simp only [c1j] at hm2
       rw [d91]
       refine b0d fun K hK => ?_
       simp only [go_sem, s52, s53, b0a v7, b0a v7_1, b0a v7_2]
       refine hK _ _ ?_
       clear hK K
       refine b0r fun K79 hK79 => ?_
       simp only [go_sem]
       refine b0u (fun hc80 => ?_) (fun hc80 => ?_)
       ·rw [b02 hc80] at hm2
        simp only [b0z, b0i, b0j]
        refine hK79 _ _ ?_
        refine b0r fun K81 hK81 => ?_
        simp only [b00]
        obtain ⟨x83, h_x83, hm2⟩ := b0h hm2
        have h_x830 := b0w h_x83
        have h_x831 := b0x h_x83
        refine b0d fun K hK => ?_
        simp only [go_sem, s51, s53, b0m h_x83, b0n h_x83, h_x830, h_x831, b0a v7, b0a v7_1, b0a v7_2]
        refine hK _ _ ?_
        clear hK K
        obtain ⟨x89, h_x89, hm2⟩ := b0h hm2
        have h_x890 := b0w h_x89
        have h_x891 := b0x h_x89
        obtain ⟨x90, h_x90, hm2⟩ := b0h hm2
        have h_x900 := b0w h_x90
        have h_x901 := b0x h_x90
        obtain ⟨iqp1422, rfl, q7, q0⟩ := b3w q3 h_x90
        obtain ⟨wp1423, hw_wp1423, os_wp1423⟩ := b3v q3 h_x90
        obtain ⟨x91, h_x91, hm2⟩ := b0h hm2
        have h_x910 := b0w h_x91
        have h_x911 := b0x h_x91
        obtain ⟨irp1424, rfl, obr_irp1424, ltr_irp1424⟩ := b3m os_wp1423 h_x91
        obtain ⟨x92, h_x92, hm2⟩ := b0h hm2
        have h_x920 := b0w h_x92
        have h_x921 := b0x h_x92
        obtain ⟨x93, h_x93, hm2⟩ := b0h hm2
        have h_x930 := b0w h_x93
        have h_x931 := b0x h_x93
        refine b5g (fun t h => ∃ v7_3 : AV, t 2 = .fp [.fs 5 (List.map b0p h_.Combs), .fs 3 (List.map b0o h_.Trains), .fs 3 (List.map b0q h_.Shifts), I h_.Until] 0 ∧ t 3 = .fp [.fs 1 (List.map eI d.At), .fs 1 (List.map b0k d.People), .fs 1 (List.map b0k d.Walks)] 0 ∧ t 7 = v7_3 ∧ t 8 = I x_45 ∧ t 43 = .fs 3 (List.map b0o h_.Trains) ∧ t 44 = I (List.length h_.Trains : Int) ∧ t 45 = I x_45 ∧ t 51 = .fs 3 (List.map b2t x77.Crowds) ∧ t 52 = I (List.length x77.Crowds : Int) ∧ t 53 = I x_53 ∧ RR h v7_3 hs7 1 eI (List.set rows_7_2 (Int.toNat x89) (List.set x90 (Int.toNat x83.Comb) (wr (x91 + x93))))) (fun K hK => ?_) ?_
        ·simp only [go_sem, s3, s7, b2c q3, s8, q7, q0, b0m h_x89, b0n h_x89, h_x890, h_x891, b0m h_x90, b0n h_x90, h_x900, h_x901, b0m hw_wp1423, b0n hw_wp1423, b3i os_wp1423, b0m h_x91, b0n h_x91, h_x910, h_x911, obr_irp1424, ltr_irp1424, b0m h_x92, b0n h_x92, h_x920, h_x921, b0m h_x93, b0n h_x93, h_x930, h_x931, b0a v7, b0a v7_1]
         exact hK _ _ ⟨(.rs iqp1422 0 (List.length rows_7_2)), s2, s3, (by first | (simp only [go_sem, s7, List.length_append, List.map_append]; done) | rfl), s8, s43, s44, s45, s51, s52, s53, (b7e q3 h_x90 hw_wp1423 (by simp only [go_sem, b1h q3, q7, q0, b2w q3 hw_wp1423, b0b (b2w q3 hw_wp1423), List.length_append, List.map_append]) (by simp only [List.length_set]) (by intro j hj hne hl; first | rfl | simp only [go_sem, hne, hl, q0]) (by first | omega | exact Nat.le_refl _ | (simp only [go_sem, nxs] <;> omega)))⟩
        ·try clear s2 s3 s7 s8 s43 s44 s45 s51 s52 s53 q3 q7 q0
         rintro t h ⟨v7_3, s2, s3, s7, s8, s43, s44, s45, s51, s52, s53, q3⟩
         simp only [b0i, b0j]
         refine hK81 _ _ ?_
         refine b1i fun K hK => ?_
         simp only [go_sem, s53, b0a v7, b0a v7_1, b0a v7_3]
         refine hK _ _ ?_
         clear hK K
         simp only [b0i, b0j]
         obtain rfl := Option.some.inj hm2
         refine ⟨_, rfl, ?_⟩
         exact ⟨v7_3, s2, s3, s7, s8, s43, s44, s45, s51, s52, (by first | (simp only [go_sem, s53, List.length_append, List.map_append]; done) | rfl), q3⟩
       ·rw [b01 hc80] at hm2
        simp only [b1t, b1w, b1v, b1u, b0i, b0j, Nat.reduceEqDiff, not_false_eq_true]
        obtain rfl := Option.some.inj hm2
        obtain rfl := hb78 _ rfl
        try dsimp only at hm1
        exact J75 rows_7_2 v7_2 _ _ s2 s3 s7 s43 s44 s45 q3 hm1
     ·rw [b01 hc73] at hm1
      simp only [b1t, b1w, b1v, b1u, b0i, b0j, Nat.reduceEqDiff, not_false_eq_true]
      obtain rfl := Option.some.inj hm1
      obtain rfl := hb71 _ rfl
      try dsimp only at hm0
      exact J12 rows_7_1 v7_1 _ _ s2 s3 s7 q3 hm0
   simp only [b00]
   obtain ⟨b96, hl96, hm0⟩ := b0h hm0
   refine b1x hl96 (fun | (rows_7, x_32), t, h => ∃ v7 : AV, ∃ hs7 : List AV, t 2 = .fp [.fs 5 (List.map b0p h_.Combs), .fs 3 (List.map b0o h_.Trains), .fs 3 (List.map b0q h_.Shifts), I h_.Until] 0 ∧ t 3 = .fp [.fs 1 (List.map eI d.At), .fs 1 (List.map b0k d.People), .fs 1 (List.map b0k d.Walks)] 0 ∧ t 7 = v7 ∧ t 31 = I h_.Until ∧ t 32 = I x_32 ∧ RR h v7 hs7 1 eI rows_7) ?_ ?_
   ·exact ⟨nilS, [], (by first | (simp only [go_sem, List.length_append, List.map_append]; done) | rfl), (by first | (simp only [go_sem, List.length_append, List.map_append]; done) | rfl), (by first | (simp only [go_sem, List.length_append, List.map_append]; done) | rfl), (by first | (simp only [go_sem, List.length_append, List.map_append]; done) | rfl), (by first | (simp only [go_sem, List.length_append, List.map_append]; done) | rfl), c2y⟩
   ·rintro ⟨rows_7, x_32⟩ o t h ⟨v7, hs7, s2, s3, s7, s31, s32, q3⟩ hm1 hb96
    simp only [c1i] at hm1
    rw [d90]
    refine b0d fun K hK => ?_
    simp only [go_sem, s31, s32, b0a v7]
    refine hK _ _ ?_
    clear hK K
    refine b0r fun K97 hK97 => ?_
    simp only [go_sem]
    refine b0u (fun hc98 => ?_) (fun hc98 => ?_)
    ·rw [b02 hc98] at hm1
     simp only [b0z, b0i, b0j]
     refine hK97 _ _ ?_
     refine b0r fun K99 hK99 => ?_
     simp only [b00]
     obtain ⟨l102, h_l102, hm1⟩ := b0h hm1
     obtain ⟨l103, h_l103, hm1⟩ := b0h hm1
     refine b5g (fun t h => ∃ v7_1 : AV, ∃ hs7_1 : List AV, t 2 = .fp [.fs 5 (List.map b0p h_.Combs), .fs 3 (List.map b0o h_.Trains), .fs 3 (List.map b0q h_.Shifts), I h_.Until] 0 ∧ t 3 = .fp [.fs 1 (List.map eI d.At), .fs 1 (List.map b0k d.People), .fs 1 (List.map b0k d.Walks)] 0 ∧ t 7 = v7_1 ∧ t 31 = I h_.Until ∧ t 32 = I x_32 ∧ RR h v7_1 hs7_1 1 eI l103) (fun K hK => ?_) ?_
     ·simp only [go_sem, s2, s7, b2c q3, b0a v7]
      refine b6e (f := eI) (z := 0) rfl h_l102 ?_
      simp only [go_sem, s2, s7, b2c q3, b0a v7]
      refine c11 (f := eI) (sz := 1) (rows := rows_7) (hs := hs7) (u := .rs h.nx 0 (List.length l102)) ?_ ?_ ?_ h_l103 ?_
      ·exact (b2f q3 (by intro j hj  hl; first | rfl | simp only [go_sem, hl]) (by first | omega | exact Nat.le_refl _ | (simp only [go_sem, nxs] <;> omega)))
      ·exact (by simp only [go_sem, b1h q3, List.length_append, List.map_append])
      ·exact (b2r q3 (by first | assumption | omega | (simp only [nxs] <;> omega)))
      simp only [go_sem, s2, s7, b2c q3, b0a v7]
      exact hK _ _ ⟨(.rs (nxs (nxs h.nx)) 0 (List.length l103)), (hs7 ++ [.rs h.nx 0 (List.length l102)]), s2, s3, (by first | (simp only [go_sem, s7, List.length_append, List.map_append]; done) | rfl), s31, s32, (c2x (h := h) q3 h_l103 (by simp only [go_sem, b1h q3, List.length_append, List.map_append]) rfl (by simp only [go_sem]) (b3c (by simp only [go_sem, b1h q3, List.length_append, List.map_append]) (by simp only [go_sem, b1h q3, List.length_append, List.map_append]) (by simp only [go_sem])) (b58 (by first | assumption | exact b2r q3 (by first | omega | (simp only [nxs] <;> omega)))) (by first | omega | exact Nat.le_refl _ | (simp only [go_sem, nxs] <;> omega)) (by first | exact b1k | exact b1l (by first | assumption | omega | (simp only [nxs] <;> omega))) (by intro j hj h2 hl; first | rfl | simp only [go_sem, h2, hl]) (by first | omega | exact Nat.le_refl _ | (simp only [go_sem, nxs] <;> omega)))⟩
     ·rintro t h ⟨v7_1, hs7_1, s2, s3, s7, s31, s32, q3⟩
      simp only [b0i, b0j]
      refine hK99 _ _ ?_
      refine b1i fun K hK => ?_
      simp only [go_sem, s32, b0a v7, b0a v7_1]
      refine hK _ _ ?_
      clear hK K
      simp only [b0i, b0j]
      obtain rfl := Option.some.inj hm1
      refine ⟨_, rfl, ?_⟩
      exact ⟨v7_1, hs7_1, s2, s3, s7, s31, (by first | (simp only [go_sem, s32, List.length_append, List.map_append]; done) | rfl), q3⟩
    ·rw [b01 hc98] at hm1
     simp only [b1t, b1w, b1v, b1u, b0i, b0j, Nat.reduceEqDiff, not_false_eq_true]
     obtain rfl := Option.some.inj hm1
     obtain rfl := hb96 _ rfl
     try dsimp only at hm0
     exact J10 rows_7 v7 hs7 _ _ s2 s3 s7 q3 hm0
theorem c96 (hf : Has O "newel/halls.Rates" x_halls_Rates) (c17 : c3j O) (b6g : b8v O) : c6w O := by
 intro h_ comb r hm0
 unfold b59 at hm0
 refine b2k hf rfl (b0e (.agg _ (b0e (b0s fun a _ => b2m a) (b0e (b0s fun a _ => b2l a) (b0e (b0s fun a _ => b2o a) (b0e (b0l _) b0y))))) (b0e (b0l _) b0y)) (.tup _ (b0e (b0s fun a _ => b2b a) (b0e (b0l _) b0y))) ?_
 refine b2h (fun t h => t 0 = .agg [.fs 5 (List.map b0p h_.Combs), .fs 3 (List.map b0o h_.Trains), .fs 3 (List.map b0q h_.Shifts), I h_.Until] ∧ t 1 = I comb) ⟨rfl, rfl⟩ fun t h ⟨s0, s1⟩ => ?_
 simp only [x_halls_Rates]
 refine b0d fun K hK => ?_
 simp only [go_sem, s0]
 refine hK _ _ ?_
 clear hK K
 refine b03 ?_
 obtain ⟨y2, h_y2, hm0⟩ := b0h hm0
 refine b0d fun K hK => ?_
 simp only [go_sem, s1]
 refine g70 ?_ (b0e (.agg _ (b0e (b0s fun a _ => b2m a) (b0e (b0s fun a _ => b2l a) (b0e (b0s fun a _ => b2o a) (b0e (b0l _) b0y))))) (b0e (b0l _) (b0e (b0l _) b0y))) (c17 h_ comb ([]) _ h_y2) ?_
 ·exact .cons (.refl _ (.agg _ (b0e (b0s fun a _ => b2m a) (b0e (b0s fun a _ => b2l a) (b0e (b0s fun a _ => b2o a) (b0e (b0l _) b0y)))))) (.cons (.refl _ (b0l _)) (.cons (.nil _) (.nil)))
 simp only [go_sem, s1]
 refine hK _ _ ?_
 clear hK K
 refine b03 ?_
 refine b0d fun K hK => ?_
 simp only [go_sem]
 refine hK _ _ ?_
 clear hK K
 refine b0r fun K3 hK3 => ?_
 simp only [go_sem]
 refine b0u (fun hc4 => ?_) (fun hc4 => ?_)
 ·rw [b02 hc4] at hm0
  refine b0d fun K hK => ?_
  simp only [go_sem]
  refine hK _ _ ?_
  clear hK K
  simp only [b1a, b1c, b1b, b1d]
  obtain rfl := Option.some.inj hm0
  exact b5u (v := .v (.slice none 0 0)) (u := I y2) (by simp only [go_sem, List.length_append, List.map_append]) (by simp only [go_sem, List.length_append, List.map_append]) (.nil _) (.refl _ (b0l _))
 ·rw [b01 hc4] at hm0
  simp only [b0z, b0i, b0j]
  refine hK3 _ _ ?_
  obtain ⟨y6, h_y6, hm0⟩ := b0h hm0
  refine b0d fun K hK => ?_
  simp only [go_sem, s1]
  refine c5a (e := eI) (l := y6) ?_ (b6g h_ comb _ h_y6) ?_
  ·exact .cons (.refl _ (.agg _ (b0e (b0s fun a _ => b2m a) (b0e (b0s fun a _ => b2l a) (b0e (b0s fun a _ => b2o a) (b0e (b0l _) b0y)))))) (.cons (.refl _ (b0l _)) (.nil))
  simp only [go_sem, s1]
  refine hK _ _ ?_
  clear hK K
  simp only [b1a, b1c, b1b, b1d]
  obtain rfl := Option.some.inj hm0
  exact b5u (v := .rs h.nx 0 (List.length y6)) (u := I 0) (by simp only [go_sem, List.length_append, List.map_append]) (by simp only [go_sem, List.length_append, List.map_append]) (b42 (f := eI) (l := y6) (id := h.nx) (by simp only [go_sem, List.length_append, List.map_append]) (by first | rfl | simp only [go_sem, List.length_append, List.map_append]) b2b b38) (.refl _ (b0l _))
theorem c97 (hf : Has O "newel/halls.bounds" x_halls_bounds) (c16 : c3i O) (c15 : c3h O) : c6x O := by
 intro h_ open_ r hm0
 unfold b6v at hm0
 refine b2k hf rfl (b0e (.agg _ (b0e (b0s fun a _ => b2m a) (b0e (b0s fun a _ => b2l a) (b0e (b0s fun a _ => b2o a) (b0e (b0l _) b0y))))) (b0e (b0s fun a _ => b2v a) b0y)) (b0s fun a _ => c1b a) ?_
 refine b2h (fun t h => t 0 = .agg [.fs 5 (List.map b0p h_.Combs), .fs 3 (List.map b0o h_.Trains), .fs 3 (List.map b0q h_.Shifts), I h_.Until] ∧ t 1 = .fs 1 (List.map b0k open_)) ⟨rfl, rfl⟩ fun t h ⟨s0, s1⟩ => ?_
 simp only [x_halls_bounds]
 refine b0d fun K hK => ?_
 simp only [go_sem, s0]
 refine hK _ _ ?_
 clear hK K
 refine b0d fun K hK => ?_
 simp only [go_sem]
 refine hK _ _ ?_
 clear hK K
 refine b03 ?_
 refine b0d fun K hK => ?_
 simp only [go_sem]
 refine hK _ _ ?_
 clear hK K
 refine b0r fun K1 hK1 => ?_
 have J2 : ∀ (all_5 : List halls_bound) (v5 : AV) (t : Slots) (h : Heap), t 5 = v5 → b09 h v5 1 (List.map b11 all_5) → b7v all_5 = some r → K1 t h := by
  intro all_5 v5 t h s5 qf hm0
  refine hK1 _ _ ?_
  unfold b7v at hm0
  refine b03 ?_
  refine c4b (s := 5) (v := v5) (f := b11) (l := all_5) (by simp only [go_sem, s5, b0v qf, List.length_append, List.map_append]) (b2e qf (by intro j hj hl; first | rfl | simp only [go_sem, hl]) (by first | omega | exact Nat.le_refl _ | (simp only [go_sem, nxs] <;> omega))) c1b d7y ?_
  skip
  refine b0d fun K hK => ?_
  simp only [go_sem, s5, b0a v5]
  refine hK _ _ ?_
  clear hK K
  simp only [b1a, b1c, b1b, b1d]
  obtain rfl := Option.some.inj hm0
  exact b1q (by simp only [go_sem, b0v qf, List.length_append, List.map_append]) (b0s fun a _ => c1b a)
 simp only [b00]
 obtain ⟨b3, hl3, hm0⟩ := b0h hm0
 refine b1x hl3 (fun | (all_5, x_19), t, h => ∃ v5 : AV, t 1 = .fs 1 (List.map b0k open_) ∧ t 2 = .fp [.fs 5 (List.map b0p h_.Combs), .fs 3 (List.map b0o h_.Trains), .fs 3 (List.map b0q h_.Shifts), I h_.Until] 0 ∧ t 5 = v5 ∧ t 18 = I (List.length h_.Combs : Int) ∧ t 19 = I x_19 ∧ b09 h v5 1 (List.map b11 all_5)) ?_ ?_
 ·exact ⟨(.v (.slice none 0 0)), s1, (by first | (simp only [go_sem, List.length_append, List.map_append]; done) | rfl), (by first | (simp only [go_sem, List.length_append, List.map_append]; done) | rfl), (by first | (simp only [go_sem, List.length_append, List.map_append]; done) | rfl), (by first | (simp only [go_sem, List.length_append, List.map_append]; done) | rfl), b65⟩
 ·rintro ⟨all_5, x_19⟩ o t h ⟨v5, s1, s2, s5, s18, s19, qf⟩ hm1 hb3
  simp only [c1r] at hm1
  rw [d17]
  refine b0d fun K hK => ?_
  simp only [go_sem, s18, s19, b0a v5]
  refine hK _ _ ?_
  clear hK K
  refine b0r fun K4 hK4 => ?_
  simp only [go_sem]
  refine b0u (fun hc5 => ?_) (fun hc5 => ?_)
  ·rw [b02 hc5] at hm1
   simp only [b0z, b0i, b0j]
   refine hK4 _ _ ?_
   refine b0r fun K6 hK6 => ?_
   have J7 : ∀ (all_5_1 : List halls_bound) (i5 : Nat) (t : Slots) (h : Heap), t 1 = .fs 1 (List.map b0k open_) → t 2 = .fp [.fs 5 (List.map b0p h_.Combs), .fs 3 (List.map b0o h_.Trains), .fs 3 (List.map b0q h_.Shifts), I h_.Until] 0 → t 5 = .rs i5 0 (List.length all_5_1) → t 18 = I (List.length h_.Combs : Int) → t 19 = I x_19 → h.ob i5 = some (1, List.map b11 all_5_1) → i5 < h.nx → b7z x_19 all_5_1 = some o → K6 t h := by
    intro all_5_1 i5 t h s1 s2 s5 s18 s19 q12 qz hm1
    refine hK6 _ _ ?_
    unfold b7z at hm1
    refine b1i fun K hK => ?_
    simp only [go_sem, s19, qz, b0a v5]
    refine hK _ _ ?_
    clear hK K
    simp only [b0i, b0j]
    obtain rfl := Option.some.inj hm1
    refine ⟨_, rfl, ?_⟩
    exact ⟨(.rs i5 0 (List.length all_5_1)), s1, s2, (by first | exact s5 | simp only [go_sem, s5, List.length_append, List.map_append]), s18, (by first | (simp only [go_sem, s19, List.length_append, List.map_append]; done) | rfl), (b3c (by simp only [go_sem, q12, qz, List.length_append, List.map_append]) (by first | rfl | simp only [go_sem, List.length_append, List.map_append]) (by simp only [go_sem, qz]))⟩
   simp only [b00]
   refine b0d fun K hK => ?_
   simp only [go_sem, s19, b0a v5]
   refine hK _ _ ?_
   clear hK K
   refine b0d fun K hK => ?_
   simp only [go_sem, b0a v5]
   refine hK _ _ ?_
   clear hK K
   refine b03 ?_
   refine b0d fun K hK => ?_
   simp only [go_sem, s2, b0a v5]
   refine hK _ _ ?_
   clear hK K
   refine b0r fun K8 hK8 => ?_
   have J9 : ∀ (b_7_0 : List Int) (b_7_3 : List (List Int)) (v5_1 : AV) (i7 : Nat) (i7_1 : Nat) (i7_2 : Nat) (v7 : AV) (t : Slots) (h : Heap), t 1 = .fs 1 (List.map b0k open_) → t 2 = .fp [.fs 5 (List.map b0p h_.Combs), .fs 3 (List.map b0o h_.Trains), .fs 3 (List.map b0q h_.Shifts), I h_.Until] 0 → t 5 = v5_1 → t 6 = I x_19 → t 7 = .rp i7 0 0 → t 18 = I (List.length h_.Combs : Int) → t 19 = I x_19 → b09 h v5_1 1 (List.map b11 all_5) → h.ob i7 = some (4, [[.rs i7_1 0 (List.length b_7_0), .rs i7_2 0 (List.length ([0])), .v (.slice none 0 0), v7]]) → i7 < h.nx → h.ob i7_1 = some (1, List.map eI b_7_0) → i7_1 < h.nx → h.ob i7_2 = some (1, List.map eI ([0])) → i7_2 < h.nx → b09 h v7 1 (List.map b0k b_7_3) → b0c v5_1 i7 → b0c v5_1 i7_1 → b0c v5_1 i7_2 → (∀ j, ¬b0c v5_1 j → b0c v7 j) → ¬i7 = i7_1 → ¬i7 = i7_2 → b0c v7 i7 → ¬i7_1 = i7_2 → b0c v7 i7_1 → b0c v7 i7_2 → b72 h_ open_ all_5 x_19 b_7_0 b_7_3 = some o → K8 t h := by
    intro b_7_0 b_7_3 v5_1 i7 i7_1 i7_2 v7 t h s1 s2 s5 s6 s7 s18 s19 qf q7 q0 qg q2 qh q1 q8 q9 qa qb qn q4 q5 qc q6 qd qe hm1
    refine hK8 _ _ ?_
    unfold b72 at hm1
    refine b03 ?_
    refine b0d fun K hK => ?_
    simp only [go_sem, s2, q0, q2, q1, b0a v5, b0a v5_1, b0a v7]
    refine hK _ _ ?_
    clear hK K
    refine b0r fun K10 hK10 => ?_
    have J11 : ∀ (b_7_1 : List Int) (b_7_2 : List Int) (i7_3 : Nat) (v7_1 : AV) (v7_2 : AV) (t : Slots) (h : Heap), t 1 = .fs 1 (List.map b0k open_) → t 2 = .fp [.fs 5 (List.map b0p h_.Combs), .fs 3 (List.map b0o h_.Trains), .fs 3 (List.map b0q h_.Shifts), I h_.Until] 0 → t 5 = v5_1 → t 7 = .rp i7 0 0 → t 18 = I (List.length h_.Combs : Int) → t 19 = I x_19 → b09 h v5_1 1 (List.map b11 all_5) → h.ob i7 = some (4, [[.rs i7_1 0 (List.length b_7_0), .rs i7_3 0 (List.length b_7_1), v7_1, v7_2]]) → i7 < h.nx → h.ob i7_1 = some (1, List.map eI b_7_0) → i7_1 < h.nx → h.ob i7_3 = some (1, List.map eI b_7_1) → i7_3 < h.nx → b09 h v7_1 1 (List.map eI b_7_2) → b09 h v7_2 1 (List.map b0k b_7_3) → b0c v5_1 i7 → b0c v5_1 i7_1 → b0c v5_1 i7_3 → (∀ j, ¬b0c v5_1 j → b0c v7_1 j) → (∀ j, ¬b0c v5_1 j → b0c v7_2 j) → ¬i7 = i7_1 → ¬i7 = i7_3 → b0c v7_1 i7 → b0c v7_2 i7 → ¬i7_1 = i7_3 → b0c v7_1 i7_1 → b0c v7_2 i7_1 → b0c v7_1 i7_3 → b0c v7_2 i7_3 → (∀ j, ¬b0c v7_1 j → b0c v7_2 j) → b7t all_5 x_19 b_7_0 b_7_3 b_7_1 b_7_2 = some o → K10 t h := by
     try clear s1 s2 s5 s6 s7 s18 s19 qf q7 q0 qg q2 qh q1 q8 q9 qa qb qn q4 q5 qc q6 qd qe
     intro b_7_1 b_7_2 i7_3 v7_1 v7_2 t h s1 s2 s5 s7 s18 s19 qf q7 q0 qg q2 qh q1 q8 qo q9 qa qb qn qw q4 q5 qc qp q6 qd qq qe qr qx hm1
     refine hK10 _ _ ?_
     unfold b7t at hm1
     refine d3i (s := 7) (v := .rp i7 0 0) (y := .fp [.fs 1 (List.map eI b_7_0), .fs 1 (List.map eI b_7_1), .fs 1 (List.map eI b_7_2), .fs 1 (List.map b0k b_7_3)] 0) (fun j => j == i7 || j == i7_1 || j == i7_3 || b54 v7_1 j || b54 v7_2 j) (by simp only [go_sem, s7, b0v qf, q7, q0, qg, q2, qh, q1, b0v q8, b0v qo, q9, qa, qb, q4, b0b q4, q5, b0b q5, qc, qp, q6, b0b q6, qd, qq, qe, qr, List.length_append, List.map_append]) (c4h (id := i7) (sz := 4) (xs := [.rs i7_1 0 (List.length b_7_0), .rs i7_3 0 (List.length b_7_1), v7_1, v7_2]) (by rw [b6k (by simp)]; simp only [go_sem, b0v qf, q7, q0, qg, q2, qh, q1, b0v q8, b0v qo, q9, qa, qb, q4, b0b q4, q5, b0b q5, qc, qp, q6, b0b q6, qd, qq, qe, qr, List.length_append, List.map_append]) (.cons (b42 (f := eI) (l := b_7_0) (id := i7_1) (by rw [b6k (by simp)]; simp only [go_sem, b0v qf, q7, q0, qg, q2, qh, q1, b0v q8, b0v qo, q9, qa, qb, q4, b0b q4, q5, b0b q5, qc, qp, q6, b0b q6, qd, qq, qe, qr, List.length_append, List.map_append]) (by first | rfl | simp only [go_sem, List.length_append, List.map_append]) b2b b38) (.cons (b42 (f := eI) (l := b_7_1) (id := i7_3) (by rw [b6k (by simp)]; simp only [go_sem, b0v qf, q7, q0, qg, q2, qh, q1, b0v q8, b0v qo, q9, qa, qb, q4, b0b q4, q5, b0b q5, qc, qp, q6, b0b q6, qd, qq, qe, qr, List.length_append, List.map_append]) (by first | rfl | simp only [go_sem, List.length_append, List.map_append]) b2b b38) (.cons (b7s (f := eI) (l := b_7_2) (c5w (b2e q8 (by intro j hj hl; first | rfl | simp only [go_sem, hl, b4x qn j hj, b1y hj qc, b1y hj qd, b1y hj qe, qx j hj]) (by first | omega | exact Nat.le_refl _ | (simp only [go_sem, nxs] <;> omega))) (by intro j hj; simp [c0l hj])) b2b b38) (.cons (b7s (f := b0k) (l := b_7_3) (c5w (b2e qo (by intro j hj hl; first | rfl | simp only [go_sem, hl, b4x qw j hj, b1y hj qp, b1y hj qq, b1y hj qr, b4x qx j hj]) (by first | omega | exact Nat.le_refl _ | (simp only [go_sem, nxs] <;> omega))) (by intro j hj; simp [c0l hj])) b2v c5p) (.nil)))))) (.fp _ _ (b0e (b0s fun a _ => b2b a) (b0e (b0s fun a _ => b2b a) (b0e (b0s fun a _ => b2b a) (b0e (b0s fun a _ => b2v a) b0y))))) ?_
     obtain ⟨l13, h_l13, hm1⟩ := b0h hm1
     refine b1i fun K hK => ?_
     simp only [go_sem, s5, s7, q0, q2, q1, q9, qa, qb, Bool.or_eq_false_iff, beq_eq_false_iff_ne, ne_eq, not_false_eq_true, and_self, b1s q8 qc, b1s qo qp, b1s q8 qd, b1s qo qq, b1s q8 qe, b1s qo qr, b0a v5, b0a v5_1, b0a v7, b0a v7_1, b0a v7_2]
     refine b5l (f := b11) (l := all_5) (m := ([(halls_bound.mk b_7_0 b_7_1 b_7_2 b_7_3)])) ?_ ?_ ?_ ?_ h_l13 ?_
     ·exact (b2e qf (by intro j hj hl; first | rfl | simp only [go_sem, hl, b1y hj q9, b1y hj qa, b1y hj qb, qn j hj, b1s q8 (qn j hj), qw j hj, b1s qo (qw j hj), Bool.or_eq_false_iff, beq_eq_false_iff_ne, ne_eq, not_false_eq_true, and_self]) (by first | omega | exact Nat.le_refl _ | (simp only [go_sem, nxs] <;> omega)))
     ·exact (b5n (by simp only [go_sem, Bool.or_eq_false_iff, beq_eq_false_iff_ne, ne_eq, not_false_eq_true, and_self, b1s q8 qc, b1s qo qp, b1s q8 qd, b1s qo qq, b1s q8 qe, b1s qo qr, b0v qf, q7, q0, qg, q2, qh, q1, b0v q8, b0v qo, q9, qa, qb, q4, b0b q4, q5, b0b q5, qc, qp, q6, b0b q6, qd, qq, qe, qr, List.length_append, List.map_append]) (by simp only [go_sem, Bool.or_eq_false_iff, beq_eq_false_iff_ne, ne_eq, not_false_eq_true, and_self, b1s q8 qc, b1s qo qp, b1s q8 qd, b1s qo qq, b1s q8 qe, b1s qo qr, b0v qf, q7, q0, qg, q2, qh, q1, b0v q8, b0v qo, q9, qa, qb, q4, b0b q4, q5, b0b q5, qc, qp, q6, b0b q6, qd, qq, qe, qr, List.length_append, List.map_append]))
     ·exact (b3h (by first | exact b1k | exact b1l (by first | omega | (simp only [nxs] <;> omega)) | assumption | exact b1g (by assumption) (by first | omega | (simp only [go_sem, nxs] <;> omega))))
     ·exact (fun _ => by simp)
     simp only [go_sem, s5, s7, q0, q2, q1, q9, qa, qb, Bool.or_eq_false_iff, beq_eq_false_iff_ne, ne_eq, not_false_eq_true, and_self, b1s q8 qc, b1s qo qp, b1s q8 qd, b1s qo qq, b1s q8 qe, b1s qo qr, b0a v5, b0a v5_1, b0a v7, b0a v7_1, b0a v7_2]
     refine hK _ _ ?_
     clear hK K
     simp only [b0i, b0j]
     exact J7 l13 (nxs h.nx) _ _ s1 s2 (by first | (simp only [go_sem, s5, List.length_append, List.map_append]; done) | rfl) s18 s19 (by simp only [go_sem, Bool.or_eq_false_iff, beq_eq_false_iff_ne, ne_eq, not_false_eq_true, and_self, b0v qf, q0, q2, q1, b0v q8, b0v qo, List.length_append, List.map_append]) (by simp only [go_sem]) hm1
    simp only [b00]
    obtain ⟨b14, hl14, hm1⟩ := b0h hm1
    refine b1x hl14 (fun | (b_7_1, b_7_2, x_122), t, h => ∃ i7_3 : Nat, ∃ v7_1 : AV, ∃ v7_2 : AV, t 1 = .fs 1 (List.map b0k open_) ∧ t 2 = .fp [.fs 5 (List.map b0p h_.Combs), .fs 3 (List.map b0o h_.Trains), .fs 3 (List.map b0q h_.Shifts), I h_.Until] 0 ∧ t 5 = v5_1 ∧ t 6 = I x_19 ∧ t 7 = .rp i7 0 0 ∧ t 18 = I (List.length h_.Combs : Int) ∧ t 19 = I x_19 ∧ t 121 = I h_.Until ∧ t 122 = I x_122 ∧ b09 h v5_1 1 (List.map b11 all_5) ∧ h.ob i7 = some (4, [[.rs i7_1 0 (List.length b_7_0), .rs i7_3 0 (List.length b_7_1), v7_1, v7_2]]) ∧ i7 < h.nx ∧ h.ob i7_1 = some (1, List.map eI b_7_0) ∧ i7_1 < h.nx ∧ h.ob i7_3 = some (1, List.map eI b_7_1) ∧ i7_3 < h.nx ∧ b09 h v7_1 1 (List.map eI b_7_2) ∧ b09 h v7_2 1 (List.map b0k b_7_3) ∧ b0c v5_1 i7 ∧ b0c v5_1 i7_1 ∧ b0c v5_1 i7_3 ∧ (∀ j, ¬b0c v5_1 j → b0c v7_1 j) ∧ (∀ j, ¬b0c v5_1 j → b0c v7_2 j) ∧ ¬i7 = i7_1 ∧ ¬i7 = i7_3 ∧ b0c v7_1 i7 ∧ b0c v7_2 i7 ∧ ¬i7_1 = i7_3 ∧ b0c v7_1 i7_1 ∧ b0c v7_2 i7_1 ∧ b0c v7_1 i7_3 ∧ b0c v7_2 i7_3 ∧ (∀ j, ¬b0c v7_1 j → b0c v7_2 j)) ?_ ?_
    ·exact ⟨i7_2, (.v (.slice none 0 0)), v7, s1, s2, s5, s6, s7, s18, s19, (by first | (simp only [go_sem, List.length_append, List.map_append]; done) | rfl), (by first | (simp only [go_sem, List.length_append, List.map_append]; done) | rfl), qf, q7, q0, qg, q2, qh, q1, b65, q8, q9, qa, qb, (by first | exact b4y | exact b4z | assumption | (refine b41 ?_; first | assumption | exact b1g (by assumption) (by first | assumption | omega | (simp only [nxs] <;> omega))) | (refine b3h ?_; first | assumption | exact b1g (by assumption) (by first | assumption | omega | (simp only [nxs] <;> omega)))), qn, q4, q5, (by first | exact b1k | exact b1l (by first | assumption | omega | (simp only [nxs] <;> omega)) | assumption | exact b1g (by assumption) (by first | assumption | omega | (simp only [nxs] <;> omega))), qc, q6, (by first | exact b1k | exact b1l (by first | assumption | omega | (simp only [nxs] <;> omega)) | assumption | exact b1g (by assumption) (by first | assumption | omega | (simp only [nxs] <;> omega))), qd, (by first | exact b1k | exact b1l (by first | assumption | omega | (simp only [nxs] <;> omega)) | assumption | exact b1g (by assumption) (by first | assumption | omega | (simp only [nxs] <;> omega))), qe, (by first | exact b4y | exact b4z | assumption | (refine b41 ?_; first | assumption | exact b1g (by assumption) (by first | assumption | omega | (simp only [nxs] <;> omega))) | (refine b3h ?_; first | assumption | exact b1g (by assumption) (by first | assumption | omega | (simp only [nxs] <;> omega))))⟩
    ·try clear s1 s2 s5 s6 s7 s18 s19 qf q7 q0 qg q2 qh q1 q8 q9 qa qb qn q4 q5 qc q6 qd qe
     rintro ⟨b_7_1, b_7_2, x_122⟩ o t h ⟨i7_3, v7_1, v7_2, s1, s2, s5, s6, s7, s18, s19, s121, s122, qf, q7, q0, qg, q2, qh, q1, q8, qo, q9, qa, qb, qn, qw, q4, q5, qc, qp, q6, qd, qq, qe, qr, qx⟩ hm2 hb14
     simp only [c1q] at hm2
     rw [d16]
     refine b0d fun K hK => ?_
     simp only [go_sem, s121, s122, q0, q2, q1, b0a v5, b0a v5_1, b0a v7, b0a v7_1, b0a v7_2]
     refine hK _ _ ?_
     clear hK K
     refine b0r fun K15 hK15 => ?_
     simp only [go_sem]
     refine b0u (fun hc16 => ?_) (fun hc16 => ?_)
     ·rw [b02 hc16] at hm2
      simp only [b0z, b0i, b0j]
      refine hK15 _ _ ?_
      refine b0r fun K17 hK17 => ?_
      have J18 : ∀ (b_7_1_1 : List Int) (b_7_2_1 : List Int) (i7_4 : Nat) (i7_5 : Nat) (v7_3 : AV) (t : Slots) (h : Heap), t 1 = .fs 1 (List.map b0k open_) → t 2 = .fp [.fs 5 (List.map b0p h_.Combs), .fs 3 (List.map b0o h_.Trains), .fs 3 (List.map b0q h_.Shifts), I h_.Until] 0 → t 5 = v5_1 → t 6 = I x_19 → t 7 = .rp i7 0 0 → t 18 = I (List.length h_.Combs : Int) → t 19 = I x_19 → t 121 = I h_.Until → t 122 = I x_122 → b09 h v5_1 1 (List.map b11 all_5) → h.ob i7 = some (4, [[.rs i7_1 0 (List.length b_7_0), .rs i7_4 0 (List.length b_7_1_1), .rs i7_5 0 (List.length b_7_2_1), v7_3]]) → i7 < h.nx → h.ob i7_1 = some (1, List.map eI b_7_0) → i7_1 < h.nx → h.ob i7_4 = some (1, List.map eI b_7_1_1) → i7_4 < h.nx → h.ob i7_5 = some (1, List.map eI b_7_2_1) → i7_5 < h.nx → b09 h v7_3 1 (List.map b0k b_7_3) → b0c v5_1 i7 → b0c v5_1 i7_1 → b0c v5_1 i7_4 → b0c v5_1 i7_5 → (∀ j, ¬b0c v5_1 j → b0c v7_3 j) → ¬i7 = i7_1 → ¬i7 = i7_4 → ¬i7 = i7_5 → b0c v7_3 i7 → ¬i7_1 = i7_4 → ¬i7_1 = i7_5 → b0c v7_3 i7_1 → ¬i7_4 = i7_5 → b0c v7_3 i7_4 → b0c v7_3 i7_5 → b7u x_122 b_7_1_1 b_7_2_1 = some o → K17 t h := by
       try clear s1 s2 s5 s6 s7 s18 s19 s121 s122 qf q7 q0 qg q2 qh q1 q8 qo q9 qa qb qn qw q4 q5 qc qp q6 qd qq qe qr qx
       intro b_7_1_1 b_7_2_1 i7_4 i7_5 v7_3 t h s1 s2 s5 s6 s7 s18 s19 s121 s122 qf q7 q0 qg q2 qh q1 q15 q11 qo q9 qa qb q1a qw q4 q5 q1b qp q6 q1c qq q1d qr q1e hm2
       refine hK17 _ _ ?_
       unfold b7u at hm2
       refine b1i fun K hK => ?_
       simp only [go_sem, s122, q0, q2, q1, q11, b0a v5, b0a v5_1, b0a v7, b0a v7_1, b0a v7_2, b0a v7_3]
       refine hK _ _ ?_
       clear hK K
       simp only [b0i, b0j]
       obtain rfl := Option.some.inj hm2
       refine ⟨_, rfl, ?_⟩
       exact ⟨i7_4, (.rs i7_5 0 (List.length b_7_2_1)), v7_3, s1, s2, s5, s6, s7, s18, s19, s121, (by first | (simp only [go_sem, s122, List.length_append, List.map_append]; done) | rfl), qf, q7, q0, qg, q2, qh, q1, (b3c (by simp only [go_sem, q15, q11, List.length_append, List.map_append]) (by first | rfl | simp only [go_sem, List.length_append, List.map_append]) (by simp only [go_sem, q11])), qo, q9, qa, qb, (by first | exact b4y | exact b4z | assumption | (refine b41 ?_; first | assumption | exact b1g (by assumption) (by first | assumption | omega | (simp only [nxs] <;> omega))) | (refine b3h ?_; first | assumption | exact b1g (by assumption) (by first | assumption | omega | (simp only [nxs] <;> omega)))), qw, q4, q5, (by first | exact b1k | exact b1l (by first | assumption | omega | (simp only [nxs] <;> omega)) | assumption | exact b1g (by assumption) (by first | assumption | omega | (simp only [nxs] <;> omega))), qp, q6, (by first | exact b1k | exact b1l (by first | assumption | omega | (simp only [nxs] <;> omega)) | assumption | exact b1g (by assumption) (by first | assumption | omega | (simp only [nxs] <;> omega))), qq, (by first | exact b1k | exact b1l (by first | assumption | omega | (simp only [nxs] <;> omega)) | assumption | exact b1g (by assumption) (by first | assumption | omega | (simp only [nxs] <;> omega))), qr, (by first | exact b4y | exact b4z | assumption | (refine b41 ?_; first | assumption | exact b1g (by assumption) (by first | assumption | omega | (simp only [nxs] <;> omega))) | (refine b3h ?_; first | assumption | exact b1g (by assumption) (by first | assumption | omega | (simp only [nxs] <;> omega))))⟩
      simp only [b00]
      refine b0d fun K hK => ?_
      simp only [go_sem, s122, q0, q2, q1, b0a v5, b0a v5_1, b0a v7, b0a v7_1, b0a v7_2]
      refine hK _ _ ?_
      clear hK K
      refine b0d fun K hK => ?_
      simp only [go_sem, q0, q2, q1, b0a v5, b0a v5_1, b0a v7, b0a v7_1, b0a v7_2]
      refine hK _ _ ?_
      clear hK K
      refine b03 ?_
      refine b0d fun K hK => ?_
      simp only [go_sem, q0, q2, q1, b0a v5, b0a v5_1, b0a v7, b0a v7_1, b0a v7_2]
      refine hK _ _ ?_
      clear hK K
      refine b0r fun K19 hK19 => ?_
      have J20 : ∀ (most_14 : Int) (v7_3 : AV) (t : Slots) (h : Heap), t 1 = .fs 1 (List.map b0k open_) → t 2 = .fp [.fs 5 (List.map b0p h_.Combs), .fs 3 (List.map b0o h_.Trains), .fs 3 (List.map b0q h_.Shifts), I h_.Until] 0 → t 5 = v5_1 → t 6 = I x_19 → t 7 = .rp i7 0 0 → t 13 = I x_122 → t 14 = I most_14 → t 18 = I (List.length h_.Combs : Int) → t 19 = I x_19 → t 121 = I h_.Until → t 122 = I x_122 → b09 h v5_1 1 (List.map b11 all_5) → h.ob i7 = some (4, [[.rs i7_1 0 (List.length b_7_0), .rs i7_3 0 (List.length b_7_1), v7_1, v7_3]]) → i7 < h.nx → h.ob i7_1 = some (1, List.map eI b_7_0) → i7_1 < h.nx → h.ob i7_3 = some (1, List.map eI b_7_1) → i7_3 < h.nx → b09 h v7_1 1 (List.map eI b_7_2) → b09 h v7_3 1 (List.map b0k b_7_3) → b0c v5_1 i7 → b0c v5_1 i7_1 → b0c v5_1 i7_3 → (∀ j, ¬b0c v5_1 j → b0c v7_1 j) → (∀ j, ¬b0c v5_1 j → b0c v7_3 j) → ¬i7 = i7_1 → ¬i7 = i7_3 → b0c v7_1 i7 → b0c v7_3 i7 → ¬i7_1 = i7_3 → b0c v7_1 i7_1 → b0c v7_3 i7_1 → b0c v7_1 i7_3 → b0c v7_3 i7_3 → (∀ j, ¬b0c v7_1 j → b0c v7_3 j) → b7w open_ x_19 b_7_1 b_7_2 x_122 most_14 = some o → K19 t h := by
       try clear s1 s2 s5 s6 s7 s18 s19 s121 s122 qf q7 q0 qg q2 qh q1 q8 qo q9 qa qb qn qw q4 q5 qc qp q6 qd qq qe qr qx
       intro most_14 v7_3 t h s1 s2 s5 s6 s7 s13 s14 s18 s19 s121 s122 qf q7 q0 qg q2 qh q1 q8 qo q9 qa qb qn qw q4 q5 qc qp q6 qd qq qe qr qx hm2
       refine hK19 _ _ ?_
       unfold b7w at hm2
       obtain ⟨l22, h_l22, hm2⟩ := b0h hm2
       refine b0d fun K hK => ?_
       simp only [go_sem, s7, s14, q7, q0, qg, q2, qh, q1, q9, qa, qb, q4, b0b q4, q5, b0b q5, qc, qp, q6, b0b q6, qd, qq, qe, qr, b0a v5, b0a v5_1, b0a v7, b0a v7_1, b0a v7_2, b0a v7_3]
       refine b5l (f := eI) (l := b_7_2) (m := ([most_14])) ?_ ?_ ?_ ?_ h_l22 ?_
       ·exact (b2e q8 (by intro j hj hl; first | rfl | simp only [go_sem, hl, b4x qn j hj, b1y hj qc, b1y hj qd, b1y hj qe, qx j hj]) (by first | omega | exact Nat.le_refl _ | (simp only [go_sem, nxs] <;> omega)))
       ·exact (b5n (by simp only [go_sem, b0v qf, q7, q0, qg, q2, qh, q1, b0v q8, b0v qo, q9, qa, qb, q4, b0b q4, q5, b0b q5, qc, qp, q6, b0b q6, qd, qq, qe, qr, List.length_append, List.map_append]) (by simp only [go_sem, b0v qf, q7, q0, qg, q2, qh, q1, b0v q8, b0v qo, q9, qa, qb, q4, b0b q4, q5, b0b q5, qc, qp, q6, b0b q6, qd, qq, qe, qr, List.length_append, List.map_append]))
       ·exact (b3h (by first | exact b1k | exact b1l (by first | omega | (simp only [nxs] <;> omega)) | assumption | exact b1g (by assumption) (by first | omega | (simp only [go_sem, nxs] <;> omega))))
       ·exact (fun _ => by simp)
       simp only [go_sem, s7, s14, q7, q0, qg, q2, qh, q1, q9, qa, qb, q4, b0b q4, q5, b0b q5, qc, qp, q6, b0b q6, qd, qq, qe, qr, b0a v5, b0a v5_1, b0a v7, b0a v7_1, b0a v7_2, b0a v7_3]
       refine hK _ _ ?_
       clear hK K
       obtain ⟨x27, h_x27, hm2⟩ := b0h hm2
       have h_x270 := b0w h_x27
       have h_x271 := b0x h_x27
       obtain ⟨x28, h_x28, hm2⟩ := b0h hm2
       have h_x280 := b0w h_x28
       have h_x281 := b0x h_x28
       obtain ⟨x29, h_x29, hm2⟩ := b0h hm2
       have h_x290 := b0w h_x29
       have h_x291 := b0x h_x29
       obtain ⟨l30, h_l30, hm2⟩ := b0h hm2
       refine b1i fun K hK => ?_
       simp only [go_sem, s1, s6, s7, s13, s14, q7, q0, qg, q2, qh, q1, q9, qa, qb, q4, b0b q4, q5, b0b q5, qc, qp, q6, b0b q6, qd, qq, qe, qr, b0m h_x27, b0n h_x27, h_x270, h_x271, b0m h_x28, b0n h_x28, h_x280, h_x281, b0m h_x29, b0n h_x29, h_x290, h_x291, b0a v5, b0a v5_1, b0a v7, b0a v7_1, b0a v7_2, b0a v7_3]
       refine b5l (f := eI) (l := b_7_1) (m := ([wr (x27 + (mn most_14 x29))])) ?_ ?_ ?_ ?_ h_l30 ?_
       ·exact (b3c (by simp only [go_sem, b0v qf, q7, q0, qg, q2, qh, q1, b0v q8, b0v qo, q9, qa, qb, q4, b0b q4, q5, b0b q5, qc, qp, q6, b0b q6, qd, qq, qe, qr, List.length_append, List.map_append]) (by simp only [go_sem, b0v qf, q7, q0, qg, q2, qh, q1, b0v q8, b0v qo, q9, qa, qb, q4, b0b q4, q5, b0b q5, qc, qp, q6, b0b q6, qd, qq, qe, qr, List.length_append, List.map_append]) (by simp only [go_sem, q0, q2, q1]))
       ·exact (b5n (by simp only [go_sem, b0v qf, q7, q0, qg, q2, qh, q1, b0v q8, b0v qo, q9, qa, qb, q4, b0b q4, q5, b0b q5, qc, qp, q6, b0b q6, qd, qq, qe, qr, List.length_append, List.map_append]) (by simp only [go_sem, b0v qf, q7, q0, qg, q2, qh, q1, b0v q8, b0v qo, q9, qa, qb, q4, b0b q4, q5, b0b q5, qc, qp, q6, b0b q6, qd, qq, qe, qr, List.length_append, List.map_append]))
       ·exact (b3h (by first | exact b1k | exact b1l (by first | omega | (simp only [nxs] <;> omega)) | assumption | exact b1g (by assumption) (by first | omega | (simp only [go_sem, nxs] <;> omega))))
       ·exact (fun _ => by simp)
       simp only [go_sem, s1, s6, s7, s13, s14, q7, q0, qg, q2, qh, q1, q9, qa, qb, q4, b0b q4, q5, b0b q5, qc, qp, q6, b0b q6, qd, qq, qe, qr, b0m h_x27, b0n h_x27, h_x270, h_x271, b0m h_x28, b0n h_x28, h_x280, h_x281, b0m h_x29, b0n h_x29, h_x290, h_x291, b0a v5, b0a v5_1, b0a v7, b0a v7_1, b0a v7_2, b0a v7_3]
       refine hK _ _ ?_
       clear hK K
       simp only [b0i, b0j]
       exact J18 l30 l22 (nxs (nxs (nxs h.nx))) (nxs h.nx) v7_3 _ _ s1 s2 s5 s6 s7 s18 s19 s121 s122 (b2e qf (by intro j hj hl; first | rfl | simp only [go_sem, hl, q0, q1, b1y hj q9, b1y hj qb, qn j hj]) (by first | omega | exact Nat.le_refl _ | (simp only [go_sem, nxs] <;> omega))) (by simp only [go_sem, q7, q0, q1, b0v q8, q5, b0b q5, qc, List.length_append, List.map_append]) (by simp only [go_sem, q0]) (by simp only [go_sem, q0, qg, q2, q1, b0v q8, q4, b0b q4, q6, b0b q6, qd, List.length_append, List.map_append]) (by simp only [go_sem, q2]) (by simp only [go_sem, q0, q1, b0v q8, List.length_append, List.map_append]) (by simp only [go_sem]) (by simp only [go_sem, q0, q1, b0v q8, List.length_append, List.map_append]) (by simp only [go_sem]) (b2e qo (by intro j hj hl; first | rfl | simp only [go_sem, hl, q0, q1, b1y hj qp, b1y hj qr, b4x qx j hj]) (by first | omega | exact Nat.le_refl _ | (simp only [go_sem, nxs] <;> omega))) q9 qa (by first | exact b1k | exact b1l (by first | assumption | omega | (simp only [nxs] <;> omega)) | assumption | exact b1g (by assumption) (by first | assumption | omega | (simp only [nxs] <;> omega))) (by first | exact b1k | exact b1l (by first | assumption | omega | (simp only [nxs] <;> omega)) | assumption | exact b1g (by assumption) (by first | assumption | omega | (simp only [nxs] <;> omega))) qw q4 (by first | first | assumption | omega | (simp only [nxs] <;> omega)) (by first | first | assumption | omega | (simp only [nxs] <;> omega)) qp (by first | first | assumption | omega | (simp only [nxs] <;> omega)) (by first | first | assumption | omega | (simp only [nxs] <;> omega)) qq (by first | first | assumption | omega | (simp only [nxs] <;> omega)) (by first | exact b1k | exact b1l (by first | assumption | omega | (simp only [nxs] <;> omega)) | assumption | exact b1g (by assumption) (by first | assumption | omega | (simp only [nxs] <;> omega))) (by first | exact b1k | exact b1l (by first | assumption | omega | (simp only [nxs] <;> omega)) | assumption | exact b1g (by assumption) (by first | assumption | omega | (simp only [nxs] <;> omega))) hm2
      simp only [b00]
      obtain ⟨b31, hl31, hm2⟩ := b0h hm2
      refine b1x hl31 (fun | (most_14, x_127), t, h => ∃ v7_3 : AV, t 1 = .fs 1 (List.map b0k open_) ∧ t 2 = .fp [.fs 5 (List.map b0p h_.Combs), .fs 3 (List.map b0o h_.Trains), .fs 3 (List.map b0q h_.Shifts), I h_.Until] 0 ∧ t 5 = v5_1 ∧ t 6 = I x_19 ∧ t 7 = .rp i7 0 0 ∧ t 13 = I x_122 ∧ t 14 = I most_14 ∧ t 18 = I (List.length h_.Combs : Int) ∧ t 19 = I x_19 ∧ t 121 = I h_.Until ∧ t 122 = I x_122 ∧ t 126 = I (wr (x_122 + 1)) ∧ t 127 = I x_127 ∧ b09 h v5_1 1 (List.map b11 all_5) ∧ h.ob i7 = some (4, [[.rs i7_1 0 (List.length b_7_0), .rs i7_3 0 (List.length b_7_1), v7_1, v7_3]]) ∧ i7 < h.nx ∧ h.ob i7_1 = some (1, List.map eI b_7_0) ∧ i7_1 < h.nx ∧ h.ob i7_3 = some (1, List.map eI b_7_1) ∧ i7_3 < h.nx ∧ b09 h v7_1 1 (List.map eI b_7_2) ∧ b09 h v7_3 1 (List.map b0k b_7_3) ∧ b0c v5_1 i7 ∧ b0c v5_1 i7_1 ∧ b0c v5_1 i7_3 ∧ (∀ j, ¬b0c v5_1 j → b0c v7_1 j) ∧ (∀ j, ¬b0c v5_1 j → b0c v7_3 j) ∧ ¬i7 = i7_1 ∧ ¬i7 = i7_3 ∧ b0c v7_1 i7 ∧ b0c v7_3 i7 ∧ ¬i7_1 = i7_3 ∧ b0c v7_1 i7_1 ∧ b0c v7_3 i7_1 ∧ b0c v7_1 i7_3 ∧ b0c v7_3 i7_3 ∧ (∀ j, ¬b0c v7_1 j → b0c v7_3 j)) ?_ ?_
      ·exact ⟨v7_2, s1, s2, s5, s6, s7, (by first | (simp only [go_sem, List.length_append, List.map_append]; done) | rfl), (by first | (simp only [go_sem, List.length_append, List.map_append]; done) | rfl), s18, s19, s121, s122, (by first | (simp only [go_sem, List.length_append, List.map_append]; done) | rfl), (by first | (simp only [go_sem, List.length_append, List.map_append]; done) | rfl), qf, q7, q0, qg, q2, qh, q1, q8, qo, q9, qa, qb, qn, qw, q4, q5, qc, qp, q6, qd, qq, qe, qr, qx⟩
      ·try clear s1 s2 s5 s6 s7 s18 s19 s121 s122 qf q7 q0 qg q2 qh q1 q8 qo q9 qa qb qn qw q4 q5 qc qp q6 qd qq qe qr qx
       rintro ⟨most_14, x_127⟩ o t h ⟨v7_3, s1, s2, s5, s6, s7, s13, s14, s18, s19, s121, s122, s126, s127, qf, q7, q0, qg, q2, qh, q1, q8, qo, q9, qa, qb, qn, qw, q4, q5, qc, qp, q6, qd, qq, qe, qr, qx⟩ hm3 hb31
       simp only [c1p] at hm3
       rw [d15]
       refine b0d fun K hK => ?_
       simp only [go_sem, s126, s127, q0, q2, q1, b0a v5, b0a v5_1, b0a v7, b0a v7_1, b0a v7_2, b0a v7_3]
       refine hK _ _ ?_
       clear hK K
       refine b0r fun K32 hK32 => ?_
       simp only [go_sem]
       refine b0u (fun hc33 => ?_) (fun hc33 => ?_)
       ·rw [b02 hc33] at hm3
        simp only [b0z, b0i, b0j]
        refine hK32 _ _ ?_
        refine b0r fun K34 hK34 => ?_
        simp only [b00]
        refine b0d fun K hK => ?_
        simp only [go_sem, s127, q0, q2, q1, b0a v5, b0a v5_1, b0a v7, b0a v7_1, b0a v7_2, b0a v7_3]
        refine hK _ _ ?_
        clear hK K
        obtain ⟨x40, h_x40, hm3⟩ := b0h hm3
        have h_x400 := b0w h_x40
        have h_x401 := b0x h_x40
        obtain ⟨iq41, rfl, q17, q13⟩ := b3m qo h_x40
        obtain ⟨x42, h_x42, hm3⟩ := b0h hm3
        have h_x420 := b0w h_x42
        have h_x421 := b0x h_x42
        obtain ⟨x43, h_x43, hm3⟩ := b0h hm3
        have h_x430 := b0w h_x43
        have h_x431 := b0x h_x43
        obtain ⟨x44, h_x44, hm3⟩ := b0h hm3
        have h_x440 := b0w h_x44
        have h_x441 := b0x h_x44
        refine b1i fun K hK => ?_
        simp only [go_sem, s7, s13, s14, q7, q0, qg, q2, qh, q1, q17, q13, q9, qa, qb, q4, b0b q4, q5, b0b q5, qc, qp, q6, b0b q6, qd, qq, qe, qr, b0m h_x40, b0n h_x40, h_x400, h_x401, b0m h_x42, b0n h_x42, h_x420, h_x421, b0m h_x43, b0n h_x43, h_x430, h_x431, b0m h_x44, b0n h_x44, h_x440, h_x441, b0a v5, b0a v5_1, b0a v7, b0a v7_1, b0a v7_2]
        refine hK _ _ ?_
        clear hK K
        simp only [b0i, b0j]
        refine hK34 _ _ ?_
        refine b1i fun K hK => ?_
        simp only [go_sem, s127, q0, q2, q1, q13, b0a v5, b0a v5_1, b0a v7, b0a v7_1, b0a v7_2]
        refine hK _ _ ?_
        clear hK K
        simp only [b0i, b0j]
        obtain rfl := Option.some.inj hm3
        refine ⟨_, rfl, ?_⟩
        exact ⟨(.rs iq41 0 (List.length b_7_3)), s1, s2, s5, s6, s7, s13, (by first | (simp only [go_sem, s14, List.length_append, List.map_append]; done) | rfl), s18, s19, s121, s122, s126, (by first | (simp only [go_sem, s127, List.length_append, List.map_append]; done) | rfl), qf, (by simp only [go_sem, q7, q0, List.length_append, List.map_append]), (by simp only [go_sem, q0]), qg, q2, qh, q1, q8, (b3c (by simp only [go_sem, q17, q13, List.length_append, List.map_append]) (by first | rfl | simp only [go_sem, List.length_append, List.map_append]) (by simp only [go_sem, q13])), q9, qa, qb, qn, qw, q4, q5, qc, qp, q6, qd, qq, qe, qr, qx⟩
       ·rw [b01 hc33] at hm3
        simp only [b1t, b1w, b1v, b1u, b0i, b0j, Nat.reduceEqDiff, not_false_eq_true]
        obtain rfl := Option.some.inj hm3
        obtain rfl := hb31 _ rfl
        try dsimp only at hm2
        exact J20 most_14 v7_3 _ _ s1 s2 s5 s6 s7 s13 s14 s18 s19 s121 s122 qf q7 q0 qg q2 qh q1 q8 qo q9 qa qb qn qw q4 q5 qc qp q6 qd qq qe qr qx hm2
     ·rw [b01 hc16] at hm2
      simp only [b1t, b1w, b1v, b1u, b0i, b0j, Nat.reduceEqDiff, not_false_eq_true]
      obtain rfl := Option.some.inj hm2
      obtain rfl := hb14 _ rfl
      try dsimp only at hm1
      exact J11 b_7_1 b_7_2 i7_3 v7_1 v7_2 _ _ s1 s2 s5 s7 s18 s19 qf q7 q0 qg q2 qh q1 q8 qo q9 qa qb qn qw q4 q5 qc qp q6 qd qq qe qr qx hm1
   simp only [b00]
   obtain ⟨b47, hl47, hm1⟩ := b0h hm1
   refine b1x hl47 (fun | (b_7_0, b_7_3, x_28), t, h => ∃ v5_1 : AV, ∃ i7 : Nat, ∃ i7_1 : Nat, ∃ i7_2 : Nat, ∃ v7 : AV, t 1 = .fs 1 (List.map b0k open_) ∧ t 2 = .fp [.fs 5 (List.map b0p h_.Combs), .fs 3 (List.map b0o h_.Trains), .fs 3 (List.map b0q h_.Shifts), I h_.Until] 0 ∧ t 5 = v5_1 ∧ t 6 = I x_19 ∧ t 7 = .rp i7 0 0 ∧ t 18 = I (List.length h_.Combs : Int) ∧ t 19 = I x_19 ∧ t 27 = I h_.Until ∧ t 28 = I x_28 ∧ b09 h v5_1 1 (List.map b11 all_5) ∧ h.ob i7 = some (4, [[.rs i7_1 0 (List.length b_7_0), .rs i7_2 0 (List.length ([0])), .v (.slice none 0 0), v7]]) ∧ i7 < h.nx ∧ h.ob i7_1 = some (1, List.map eI b_7_0) ∧ i7_1 < h.nx ∧ h.ob i7_2 = some (1, List.map eI ([0])) ∧ i7_2 < h.nx ∧ b09 h v7 1 (List.map b0k b_7_3) ∧ b0c v5_1 i7 ∧ b0c v5_1 i7_1 ∧ b0c v5_1 i7_2 ∧ (∀ j, ¬b0c v5_1 j → b0c v7 j) ∧ ¬i7 = i7_1 ∧ ¬i7 = i7_2 ∧ b0c v7 i7 ∧ ¬i7_1 = i7_2 ∧ b0c v7 i7_1 ∧ b0c v7 i7_2) ?_ ?_
   ·exact ⟨v5, (nxs (nxs h.nx)), h.nx, (nxs h.nx), (.v (.slice none 0 0)), s1, s2, s5, (by first | (simp only [go_sem, List.length_append, List.map_append]; done) | rfl), (by first | (simp only [go_sem, List.length_append, List.map_append]; done) | rfl), s18, s19, (by first | (simp only [go_sem, List.length_append, List.map_append]; done) | rfl), (by first | (simp only [go_sem, List.length_append, List.map_append]; done) | rfl), (b2e qf (by intro j hj hl; first | rfl | simp only [go_sem, hl]) (by first | omega | exact Nat.le_refl _ | (simp only [go_sem, nxs] <;> omega))), (by simp only [go_sem, List.length_append, List.map_append]), (by simp only [go_sem]), (by simp only [go_sem, List.length_append, List.map_append]), (by simp only [go_sem]), (by simp only [go_sem, List.length_append, List.map_append]), (by simp only [go_sem]), b65, (by first | exact b1k | exact b1l (by first | assumption | omega | (simp only [nxs] <;> omega)) | assumption | exact b1g (by assumption) (by first | assumption | omega | (simp only [nxs] <;> omega))), (by first | exact b1k | exact b1l (by first | assumption | omega | (simp only [nxs] <;> omega)) | assumption | exact b1g (by assumption) (by first | assumption | omega | (simp only [nxs] <;> omega))), (by first | exact b1k | exact b1l (by first | assumption | omega | (simp only [nxs] <;> omega)) | assumption | exact b1g (by assumption) (by first | assumption | omega | (simp only [nxs] <;> omega))), (by first | exact b4y | exact b4z | assumption | (refine b41 ?_; first | assumption | exact b1g (by assumption) (by first | assumption | omega | (simp only [nxs] <;> omega))) | (refine b3h ?_; first | assumption | exact b1g (by assumption) (by first | assumption | omega | (simp only [nxs] <;> omega)))), (by first | first | assumption | omega | (simp only [nxs] <;> omega)), (by first | first | assumption | omega | (simp only [nxs] <;> omega)), (by first | exact b1k | exact b1l (by first | assumption | omega | (simp only [nxs] <;> omega)) | assumption | exact b1g (by assumption) (by first | assumption | omega | (simp only [nxs] <;> omega))), (by first | first | assumption | omega | (simp only [nxs] <;> omega)), (by first | exact b1k | exact b1l (by first | assumption | omega | (simp only [nxs] <;> omega)) | assumption | exact b1g (by assumption) (by first | assumption | omega | (simp only [nxs] <;> omega))), (by first | exact b1k | exact b1l (by first | assumption | omega | (simp only [nxs] <;> omega)) | assumption | exact b1g (by assumption) (by first | assumption | omega | (simp only [nxs] <;> omega)))⟩
   ·rintro ⟨b_7_0, b_7_3, x_28⟩ o t h ⟨v5_1, i7, i7_1, i7_2, v7, s1, s2, s5, s6, s7, s18, s19, s27, s28, qf, q7, q0, qg, q2, qh, q1, q8, q9, qa, qb, qn, q4, q5, qc, q6, qd, qe⟩ hm2 hb47
    simp only [c1o] at hm2
    rw [d14]
    refine b0d fun K hK => ?_
    simp only [go_sem, s27, s28, q0, q2, q1, b0a v5, b0a v5_1, b0a v7]
    refine hK _ _ ?_
    clear hK K
    refine b0r fun K48 hK48 => ?_
    simp only [go_sem]
    refine b0u (fun hc49 => ?_) (fun hc49 => ?_)
    ·rw [b02 hc49] at hm2
     simp only [b0z, b0i, b0j]
     refine hK48 _ _ ?_
     refine b0r fun K50 hK50 => ?_
     have J51 : ∀ (b_7_0_1 : List Int) (b_7_3_1 : List (List Int)) (v5_2 : AV) (i7_3 : Nat) (i7_4 : Nat) (t : Slots) (h : Heap), t 1 = .fs 1 (List.map b0k open_) → t 2 = .fp [.fs 5 (List.map b0p h_.Combs), .fs 3 (List.map b0o h_.Trains), .fs 3 (List.map b0q h_.Shifts), I h_.Until] 0 → t 5 = v5_2 → t 6 = I x_19 → t 7 = .rp i7 0 0 → t 18 = I (List.length h_.Combs : Int) → t 19 = I x_19 → t 27 = I h_.Until → t 28 = I x_28 → b09 h v5_2 1 (List.map b11 all_5) → h.ob i7 = some (4, [[.rs i7_3 0 (List.length b_7_0_1), .rs i7_2 0 (List.length ([0])), .v (.slice none 0 0), .rs i7_4 0 (List.length b_7_3_1)]]) → i7 < h.nx → h.ob i7_3 = some (1, List.map eI b_7_0_1) → i7_3 < h.nx → h.ob i7_2 = some (1, List.map eI ([0])) → i7_2 < h.nx → h.ob i7_4 = some (1, List.map b0k b_7_3_1) → i7_4 < h.nx → b0c v5_2 i7 → b0c v5_2 i7_3 → b0c v5_2 i7_2 → b0c v5_2 i7_4 → ¬i7 = i7_3 → ¬i7 = i7_2 → ¬i7 = i7_4 → ¬i7_3 = i7_2 → ¬i7_3 = i7_4 → ¬i7_2 = i7_4 → b7x x_28 b_7_0_1 b_7_3_1 = some o → K50 t h := by
      try clear s1 s2 s5 s6 s7 s18 s19 s27 s28 qf q7 q0 qg q2 qh q1 q8 q9 qa qb qn q4 q5 qc q6 qd qe
      intro b_7_0_1 b_7_3_1 v5_2 i7_3 i7_4 t h s1 s2 s5 s6 s7 s18 s19 s27 s28 qf q7 q0 qg q2 qh q1 q15 q11 q9 qa qb q1a q4 q5 q1b q6 q1c q1d hm2
      refine hK50 _ _ ?_
      unfold b7x at hm2
      refine b1i fun K hK => ?_
      simp only [go_sem, s28, q0, q2, q1, q11, b0a v5, b0a v5_1, b0a v7, b0a v5_2]
      refine hK _ _ ?_
      clear hK K
      simp only [b0i, b0j]
      obtain rfl := Option.some.inj hm2
      refine ⟨_, rfl, ?_⟩
      exact ⟨v5_2, i7, i7_3, i7_2, (.rs i7_4 0 (List.length b_7_3_1)), s1, s2, s5, s6, s7, s18, s19, s27, (by first | (simp only [go_sem, s28, List.length_append, List.map_append]; done) | rfl), qf, q7, q0, qg, q2, qh, q1, (b3c (by simp only [go_sem, q15, q11, List.length_append, List.map_append]) (by first | rfl | simp only [go_sem, List.length_append, List.map_append]) (by simp only [go_sem, q11])), q9, qa, qb, (by first | exact b4y | exact b4z | assumption | (refine b41 ?_; first | assumption | exact b1g (by assumption) (by first | assumption | omega | (simp only [nxs] <;> omega))) | (refine b3h ?_; first | assumption | exact b1g (by assumption) (by first | assumption | omega | (simp only [nxs] <;> omega)))), q4, q5, (by first | exact b1k | exact b1l (by first | assumption | omega | (simp only [nxs] <;> omega)) | assumption | exact b1g (by assumption) (by first | assumption | omega | (simp only [nxs] <;> omega))), q6, (by first | exact b1k | exact b1l (by first | assumption | omega | (simp only [nxs] <;> omega)) | assumption | exact b1g (by assumption) (by first | assumption | omega | (simp only [nxs] <;> omega))), (by first | exact b1k | exact b1l (by first | assumption | omega | (simp only [nxs] <;> omega)) | assumption | exact b1g (by assumption) (by first | assumption | omega | (simp only [nxs] <;> omega)))⟩
     simp only [b00]
     refine b0d fun K hK => ?_
     simp only [go_sem, s28, q0, q2, q1, b0a v5, b0a v5_1, b0a v7]
     refine hK _ _ ?_
     clear hK K
     obtain ⟨l53, h_l53, hm2⟩ := b0h hm2
     refine b0d fun K hK => ?_
     simp only [go_sem, s2, q0, q2, q1, b0a v5, b0a v5_1, b0a v7]
     refine b6e (f := eI) (z := 0) rfl h_l53 ?_
     simp only [go_sem, s2, q0, q2, q1, b0a v5, b0a v5_1, b0a v7]
     refine hK _ _ ?_
     clear hK K
     refine b03 ?_
     refine b0d fun K hK => ?_
     simp only [go_sem, q0, q2, q1, b0a v5, b0a v5_1, b0a v7]
     refine hK _ _ ?_
     clear hK K
     refine b0r fun K54 hK54 => ?_
     have J55 : ∀ (row_9 : List Int) (v5_2 : AV) (i9 : Nat) (t : Slots) (h : Heap), t 1 = .fs 1 (List.map b0k open_) → t 2 = .fp [.fs 5 (List.map b0p h_.Combs), .fs 3 (List.map b0o h_.Trains), .fs 3 (List.map b0q h_.Shifts), I h_.Until] 0 → t 5 = v5_2 → t 6 = I x_19 → t 7 = .rp i7 0 0 → t 8 = I x_28 → t 9 = .rs i9 0 (List.length row_9) → t 18 = I (List.length h_.Combs : Int) → t 19 = I x_19 → t 27 = I h_.Until → t 28 = I x_28 → b09 h v5_2 1 (List.map b11 all_5) → h.ob i7 = some (4, [[.rs i7_1 0 (List.length b_7_0), .rs i7_2 0 (List.length ([0])), .v (.slice none 0 0), v7]]) → i7 < h.nx → h.ob i7_1 = some (1, List.map eI b_7_0) → i7_1 < h.nx → h.ob i7_2 = some (1, List.map eI ([0])) → i7_2 < h.nx → b09 h v7 1 (List.map b0k b_7_3) → h.ob i9 = some (1, List.map eI row_9) → i9 < h.nx → b0c v5_2 i7 → b0c v5_2 i7_1 → b0c v5_2 i7_2 → (∀ j, ¬b0c v5_2 j → b0c v7 j) → b0c v5_2 i9 → ¬i7 = i7_1 → ¬i7 = i7_2 → b0c v7 i7 → ¬i7 = i9 → ¬i7_1 = i7_2 → b0c v7 i7_1 → ¬i7_1 = i9 → b0c v7 i7_2 → ¬i7_2 = i9 → b0c v7 i9 → b7y open_ x_19 b_7_0 b_7_3 x_28 row_9 = some o → K54 t h := by
      try clear s1 s2 s5 s6 s7 s18 s19 s27 s28 qf q7 q0 qg q2 qh q1 q8 q9 qa qb qn q4 q5 qc q6 qd qe
      intro row_9 v5_2 i9 t h s1 s2 s5 s6 s7 s8 s9 s18 s19 s27 s28 qf q7 q0 qg q2 qh q1 q8 qu qi q9 qa qb qn qs q4 q5 qc qk q6 qd qm qe ql qt hm2
      refine hK54 _ _ ?_
      unfold b7y at hm2
      refine b03 ?_
      refine c4b (s := 9) (v := .rs i9 0 (List.length row_9)) (f := eI) (l := row_9) (by simp only [go_sem, s9, b0v qf, q7, q0, qg, q2, qh, q1, b0v q8, qu, qi, q9, qa, qb, qs, q4, b0b q4, q5, b0b q5, qc, qk, b0b qk, q6, b0b q6, qd, qm, b0b qm, qe, ql, b0b ql, qt, List.length_append, List.map_append]) (b3c (by simp only [go_sem, s9, b0v qf, q7, q0, qg, q2, qh, q1, b0v q8, qu, qi, q9, qa, qb, qs, q4, b0b q4, q5, b0b q5, qc, qk, b0b qk, q6, b0b q6, qd, qm, b0b qm, qe, ql, b0b ql, qt, List.length_append, List.map_append]) (by simp only [go_sem, s9, b0v qf, q7, q0, qg, q2, qh, q1, b0v q8, qu, qi, q9, qa, qb, qs, q4, b0b q4, q5, b0b q5, qc, qk, b0b qk, q6, b0b q6, qd, qm, b0b qm, qe, ql, b0b ql, qt, List.length_append, List.map_append]) (by simp only [go_sem, q0, q2, q1, qi])) b2b b38 ?_
      simp only [c8d, c8f]
      obtain ⟨l57, h_l57, hm2⟩ := b0h hm2
      refine b0d fun K hK => ?_
      simp only [go_sem, s7, s9, q7, q0, qg, q2, qh, q1, qi, q9, qa, qb, q4, b0b q4, q5, b0b q5, qc, qk, b0b qk, q6, b0b q6, qd, qm, b0b qm, qe, ql, b0b ql, qt, b0a v5, b0a v5_1, b0a v7, b0a v5_2]
      refine b5l (f := b0k) (l := b_7_3) (m := ([row_9])) ?_ ?_ ?_ ?_ h_l57 ?_
      ·exact (b2e q8 (by intro j hj hl; first | rfl | simp only [go_sem, hl, b4x qn j hj, b1y hj qc, b1y hj qd, b1y hj qe, b1y hj qt]) (by first | omega | exact Nat.le_refl _ | (simp only [go_sem, nxs] <;> omega)))
      ·exact (b5n (by simp only [go_sem, b0v qf, q7, q0, qg, q2, qh, q1, b0v q8, qu, qi, q9, qa, qb, qs, q4, b0b q4, q5, b0b q5, qc, qk, b0b qk, q6, b0b q6, qd, qm, b0b qm, qe, ql, b0b ql, qt, List.length_append, List.map_append]) (by simp only [go_sem, b0v qf, q7, q0, qg, q2, qh, q1, b0v q8, qu, qi, q9, qa, qb, qs, q4, b0b q4, q5, b0b q5, qc, qk, b0b qk, q6, b0b q6, qd, qm, b0b qm, qe, ql, b0b ql, qt, List.length_append, List.map_append]))
      ·exact (b3h (by first | exact b1k | exact b1l (by first | omega | (simp only [nxs] <;> omega)) | assumption | exact b1g (by assumption) (by first | omega | (simp only [go_sem, nxs] <;> omega))))
      ·exact (fun _ => by simp)
      simp only [go_sem, s7, s9, q7, q0, qg, q2, qh, q1, qi, q9, qa, qb, q4, b0b q4, q5, b0b q5, qc, qk, b0b qk, q6, b0b q6, qd, qm, b0b qm, qe, ql, b0b ql, qt, b0a v5, b0a v5_1, b0a v7, b0a v5_2]
      refine hK _ _ ?_
      clear hK K
      obtain ⟨x62, h_x62, hm2⟩ := b0h hm2
      have h_x620 := b0w h_x62
      have h_x621 := b0x h_x62
      obtain ⟨x63, h_x63, hm2⟩ := b0h hm2
      have h_x630 := b0w h_x63
      have h_x631 := b0x h_x63
      obtain ⟨x64, h_x64, hm2⟩ := b0h hm2
      have h_x640 := b0w h_x64
      have h_x641 := b0x h_x64
      obtain ⟨l65, h_l65, hm2⟩ := b0h hm2
      refine b1i fun K hK => ?_
      simp only [go_sem, s1, s6, s7, s8, q7, q0, qg, q2, qh, q1, qi, q9, qa, qb, q4, b0b q4, q5, b0b q5, qc, qk, b0b qk, q6, b0b q6, qd, qm, b0b qm, qe, ql, b0b ql, b0m h_x62, b0n h_x62, h_x620, h_x621, b0m h_x63, b0n h_x63, h_x630, h_x631, b0m h_x64, b0n h_x64, h_x640, h_x641, b0a v5, b0a v5_1, b0a v7, b0a v5_2]
      refine b5l (f := eI) (l := b_7_0) (m := ([wr (x62 + x64)])) ?_ ?_ ?_ ?_ h_l65 ?_
      ·exact (b3c (by simp only [go_sem, b0v qf, q7, q0, qg, q2, qh, q1, b0v q8, qu, qi, q9, qa, qb, qs, q4, b0b q4, q5, b0b q5, qc, qk, b0b qk, q6, b0b q6, qd, qm, b0b qm, qe, ql, b0b ql, qt, List.length_append, List.map_append]) (by simp only [go_sem, b0v qf, q7, q0, qg, q2, qh, q1, b0v q8, qu, qi, q9, qa, qb, qs, q4, b0b q4, q5, b0b q5, qc, qk, b0b qk, q6, b0b q6, qd, qm, b0b qm, qe, ql, b0b ql, qt, List.length_append, List.map_append]) (by simp only [go_sem, q0, q2, q1, qi]))
      ·exact (b5n (by simp only [go_sem, b0v qf, q7, q0, qg, q2, qh, q1, b0v q8, qu, qi, q9, qa, qb, qs, q4, b0b q4, q5, b0b q5, qc, qk, b0b qk, q6, b0b q6, qd, qm, b0b qm, qe, ql, b0b ql, qt, List.length_append, List.map_append]) (by simp only [go_sem, b0v qf, q7, q0, qg, q2, qh, q1, b0v q8, qu, qi, q9, qa, qb, qs, q4, b0b q4, q5, b0b q5, qc, qk, b0b qk, q6, b0b q6, qd, qm, b0b qm, qe, ql, b0b ql, qt, List.length_append, List.map_append]))
      ·exact (b3h (by first | exact b1k | exact b1l (by first | omega | (simp only [nxs] <;> omega)) | assumption | exact b1g (by assumption) (by first | omega | (simp only [go_sem, nxs] <;> omega))))
      ·exact (fun _ => by simp)
      simp only [go_sem, s1, s6, s7, s8, q7, q0, qg, q2, qh, q1, qi, q9, qa, qb, q4, b0b q4, q5, b0b q5, qc, qk, b0b qk, q6, b0b q6, qd, qm, b0b qm, qe, ql, b0b ql, b0m h_x62, b0n h_x62, h_x620, h_x621, b0m h_x63, b0n h_x63, h_x630, h_x631, b0m h_x64, b0n h_x64, h_x640, h_x641, b0a v5, b0a v5_1, b0a v7, b0a v5_2]
      refine hK _ _ ?_
      clear hK K
      simp only [b0i, b0j]
      exact J51 l65 l57 v5_2 (nxs (nxs (nxs h.nx))) (nxs h.nx) _ _ s1 s2 s5 s6 s7 s18 s19 s27 s28 (b2e qf (by intro j hj hl; first | rfl | simp only [go_sem, hl, q0, q2, qi, b1y hj q9, b1y hj qa, qn j hj, b1y hj qs]) (by first | omega | exact Nat.le_refl _ | (simp only [go_sem, nxs] <;> omega))) (by simp only [go_sem, q7, q0, q2, b0v q8, qi, q4, b0b q4, qc, qk, b0b qk, List.length_append, List.map_append]) (by simp only [go_sem, q0]) (by simp only [go_sem, q0, q2, b0v q8, qi, List.length_append, List.map_append]) (by simp only [go_sem]) (by simp only [go_sem, q0, q2, qh, q1, b0v q8, qi, q5, b0b q5, q6, b0b q6, qe, ql, b0b ql, List.length_append, List.map_append]) (by simp only [go_sem, q1]) (by simp only [go_sem, q0, q2, b0v q8, qi, List.length_append, List.map_append]) (by simp only [go_sem]) q9 (by first | exact b1k | exact b1l (by first | assumption | omega | (simp only [nxs] <;> omega)) | assumption | exact b1g (by assumption) (by first | assumption | omega | (simp only [nxs] <;> omega))) qb (by first | exact b1k | exact b1l (by first | assumption | omega | (simp only [nxs] <;> omega)) | assumption | exact b1g (by assumption) (by first | assumption | omega | (simp only [nxs] <;> omega))) (by first | first | assumption | omega | (simp only [nxs] <;> omega)) q5 (by first | first | assumption | omega | (simp only [nxs] <;> omega)) (by first | first | assumption | omega | (simp only [nxs] <;> omega)) (by first | first | assumption | omega | (simp only [nxs] <;> omega)) (by first | first | assumption | omega | (simp only [nxs] <;> omega)) hm2
     simp only [b00]
     obtain ⟨b66, hl66, hm2⟩ := b0h hm2
     refine b1x hl66 (fun | (row_9, t_10), t, h => ∃ v5_2 : AV, ∃ i9 : Nat, t 1 = .fs 1 (List.map b0k open_) ∧ t 2 = .fp [.fs 5 (List.map b0p h_.Combs), .fs 3 (List.map b0o h_.Trains), .fs 3 (List.map b0q h_.Shifts), I h_.Until] 0 ∧ t 5 = v5_2 ∧ t 6 = I x_19 ∧ t 7 = .rp i7 0 0 ∧ t 8 = I x_28 ∧ t 9 = .rs i9 0 (List.length row_9) ∧ t 10 = I t_10 ∧ t 18 = I (List.length h_.Combs : Int) ∧ t 19 = I x_19 ∧ t 27 = I h_.Until ∧ t 28 = I x_28 ∧ b09 h v5_2 1 (List.map b11 all_5) ∧ h.ob i7 = some (4, [[.rs i7_1 0 (List.length b_7_0), .rs i7_2 0 (List.length ([0])), .v (.slice none 0 0), v7]]) ∧ i7 < h.nx ∧ h.ob i7_1 = some (1, List.map eI b_7_0) ∧ i7_1 < h.nx ∧ h.ob i7_2 = some (1, List.map eI ([0])) ∧ i7_2 < h.nx ∧ b09 h v7 1 (List.map b0k b_7_3) ∧ h.ob i9 = some (1, List.map eI row_9) ∧ i9 < h.nx ∧ b0c v5_2 i7 ∧ b0c v5_2 i7_1 ∧ b0c v5_2 i7_2 ∧ (∀ j, ¬b0c v5_2 j → b0c v7 j) ∧ b0c v5_2 i9 ∧ ¬i7 = i7_1 ∧ ¬i7 = i7_2 ∧ b0c v7 i7 ∧ ¬i7 = i9 ∧ ¬i7_1 = i7_2 ∧ b0c v7 i7_1 ∧ ¬i7_1 = i9 ∧ b0c v7 i7_2 ∧ ¬i7_2 = i9 ∧ b0c v7 i9) ?_ ?_
     ·exact ⟨v5_1, h.nx, s1, s2, s5, s6, s7, (by first | (simp only [go_sem, List.length_append, List.map_append]; done) | rfl), (by first | (simp only [go_sem, List.length_append, List.map_append]; done) | rfl), (by first | (simp only [go_sem, List.length_append, List.map_append]; done) | rfl), s18, s19, s27, s28, (b2e qf (by intro j hj hl; first | rfl | simp only [go_sem, hl]) (by first | omega | exact Nat.le_refl _ | (simp only [go_sem, nxs] <;> omega))), (by simp only [go_sem, q7, q0, List.length_append, List.map_append]), (by simp only [go_sem, q0]), (by simp only [go_sem, qg, q2, List.length_append, List.map_append]), (by simp only [go_sem, q2]), (by simp only [go_sem, qh, q1, List.length_append, List.map_append]), (by simp only [go_sem, q1]), (b2e q8 (by intro j hj hl; first | rfl | simp only [go_sem, hl]) (by first | omega | exact Nat.le_refl _ | (simp only [go_sem, nxs] <;> omega))), (by simp only [go_sem, List.length_append, List.map_append]), (by simp only [go_sem]), q9, qa, qb, qn, (by first | exact b1k | exact b1l (by first | assumption | omega | (simp only [nxs] <;> omega)) | assumption | exact b1g (by assumption) (by first | assumption | omega | (simp only [nxs] <;> omega))), q4, q5, qc, (by first | first | assumption | omega | (simp only [nxs] <;> omega)), q6, qd, (by first | first | assumption | omega | (simp only [nxs] <;> omega)), qe, (by first | first | assumption | omega | (simp only [nxs] <;> omega)), (by first | exact b1k | exact b1l (by first | assumption | omega | (simp only [nxs] <;> omega)) | assumption | exact b1g (by assumption) (by first | assumption | omega | (simp only [nxs] <;> omega)))⟩
     ·try clear s1 s2 s5 s6 s7 s18 s19 s27 s28 qf q7 q0 qg q2 qh q1 q8 q9 qa qb qn q4 q5 qc q6 qd qe
      rintro ⟨row_9, t_10⟩ o t h ⟨v5_2, i9, s1, s2, s5, s6, s7, s8, s9, s10, s18, s19, s27, s28, qf, q7, q0, qg, q2, qh, q1, q8, qu, qi, q9, qa, qb, qn, qs, q4, q5, qc, qk, q6, qd, qm, qe, ql, qt⟩ hm3 hb66
      simp only [c1n] at hm3
      rw [d13]
      refine b03 ?_
      refine b0d fun K hK => ?_
      simp only [go_sem, s2, s10, q0, q2, q1, qi, b0a v5, b0a v5_1, b0a v7, b0a v5_2]
      refine hK _ _ ?_
      clear hK K
      refine b0r fun K67 hK67 => ?_
      simp only [go_sem]
      refine b0u (fun hc68 => ?_) (fun hc68 => ?_)
      ·rw [b02 hc68] at hm3
       simp only [b0z, b0i, b0j]
       refine hK67 _ _ ?_
       refine b0r fun K69 hK69 => ?_
       have J70 : ∀ (row_9_1 : List Int) (v5_3 : AV) (t : Slots) (h : Heap), t 1 = .fs 1 (List.map b0k open_) → t 2 = .fp [.fs 5 (List.map b0p h_.Combs), .fs 3 (List.map b0o h_.Trains), .fs 3 (List.map b0q h_.Shifts), I h_.Until] 0 → t 5 = v5_3 → t 6 = I x_19 → t 7 = .rp i7 0 0 → t 8 = I x_28 → t 9 = .rs i9 0 (List.length row_9_1) → t 10 = I t_10 → t 18 = I (List.length h_.Combs : Int) → t 19 = I x_19 → t 27 = I h_.Until → t 28 = I x_28 → b09 h v5_3 1 (List.map b11 all_5) → h.ob i7 = some (4, [[.rs i7_1 0 (List.length b_7_0), .rs i7_2 0 (List.length ([0])), .v (.slice none 0 0), v7]]) → i7 < h.nx → h.ob i7_1 = some (1, List.map eI b_7_0) → i7_1 < h.nx → h.ob i7_2 = some (1, List.map eI ([0])) → i7_2 < h.nx → b09 h v7 1 (List.map b0k b_7_3) → h.ob i9 = some (1, List.map eI row_9_1) → i9 < h.nx → b0c v5_3 i7 → b0c v5_3 i7_1 → b0c v5_3 i7_2 → (∀ j, ¬b0c v5_3 j → b0c v7 j) → b0c v5_3 i9 → ¬i7 = i7_1 → ¬i7 = i7_2 → b0c v7 i7 → ¬i7 = i9 → ¬i7_1 = i7_2 → b0c v7 i7_1 → ¬i7_1 = i9 → b0c v7 i7_2 → ¬i7_2 = i9 → b0c v7 i9 → b70 t_10 row_9_1 = some o → K69 t h := by
        try clear s1 s2 s5 s6 s7 s8 s9 s10 s18 s19 s27 s28 qf q7 q0 qg q2 qh q1 q8 qu qi q9 qa qb qn qs q4 q5 qc qk q6 qd qm qe ql qt
        intro row_9_1 v5_3 t h s1 s2 s5 s6 s7 s8 s9 s10 s18 s19 s27 s28 qf q7 q0 qg q2 qh q1 q8 qu qi q9 qa qb qn qs q4 q5 qc qk q6 qd qm qe ql qt hm3
        refine hK69 _ _ ?_
        unfold b70 at hm3
        refine b1i fun K hK => ?_
        simp only [go_sem, s10, q0, q2, q1, qi, b0a v5, b0a v5_1, b0a v7, b0a v5_2, b0a v5_3]
        refine hK _ _ ?_
        clear hK K
        simp only [b0i, b0j]
        obtain rfl := Option.some.inj hm3
        refine ⟨_, rfl, ?_⟩
        exact ⟨v5_3, i9, s1, s2, s5, s6, s7, s8, (by first | exact s9 | simp only [go_sem, s9, List.length_append, List.map_append]), (by first | (simp only [go_sem, s10, List.length_append, List.map_append]; done) | rfl), s18, s19, s27, s28, qf, q7, q0, qg, q2, qh, q1, q8, qu, qi, q9, qa, qb, qn, qs, q4, q5, qc, qk, q6, qd, qm, qe, ql, qt⟩
       simp only [b00]
       obtain ⟨y73, h_y73, hm3⟩ := b0h hm3
       obtain ⟨x74, h_x74, hm3⟩ := b0h hm3
       have h_x740 := b0w h_x74
       have h_x741 := b0x h_x74
       refine b0d fun K hK => ?_
       simp only [go_sem, s2, s6, s8, s9, s10, qu, qi, q0, q2, q1, qs, qk, b0b qk, qm, b0b qm, ql, b0b ql, qt, b0m h_x74, b0n h_x74, h_x740, h_x741, b0a v5, b0a v5_1, b0a v7, b0a v5_2]
       refine b1j (c16 h_ x_19 x_28 t_10 _ h_y73) ?_
       simp only [go_sem, s2, s6, s8, s9, s10, qu, qi, q0, q2, q1, qs, qk, b0b qk, qm, b0b qm, ql, b0b ql, qt, b0m h_x74, b0n h_x74, h_x740, h_x741, b0a v5, b0a v5_1, b0a v7, b0a v5_2]
       refine hK _ _ ?_
       clear hK K
       obtain ⟨l76, h_l76, hm3⟩ := b0h hm3
       refine b0d fun K hK => ?_
       simp only [go_sem, s2, s6, q0, q2, q1, qi, b0a v5, b0a v5_1, b0a v7, b0a v5_2]
       refine d7j (f := b0p) (l := h_.Combs) (lo := none) (hi := some x_19) h_l76 ?_
       simp only [go_sem, s2, s6, q0, q2, q1, qi, b0a v5, b0a v5_1, b0a v7, b0a v5_2]
       refine hK _ _ ?_
       clear hK K
       simp only [b00]
       obtain ⟨b77, hl77, hm3⟩ := b0h hm3
       refine b1x hl77 (fun | (row_9_1, x_54), t, h => ∃ v5_3 : AV, t 1 = .fs 1 (List.map b0k open_) ∧ t 2 = .fp [.fs 5 (List.map b0p h_.Combs), .fs 3 (List.map b0o h_.Trains), .fs 3 (List.map b0q h_.Shifts), I h_.Until] 0 ∧ t 5 = v5_3 ∧ t 6 = I x_19 ∧ t 7 = .rp i7 0 0 ∧ t 8 = I x_28 ∧ t 9 = .rs i9 0 (List.length row_9_1) ∧ t 10 = I t_10 ∧ t 18 = I (List.length h_.Combs : Int) ∧ t 19 = I x_19 ∧ t 27 = I h_.Until ∧ t 28 = I x_28 ∧ t 52 = .fs 5 (List.map b0p l76) ∧ t 53 = I (List.length l76 : Int) ∧ t 54 = I x_54 ∧ b09 h v5_3 1 (List.map b11 all_5) ∧ h.ob i7 = some (4, [[.rs i7_1 0 (List.length b_7_0), .rs i7_2 0 (List.length ([0])), .v (.slice none 0 0), v7]]) ∧ i7 < h.nx ∧ h.ob i7_1 = some (1, List.map eI b_7_0) ∧ i7_1 < h.nx ∧ h.ob i7_2 = some (1, List.map eI ([0])) ∧ i7_2 < h.nx ∧ b09 h v7 1 (List.map b0k b_7_3) ∧ h.ob i9 = some (1, List.map eI row_9_1) ∧ i9 < h.nx ∧ b0c v5_3 i7 ∧ b0c v5_3 i7_1 ∧ b0c v5_3 i7_2 ∧ (∀ j, ¬b0c v5_3 j → b0c v7 j) ∧ b0c v5_3 i9 ∧ ¬i7 = i7_1 ∧ ¬i7 = i7_2 ∧ b0c v7 i7 ∧ ¬i7 = i9 ∧ ¬i7_1 = i7_2 ∧ b0c v7 i7_1 ∧ ¬i7_1 = i9 ∧ b0c v7 i7_2 ∧ ¬i7_2 = i9 ∧ b0c v7 i9) ?_ ?_
       ·exact ⟨v5_2, s1, s2, s5, s6, s7, s8, (by first | exact s9 | simp only [go_sem, s9, List.length_append, List.map_append]), s10, s18, s19, s27, s28, (by first | (simp only [go_sem, List.length_append, List.map_append]; done) | rfl), (by first | (simp only [go_sem, List.length_append, List.map_append]; done) | rfl), (by first | (simp only [go_sem, List.length_append, List.map_append]; done) | rfl), (b2e qf (by intro j hj hl; first | rfl | simp only [go_sem, hl, qi, b1y hj qs]) (by first | omega | exact Nat.le_refl _ | (simp only [go_sem, nxs] <;> omega))), (by simp only [go_sem, q7, q0, qi, qk, b0b qk, List.length_append, List.map_append]), (by simp only [go_sem, q0]), (by simp only [go_sem, qg, q2, qi, qm, b0b qm, List.length_append, List.map_append]), (by simp only [go_sem, q2]), (by simp only [go_sem, qh, q1, qi, ql, b0b ql, List.length_append, List.map_append]), (by simp only [go_sem, q1]), (b2e q8 (by intro j hj hl; first | rfl | simp only [go_sem, hl, qi, b1y hj qt]) (by first | omega | exact Nat.le_refl _ | (simp only [go_sem, nxs] <;> omega))), (by simp only [go_sem, qu, qi, List.length_append, List.map_append]), (by simp only [go_sem, qi]), q9, qa, qb, qn, qs, q4, q5, qc, qk, q6, qd, qm, qe, ql, qt⟩
       ·try clear s1 s2 s5 s6 s7 s8 s9 s10 s18 s19 s27 s28 qf q7 q0 qg q2 qh q1 q8 qu qi q9 qa qb qn qs q4 q5 qc qk q6 qd qm qe ql qt
        rintro ⟨row_9_1, x_54⟩ o t h ⟨v5_3, s1, s2, s5, s6, s7, s8, s9, s10, s18, s19, s27, s28, s52, s53, s54, qf, q7, q0, qg, q2, qh, q1, q8, qu, qi, q9, qa, qb, qn, qs, q4, q5, qc, qk, q6, qd, qm, qe, ql, qt⟩ hm4 hb77
        simp only [c1m] at hm4
        rw [d12]
        refine b0d fun K hK => ?_
        simp only [go_sem, s53, s54, q0, q2, q1, qi, b0a v5, b0a v5_1, b0a v7, b0a v5_2, b0a v5_3]
        refine hK _ _ ?_
        clear hK K
        refine b0r fun K78 hK78 => ?_
        simp only [go_sem]
        refine b0u (fun hc79 => ?_) (fun hc79 => ?_)
        ·rw [b02 hc79] at hm4
         simp only [b0z, b0i, b0j]
         refine hK78 _ _ ?_
         refine b0r fun K80 hK80 => ?_
         have J81 : ∀ (row_9_2 : List Int) (v5_4 : AV) (t : Slots) (h : Heap), t 1 = .fs 1 (List.map b0k open_) → t 2 = .fp [.fs 5 (List.map b0p h_.Combs), .fs 3 (List.map b0o h_.Trains), .fs 3 (List.map b0q h_.Shifts), I h_.Until] 0 → t 5 = v5_4 → t 6 = I x_19 → t 7 = .rp i7 0 0 → t 8 = I x_28 → t 9 = .rs i9 0 (List.length row_9_2) → t 10 = I t_10 → t 18 = I (List.length h_.Combs : Int) → t 19 = I x_19 → t 27 = I h_.Until → t 28 = I x_28 → t 52 = .fs 5 (List.map b0p l76) → t 53 = I (List.length l76 : Int) → t 54 = I x_54 → b09 h v5_4 1 (List.map b11 all_5) → h.ob i7 = some (4, [[.rs i7_1 0 (List.length b_7_0), .rs i7_2 0 (List.length ([0])), .v (.slice none 0 0), v7]]) → i7 < h.nx → h.ob i7_1 = some (1, List.map eI b_7_0) → i7_1 < h.nx → h.ob i7_2 = some (1, List.map eI ([0])) → i7_2 < h.nx → b09 h v7 1 (List.map b0k b_7_3) → h.ob i9 = some (1, List.map eI row_9_2) → i9 < h.nx → b0c v5_4 i7 → b0c v5_4 i7_1 → b0c v5_4 i7_2 → (∀ j, ¬b0c v5_4 j → b0c v7 j) → b0c v5_4 i9 → ¬i7 = i7_1 → ¬i7 = i7_2 → b0c v7 i7 → ¬i7 = i9 → ¬i7_1 = i7_2 → b0c v7 i7_1 → ¬i7_1 = i9 → b0c v7 i7_2 → ¬i7_2 = i9 → b0c v7 i9 → b6w x_54 row_9_2 = some o → K80 t h := by
          try clear s1 s2 s5 s6 s7 s8 s9 s10 s18 s19 s27 s28 s52 s53 s54 qf q7 q0 qg q2 qh q1 q8 qu qi q9 qa qb qn qs q4 q5 qc qk q6 qd qm qe ql qt
          intro row_9_2 v5_4 t h s1 s2 s5 s6 s7 s8 s9 s10 s18 s19 s27 s28 s52 s53 s54 qf q7 q0 qg q2 qh q1 q8 qu qi q9 qa qb qn qs q4 q5 qc qk q6 qd qm qe ql qt hm4
          refine hK80 _ _ ?_
          unfold b6w at hm4
          refine b1i fun K hK => ?_
          simp only [go_sem, s54, q0, q2, q1, qi, b0a v5, b0a v5_1, b0a v7, b0a v5_2, b0a v5_3, b0a v5_4]
          refine hK _ _ ?_
          clear hK K
          simp only [b0i, b0j]
          obtain rfl := Option.some.inj hm4
          refine ⟨_, rfl, ?_⟩
          exact ⟨v5_4, s1, s2, s5, s6, s7, s8, (by first | exact s9 | simp only [go_sem, s9, List.length_append, List.map_append]), s10, s18, s19, s27, s28, s52, s53, (by first | (simp only [go_sem, s54, List.length_append, List.map_append]; done) | rfl), qf, q7, q0, qg, q2, qh, q1, q8, qu, qi, q9, qa, qb, qn, qs, q4, q5, qc, qk, q6, qd, qm, qe, ql, qt⟩
         simp only [b00]
         obtain ⟨x83, h_x83, hm4⟩ := b0h hm4
         have h_x830 := b0w h_x83
         have h_x831 := b0x h_x83
         refine b0d fun K hK => ?_
         simp only [go_sem, s52, s54, q0, q2, q1, qi, b0m h_x83, b0n h_x83, h_x830, h_x831, b0a v5, b0a v5_1, b0a v7, b0a v5_2, b0a v5_3]
         refine hK _ _ ?_
         clear hK K
         refine b0d fun K hK => ?_
         simp only [go_sem, s6, q0, q2, q1, qi, b0a v5, b0a v5_1, b0a v7, b0a v5_2, b0a v5_3]
         refine hK _ _ ?_
         clear hK K
         simp only [go_sem]
         refine b0u (fun hc84 => ?_) (fun hc84 => ?_)
         ·rw [b02 hc84] at hm4
          obtain ⟨x89, h_x89, hm4⟩ := b0h hm4
          have h_x890 := b0w h_x89
          have h_x891 := b0x h_x89
          obtain ⟨x90, h_x90, hm4⟩ := b0h hm4
          have h_x900 := b0w h_x90
          have h_x901 := b0x h_x90
          obtain ⟨iq91, rfl, q12, qz⟩ := b3m qf h_x90
          obtain ⟨y92, h_y92, hm4⟩ := b0h hm4
          refine b1i fun K hK => ?_
          simp only [go_sem, s5, s8, s9, s10, q12, qz, qu, qi, q0, q2, q1, q9, qa, qb, qs, qk, b0b qk, qm, b0b qm, ql, b0b ql, qt, b0m h_x89, b0n h_x89, h_x890, h_x891, b0m h_x90, b0n h_x90, h_x900, h_x901, b0a v5, b0a v5_1, b0a v7, b0a v5_2]
          refine b1j (c15 x90 (wr (x_28 - x83.Walk.High)) (wr (t_10 - x83.Walk.Low)) _ h_y92) ?_
          simp only [go_sem, s5, s8, s9, s10, q12, qz, qu, qi, q0, q2, q1, q9, qa, qb, qs, qk, b0b qk, qm, b0b qm, ql, b0b ql, qt, b0m h_x89, b0n h_x89, h_x890, h_x891, b0m h_x90, b0n h_x90, h_x900, h_x901, b0a v5, b0a v5_1, b0a v7, b0a v5_2]
          refine hK _ _ ?_
          clear hK K
          simp only [b0i, b0j]
          exact J81 (List.set row_9_1 (Int.toNat t_10) (wr (x89 + y92))) (.rs iq91 0 (List.length all_5)) _ _ s1 s2 (by first | (simp only [go_sem, s5, List.length_append, List.map_append]; done) | rfl) s6 s7 s8 (by first | exact s9 | simp only [go_sem, s9, List.length_append, List.map_append]) s10 s18 s19 s27 s28 s52 s53 s54 (b3c (by simp only [go_sem, qi, qs, c5t qs, b0b (c5t qs), q12, qz, List.length_append, List.map_append]) (by first | rfl | simp only [go_sem, List.length_append, List.map_append]) (by simp only [go_sem, qz])) (by simp only [go_sem, q7, q0, qi, qk, b0b qk, List.length_append, List.map_append]) (by simp only [go_sem, q0]) (by simp only [go_sem, qg, q2, qi, qm, b0b qm, List.length_append, List.map_append]) (by simp only [go_sem, q2]) (by simp only [go_sem, qh, q1, qi, ql, b0b ql, List.length_append, List.map_append]) (by simp only [go_sem, q1]) (b2e q8 (by intro j hj hl; first | rfl | simp only [go_sem, hl, qi, b1y hj qt]) (by first | omega | exact Nat.le_refl _ | (simp only [go_sem, nxs] <;> omega))) (by simp only [go_sem, qu, qi, List.length_append, List.map_append]) (by simp only [go_sem, qi]) q9 qa qb qn qs q4 q5 qc qk q6 qd qm qe ql qt hm4
         ·rw [b01 hc84] at hm4
          simp only [b0z, b0i, b0j]
          exact J81 row_9_1 v5_3 _ _ s1 s2 s5 s6 s7 s8 (by first | exact s9 | simp only [go_sem, s9, List.length_append, List.map_append]) s10 s18 s19 s27 s28 s52 s53 s54 (b2e qf (by intro j hj hl; first | rfl | simp only [go_sem, hl]) (by first | omega | exact Nat.le_refl _ | (simp only [go_sem, nxs] <;> omega))) (by simp only [go_sem, q7, q0, List.length_append, List.map_append]) (by simp only [go_sem, q0]) (by simp only [go_sem, qg, q2, List.length_append, List.map_append]) (by simp only [go_sem, q2]) (by simp only [go_sem, qh, q1, List.length_append, List.map_append]) (by simp only [go_sem, q1]) (b2e q8 (by intro j hj hl; first | rfl | simp only [go_sem, hl]) (by first | omega | exact Nat.le_refl _ | (simp only [go_sem, nxs] <;> omega))) (by simp only [go_sem, qu, qi, List.length_append, List.map_append]) (by simp only [go_sem, qi]) q9 qa qb qn qs q4 q5 qc qk q6 qd qm qe ql qt hm4
        ·rw [b01 hc79] at hm4
         simp only [b1t, b1w, b1v, b1u, b0i, b0j, Nat.reduceEqDiff, not_false_eq_true]
         obtain rfl := Option.some.inj hm4
         obtain rfl := hb77 _ rfl
         try dsimp only at hm3
         exact J70 row_9_1 v5_3 _ _ s1 s2 s5 s6 s7 s8 (by first | exact s9 | simp only [go_sem, s9, List.length_append, List.map_append]) s10 s18 s19 s27 s28 qf q7 q0 qg q2 qh q1 q8 qu qi q9 qa qb qn qs q4 q5 qc qk q6 qd qm qe ql qt hm3
      ·rw [b01 hc68] at hm3
       simp only [b1t, b1w, b1v, b1u, b0i, b0j, Nat.reduceEqDiff, not_false_eq_true]
       obtain rfl := Option.some.inj hm3
       obtain rfl := hb66 _ rfl
       try dsimp only at hm2
       exact J55 row_9 v5_2 i9 _ _ s1 s2 s5 s6 s7 s8 (by first | exact s9 | simp only [go_sem, s9, List.length_append, List.map_append]) s18 s19 s27 s28 qf q7 q0 qg q2 qh q1 q8 qu qi q9 qa qb qn qs q4 q5 qc qk q6 qd qm qe ql qt hm2
    ·rw [b01 hc49] at hm2
     simp only [b1t, b1w, b1v, b1u, b0i, b0j, Nat.reduceEqDiff, not_false_eq_true]
     obtain rfl := Option.some.inj hm2
     obtain rfl := hb47 _ rfl
     try dsimp only at hm1
     exact J9 b_7_0 b_7_3 v5_1 i7 i7_1 i7_2 v7 _ _ s1 s2 s5 s6 s7 s18 s19 qf q7 q0 qg q2 qh q1 q8 q9 qa qb qn q4 q5 qc q6 qd qe hm1
  ·rw [b01 hc5] at hm1
   simp only [b1t, b1w, b1v, b1u, b0i, b0j, Nat.reduceEqDiff, not_false_eq_true]
   obtain rfl := Option.some.inj hm1
   obtain rfl := hb3 _ rfl
   try dsimp only at hm0
   exact J2 all_5 v5 _ _ s5 qf hm0
theorem c16 (hf : Has O "newel/halls.brought" x_halls_brought) : c3i O := by
 intro h_ comb from_ to_ r hm0
 unfold c1s at hm0
 refine b2k hf rfl (b0e (.agg _ (b0e (b0s fun a _ => b2m a) (b0e (b0s fun a _ => b2l a) (b0e (b0s fun a _ => b2o a) (b0e (b0l _) b0y))))) (b0e (b0l _) (b0e (b0l _) (b0e (b0l _) b0y)))) (b0l _) ?_
 refine b2h (fun t h => t 0 = .agg [.fs 5 (List.map b0p h_.Combs), .fs 3 (List.map b0o h_.Trains), .fs 3 (List.map b0q h_.Shifts), I h_.Until] ∧ t 1 = I comb ∧ t 2 = I from_ ∧ t 3 = I to_) ⟨rfl, rfl, rfl, rfl⟩ fun t h ⟨s0, s1, s2, s3⟩ => ?_
 simp only [x_halls_brought]
 refine b0d fun K hK => ?_
 simp only [go_sem, s0]
 refine hK _ _ ?_
 clear hK K
 refine b03 ?_
 refine b0d fun K hK => ?_
 simp only [go_sem]
 refine hK _ _ ?_
 clear hK K
 refine b0r fun K1 hK1 => ?_
 have J2 : ∀ (sum_8 : Int) (t : Slots) (h : Heap), t 8 = I sum_8 → c1t sum_8 = some r → K1 t h := by
  intro sum_8 t h s8 hm0
  refine hK1 _ _ ?_
  unfold c1t at hm0
  refine b0d fun K hK => ?_
  simp only [go_sem, s8]
  refine hK _ _ ?_
  clear hK K
  simp only [b1a, b1c, b1b, b1d]
  obtain rfl := Option.some.inj hm0
  exact b1q (by simp only [go_sem, s8, List.length_append, List.map_append]) (b0l _)
 simp only [b00]
 obtain ⟨b3, hl3, hm0⟩ := b0h hm0
 refine b1x hl3 (fun | (sum_8, x_16), t, h => t 1 = I comb ∧ t 2 = I from_ ∧ t 3 = I to_ ∧ t 8 = I sum_8 ∧ t 14 = .fs 3 (List.map b0o h_.Trains) ∧ t 15 = I (List.length h_.Trains : Int) ∧ t 16 = I x_16) ?_ ?_
 ·exact ⟨s1, s2, s3, (by first | (simp only [go_sem, List.length_append, List.map_append]; done) | rfl), (by first | (simp only [go_sem, List.length_append, List.map_append]; done) | rfl), (by first | (simp only [go_sem, List.length_append, List.map_append]; done) | rfl), (by first | (simp only [go_sem, List.length_append, List.map_append]; done) | rfl)⟩
 ·rintro ⟨sum_8, x_16⟩ o t h ⟨s1, s2, s3, s8, s14, s15, s16⟩ hm1 hb3
  simp only [c4w] at hm1
  rw [d97]
  refine b0d fun K hK => ?_
  simp only [go_sem, s15, s16]
  refine hK _ _ ?_
  clear hK K
  refine b0r fun K4 hK4 => ?_
  simp only [go_sem]
  refine b0u (fun hc5 => ?_) (fun hc5 => ?_)
  ·rw [b02 hc5] at hm1
   simp only [b0z, b0i, b0j]
   refine hK4 _ _ ?_
   refine b0r fun K6 hK6 => ?_
   have J7 : ∀ (sum_8_1 : Int) (t : Slots) (h : Heap), t 1 = I comb → t 2 = I from_ → t 3 = I to_ → t 8 = I sum_8_1 → t 14 = .fs 3 (List.map b0o h_.Trains) → t 15 = I (List.length h_.Trains : Int) → t 16 = I x_16 → b9i x_16 sum_8_1 = some o → K6 t h := by
    intro sum_8_1 t h s1 s2 s3 s8 s14 s15 s16 hm1
    refine hK6 _ _ ?_
    unfold b9i at hm1
    refine b1i fun K hK => ?_
    simp only [go_sem, s16]
    refine hK _ _ ?_
    clear hK K
    simp only [b0i, b0j]
    obtain rfl := Option.some.inj hm1
    refine ⟨_, rfl, ?_⟩
    exact ⟨s1, s2, s3, s8, s14, s15, (by first | (simp only [go_sem, s16, List.length_append, List.map_append]; done) | rfl)⟩
   simp only [b00]
   obtain ⟨x9, h_x9, hm1⟩ := b0h hm1
   have h_x90 := b0w h_x9
   have h_x91 := b0x h_x9
   refine b0d fun K hK => ?_
   simp only [go_sem, s14, s16, b0m h_x9, b0n h_x9, h_x90, h_x91]
   refine hK _ _ ?_
   clear hK K
   refine b03 ?_
   refine b2d (fun t h => ∃ i10 : Nat, t 1 = I comb ∧ t 2 = I from_ ∧ t 3 = I to_ ∧ t 8 = I sum_8 ∧ t 10 = .rp i10 0 0 ∧ t 14 = .fs 3 (List.map b0o h_.Trains) ∧ t 15 = I (List.length h_.Trains : Int) ∧ t 16 = I x_16 ∧ t 31 = B ((decide (x9.At.High < from_)) || (decide (to_ < x9.At.Low))) ∧ h.ob i10 = some (3, [[I x9.At.Low, I x9.At.High, .fs 3 (List.map b2t x9.Crowds)]]) ∧ i10 < h.nx) (fun K hK => ?_) ?_
   ·simp only [go_sem, s2, s3]
    refine b0u (fun hg10 => ?_) (fun hg10 => ?_)
    ·simp only [go_sem, s2, s3, hg10]
     exact hK _ _ ⟨h.nx, s1, s2, s3, s8, (by first | (simp only [go_sem, hg10, List.length_append, List.map_append]; done) | rfl), s14, s15, s16, (by first | (simp only [go_sem, hg10, List.length_append, List.map_append]; done) | rfl), (by simp only [go_sem, hg10, List.length_append, List.map_append]), (by simp only [go_sem])⟩
    ·simp only [go_sem, s2, s3, hg10]
     exact hK _ _ ⟨h.nx, s1, s2, s3, s8, (by first | (simp only [go_sem, hg10, List.length_append, List.map_append]; done) | rfl), s14, s15, s16, (by first | (simp only [go_sem, hg10, List.length_append, List.map_append]; done) | rfl), (by simp only [go_sem, hg10, List.length_append, List.map_append]), (by simp only [go_sem])⟩
   ·rintro t h ⟨i10, s1, s2, s3, s8, s10, s14, s15, s16, s31, q18, q19⟩
    refine b0r fun K11 hK11 => ?_
    simp only [go_sem, s31]
    refine b0u (fun hc12 => ?_) (fun hc12 => ?_)
    ·rw [b02 hc12] at hm1
     simp only [b1t, b1w, b1v, b1u, b0i, b0j, Nat.reduceEqDiff, not_false_eq_true]
     exact J7 sum_8 _ _ s1 s2 s3 s8 s14 s15 s16 hm1
    ·rw [b01 hc12] at hm1
     simp only [b0z, b0i, b0j]
     refine hK11 _ _ ?_
     refine b0d fun K hK => ?_
     simp only [go_sem, s10, q18, q19]
     refine hK _ _ ?_
     clear hK K
     simp only [b00]
     obtain ⟨b13, hl13, hm1⟩ := b0h hm1
     refine b1x hl13 (fun | (sum_8_1, x_35), t, h => t 1 = I comb ∧ t 2 = I from_ ∧ t 3 = I to_ ∧ t 8 = I sum_8_1 ∧ t 14 = .fs 3 (List.map b0o h_.Trains) ∧ t 15 = I (List.length h_.Trains : Int) ∧ t 16 = I x_16 ∧ t 33 = .fs 3 (List.map b2t x9.Crowds) ∧ t 34 = I (List.length x9.Crowds : Int) ∧ t 35 = I x_35) ?_ ?_
     ·exact ⟨s1, s2, s3, s8, s14, s15, s16, (by first | (simp only [go_sem, List.length_append, List.map_append]; done) | rfl), (by first | (simp only [go_sem, List.length_append, List.map_append]; done) | rfl), (by first | (simp only [go_sem, List.length_append, List.map_append]; done) | rfl)⟩
     ·try clear s1 s2 s3 s8 s10 s14 s15 s16 s31 q18 q19
      rintro ⟨sum_8_1, x_35⟩ o t h ⟨s1, s2, s3, s8, s14, s15, s16, s33, s34, s35⟩ hm2 hb13
      simp only [c4v] at hm2
      rw [d96]
      refine b0d fun K hK => ?_
      simp only [go_sem, s34, s35]
      refine hK _ _ ?_
      clear hK K
      refine b0r fun K14 hK14 => ?_
      simp only [go_sem]
      refine b0u (fun hc15 => ?_) (fun hc15 => ?_)
      ·rw [b02 hc15] at hm2
       simp only [b0z, b0i, b0j]
       refine hK14 _ _ ?_
       refine b0r fun K16 hK16 => ?_
       have J17 : ∀ (sum_8_2 : Int) (t : Slots) (h : Heap), t 1 = I comb → t 2 = I from_ → t 3 = I to_ → t 8 = I sum_8_2 → t 14 = .fs 3 (List.map b0o h_.Trains) → t 15 = I (List.length h_.Trains : Int) → t 16 = I x_16 → t 33 = .fs 3 (List.map b2t x9.Crowds) → t 34 = I (List.length x9.Crowds : Int) → t 35 = I x_35 → b9h x_35 sum_8_2 = some o → K16 t h := by
        try clear s1 s2 s3 s8 s14 s15 s16 s33 s34 s35
        intro sum_8_2 t h s1 s2 s3 s8 s14 s15 s16 s33 s34 s35 hm2
        refine hK16 _ _ ?_
        unfold b9h at hm2
        refine b1i fun K hK => ?_
        simp only [go_sem, s35]
        refine hK _ _ ?_
        clear hK K
        simp only [b0i, b0j]
        obtain rfl := Option.some.inj hm2
        refine ⟨_, rfl, ?_⟩
        exact ⟨s1, s2, s3, s8, s14, s15, s16, s33, s34, (by first | (simp only [go_sem, s35, List.length_append, List.map_append]; done) | rfl)⟩
       simp only [b00]
       obtain ⟨x19, h_x19, hm2⟩ := b0h hm2
       have h_x190 := b0w h_x19
       have h_x191 := b0x h_x19
       refine b0d fun K hK => ?_
       simp only [go_sem, s33, s35, b0m h_x19, b0n h_x19, h_x190, h_x191]
       refine hK _ _ ?_
       clear hK K
       refine b0d fun K hK => ?_
       simp only [go_sem, s1]
       refine hK _ _ ?_
       clear hK K
       simp only [go_sem]
       refine b0u (fun hc20 => ?_) (fun hc20 => ?_)
       ·rw [b02 hc20] at hm2
        refine b1i fun K hK => ?_
        simp only [go_sem, s8]
        refine hK _ _ ?_
        clear hK K
        simp only [b0i, b0j]
        exact J17 (wr (sum_8_1 + x19.People.High)) _ _ s1 s2 s3 (by first | (simp only [go_sem, s8, List.length_append, List.map_append]; done) | rfl) s14 s15 s16 s33 s34 s35 hm2
       ·rw [b01 hc20] at hm2
        simp only [b0z, b0i, b0j]
        exact J17 sum_8_1 _ _ s1 s2 s3 s8 s14 s15 s16 s33 s34 s35 hm2
      ·rw [b01 hc15] at hm2
       simp only [b1t, b1w, b1v, b1u, b0i, b0j, Nat.reduceEqDiff, not_false_eq_true]
       obtain rfl := Option.some.inj hm2
       obtain rfl := hb13 _ rfl
       try dsimp only at hm1
       exact J7 sum_8_1 _ _ s1 s2 s3 s8 s14 s15 s16 hm1
  ·rw [b01 hc5] at hm1
   simp only [b1t, b1w, b1v, b1u, b0i, b0j, Nat.reduceEqDiff, not_false_eq_true]
   obtain rfl := Option.some.inj hm1
   obtain rfl := hb3 _ rfl
   try dsimp only at hm0
   exact J2 sum_8 _ _ s8 hm0
theorem c17 (hf : Has O "newel/halls.check" x_halls_check) (b6f : b8t O) (c2b : c3o O) (c99 : c6z O) : c3j O := by
 intro h_ comb ticks r hm0
 unfold b5z at hm0
 refine b2k hf rfl (b0e (.agg _ (b0e (b0s fun a _ => b2m a) (b0e (b0s fun a _ => b2l a) (b0e (b0s fun a _ => b2o a) (b0e (b0l _) b0y))))) (b0e (b0l _) (b0e (b0s fun a _ => b2b a) b0y))) (b0l _) ?_
 refine b2h (fun t h => t 0 = .agg [.fs 5 (List.map b0p h_.Combs), .fs 3 (List.map b0o h_.Trains), .fs 3 (List.map b0q h_.Shifts), I h_.Until] ∧ t 1 = I comb ∧ t 2 = .fs 1 (List.map eI ticks)) ⟨rfl, rfl, rfl⟩ fun t h ⟨s0, s1, s2⟩ => ?_
 simp only [x_halls_check]
 refine b0d fun K hK => ?_
 simp only [go_sem, s0]
 refine hK _ _ ?_
 clear hK K
 refine b03 ?_
 obtain ⟨y2, h_y2, hm0⟩ := b0h hm0
 refine b0d fun K hK => ?_
 simp only [go_sem]
 refine b1j (b6f h_ _ h_y2) ?_
 simp only [go_sem]
 refine hK _ _ ?_
 clear hK K
 refine b03 ?_
 refine b0d fun K hK => ?_
 simp only [go_sem]
 refine hK _ _ ?_
 clear hK K
 refine b0r fun K3 hK3 => ?_
 simp only [go_sem]
 refine b0u (fun hc4 => ?_) (fun hc4 => ?_)
 ·rw [b02 hc4] at hm0
  refine b0d fun K hK => ?_
  simp only [go_sem]
  refine hK _ _ ?_
  clear hK K
  simp only [b1a, b1c, b1b, b1d]
  obtain rfl := Option.some.inj hm0
  exact b1q (by simp only [go_sem, List.length_append, List.map_append]) (b0l _)
 ·rw [b01 hc4] at hm0
  simp only [b0z, b0i, b0j]
  refine hK3 _ _ ?_
  refine b03 ?_
  obtain ⟨c10, h_c10, hm0⟩ := b0h hm0
  refine b2d (fun t h => t 26 = B c10) (fun K hK => ?_) ?_
  ·simp only [go_sem, s1, s2]
   refine b0u (fun hg11 => ?_) (fun hg11 => ?_)
   ·simp only [hg11, Bool.not_true, Bool.not_false, eq_self, if_true, if_false, Bool.true_or, Bool.or_true, Bool.false_or, Bool.or_false, Bool.true_and, Bool.and_true, Bool.false_and, Bool.and_false, Bool.false_eq_true] at h_c10
    obtain rfl := Option.some.inj h_c10
    simp only [go_sem, s1, s2, hg11]
    exact hK _ _ (by first | (simp only [go_sem, hg11, List.length_append, List.map_append]; done) | rfl)
   ·simp only [go_sem, s1, s2, hg11]
    refine b0u (fun hg12 => ?_) (fun hg12 => ?_)
    ·simp only [hg11, hg12, Bool.not_true, Bool.not_false, eq_self, if_true, if_false, Bool.true_or, Bool.or_true, Bool.false_or, Bool.or_false, Bool.true_and, Bool.and_true, Bool.false_and, Bool.and_false, Bool.false_eq_true] at h_c10
     obtain rfl := Option.some.inj h_c10
     simp only [go_sem, s1, s2, hg11, hg12]
     exact hK _ _ (by first | (simp only [go_sem, hg11, hg12, List.length_append, List.map_append]; done) | rfl)
    ·simp only [hg11, hg12, Bool.not_true, Bool.not_false, eq_self, if_true, if_false, Bool.true_or, Bool.or_true, Bool.false_or, Bool.or_false, Bool.true_and, Bool.and_true, Bool.false_and, Bool.and_false, Bool.false_eq_true] at h_c10
     obtain ⟨y9, h_y9, h_c10⟩ := b0h h_c10
     obtain rfl := Option.some.inj h_c10
     simp only [go_sem, s1, s2, hg11, hg12]
     refine b1j (c2b ticks "newel/halls.check$1" [] [.fp [.fs 5 (List.map b0p h_.Combs), .fs 3 (List.map b0o h_.Trains), .fs 3 (List.map b0q h_.Shifts), I h_.Until] 0] (fun z8 => some (b6a z8 h_)) (.fn _ _ _ b0y (b0e (.fp _ _ (b0e (b0s fun a _ => b2m a) (b0e (b0s fun a _ => b2l a) (b0e (b0s fun a _ => b2o a) (b0e (b0l _) b0y))))) b0y)) (fun z0 y hz => by cases hz; exact c99 z0 h_) _ h_y9) ?_
     simp only [go_sem, s1, s2, hg11, hg12]
     exact hK _ _ (by first | (simp only [go_sem, hg11, hg12, List.length_append, List.map_append]; done) | rfl)
  ·rintro t h s26
   refine b0r fun K13 hK13 => ?_
   simp only [go_sem, s26]
   refine b0u (fun hc14 => ?_) (fun hc14 => ?_)
   ·rw [b02 hc14] at hm0
    refine b0d fun K hK => ?_
    simp only [go_sem]
    refine hK _ _ ?_
    clear hK K
    simp only [b1a, b1c, b1b, b1d]
    obtain rfl := Option.some.inj hm0
    exact b1q (by simp only [go_sem, List.length_append, List.map_append]) (b0l _)
   ·rw [b01 hc14] at hm0
    simp only [b0z, b0i, b0j]
    refine hK13 _ _ ?_
    refine b0d fun K hK => ?_
    simp only [go_sem]
    refine hK _ _ ?_
    clear hK K
    simp only [b1a, b1c, b1b, b1d]
    obtain rfl := Option.some.inj hm0
    exact b1q (by simp only [go_sem, List.length_append, List.map_append]) (b0l _)
theorem c99 (hf : Has O "newel/halls.check$1" x_halls_checkD1) : c6z O := by
 intro t_ c0
 generalize hm0 : b6a t_ c0 = r
 unfold b6a at hm0
 refine b2k hf rfl (b0e (b0l _) (b0e (.fp _ _ (b0e (b0s fun a _ => b2m a) (b0e (b0s fun a _ => b2l a) (b0e (b0s fun a _ => b2o a) (b0e (b0l _) b0y))))) b0y)) (b0l _) ?_
 refine b2h (fun t h => t 0 = I t_ ∧ t 1 = .fp [.fs 5 (List.map b0p c0.Combs), .fs 3 (List.map b0o c0.Trains), .fs 3 (List.map b0q c0.Shifts), I c0.Until] 0) ⟨rfl, rfl⟩ fun t h ⟨s0, s1⟩ => ?_
 simp only [x_halls_checkD1]
 refine b0d fun K hK => ?_
 simp only [go_sem]
 refine hK _ _ ?_
 clear hK K
 refine b2d (fun t h => t 3 = B ((decide (t_ < 0)) || (decide (c0.Until ≤ t_)))) (fun K hK => ?_) ?_
 ·simp only [go_sem, s0, s1]
  refine b0u (fun hg1 => ?_) (fun hg1 => ?_)
  ·simp only [go_sem, s0, s1, hg1]
   exact hK _ _ (by first | (simp only [go_sem, hg1, List.length_append, List.map_append]; done) | rfl)
  ·simp only [go_sem, s0, s1, hg1]
   exact hK _ _ (by first | (simp only [go_sem, hg1, List.length_append, List.map_append]; done) | rfl)
 ·rintro t h s3
  simp only [b1a, b1c, b1b, b1d]
  obtain rfl := hm0
  exact b1q (by simp only [go_sem, s3, List.length_append, List.map_append]) (b0l _)
theorem b48 (hf : Has O "newel/halls.in" x_halls_in) : b8u O := by
 intro n s
 generalize hm0 : b28 n s = r
 unfold b28 at hm0
 refine b2k hf rfl (b0e (b0l _) (b0e (.agg _ (b0e (b0l _) (b0e (b0l _) b0y))) b0y)) (b0l _) ?_
 refine b2h (fun t h => t 0 = I n ∧ t 1 = .agg [I s.Low, I s.High]) ⟨rfl, rfl⟩ fun t h ⟨s0, s1⟩ => ?_
 simp only [x_halls_in]
 refine b0d fun K hK => ?_
 simp only [go_sem, s1]
 refine hK _ _ ?_
 clear hK K
 refine b2d (fun t h => t 4 = B ((decide (s.Low ≤ n)) && (decide (n ≤ s.High)))) (fun K hK => ?_) ?_
 ·simp only [go_sem, s0]
  refine b0u (fun hg1 => ?_) (fun hg1 => ?_)
  ·simp only [go_sem, s0, hg1]
   exact hK _ _ (by first | (simp only [go_sem, hg1, List.length_append, List.map_append]; done) | rfl)
  ·simp only [go_sem, s0, hg1]
   exact hK _ _ (by first | (simp only [go_sem, hg1, List.length_append, List.map_append]; done) | rfl)
 ·rintro t h s4
  simp only [b1a, b1c, b1b, b1d]
  obtain rfl := hm0
  exact b1q (by simp only [go_sem, s4, List.length_append, List.map_append]) (b0l _)
theorem d0a (hf : Has O "newel/halls.isComb" x_halls_isComb) (b48 : b8u O) (b8b : c3l O) : c60 O := by
 intro h_ i r hm0
 unfold b73 at hm0
 refine b2k hf rfl (b0e (.agg _ (b0e (b0s fun a _ => b2m a) (b0e (b0s fun a _ => b2l a) (b0e (b0s fun a _ => b2o a) (b0e (b0l _) b0y))))) (b0e (b0l _) b0y)) (b0l _) ?_
 refine b2h (fun t h => t 0 = .agg [.fs 5 (List.map b0p h_.Combs), .fs 3 (List.map b0o h_.Trains), .fs 3 (List.map b0q h_.Shifts), I h_.Until] ∧ t 1 = I i) ⟨rfl, rfl⟩ fun t h ⟨s0, s1⟩ => ?_
 simp only [x_halls_isComb]
 refine b0d fun K hK => ?_
 simp only [go_sem, s0]
 refine hK _ _ ?_
 clear hK K
 obtain ⟨x2, h_x2, hm0⟩ := b0h hm0
 have h_x20 := b0w h_x2
 have h_x21 := b0x h_x2
 refine b0d fun K hK => ?_
 simp only [go_sem, s1, b0m h_x2, b0n h_x2, h_x20, h_x21]
 refine hK _ _ ?_
 clear hK K
 refine b2d (fun t h => t 4 = B ((((b28 x2.Rate (Span.mk 0 1000)) && (b28 x2.Limit (Span.mk 0 100000))) && ((decide (x2.Next = (-1))) || ((decide (i < x2.Next)) && (decide (x2.Next < (List.length h_.Combs : Int)))))) && (b4d x2.Walk 1 20))) (fun K hK => ?_) ?_
 ·simp only [go_sem, s1]
  refine b1j (b48 x2.Rate (Span.mk 0 1000)) ?_
  simp only [go_sem, s1]
  refine b0u (fun hg3 => ?_) (fun hg3 => ?_)
  ·simp only [go_sem, s1, hg3]
   refine b1j (b48 x2.Limit (Span.mk 0 100000)) ?_
   simp only [go_sem, s1, hg3]
   refine b0u (fun hg4 => ?_) (fun hg4 => ?_)
   ·simp only [go_sem, s1, hg3, hg4]
    refine b0u (fun hg5 => ?_) (fun hg5 => ?_)
    ·simp only [go_sem, s1, hg3, hg4, hg5]
     refine b1j (b8b x2.Walk 1 20) ?_
     simp only [go_sem, s1, hg3, hg4, hg5]
     exact hK _ _ (by first | (simp only [go_sem, hg3, hg4, hg5, List.length_append, List.map_append]; done) | rfl)
    ·simp only [go_sem, s1, hg3, hg4, hg5]
     refine b0u (fun hg6 => ?_) (fun hg6 => ?_)
     ·simp only [go_sem, s1, hg3, hg4, hg5, hg6]
      refine b0u (fun hg7 => ?_) (fun hg7 => ?_)
      ·simp only [go_sem, s1, hg3, hg4, hg5, hg6, hg7]
       refine b1j (b8b x2.Walk 1 20) ?_
       simp only [go_sem, s1, hg3, hg4, hg5, hg6, hg7]
       exact hK _ _ (by first | (simp only [go_sem, hg3, hg4, hg5, hg6, hg7, List.length_append, List.map_append]; done) | rfl)
      ·simp only [go_sem, s1, hg3, hg4, hg5, hg6, hg7]
       exact hK _ _ (by first | (simp only [go_sem, hg3, hg4, hg5, hg6, hg7, List.length_append, List.map_append]; done) | rfl)
     ·simp only [go_sem, s1, hg3, hg4, hg5, hg6]
      exact hK _ _ (by first | (simp only [go_sem, hg3, hg4, hg5, hg6, List.length_append, List.map_append]; done) | rfl)
   ·simp only [go_sem, s1, hg3, hg4]
    exact hK _ _ (by first | (simp only [go_sem, hg3, hg4, List.length_append, List.map_append]; done) | rfl)
  ·simp only [go_sem, s1, hg3]
   exact hK _ _ (by first | (simp only [go_sem, hg3, List.length_append, List.map_append]; done) | rfl)
 ·rintro t h s4
  simp only [b1a, b1c, b1b, b1d]
  obtain rfl := Option.some.inj hm0
  exact b1q (by simp only [go_sem, s4, List.length_append, List.map_append]) (b0l _)
theorem d0b (hf : Has O "newel/halls.isDay" x_halls_isDay) (b48 : b8u O) (c2b : c3o O) (d0c : c62 O) : c61 O := by
 intro h_ d r hm0
 unfold b74 at hm0
 refine b2k hf rfl (b0e (.agg _ (b0e (b0s fun a _ => b2m a) (b0e (b0s fun a _ => b2l a) (b0e (b0s fun a _ => b2o a) (b0e (b0l _) b0y))))) (b0e (.agg _ (b0e (b0s fun a _ => b2b a) (b0e (b0s fun a _ => b2v a) (b0e (b0s fun a _ => b2v a) b0y)))) b0y)) (b0l _) ?_
 refine b2h (fun t h => t 0 = .agg [.fs 5 (List.map b0p h_.Combs), .fs 3 (List.map b0o h_.Trains), .fs 3 (List.map b0q h_.Shifts), I h_.Until] ∧ t 1 = .agg [.fs 1 (List.map eI d.At), .fs 1 (List.map b0k d.People), .fs 1 (List.map b0k d.Walks)]) ⟨rfl, rfl⟩ fun t h ⟨s0, s1⟩ => ?_
 simp only [x_halls_isDay]
 refine b0d fun K hK => ?_
 simp only [go_sem, s0, s1]
 refine hK _ _ ?_
 clear hK K
 refine b03 ?_
 refine b2d (fun t h => t 2 = .fp [.fs 5 (List.map b0p h_.Combs), .fs 3 (List.map b0o h_.Trains), .fs 3 (List.map b0q h_.Shifts), I h_.Until] 0 ∧ t 3 = .fp [.fs 1 (List.map eI d.At), .fs 1 (List.map b0k d.People), .fs 1 (List.map b0k d.Walks)] 0 ∧ t 36 = B (((decide (¬(List.length d.At : Int) = (List.length h_.Trains : Int))) || (decide (¬(List.length d.People : Int) = (List.length h_.Trains : Int)))) || (decide (¬(List.length d.Walks : Int) = (List.length h_.Combs : Int))))) (fun K hK => ?_) ?_
 ·simp only [go_sem]
  refine b0u (fun hg1 => ?_) (fun hg1 => ?_)
  ·simp only [go_sem, hg1]
   exact hK _ _ ⟨(by first | (simp only [go_sem, hg1, List.length_append, List.map_append]; done) | rfl), (by first | (simp only [go_sem, hg1, List.length_append, List.map_append]; done) | rfl), (by first | (simp only [go_sem, hg1, List.length_append, List.map_append]; done) | rfl)⟩
  ·simp only [go_sem, hg1]
   refine b0u (fun hg2 => ?_) (fun hg2 => ?_)
   ·simp only [go_sem, hg1, hg2]
    exact hK _ _ ⟨(by first | (simp only [go_sem, hg1, hg2, List.length_append, List.map_append]; done) | rfl), (by first | (simp only [go_sem, hg1, hg2, List.length_append, List.map_append]; done) | rfl), (by first | (simp only [go_sem, hg1, hg2, List.length_append, List.map_append]; done) | rfl)⟩
   ·simp only [go_sem, hg1, hg2]
    exact hK _ _ ⟨(by first | (simp only [go_sem, hg1, hg2, List.length_append, List.map_append]; done) | rfl), (by first | (simp only [go_sem, hg1, hg2, List.length_append, List.map_append]; done) | rfl), (by first | (simp only [go_sem, hg1, hg2, List.length_append, List.map_append]; done) | rfl)⟩
 ·rintro t h ⟨s2, s3, s36⟩
  refine b0r fun K3 hK3 => ?_
  simp only [go_sem, s36]
  refine b0u (fun hc4 => ?_) (fun hc4 => ?_)
  ·rw [b02 hc4] at hm0
   refine b0d fun K hK => ?_
   simp only [go_sem]
   refine hK _ _ ?_
   clear hK K
   simp only [b1a, b1c, b1b, b1d]
   obtain rfl := Option.some.inj hm0
   exact b1q (by simp only [go_sem, List.length_append, List.map_append]) (b0l _)
  ·rw [b01 hc4] at hm0
   simp only [b0z, b0i, b0j]
   refine hK3 _ _ ?_
   refine b03 ?_
   refine b0d fun K hK => ?_
   simp only [go_sem, s2]
   refine hK _ _ ?_
   clear hK K
   refine b0r fun K5 hK5 => ?_
   have J6 : ∀ (t : Slots) (h : Heap), t 2 = .fp [.fs 5 (List.map b0p h_.Combs), .fs 3 (List.map b0o h_.Trains), .fs 3 (List.map b0q h_.Shifts), I h_.Until] 0 → t 3 = .fp [.fs 1 (List.map eI d.At), .fs 1 (List.map b0k d.People), .fs 1 (List.map b0k d.Walks)] 0 → c41 h_ d = some r → K5 t h := by
    intro t h s2 s3 hm0
    refine hK5 _ _ ?_
    unfold c41 at hm0
    refine b03 ?_
    refine b0d fun K hK => ?_
    simp only [go_sem, s2]
    refine hK _ _ ?_
    clear hK K
    refine b0r fun K7 hK7 => ?_
    have J8 : ∀ (t : Slots) (h : Heap), c9d = some r → K7 t h := by
     intro t h hm0
     refine hK7 _ _ ?_
     unfold c9d at hm0
     refine b0d fun K hK => ?_
     simp only [go_sem]
     refine hK _ _ ?_
     clear hK K
     simp only [b1a, b1c, b1b, b1d]
     obtain rfl := Option.some.inj hm0
     exact b1q (by simp only [go_sem, List.length_append, List.map_append]) (b0l _)
    simp only [b00]
    obtain ⟨b9, hl9, hm0⟩ := b0h hm0
    refine b1x hl9 (fun | x_91, t, h => t 3 = .fp [.fs 1 (List.map eI d.At), .fs 1 (List.map b0k d.People), .fs 1 (List.map b0k d.Walks)] 0 ∧ t 89 = .fs 5 (List.map b0p h_.Combs) ∧ t 90 = I (List.length h_.Combs : Int) ∧ t 91 = I x_91) ?_ ?_
    ·exact ⟨s3, (by first | (simp only [go_sem, List.length_append, List.map_append]; done) | rfl), (by first | (simp only [go_sem, List.length_append, List.map_append]; done) | rfl), (by first | (simp only [go_sem, List.length_append, List.map_append]; done) | rfl)⟩
    ·rintro x_91 o t h ⟨s3, s89, s90, s91⟩ hm1 hb9
     simp only [b9k] at hm1
     rw [g0a]
     refine b0d fun K hK => ?_
     simp only [go_sem, s90, s91]
     refine hK _ _ ?_
     clear hK K
     refine b0r fun K10 hK10 => ?_
     simp only [go_sem]
     refine b0u (fun hc11 => ?_) (fun hc11 => ?_)
     ·rw [b02 hc11] at hm1
      simp only [b0z, b0i, b0j]
      refine hK10 _ _ ?_
      refine b0r fun K12 hK12 => ?_
      simp only [b00]
      obtain ⟨x14, h_x14, hm1⟩ := b0h hm1
      have h_x140 := b0w h_x14
      have h_x141 := b0x h_x14
      refine b0d fun K hK => ?_
      simp only [go_sem, s89, s91, b0m h_x14, b0n h_x14, h_x140, h_x141]
      refine hK _ _ ?_
      clear hK K
      refine b0d fun K hK => ?_
      simp only [go_sem]
      refine hK _ _ ?_
      clear hK K
      obtain ⟨x19, h_x19, hm1⟩ := b0h hm1
      have h_x190 := b0w h_x19
      have h_x191 := b0x h_x19
      obtain ⟨c22, h_c22, hm1⟩ := b0h hm1
      refine b2d (fun t h => t 3 = .fp [.fs 1 (List.map eI d.At), .fs 1 (List.map b0k d.People), .fs 1 (List.map b0k d.Walks)] 0 ∧ t 89 = .fs 5 (List.map b0p h_.Combs) ∧ t 90 = I (List.length h_.Combs : Int) ∧ t 91 = I x_91 ∧ t 121 = B c22) (fun K hK => ?_) ?_
      ·simp only [go_sem, s3, b0m h_x19, b0n h_x19, h_x190, h_x191]
       refine b0u (fun hg23 => ?_) (fun hg23 => ?_)
       ·simp only [hg23, Bool.not_true, Bool.not_false, eq_self, if_true, if_false, Bool.true_or, Bool.or_true, Bool.false_or, Bool.or_false, Bool.true_and, Bool.and_true, Bool.false_and, Bool.and_false, Bool.false_eq_true] at h_c22
        obtain rfl := Option.some.inj h_c22
        simp only [go_sem, s3, b0m h_x19, b0n h_x19, h_x190, h_x191, hg23]
        exact hK _ _ ⟨s3, s89, s90, s91, (by first | (simp only [go_sem, hg23, List.length_append, List.map_append]; done) | rfl)⟩
       ·simp only [go_sem, s3, b0m h_x19, b0n h_x19, h_x190, h_x191, hg23]
        refine b0u (fun hg24 => ?_) (fun hg24 => ?_)
        ·simp only [hg23, hg24, Bool.not_true, Bool.not_false, eq_self, if_true, if_false, Bool.true_or, Bool.or_true, Bool.false_or, Bool.or_false, Bool.true_and, Bool.and_true, Bool.false_and, Bool.and_false, Bool.false_eq_true] at h_c22
         obtain rfl := Option.some.inj h_c22
         simp only [go_sem, s3, b0m h_x19, b0n h_x19, h_x190, h_x191, hg23, hg24]
         exact hK _ _ ⟨s3, s89, s90, s91, (by first | (simp only [go_sem, hg23, hg24, List.length_append, List.map_append]; done) | rfl)⟩
        ·simp only [hg23, hg24, Bool.not_true, Bool.not_false, eq_self, if_true, if_false, Bool.true_or, Bool.or_true, Bool.false_or, Bool.or_false, Bool.true_and, Bool.and_true, Bool.false_and, Bool.and_false, Bool.false_eq_true] at h_c22
         obtain ⟨y21, h_y21, h_c22⟩ := b0h h_c22
         obtain rfl := Option.some.inj h_c22
         simp only [go_sem, s3, b0m h_x19, b0n h_x19, h_x190, h_x191, hg23, hg24]
         refine c9u ?_ (c2b x19 "newel/halls.isDay$1" [] [.fp [I x14.Rate, I x14.Limit, I x14.Next, I x14.Walk.Low, I x14.Walk.High] 0] (fun z20 => some (b6b z20 x14)) (.fn _ _ _ b0y (b0e (.fp _ _ (b0e (b0l _) (b0e (b0l _) (b0e (b0l _) (b0e (b0l _) (b0e (b0l _) b0y)))))) b0y)) (fun z0 y hz => by cases hz; exact d0c z0 x14) _ h_y21) (.v _) ?_
         ·exact .cons (.refl _ (b0s fun a _ => b2b a)) (.cons (d3t (.nil) (.cons (c4h (id := h.nx) (sz := 5) (xs := [I x14.Rate, I x14.Limit, I x14.Next, I x14.Walk.Low, I x14.Walk.High]) (by simp only [go_sem]) (.cons (.refl _ (b0l _)) (.cons (.refl _ (b0l _)) (.cons (.refl _ (b0l _)) (.cons (.refl _ (b0l _)) (.cons (.refl _ (b0l _)) (.nil))))))) (.nil))) (.nil))
         simp only [go_sem, s3, b0m h_x19, b0n h_x19, h_x190, h_x191, hg23, hg24]
         exact hK _ _ ⟨s3, s89, s90, s91, (by first | (simp only [go_sem, hg23, hg24, List.length_append, List.map_append]; done) | rfl)⟩
      ·rintro t h ⟨s3, s89, s90, s91, s121⟩
       simp only [go_sem, s121]
       refine b0u (fun hc25 => ?_) (fun hc25 => ?_)
       ·rw [b02 hc25] at hm1
        refine b0d fun K hK => ?_
        simp only [go_sem]
        refine hK _ _ ?_
        clear hK K
        simp only [b1a, b1c, b1b, b1d]
        obtain rfl := Option.some.inj hm1
        obtain rfl := hb9 _ rfl
        try dsimp only at hm0
        obtain rfl := Option.some.inj hm0
        exact b1q (by simp only [go_sem, List.length_append, List.map_append]) (b0l _)
       ·rw [b01 hc25] at hm1
        simp only [b0z, b0i, b0j]
        refine hK12 _ _ ?_
        refine b1i fun K hK => ?_
        simp only [go_sem, s91]
        refine hK _ _ ?_
        clear hK K
        simp only [b0i, b0j]
        obtain rfl := Option.some.inj hm1
        refine ⟨_, rfl, ?_⟩
        exact ⟨s3, s89, s90, (by first | (simp only [go_sem, s91, List.length_append, List.map_append]; done) | rfl)⟩
     ·rw [b01 hc11] at hm1
      simp only [b1t, b1w, b1v, b1u, b0i, b0j, Nat.reduceEqDiff, not_false_eq_true]
      obtain rfl := Option.some.inj hm1
      obtain rfl := hb9 _ rfl
      try dsimp only at hm0
      exact J8  _ _  hm0
   simp only [b00]
   obtain ⟨b27, hl27, hm0⟩ := b0h hm0
   refine b1x hl27 (fun | x_40, t, h => t 2 = .fp [.fs 5 (List.map b0p h_.Combs), .fs 3 (List.map b0o h_.Trains), .fs 3 (List.map b0q h_.Shifts), I h_.Until] 0 ∧ t 3 = .fp [.fs 1 (List.map eI d.At), .fs 1 (List.map b0k d.People), .fs 1 (List.map b0k d.Walks)] 0 ∧ t 38 = .fs 3 (List.map b0o h_.Trains) ∧ t 39 = I (List.length h_.Trains : Int) ∧ t 40 = I x_40) ?_ ?_
   ·exact ⟨s2, s3, (by first | (simp only [go_sem, List.length_append, List.map_append]; done) | rfl), (by first | (simp only [go_sem, List.length_append, List.map_append]; done) | rfl), (by first | (simp only [go_sem, List.length_append, List.map_append]; done) | rfl)⟩
   ·rintro x_40 o t h ⟨s2, s3, s38, s39, s40⟩ hm1 hb27
    simp only [b9j] at hm1
    rw [d99]
    refine b0d fun K hK => ?_
    simp only [go_sem, s39, s40]
    refine hK _ _ ?_
    clear hK K
    refine b0r fun K28 hK28 => ?_
    simp only [go_sem]
    refine b0u (fun hc29 => ?_) (fun hc29 => ?_)
    ·rw [b02 hc29] at hm1
     simp only [b0z, b0i, b0j]
     refine hK28 _ _ ?_
     refine b0r fun K30 hK30 => ?_
     have J31 : ∀ (t : Slots) (h : Heap), t 2 = .fp [.fs 5 (List.map b0p h_.Combs), .fs 3 (List.map b0o h_.Trains), .fs 3 (List.map b0q h_.Shifts), I h_.Until] 0 → t 3 = .fp [.fs 1 (List.map eI d.At), .fs 1 (List.map b0k d.People), .fs 1 (List.map b0k d.Walks)] 0 → t 38 = .fs 3 (List.map b0o h_.Trains) → t 39 = I (List.length h_.Trains : Int) → t 40 = I x_40 → c40 x_40 = some o → K30 t h := by
      intro t h s2 s3 s38 s39 s40 hm1
      refine hK30 _ _ ?_
      unfold c40 at hm1
      refine b1i fun K hK => ?_
      simp only [go_sem, s40]
      refine hK _ _ ?_
      clear hK K
      simp only [b0i, b0j]
      obtain rfl := Option.some.inj hm1
      refine ⟨_, rfl, ?_⟩
      exact ⟨s2, s3, s38, s39, (by first | (simp only [go_sem, s40, List.length_append, List.map_append]; done) | rfl)⟩
     simp only [b00]
     obtain ⟨x33, h_x33, hm1⟩ := b0h hm1
     have h_x330 := b0w h_x33
     have h_x331 := b0x h_x33
     refine b0d fun K hK => ?_
     simp only [go_sem, s38, s40, b0m h_x33, b0n h_x33, h_x330, h_x331]
     refine hK _ _ ?_
     clear hK K
     refine b03 ?_
     obtain ⟨x37, h_x37, hm1⟩ := b0h hm1
     have h_x370 := b0w h_x37
     have h_x371 := b0x h_x37
     obtain ⟨c39, h_c39, hm1⟩ := b0h hm1
     refine b2d (fun t h => ∃ i6 : Nat, t 2 = .fp [.fs 5 (List.map b0p h_.Combs), .fs 3 (List.map b0o h_.Trains), .fs 3 (List.map b0q h_.Shifts), I h_.Until] 0 ∧ t 3 = .fp [.fs 1 (List.map eI d.At), .fs 1 (List.map b0k d.People), .fs 1 (List.map b0k d.Walks)] 0 ∧ t 5 = I x_40 ∧ t 6 = .rp i6 0 0 ∧ t 38 = .fs 3 (List.map b0o h_.Trains) ∧ t 39 = I (List.length h_.Trains : Int) ∧ t 40 = I x_40 ∧ t 65 = B c39 ∧ h.ob i6 = some (3, [[I x33.At.Low, I x33.At.High, .fs 3 (List.map b2t x33.Crowds)]]) ∧ i6 < h.nx) (fun K hK => ?_) ?_
     ·simp only [go_sem, s3, b0m h_x37, b0n h_x37, h_x370, h_x371]
      refine b1j (b48 x37 x33.At) ?_
      simp only [go_sem, s3, b0m h_x37, b0n h_x37, h_x370, h_x371]
      refine b0u (fun hg40 => ?_) (fun hg40 => ?_)
      ·simp only [hg40, Bool.not_true, Bool.not_false, eq_self, if_true, if_false, Bool.true_or, Bool.or_true, Bool.false_or, Bool.or_false, Bool.true_and, Bool.and_true, Bool.false_and, Bool.and_false, Bool.false_eq_true] at h_c39
       obtain rfl := Option.some.inj h_c39
       simp only [go_sem, s3, b0m h_x37, b0n h_x37, h_x370, h_x371, hg40]
       exact hK _ _ ⟨h.nx, s2, s3, (by first | (simp only [go_sem, hg40, List.length_append, List.map_append]; done) | rfl), (by first | (simp only [go_sem, hg40, List.length_append, List.map_append]; done) | rfl), s38, s39, s40, (by first | (simp only [go_sem, hg40, List.length_append, List.map_append]; done) | rfl), (by simp only [go_sem, hg40, List.length_append, List.map_append]), (by simp only [go_sem])⟩
      ·simp only [hg40, Bool.not_true, Bool.not_false, eq_self, if_true, if_false, Bool.true_or, Bool.or_true, Bool.false_or, Bool.or_false, Bool.true_and, Bool.and_true, Bool.false_and, Bool.and_false, Bool.false_eq_true] at h_c39
       obtain ⟨x38, h_x38, h_c39⟩ := b0h h_c39
       have h_x380 := b0w h_x38
       have h_x381 := b0x h_x38
       obtain rfl := Option.some.inj h_c39
       simp only [go_sem, s3, b0m h_x37, b0n h_x37, h_x370, h_x371, b0m h_x38, b0n h_x38, h_x380, h_x381, hg40]
       exact hK _ _ ⟨h.nx, s2, s3, (by first | (simp only [go_sem, hg40, List.length_append, List.map_append]; done) | rfl), (by first | (simp only [go_sem, hg40, List.length_append, List.map_append]; done) | rfl), s38, s39, s40, (by first | (simp only [go_sem, hg40, List.length_append, List.map_append]; done) | rfl), (by simp only [go_sem, hg40, List.length_append, List.map_append]), (by simp only [go_sem])⟩
     ·rintro t h ⟨i6, s2, s3, s5, s6, s38, s39, s40, s65, q16, q14⟩
      refine b0r fun K41 hK41 => ?_
      simp only [go_sem, s65]
      refine b0u (fun hc42 => ?_) (fun hc42 => ?_)
      ·rw [b02 hc42] at hm1
       refine b0d fun K hK => ?_
       simp only [go_sem, q14]
       refine hK _ _ ?_
       clear hK K
       simp only [b1a, b1c, b1b, b1d]
       obtain rfl := Option.some.inj hm1
       obtain rfl := hb27 _ rfl
       try dsimp only at hm0
       obtain rfl := Option.some.inj hm0
       exact b1q (by simp only [go_sem, q16, q14, List.length_append, List.map_append]) (b0l _)
      ·rw [b01 hc42] at hm1
       simp only [b0z, b0i, b0j]
       refine hK41 _ _ ?_
       refine b0d fun K hK => ?_
       simp only [go_sem, s6, q16, q14]
       refine hK _ _ ?_
       clear hK K
       simp only [b00]
       obtain ⟨b43, hl43, hm1⟩ := b0h hm1
       refine b1x hl43 (fun | x_69, t, h => t 2 = .fp [.fs 5 (List.map b0p h_.Combs), .fs 3 (List.map b0o h_.Trains), .fs 3 (List.map b0q h_.Shifts), I h_.Until] 0 ∧ t 3 = .fp [.fs 1 (List.map eI d.At), .fs 1 (List.map b0k d.People), .fs 1 (List.map b0k d.Walks)] 0 ∧ t 5 = I x_40 ∧ t 38 = .fs 3 (List.map b0o h_.Trains) ∧ t 39 = I (List.length h_.Trains : Int) ∧ t 40 = I x_40 ∧ t 67 = .fs 3 (List.map b2t x33.Crowds) ∧ t 68 = I (List.length x33.Crowds : Int) ∧ t 69 = I x_69) ?_ ?_
       ·exact ⟨s2, s3, s5, s38, s39, s40, (by first | (simp only [go_sem, List.length_append, List.map_append]; done) | rfl), (by first | (simp only [go_sem, List.length_append, List.map_append]; done) | rfl), (by first | (simp only [go_sem, List.length_append, List.map_append]; done) | rfl)⟩
       ·try clear s2 s3 s5 s6 s38 s39 s40 s65 q16 q14
        rintro x_69 o t h ⟨s2, s3, s5, s38, s39, s40, s67, s68, s69⟩ hm2 hb43
        simp only [b6x] at hm2
        rw [d98]
        refine b0d fun K hK => ?_
        simp only [go_sem, s68, s69]
        refine hK _ _ ?_
        clear hK K
        refine b0r fun K44 hK44 => ?_
        simp only [go_sem]
        refine b0u (fun hc45 => ?_) (fun hc45 => ?_)
        ·rw [b02 hc45] at hm2
         simp only [b0z, b0i, b0j]
         refine hK44 _ _ ?_
         refine b0r fun K46 hK46 => ?_
         simp only [b00]
         obtain ⟨x48, h_x48, hm2⟩ := b0h hm2
         have h_x480 := b0w h_x48
         have h_x481 := b0x h_x48
         refine b0d fun K hK => ?_
         simp only [go_sem, s67, s69, b0m h_x48, b0n h_x48, h_x480, h_x481]
         refine hK _ _ ?_
         clear hK K
         obtain ⟨x51, h_x51, hm2⟩ := b0h hm2
         have h_x510 := b0w h_x51
         have h_x511 := b0x h_x51
         obtain ⟨x52, h_x52, hm2⟩ := b0h hm2
         have h_x520 := b0w h_x52
         have h_x521 := b0x h_x52
         refine b0d fun K hK => ?_
         simp only [go_sem, s3, s5, b0m h_x51, b0n h_x51, h_x510, h_x511, b0m h_x52, b0n h_x52, h_x520, h_x521]
         refine b1j (b48 x52 x48.People) ?_
         simp only [go_sem, s3, s5, b0m h_x51, b0n h_x51, h_x510, h_x511, b0m h_x52, b0n h_x52, h_x520, h_x521]
         refine hK _ _ ?_
         clear hK K
         simp only [go_sem]
         refine b0u (fun hc53 => ?_) (fun hc53 => ?_)
         ·rw [b02 hc53] at hm2
          refine b0d fun K hK => ?_
          simp only [go_sem]
          refine hK _ _ ?_
          clear hK K
          simp only [b1a, b1c, b1b, b1d]
          obtain rfl := Option.some.inj hm2
          obtain rfl := hb43 _ rfl
          try dsimp only at hm1
          obtain rfl := Option.some.inj hm1
          obtain rfl := hb27 _ rfl
          try dsimp only at hm0
          obtain rfl := Option.some.inj hm0
          exact b1q (by simp only [go_sem, List.length_append, List.map_append]) (b0l _)
         ·rw [b01 hc53] at hm2
          simp only [b0z, b0i, b0j]
          refine hK46 _ _ ?_
          refine b1i fun K hK => ?_
          simp only [go_sem, s69]
          refine hK _ _ ?_
          clear hK K
          simp only [b0i, b0j]
          obtain rfl := Option.some.inj hm2
          refine ⟨_, rfl, ?_⟩
          exact ⟨s2, s3, s5, s38, s39, s40, s67, s68, (by first | (simp only [go_sem, s69, List.length_append, List.map_append]; done) | rfl)⟩
        ·rw [b01 hc45] at hm2
         simp only [b1t, b1w, b1v, b1u, b0i, b0j, Nat.reduceEqDiff, not_false_eq_true]
         obtain rfl := Option.some.inj hm2
         obtain rfl := hb43 _ rfl
         try dsimp only at hm1
         exact J31  _ _ s2 s3 s38 s39 s40 hm1
    ·rw [b01 hc29] at hm1
     simp only [b1t, b1w, b1v, b1u, b0i, b0j, Nat.reduceEqDiff, not_false_eq_true]
     obtain rfl := Option.some.inj hm1
     obtain rfl := hb27 _ rfl
     try dsimp only at hm0
     exact J6  _ _ s2 s3 hm0
theorem d0c (hf : Has O "newel/halls.isDay$1" x_halls_isDayD1) (b48 : b8u O) : c62 O := by
 intro n c0
 generalize hm0 : b6b n c0 = r
 unfold b6b at hm0
 refine b2k hf rfl (b0e (b0l _) (b0e (.fp _ _ (b0e (b0l _) (b0e (b0l _) (b0e (b0l _) (b0e (b0l _) (b0e (b0l _) b0y)))))) b0y)) (b0l _) ?_
 refine b2h (fun t h => t 0 = I n ∧ t 1 = .fp [I c0.Rate, I c0.Limit, I c0.Next, I c0.Walk.Low, I c0.Walk.High] 0) ⟨rfl, rfl⟩ fun t h ⟨s0, s1⟩ => ?_
 simp only [x_halls_isDayD1]
 refine b0d fun K hK => ?_
 simp only [go_sem]
 refine hK _ _ ?_
 clear hK K
 refine b0d fun K hK => ?_
 simp only [go_sem, s0, s1]
 refine b1j (b48 n c0.Walk) ?_
 simp only [go_sem, s0, s1]
 refine hK _ _ ?_
 clear hK K
 simp only [b1a, b1c, b1b, b1d]
 obtain rfl := hm0
 exact b1q (by simp only [go_sem, List.length_append, List.map_append]) (b0l _)
theorem d0d (hf : Has O "newel/halls.isTrain" x_halls_isTrain) (b8b : c3l O) : c63 O := by
 intro h_ t_ r hm0
 unfold b75 at hm0
 refine b2k hf rfl (b0e (.agg _ (b0e (b0s fun a _ => b2m a) (b0e (b0s fun a _ => b2l a) (b0e (b0s fun a _ => b2o a) (b0e (b0l _) b0y))))) (b0e (.agg _ (b0e (b0l _) (b0e (b0l _) (b0e (b0s fun a _ => c1a a) b0y)))) b0y)) (b0l _) ?_
 refine b2h (fun t h => t 0 = .agg [.fs 5 (List.map b0p h_.Combs), .fs 3 (List.map b0o h_.Trains), .fs 3 (List.map b0q h_.Shifts), I h_.Until] ∧ t 1 = .agg [I t_.At.Low, I t_.At.High, .fs 3 (List.map b2t t_.Crowds)]) ⟨rfl, rfl⟩ fun t h ⟨s0, s1⟩ => ?_
 simp only [x_halls_isTrain]
 refine b0d fun K hK => ?_
 simp only [go_sem, s0, s1]
 refine hK _ _ ?_
 clear hK K
 refine b0d fun K hK => ?_
 simp only [go_sem]
 refine hK _ _ ?_
 clear hK K
 refine b03 ?_
 refine b0d fun K hK => ?_
 simp only [go_sem]
 refine hK _ _ ?_
 clear hK K
 refine b0r fun K1 hK1 => ?_
 have J2 : ∀ (t : Slots) (h : Heap), t 2 = .fp [.fs 5 (List.map b0p h_.Combs), .fs 3 (List.map b0o h_.Trains), .fs 3 (List.map b0q h_.Shifts), I h_.Until] 0 → t 3 = .fp [I t_.At.Low, I t_.At.High, .fs 3 (List.map b2t t_.Crowds)] 0 → b9l h_ t_ = some r → K1 t h := by
  intro t h s2 s3 hm0
  refine hK1 _ _ ?_
  unfold b9l at hm0
  refine b2d (fun t h => t 4 = B ((b4d t_.At 0 (wr (h_.Until - 1))) && (decide ((List.length t_.Crowds : Int) ≤ 4)))) (fun K hK => ?_) ?_
  ·simp only [go_sem, s2, s3]
   refine b1j (b8b t_.At 0 (wr (h_.Until - 1))) ?_
   simp only [go_sem, s2, s3]
   refine b0u (fun hg3 => ?_) (fun hg3 => ?_)
   ·simp only [go_sem, s2, s3, hg3]
    exact hK _ _ (by first | (simp only [go_sem, hg3, List.length_append, List.map_append]; done) | rfl)
   ·simp only [go_sem, s2, s3, hg3]
    exact hK _ _ (by first | (simp only [go_sem, hg3, List.length_append, List.map_append]; done) | rfl)
  ·rintro t h s4
   simp only [b1a, b1c, b1b, b1d]
   obtain rfl := Option.some.inj hm0
   exact b1q (by simp only [go_sem, s4, List.length_append, List.map_append]) (b0l _)
 simp only [b00]
 obtain ⟨b4, hl4, hm0⟩ := b0h hm0
 refine b1x hl4 (fun | (last_5, x_11), t, h => t 2 = .fp [.fs 5 (List.map b0p h_.Combs), .fs 3 (List.map b0o h_.Trains), .fs 3 (List.map b0q h_.Shifts), I h_.Until] 0 ∧ t 3 = .fp [I t_.At.Low, I t_.At.High, .fs 3 (List.map b2t t_.Crowds)] 0 ∧ t 5 = I last_5 ∧ t 9 = .fs 3 (List.map b2t t_.Crowds) ∧ t 10 = I (List.length t_.Crowds : Int) ∧ t 11 = I x_11) ?_ ?_
 ·exact ⟨(by first | (simp only [go_sem, List.length_append, List.map_append]; done) | rfl), (by first | (simp only [go_sem, List.length_append, List.map_append]; done) | rfl), (by first | (simp only [go_sem, List.length_append, List.map_append]; done) | rfl), (by first | (simp only [go_sem, List.length_append, List.map_append]; done) | rfl), (by first | (simp only [go_sem, List.length_append, List.map_append]; done) | rfl), (by first | (simp only [go_sem, List.length_append, List.map_append]; done) | rfl)⟩
 ·rintro ⟨last_5, x_11⟩ o t h ⟨s2, s3, s5, s9, s10, s11⟩ hm1 hb4
  simp only [b50] at hm1
  rw [g0b]
  refine b0d fun K hK => ?_
  simp only [go_sem, s10, s11]
  refine hK _ _ ?_
  clear hK K
  refine b0r fun K5 hK5 => ?_
  simp only [go_sem]
  refine b0u (fun hc6 => ?_) (fun hc6 => ?_)
  ·rw [b02 hc6] at hm1
   simp only [b0z, b0i, b0j]
   refine hK5 _ _ ?_
   refine b0r fun K7 hK7 => ?_
   simp only [b00]
   obtain ⟨x9, h_x9, hm1⟩ := b0h hm1
   have h_x90 := b0w h_x9
   have h_x91 := b0x h_x9
   refine b0d fun K hK => ?_
   simp only [go_sem, s9, s11, b0m h_x9, b0n h_x9, h_x90, h_x91]
   refine hK _ _ ?_
   clear hK K
   refine b03 ?_
   refine b2d (fun t h => ∃ i7 : Nat, t 2 = .fp [.fs 5 (List.map b0p h_.Combs), .fs 3 (List.map b0o h_.Trains), .fs 3 (List.map b0q h_.Shifts), I h_.Until] 0 ∧ t 3 = .fp [I t_.At.Low, I t_.At.High, .fs 3 (List.map b2t t_.Crowds)] 0 ∧ t 7 = .rp i7 0 0 ∧ t 9 = .fs 3 (List.map b2t t_.Crowds) ∧ t 10 = I (List.length t_.Crowds : Int) ∧ t 11 = I x_11 ∧ t 32 = B (((decide (x9.Comb ≤ last_5)) || (decide ((List.length h_.Combs : Int) ≤ x9.Comb))) || (!(b4d x9.People 0 1000))) ∧ h.ob i7 = some (3, [[I x9.Comb, I x9.People.Low, I x9.People.High]]) ∧ i7 < h.nx) (fun K hK => ?_) ?_
   ·simp only [go_sem, s2, s5]
    refine b0u (fun hg10 => ?_) (fun hg10 => ?_)
    ·simp only [go_sem, s2, s5, hg10]
     exact hK _ _ ⟨h.nx, s2, s3, (by first | (simp only [go_sem, hg10, List.length_append, List.map_append]; done) | rfl), s9, s10, s11, (by first | (simp only [go_sem, hg10, List.length_append, List.map_append]; done) | rfl), (by simp only [go_sem, hg10, List.length_append, List.map_append]), (by simp only [go_sem])⟩
    ·simp only [go_sem, s2, s5, hg10]
     refine b0u (fun hg11 => ?_) (fun hg11 => ?_)
     ·simp only [go_sem, s2, s5, hg10, hg11]
      exact hK _ _ ⟨h.nx, s2, s3, (by first | (simp only [go_sem, hg10, hg11, List.length_append, List.map_append]; done) | rfl), s9, s10, s11, (by first | (simp only [go_sem, hg10, hg11, List.length_append, List.map_append]; done) | rfl), (by simp only [go_sem, hg10, hg11, List.length_append, List.map_append]), (by simp only [go_sem])⟩
     ·simp only [go_sem, s2, s5, hg10, hg11]
      refine b1j (b8b x9.People 0 1000) ?_
      simp only [go_sem, s2, s5, hg10, hg11]
      exact hK _ _ ⟨h.nx, s2, s3, (by first | (simp only [go_sem, hg10, hg11, List.length_append, List.map_append]; done) | rfl), s9, s10, s11, (by first | (simp only [go_sem, hg10, hg11, List.length_append, List.map_append]; done) | rfl), (by simp only [go_sem, hg10, hg11, List.length_append, List.map_append]), (by simp only [go_sem])⟩
   ·rintro t h ⟨i7, s2, s3, s7, s9, s10, s11, s32, q7, q0⟩
    refine b0r fun K12 hK12 => ?_
    simp only [go_sem, s32]
    refine b0u (fun hc13 => ?_) (fun hc13 => ?_)
    ·rw [b02 hc13] at hm1
     refine b0d fun K hK => ?_
     simp only [go_sem, q0]
     refine hK _ _ ?_
     clear hK K
     simp only [b1a, b1c, b1b, b1d]
     obtain rfl := Option.some.inj hm1
     obtain rfl := hb4 _ rfl
     try dsimp only at hm0
     obtain rfl := Option.some.inj hm0
     exact b1q (by simp only [go_sem, q7, q0, List.length_append, List.map_append]) (b0l _)
    ·rw [b01 hc13] at hm1
     simp only [b0z, b0i, b0j]
     refine hK12 _ _ ?_
     refine b1i fun K hK => ?_
     simp only [go_sem, s7, q7, q0]
     refine hK _ _ ?_
     clear hK K
     simp only [b0i, b0j]
     refine hK7 _ _ ?_
     refine b1i fun K hK => ?_
     simp only [go_sem, s11, q0]
     refine hK _ _ ?_
     clear hK K
     simp only [b0i, b0j]
     obtain rfl := Option.some.inj hm1
     refine ⟨_, rfl, ?_⟩
     exact ⟨s2, s3, (by first | (simp only [go_sem, List.length_append, List.map_append]; done) | rfl), s9, s10, (by first | (simp only [go_sem, s11, List.length_append, List.map_append]; done) | rfl)⟩
  ·rw [b01 hc6] at hm1
   simp only [b1t, b1w, b1v, b1u, b0i, b0j, Nat.reduceEqDiff, not_false_eq_true]
   obtain rfl := Option.some.inj hm1
   obtain rfl := hb4 _ rfl
   try dsimp only at hm0
   exact J2  _ _ s2 s3 hm0
theorem d0g (hf : Has O "newel/halls.over$1" x_halls_overD1) : c66 O := by
 intro n c0 c1 r hm0
 unfold b9n at hm0
 refine b2k hf rfl (b0e (b0l _) (b0e (.fp _ _ (b0e (b0s fun a _ => b2m a) (b0e (b0s fun a _ => b2l a) (b0e (b0s fun a _ => b2o a) (b0e (b0l _) b0y))))) (b0e (.fp _ _ (b0e (b0l _) b0y)) b0y))) (b0l _) ?_
 refine b2h (fun t h => t 0 = I n ∧ t 1 = .fp [.fs 5 (List.map b0p c0.Combs), .fs 3 (List.map b0o c0.Trains), .fs 3 (List.map b0q c0.Shifts), I c0.Until] 0 ∧ t 2 = .fp [I c1] 0) ⟨rfl, rfl, rfl⟩ fun t h ⟨s0, s1, s2⟩ => ?_
 simp only [x_halls_overD1]
 refine b0d fun K hK => ?_
 simp only [go_sem]
 refine hK _ _ ?_
 clear hK K
 obtain ⟨x2, h_x2, hm0⟩ := b0h hm0
 have h_x20 := b0w h_x2
 have h_x21 := b0x h_x2
 refine b0d fun K hK => ?_
 simp only [go_sem, s0, s1, s2, b0m h_x2, b0n h_x2, h_x20, h_x21]
 refine hK _ _ ?_
 clear hK K
 simp only [b1a, b1c, b1b, b1d]
 obtain rfl := Option.some.inj hm0
 exact b1q (by simp only [go_sem, List.length_append, List.map_append]) (b0l _)
theorem d0o (hf : Has O "newel/newelref06.comb" x_r06_comb) (b3t : c0n O) : c7g O := by
 intro h_ n
 generalize hm0 : c0d h_ n = r
 unfold c0d at hm0
 refine b2k hf rfl (b0e (.agg _ (b0e (b0s fun a _ => b2m a) (b0e (b0s fun a _ => b2l a) (b0e (b0s fun a _ => b2o a) (b0e (b0l _) b0y))))) (b0e (b0l _) b0y)) (b0l _) ?_
 refine b2h (fun t h => t 0 = .agg [.fs 5 (List.map b0p h_.Combs), .fs 3 (List.map b0o h_.Trains), .fs 3 (List.map b0q h_.Shifts), I h_.Until] ∧ t 1 = I n) ⟨rfl, rfl⟩ fun t h ⟨s0, s1⟩ => ?_
 simp only [x_r06_comb]
 refine b0d fun K hK => ?_
 simp only [go_sem, s0]
 refine hK _ _ ?_
 clear hK K
 refine b0d fun K hK => ?_
 simp only [go_sem, s1]
 refine b1j (b3t n 0 (wr ((List.length h_.Combs : Int) - 1))) ?_
 simp only [go_sem, s1]
 refine hK _ _ ?_
 clear hK K
 simp only [b1a, b1c, b1b, b1d]
 obtain rfl := hm0
 exact b1q (by simp only [go_sem, List.length_append, List.map_append]) (b0l _)
end Go.Nw.HM
