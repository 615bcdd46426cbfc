/- That the texts make what their models say: printed by a program. -/
import Derived.Test.YteoedeeljnboeaaHM
set_option linter.all false
set_option linter.unusedVariables false
set_option linter.unusedSimpArgs false
set_option linter.unusedSectionVars false
namespace Go.Nw.HM
open Go.Nw.Halls
set_option linter.unusedSimpArgs false
set_option linter.unusedVariables false
set_option maxHeartbeats 4000000
variable {O : Orac}
theorem c27 (hf : Has O "(*newel/halls.bound).passes" x___halls_bound__passes) : c4a O := by
 intro b from_ to_ r hm0
 unfold b8j at hm0
 refine b2k hf rfl (b0e (.fp _ _ (b0e (b0w fun a _ => b2i a) (b0e (b0w fun a _ => b2i a) (b0e (b0w fun a _ => b2i a) (b0e (b0w fun a _ => b3g a) b0z))))) (b0e (b0j _) (b0e (b0j _) b0z))) (b0j _) ?_
 refine b2f (fun t h => t 0 = .fp [.fs 1 (List.map eI b.rates), .fs 1 (List.map eI b.flow), .fs 1 (List.map eI b.most), .fs 1 (List.map b0o b.come)] 0 ∧ t 1 = I from_ ∧ t 2 = I to_) ⟨rfl, rfl, rfl⟩ fun t h ⟨s0, s1, s2⟩ => ?_
 simp only [x___halls_bound__passes]
 refine b0d fun K hK => ?_
 simp only [go_sem]
 refine hK _ _ ?_
 clear hK K
 refine b06 ?_
 refine b2e (fun t h => t 0 = .fp [.fs 1 (List.map eI b.rates), .fs 1 (List.map eI b.flow), .fs 1 (List.map eI b.most), .fs 1 (List.map b0o b.come)] 0 ∧ t 1 = I from_ ∧ t 2 = I to_ ∧ t 16 = B ((decide (to_ < from_)) || (decide (to_ < 0)))) (fun K hK => ?_) ?_
 ·simp only [go_sem, s1, s2]
  refine b0r (fun hg1 => ?_) (fun hg1 => ?_)
  ·simp only [go_sem, s1, s2, hg1]
   exact hK _ _ ⟨s0, s1, s2, (by first | (simp only [go_sem, hg1, List.length_append, List.map_append]; done) | rfl)⟩
  ·simp only [go_sem, s1, s2, hg1]
   exact hK _ _ ⟨s0, s1, s2, (by first | (simp only [go_sem, hg1, List.length_append, List.map_append]; done) | rfl)⟩
 ·rintro t h ⟨s0, s1, s2, s16⟩
  refine b0u fun K2 hK2 => ?_
  simp only [go_sem, s16]
  refine b0r (fun hc3 => ?_) (fun hc3 => ?_)
  ·rw [b04 hc3] at hm0
   refine b0d fun K hK => ?_
   simp only [go_sem]
   refine hK _ _ ?_
   clear hK K
   simp only [b1c, b1e, b1d, b1f]
   obtain rfl := Option.some.inj hm0
   exact b1s (by simp only [go_sem, List.length_append, List.map_append]) (b0j _)
  ·rw [b03 hc3] at hm0
   simp only [b02, b0h, b0i]
   refine hK2 _ _ ?_
   refine b0d fun K hK => ?_
   simp only [go_sem, s1]
   refine hK _ _ ?_
   clear hK K
   obtain ⟨x8, h_x8, hm0⟩ := b0g hm0
   have h_x80 := b0x h_x8
   have h_x81 := b0y h_x8
   obtain ⟨x9, h_x9, hm0⟩ := b0g hm0
   have h_x90 := b0x h_x9
   have h_x91 := b0y h_x9
   obtain ⟨x10, h_x10, hm0⟩ := b0g hm0
   have h_x100 := b0x h_x10
   have h_x101 := b0y h_x10
   obtain ⟨x11, h_x11, hm0⟩ := b0g hm0
   have h_x110 := b0x h_x11
   have h_x111 := b0y h_x11
   refine b0d fun K hK => ?_
   simp only [go_sem, s0, s1, s2, b0l h_x8, b0m h_x8, h_x80, h_x81, b0l h_x9, b0m h_x9, h_x90, h_x91, b0l h_x10, b0m h_x10, h_x100, h_x101, b0l h_x11, b0m h_x11, h_x110, h_x111]
   refine hK _ _ ?_
   clear hK K
   refine b06 ?_
   refine b0d fun K hK => ?_
   simp only [go_sem, s1]
   refine hK _ _ ?_
   clear hK K
   refine b0u fun K12 hK12 => ?_
   have J13 : ∀ (least_7 : Int) (t : Slots) (h : Heap), t 7 = I least_7 → b9v least_7 = some r → K12 t h := by
    intro least_7 t h s7 hm0
    refine hK12 _ _ ?_
    unfold b9v at hm0
    refine b0d fun K hK => ?_
    simp only [go_sem, s7]
    refine hK _ _ ?_
    clear hK K
    simp only [b1c, b1e, b1d, b1f]
    obtain rfl := Option.some.inj hm0
    exact b1s (by simp only [go_sem, List.length_append, List.map_append]) (b0j _)
   simp only [b05]
   obtain ⟨b14, hl14, hm0⟩ := b0g hm0
   refine b10 hl14 (fun | (least_7, k_8), t, h => t 0 = .fp [.fs 1 (List.map eI b.rates), .fs 1 (List.map eI b.flow), .fs 1 (List.map eI b.most), .fs 1 (List.map b0o b.come)] 0 ∧ t 1 = I (mx from_ 0) ∧ t 2 = I to_ ∧ t 7 = I least_7 ∧ t 8 = I k_8) ?_ ?_
   ·exact ⟨s0, (by first | (simp only [go_sem, s1, List.length_append, List.map_append]; done) | rfl), s2, (by first | (simp only [go_sem, List.length_append, List.map_append]; done) | rfl), (by first | (simp only [go_sem, List.length_append, List.map_append]; done) | rfl)⟩
   ·rintro ⟨least_7, k_8⟩ o t h ⟨s0, s1, s2, s7, s8⟩ hm1 hb14
    simp only [b8k] at hm1
    rw [g0v]
    refine b06 ?_
    refine b0d fun K hK => ?_
    simp only [go_sem, s2, s8]
    refine hK _ _ ?_
    clear hK K
    refine b0u fun K15 hK15 => ?_
    simp only [go_sem]
    refine b0r (fun hc16 => ?_) (fun hc16 => ?_)
    ·rw [b04 hc16] at hm1
     simp only [b02, b0h, b0i]
     refine hK15 _ _ ?_
     refine b0u fun K17 hK17 => ?_
     simp only [b05]
     refine b0d fun K hK => ?_
     simp only [go_sem]
     refine hK _ _ ?_
     clear hK K
     refine b06 ?_
     refine b0d fun K hK => ?_
     simp only [go_sem, s2, s8]
     refine hK _ _ ?_
     clear hK K
     refine b0u fun K18 hK18 => ?_
     have J19 : ∀ (behind_9 : Int) (t : Slots) (h : Heap), t 0 = .fp [.fs 1 (List.map eI b.rates), .fs 1 (List.map eI b.flow), .fs 1 (List.map eI b.most), .fs 1 (List.map b0o b.come)] 0 → t 1 = I (mx from_ 0) → t 2 = I to_ → t 7 = I least_7 → t 8 = I k_8 → t 9 = I behind_9 → b68 b from_ least_7 k_8 behind_9 = some o → K18 t h := by
      intro behind_9 t h s0 s1 s2 s7 s8 s9 hm1
      refine hK18 _ _ ?_
      unfold b68 at hm1
      obtain ⟨x23, h_x23, hm1⟩ := b0g hm1
      have h_x230 := b0x h_x23
      have h_x231 := b0y h_x23
      obtain ⟨x24, h_x24, hm1⟩ := b0g hm1
      have h_x240 := b0x h_x24
      have h_x241 := b0y h_x24
      obtain ⟨x25, h_x25, hm1⟩ := b0g hm1
      have h_x250 := b0x h_x25
      have h_x251 := b0y h_x25
      refine b1n fun K hK => ?_
      simp only [go_sem, s0, s1, s7, s8, s9, b0l h_x23, b0m h_x23, h_x230, h_x231, b0l h_x24, b0m h_x24, h_x240, h_x241, b0l h_x25, b0m h_x25, h_x250, h_x251]
      refine hK _ _ ?_
      clear hK K
      simp only [b0h, b0i]
      refine hK17 _ _ ?_
      refine b1n fun K hK => ?_
      simp only [go_sem, s8]
      refine hK _ _ ?_
      clear hK K
      simp only [b0h, b0i]
      obtain rfl := Option.some.inj hm1
      refine ⟨_, rfl, ?_⟩
      exact ⟨s0, s1, s2, (by first | (simp only [go_sem, s7, List.length_append, List.map_append]; done) | rfl), (by first | (simp only [go_sem, s8, List.length_append, List.map_append]; done) | rfl)⟩
     simp only [go_sem]
     refine b0r (fun hc26 => ?_) (fun hc26 => ?_)
     ·rw [b04 hc26] at hm1
      obtain ⟨x29, h_x29, hm1⟩ := b0g hm1
      have h_x290 := b0x h_x29
      have h_x291 := b0y h_x29
      obtain ⟨x30, h_x30, hm1⟩ := b0g hm1
      have h_x300 := b0x h_x30
      have h_x301 := b0y h_x30
      refine b1n fun K hK => ?_
      simp only [go_sem, s0, s2, s8, b0l h_x29, b0m h_x29, h_x290, h_x291, b0l h_x30, b0m h_x30, h_x300, h_x301]
      refine hK _ _ ?_
      clear hK K
      simp only [b0h, b0i]
      exact J19 x30 _ _ s0 s1 s2 s7 s8 (by first | (simp only [go_sem, List.length_append, List.map_append]; done) | rfl) hm1
     ·rw [b03 hc26] at hm1
      simp only [b02, b0h, b0i]
      exact J19 0 _ _ s0 s1 s2 s7 s8 (by first | (simp only [go_sem, List.length_append, List.map_append]; done) | rfl) hm1
    ·rw [b03 hc16] at hm1
     simp only [b1w, b1z, b1y, b1x, b0h, b0i, Nat.reduceEqDiff, not_false_eq_true]
     obtain rfl := Option.some.inj hm1
     obtain rfl := hb14 _ rfl
     try dsimp only at hm0
     exact J13 least_7 _ _ s7 hm0
theorem b83 (hf : Has O "newel/halls.Check" x_halls_Check) (d0y : c7o O) (d1a : c73 O) (d0p : c7f O) (b5m : b9r O) : c1l O := by
 intro h_ r hm0
 unfold b4s at hm0
 refine b2k hf rfl (b0e (.agg _ (b0e (b0w fun a _ => b2l a) (b0e (b0w fun a _ => b2n a) (b0e (b0w fun a _ => b2p a) (b0e (b0j _) b0z))))) b0z) (b0j _) ?_
 refine b2f (fun t h => t 0 = .agg [.fs 5 (List.map b0n h_.Combs), .fs 3 (List.map b0k h_.Trains), .fs 3 (List.map b0s h_.Shifts), I h_.Until]) rfl fun t h s0 => ?_
 simp only [x_halls_Check]
 refine b0d fun K hK => ?_
 simp only [go_sem, s0]
 refine hK _ _ ?_
 clear hK K
 refine b06 ?_
 refine b2e (fun t h => t 1 = .fp [.fs 5 (List.map b0n h_.Combs), .fs 3 (List.map b0k h_.Trains), .fs 3 (List.map b0s h_.Shifts), I h_.Until] 0 ∧ t 37 = B ((((((decide (h_.Until < 1)) || (decide (100 < h_.Until))) || (decide ((List.length h_.Combs : Int) < 1))) || (decide (8 < (List.length h_.Combs : Int)))) || (decide (12 < (List.length h_.Trains : Int)))) || (decide (20 < (List.length h_.Shifts : Int))))) (fun K hK => ?_) ?_
 ·simp only [go_sem]
  refine b0r (fun hg1 => ?_) (fun hg1 => ?_)
  ·simp only [go_sem, hg1]
   exact hK _ _ ⟨(by first | (simp only [go_sem, hg1, List.length_append, List.map_append]; done) | rfl), (by first | (simp only [go_sem, hg1, List.length_append, List.map_append]; done) | rfl)⟩
  ·simp only [go_sem, hg1]
   refine b0r (fun hg2 => ?_) (fun hg2 => ?_)
   ·simp only [go_sem, hg1, hg2]
    exact hK _ _ ⟨(by first | (simp only [go_sem, hg1, hg2, List.length_append, List.map_append]; done) | rfl), (by first | (simp only [go_sem, hg1, hg2, List.length_append, List.map_append]; done) | rfl)⟩
   ·simp only [go_sem, hg1, hg2]
    refine b0r (fun hg3 => ?_) (fun hg3 => ?_)
    ·simp only [go_sem, hg1, hg2, hg3]
     exact hK _ _ ⟨(by first | (simp only [go_sem, hg1, hg2, hg3, List.length_append, List.map_append]; done) | rfl), (by first | (simp only [go_sem, hg1, hg2, hg3, List.length_append, List.map_append]; done) | rfl)⟩
    ·simp only [go_sem, hg1, hg2, hg3]
     refine b0r (fun hg4 => ?_) (fun hg4 => ?_)
     ·simp only [go_sem, hg1, hg2, hg3, hg4]
      exact hK _ _ ⟨(by first | (simp only [go_sem, hg1, hg2, hg3, hg4, List.length_append, List.map_append]; done) | rfl), (by first | (simp only [go_sem, hg1, hg2, hg3, hg4, List.length_append, List.map_append]; done) | rfl)⟩
     ·simp only [go_sem, hg1, hg2, hg3, hg4]
      refine b0r (fun hg5 => ?_) (fun hg5 => ?_)
      ·simp only [go_sem, hg1, hg2, hg3, hg4, hg5]
       exact hK _ _ ⟨(by first | (simp only [go_sem, hg1, hg2, hg3, hg4, hg5, List.length_append, List.map_append]; done) | rfl), (by first | (simp only [go_sem, hg1, hg2, hg3, hg4, hg5, List.length_append, List.map_append]; done) | rfl)⟩
      ·simp only [go_sem, hg1, hg2, hg3, hg4, hg5]
       exact hK _ _ ⟨(by first | (simp only [go_sem, hg1, hg2, hg3, hg4, hg5, List.length_append, List.map_append]; done) | rfl), (by first | (simp only [go_sem, hg1, hg2, hg3, hg4, hg5, List.length_append, List.map_append]; done) | rfl)⟩
 ·rintro t h ⟨s1, s37⟩
  refine b0u fun K6 hK6 => ?_
  simp only [go_sem, s37]
  refine b0r (fun hc7 => ?_) (fun hc7 => ?_)
  ·rw [b04 hc7] at hm0
   refine b0d fun K hK => ?_
   simp only [go_sem]
   refine hK _ _ ?_
   clear hK K
   simp only [b1c, b1e, b1d, b1f]
   obtain rfl := Option.some.inj hm0
   exact b1s (by simp only [go_sem, List.length_append, List.map_append]) (b0j _)
  ·rw [b03 hc7] at hm0
   simp only [b02, b0h, b0i]
   refine hK6 _ _ ?_
   refine b06 ?_
   refine b0d fun K hK => ?_
   simp only [go_sem, s1]
   refine hK _ _ ?_
   clear hK K
   refine b0u fun K8 hK8 => ?_
   have J9 : ∀ (t : Slots) (h : Heap), t 1 = .fp [.fs 5 (List.map b0n h_.Combs), .fs 3 (List.map b0k h_.Trains), .fs 3 (List.map b0s h_.Shifts), I h_.Until] 0 → c0b h_ = some r → K8 t h := by
    intro t h s1 hm0
    refine hK8 _ _ ?_
    unfold c0b at hm0
    refine b06 ?_
    obtain ⟨y13, h_y13, hm0⟩ := b0g hm0
    refine b0d fun K hK => ?_
    simp only [go_sem, s1]
    refine b1o (d1a h_.Trains "newel/halls.Check$1" [] [.fp [.fs 5 (List.map b0n h_.Combs), .fs 3 (List.map b0k h_.Trains), .fs 3 (List.map b0s h_.Shifts), I h_.Until] 0] (fun z12 => b7g z12 h_) (.fn _ _ _ b0z (b0e (.fp _ _ (b0e (b0w fun a _ => b2l a) (b0e (b0w fun a _ => b2n a) (b0e (b0w fun a _ => b2p a) (b0e (b0j _) b0z))))) b0z)) (fun z0 y hz => d0p z0 h_ y hz) _ h_y13) ?_
    simp only [go_sem, s1]
    refine hK _ _ ?_
    clear hK K
    refine b0u fun K14 hK14 => ?_
    simp only [go_sem]
    refine b0r (fun hc15 => ?_) (fun hc15 => ?_)
    ·rw [b04 hc15] at hm0
     refine b0d fun K hK => ?_
     simp only [go_sem]
     refine hK _ _ ?_
     clear hK K
     simp only [b1c, b1e, b1d, b1f]
     obtain rfl := Option.some.inj hm0
     exact b1s (by simp only [go_sem, List.length_append, List.map_append]) (b0j _)
    ·rw [b03 hc15] at hm0
     simp only [b02, b0h, b0i]
     refine hK14 _ _ ?_
     refine b06 ?_
     refine b0d fun K hK => ?_
     simp only [go_sem, s1]
     refine hK _ _ ?_
     clear hK K
     refine b0u fun K16 hK16 => ?_
     have J17 : ∀ (t : Slots) (h : Heap), c2i = some r → K16 t h := by
      intro t h hm0
      refine hK16 _ _ ?_
      unfold c2i at hm0
      refine b0d fun K hK => ?_
      simp only [go_sem]
      refine hK _ _ ?_
      clear hK K
      simp only [b1c, b1e, b1d, b1f]
      obtain rfl := Option.some.inj hm0
      exact b1s (by simp only [go_sem, List.length_append, List.map_append]) (b0j _)
     simp only [b05]
     obtain ⟨b18, hl18, hm0⟩ := b0g hm0
     refine b10 hl18 (fun | x_56, t, h => t 1 = .fp [.fs 5 (List.map b0n h_.Combs), .fs 3 (List.map b0k h_.Trains), .fs 3 (List.map b0s h_.Shifts), I h_.Until] 0 ∧ t 54 = .fs 3 (List.map b0s h_.Shifts) ∧ t 55 = I (List.length h_.Shifts : Int) ∧ t 56 = I x_56) ?_ ?_
     ·exact ⟨s1, (by first | (simp only [go_sem, List.length_append, List.map_append]; done) | rfl), (by first | (simp only [go_sem, List.length_append, List.map_append]; done) | rfl), (by first | (simp only [go_sem, List.length_append, List.map_append]; done) | rfl)⟩
     ·rintro x_56 o t h ⟨s1, s54, s55, s56⟩ hm1 hb18
      simp only [b7h] at hm1
      rw [g0w]
      refine b0d fun K hK => ?_
      simp only [go_sem, s55, s56]
      refine hK _ _ ?_
      clear hK K
      refine b0u fun K19 hK19 => ?_
      simp only [go_sem]
      refine b0r (fun hc20 => ?_) (fun hc20 => ?_)
      ·rw [b04 hc20] at hm1
       simp only [b02, b0h, b0i]
       refine hK19 _ _ ?_
       refine b0u fun K21 hK21 => ?_
       simp only [b05]
       obtain ⟨x23, h_x23, hm1⟩ := b0g hm1
       have h_x230 := b0x h_x23
       have h_x231 := b0y h_x23
       refine b0d fun K hK => ?_
       simp only [go_sem, s54, s56, b0l h_x23, b0m h_x23, h_x230, h_x231]
       refine hK _ _ ?_
       clear hK K
       obtain ⟨c29, h_c29, hm1⟩ := b0g hm1
       refine b2e (fun t h => t 1 = .fp [.fs 5 (List.map b0n h_.Combs), .fs 3 (List.map b0k h_.Trains), .fs 3 (List.map b0s h_.Shifts), I h_.Until] 0 ∧ t 54 = .fs 3 (List.map b0s h_.Shifts) ∧ t 55 = I (List.length h_.Shifts : Int) ∧ t 56 = I x_56 ∧ t 106 = B (((c29 || (decide (x23.Comb < 0))) || (decide ((List.length h_.Combs : Int) ≤ x23.Comb))) || (!(b3a x23.Rate (Span.mk 0 1000))))) (fun K hK => ?_) ?_
       ·simp only [go_sem, s1]
        refine b0r (fun hg30 => ?_) (fun hg30 => ?_)
        ·simp only [hg30, Bool.not_true, Bool.not_false, eq_self, if_true, if_false, Bool.true_or, Bool.or_true, Bool.false_or, Bool.or_false, Bool.true_and, Bool.and_true, Bool.false_and, Bool.and_false, Bool.false_eq_true] at h_c29
         obtain rfl := Option.some.inj h_c29
         simp only [go_sem, s1, hg30]
         exact hK _ _ ⟨s1, s54, s55, s56, (by first | (simp only [go_sem, hg30, List.length_append, List.map_append]; done) | rfl)⟩
        ·simp only [go_sem, s1, hg30]
         refine b0r (fun hg31 => ?_) (fun hg31 => ?_)
         ·simp only [hg30, hg31, Bool.not_true, Bool.not_false, eq_self, if_true, if_false, Bool.true_or, Bool.or_true, Bool.false_or, Bool.or_false, Bool.true_and, Bool.and_true, Bool.false_and, Bool.and_false, Bool.false_eq_true] at h_c29
          obtain rfl := Option.some.inj h_c29
          simp only [go_sem, s1, hg30, hg31]
          exact hK _ _ ⟨s1, s54, s55, s56, (by first | (simp only [go_sem, hg30, hg31, List.length_append, List.map_append]; done) | rfl)⟩
         ·simp only [hg30, hg31, Bool.not_true, Bool.not_false, eq_self, if_true, if_false, Bool.true_or, Bool.or_true, Bool.false_or, Bool.or_false, Bool.true_and, Bool.and_true, Bool.false_and, Bool.and_false, Bool.false_eq_true] at h_c29
          obtain ⟨c28, h_c28, h_c29⟩ := b0g h_c29
          obtain rfl := Option.some.inj h_c29
          simp only [go_sem, s1, hg30, hg31]
          refine b0r (fun hg32 => ?_) (fun hg32 => ?_)
          ·simp only [hg30, hg31, hg32, Bool.not_true, Bool.not_false, eq_self, if_true, if_false, Bool.true_or, Bool.or_true, Bool.false_or, Bool.or_false, Bool.true_and, Bool.and_true, Bool.false_and, Bool.and_false, Bool.false_eq_true] at h_c28
           obtain ⟨x27, h_x27, h_c28⟩ := b0g h_c28
           have h_x270 := b0x h_x27
           have h_x271 := b0y h_x27
           obtain rfl := Option.some.inj h_c28
           simp only [go_sem, s1, b0l h_x27, b0m h_x27, h_x270, h_x271, hg30, hg31, hg32]
           refine b0r (fun hg33 => ?_) (fun hg33 => ?_)
           ·simp only [go_sem, s1, b0l h_x27, b0m h_x27, h_x270, h_x271, hg30, hg31, hg32, hg33]
            exact hK _ _ ⟨s1, s54, s55, s56, (by first | (simp only [go_sem, hg30, hg31, hg32, hg33, List.length_append, List.map_append]; done) | rfl)⟩
           ·simp only [go_sem, s1, b0l h_x27, b0m h_x27, h_x270, h_x271, hg30, hg31, hg32, hg33]
            refine b0r (fun hg34 => ?_) (fun hg34 => ?_)
            ·simp only [go_sem, s1, b0l h_x27, b0m h_x27, h_x270, h_x271, hg30, hg31, hg32, hg33, hg34]
             exact hK _ _ ⟨s1, s54, s55, s56, (by first | (simp only [go_sem, hg30, hg31, hg32, hg33, hg34, List.length_append, List.map_append]; done) | rfl)⟩
            ·simp only [go_sem, s1, b0l h_x27, b0m h_x27, h_x270, h_x271, hg30, hg31, hg32, hg33, hg34]
             refine b0r (fun hg35 => ?_) (fun hg35 => ?_)
             ·simp only [go_sem, s1, b0l h_x27, b0m h_x27, h_x270, h_x271, hg30, hg31, hg32, hg33, hg34, hg35]
              exact hK _ _ ⟨s1, s54, s55, s56, (by first | (simp only [go_sem, hg30, hg31, hg32, hg33, hg34, hg35, List.length_append, List.map_append]; done) | rfl)⟩
             ·simp only [go_sem, s1, b0l h_x27, b0m h_x27, h_x270, h_x271, hg30, hg31, hg32, hg33, hg34, hg35]
              refine b1o (b5m x23.Rate (Span.mk 0 1000)) ?_
              simp only [go_sem, s1, b0l h_x27, b0m h_x27, h_x270, h_x271, hg30, hg31, hg32, hg33, hg34, hg35]
              exact hK _ _ ⟨s1, s54, s55, s56, (by first | (simp only [go_sem, hg30, hg31, hg32, hg33, hg34, hg35, List.length_append, List.map_append]; done) | rfl)⟩
          ·simp only [hg30, hg31, hg32, Bool.not_true, Bool.not_false, eq_self, if_true, if_false, Bool.true_or, Bool.or_true, Bool.false_or, Bool.or_false, Bool.true_and, Bool.and_true, Bool.false_and, Bool.and_false, Bool.false_eq_true] at h_c28
           obtain rfl := Option.some.inj h_c28
           simp only [go_sem, s1, hg30, hg31, hg32]
           refine b0r (fun hg36 => ?_) (fun hg36 => ?_)
           ·simp only [go_sem, s1, hg30, hg31, hg32, hg36]
            exact hK _ _ ⟨s1, s54, s55, s56, (by first | (simp only [go_sem, hg30, hg31, hg32, hg36, List.length_append, List.map_append]; done) | rfl)⟩
           ·simp only [go_sem, s1, hg30, hg31, hg32, hg36]
            refine b0r (fun hg37 => ?_) (fun hg37 => ?_)
            ·simp only [go_sem, s1, hg30, hg31, hg32, hg36, hg37]
             exact hK _ _ ⟨s1, s54, s55, s56, (by first | (simp only [go_sem, hg30, hg31, hg32, hg36, hg37, List.length_append, List.map_append]; done) | rfl)⟩
            ·simp only [go_sem, s1, hg30, hg31, hg32, hg36, hg37]
             refine b1o (b5m x23.Rate (Span.mk 0 1000)) ?_
             simp only [go_sem, s1, hg30, hg31, hg32, hg36, hg37]
             exact hK _ _ ⟨s1, s54, s55, s56, (by first | (simp only [go_sem, hg30, hg31, hg32, hg36, hg37, List.length_append, List.map_append]; done) | rfl)⟩
       ·rintro t h ⟨s1, s54, s55, s56, s106⟩
        simp only [go_sem, s106]
        refine b0r (fun hc38 => ?_) (fun hc38 => ?_)
        ·rw [b04 hc38] at hm1
         refine b0d fun K hK => ?_
         simp only [go_sem]
         refine hK _ _ ?_
         clear hK K
         simp only [b1c, b1e, b1d, b1f]
         obtain rfl := Option.some.inj hm1
         obtain rfl := hb18 _ rfl
         try dsimp only at hm0
         obtain rfl := Option.some.inj hm0
         exact b1s (by simp only [go_sem, List.length_append, List.map_append]) (b0j _)
        ·rw [b03 hc38] at hm1
         simp only [b02, b0h, b0i]
         refine hK21 _ _ ?_
         refine b1n fun K hK => ?_
         simp only [go_sem, s56]
         refine hK _ _ ?_
         clear hK K
         simp only [b0h, b0i]
         obtain rfl := Option.some.inj hm1
         refine ⟨_, rfl, ?_⟩
         exact ⟨s1, s54, s55, (by first | (simp only [go_sem, s56, List.length_append, List.map_append]; done) | rfl)⟩
      ·rw [b03 hc20] at hm1
       simp only [b1w, b1z, b1y, b1x, b0h, b0i, Nat.reduceEqDiff, not_false_eq_true]
       obtain rfl := Option.some.inj hm1
       obtain rfl := hb18 _ rfl
       try dsimp only at hm0
       exact J17  _ _  hm0
   simp only [b05]
   obtain ⟨b40, hl40, hm0⟩ := b0g hm0
   refine b10 hl40 (fun | x_41, t, h => t 1 = .fp [.fs 5 (List.map b0n h_.Combs), .fs 3 (List.map b0k h_.Trains), .fs 3 (List.map b0s h_.Shifts), I h_.Until] 0 ∧ t 40 = I (List.length h_.Combs : Int) ∧ t 41 = I x_41) ?_ ?_
   ·exact ⟨s1, (by first | (simp only [go_sem, List.length_append, List.map_append]; done) | rfl), (by first | (simp only [go_sem, List.length_append, List.map_append]; done) | rfl)⟩
   ·rintro x_41 o t h ⟨s1, s40, s41⟩ hm1 hb40
    simp only [b7i] at hm1
    rw [g0x]
    refine b0d fun K hK => ?_
    simp only [go_sem, s40, s41]
    refine hK _ _ ?_
    clear hK K
    refine b0u fun K41 hK41 => ?_
    simp only [go_sem]
    refine b0r (fun hc42 => ?_) (fun hc42 => ?_)
    ·rw [b04 hc42] at hm1
     simp only [b02, b0h, b0i]
     refine hK41 _ _ ?_
     refine b0u fun K43 hK43 => ?_
     simp only [b05]
     refine b0d fun K hK => ?_
     simp only [go_sem, s41]
     refine hK _ _ ?_
     clear hK K
     obtain ⟨y45, h_y45, hm1⟩ := b0g hm1
     refine b0d fun K hK => ?_
     simp only [go_sem, s1]
     refine b1o (d0y h_ x_41 _ h_y45) ?_
     simp only [go_sem, s1]
     refine hK _ _ ?_
     clear hK K
     simp only [go_sem]
     refine b0r (fun hc46 => ?_) (fun hc46 => ?_)
     ·rw [b04 hc46] at hm1
      refine b0d fun K hK => ?_
      simp only [go_sem]
      refine hK _ _ ?_
      clear hK K
      simp only [b1c, b1e, b1d, b1f]
      obtain rfl := Option.some.inj hm1
      obtain rfl := hb40 _ rfl
      try dsimp only at hm0
      obtain rfl := Option.some.inj hm0
      exact b1s (by simp only [go_sem, List.length_append, List.map_append]) (b0j _)
     ·rw [b03 hc46] at hm1
      simp only [b02, b0h, b0i]
      refine hK43 _ _ ?_
      refine b1n fun K hK => ?_
      simp only [go_sem, s41]
      refine hK _ _ ?_
      clear hK K
      simp only [b0h, b0i]
      obtain rfl := Option.some.inj hm1
      refine ⟨_, rfl, ?_⟩
      exact ⟨s1, s40, (by first | (simp only [go_sem, s41, List.length_append, List.map_append]; done) | rfl)⟩
    ·rw [b03 hc42] at hm1
     simp only [b1w, b1z, b1y, b1x, b0h, b0i, Nat.reduceEqDiff, not_false_eq_true]
     obtain rfl := Option.some.inj hm1
     obtain rfl := hb40 _ rfl
     try dsimp only at hm0
     exact J9  _ _ s1 hm0
theorem d0p (hf : Has O "newel/halls.Check$1" x_halls_CheckD1) (d01 : c7r O) : c7f O := by
 intro t_ c0 r hm0
 unfold b7g at hm0
 refine b2k hf rfl (b0e (.agg _ (b0e (b0j _) (b0e (b0j _) (b0e (b0w fun a _ => c2d a) b0z)))) (b0e (.fp _ _ (b0e (b0w fun a _ => b2l a) (b0e (b0w fun a _ => b2n a) (b0e (b0w fun a _ => b2p a) (b0e (b0j _) b0z))))) b0z)) (b0j _) ?_
 refine b2f (fun t h => t 0 = .agg [I t_.At.Low, I t_.At.High, .fs 3 (List.map b2j t_.Crowds)] ∧ t 1 = .fp [.fs 5 (List.map b0n c0.Combs), .fs 3 (List.map b0k c0.Trains), .fs 3 (List.map b0s c0.Shifts), I c0.Until] 0) ⟨rfl, rfl⟩ fun t h ⟨s0, s1⟩ => ?_
 simp only [x_halls_CheckD1]
 refine b0d fun K hK => ?_
 simp only [go_sem, s0]
 refine hK _ _ ?_
 clear hK K
 obtain ⟨y2, h_y2, hm0⟩ := b0g hm0
 refine b0d fun K hK => ?_
 simp only [go_sem, s1]
 refine b1o (d01 c0 t_ _ h_y2) ?_
 simp only [go_sem, s1]
 refine hK _ _ ?_
 clear hK K
 simp only [b1c, b1e, b1d, b1f]
 obtain rfl := Option.some.inj hm0
 exact b1s (by simp only [go_sem, List.length_append, List.map_append]) (b0j _)
theorem d0q (hf : Has O "newel/halls.Guard" x_halls_Guard) (b85 : c1n O) (d02 : c7s O) (d0w : c7m O) (c3b : c4c O) : c7g O := by
 intro h_ comb from_ r hm0
 unfold c2j at hm0
 refine b2k hf rfl (b0e (.agg _ (b0e (b0w fun a _ => b2l a) (b0e (b0w fun a _ => b2n a) (b0e (b0w fun a _ => b2p a) (b0e (b0j _) b0z))))) (b0e (b0j _) (b0e (b0j _) b0z))) (.tup _ (b0e (b0j _) (b0e (b0j _) b0z))) ?_
 refine b2f (fun t h => t 0 = .agg [.fs 5 (List.map b0n h_.Combs), .fs 3 (List.map b0k h_.Trains), .fs 3 (List.map b0s h_.Shifts), I h_.Until] ∧ t 1 = I comb ∧ t 2 = I from_) ⟨rfl, rfl, rfl⟩ fun t h ⟨s0, s1, s2⟩ => ?_
 simp only [x_halls_Guard]
 refine b0d fun K hK => ?_
 simp only [go_sem, s0]
 refine hK _ _ ?_
 clear hK K
 refine b06 ?_
 obtain ⟨y2, h_y2, hm0⟩ := b0g hm0
 refine b0d fun K hK => ?_
 simp only [go_sem, s1, s2]
 refine c5z ?_ (b85 h_ comb ([from_]) _ h_y2) (.v _) ?_
 ·exact .cons (.refl _ (.agg _ (b0e (b0w fun a _ => b2l a) (b0e (b0w fun a _ => b2n a) (b0e (b0w fun a _ => b2p a) (b0e (b0j _) b0z)))))) (.cons (.refl _ (b0j _)) (.cons (b5j (f := eI) (l := ([from_])) (id := h.nx) (by simp only [go_sem, List.length_append, List.map_append]) (by first | rfl | simp only [go_sem, List.length_append, List.map_append]) b2i b4v) (.nil)))
 simp only [go_sem, s1, s2]
 refine hK _ _ ?_
 clear hK K
 refine b06 ?_
 refine b0d fun K hK => ?_
 simp only [go_sem]
 refine hK _ _ ?_
 clear hK K
 refine b0u fun K3 hK3 => ?_
 simp only [go_sem]
 refine b0r (fun hc4 => ?_) (fun hc4 => ?_)
 ·rw [b04 hc4] at hm0
  refine b0d fun K hK => ?_
  simp only [go_sem]
  refine hK _ _ ?_
  clear hK K
  simp only [b1c, b1e, b1d, b1f]
  obtain rfl := Option.some.inj hm0
  exact c18 (by simp only [go_sem, List.length_append, List.map_append]) (by simp only [go_sem, List.length_append, List.map_append]) (b0j _) (b0j _)
 ·rw [b03 hc4] at hm0
  simp only [b02, b0h, b0i]
  refine hK3 _ _ ?_
  obtain ⟨y6, h_y6, hm0⟩ := b0g hm0
  refine b2e (fun t h => ∃ v9 : AV, ∃ hs9 : List AV, t 1 = I comb ∧ t 2 = I from_ ∧ t 3 = .fp [.fs 5 (List.map b0n h_.Combs), .fs 3 (List.map b0k h_.Trains), .fs 3 (List.map b0s h_.Shifts), I h_.Until] 0 ∧ t 9 = v9 ∧ RR h v9 hs9 1 eI y6) (fun K hK => ?_) ?_
  ·simp only [go_sem]
   refine d7c (d02 h_ _  _ h_y6) ?_
   rintro rv_y6 hq_y6 ⟨rh_y6, rw_y6, fr_y6, fx_y6, ge_y6⟩
   simp only [go_sem]
   exact hK _ _ ⟨rv_y6, rh_y6, s1, s2, (by first | (simp only [go_sem, List.length_append, List.map_append]; done) | rfl), (by first | (simp only [go_sem, List.length_append, List.map_append]; done) | rfl), rw_y6⟩
  ·rintro t h ⟨v9, hs9, s1, s2, s3, s9, qj⟩
   refine b0d fun K hK => ?_
   simp only [go_sem, b0a v9]
   refine hK _ _ ?_
   clear hK K
   simp only [b05]
   obtain ⟨b7, hl7, hm0⟩ := b0g hm0
   refine b10 hl7 (fun | (all_9, n_10), t, h => ∃ v9_1 : AV, t 1 = I comb ∧ t 2 = I from_ ∧ t 3 = .fp [.fs 5 (List.map b0n h_.Combs), .fs 3 (List.map b0k h_.Trains), .fs 3 (List.map b0s h_.Shifts), I h_.Until] 0 ∧ t 9 = v9_1 ∧ t 10 = I n_10 ∧ RR h v9_1 hs9 1 eI all_9) ?_ ?_
   ·exact ⟨v9, s1, s2, s3, s9, (by first | (simp only [go_sem, List.length_append, List.map_append]; done) | rfl), qj⟩
   ·rintro ⟨all_9, n_10⟩ o t h ⟨v9_1, s1, s2, s3, s9, s10, qj⟩ hm1 hb7
    simp only [c5b] at hm1
    rw [g0y]
    refine b0u fun K8 hK8 => ?_
    simp only [b05]
    refine b06 ?_
    obtain ⟨y11, h_y11, hm1⟩ := b0g hm1
    obtain ⟨y12, h_y12, hm1⟩ := b0g hm1
    refine b2e (fun t h => t 1 = I comb ∧ t 2 = I from_ ∧ t 3 = .fp [.fs 5 (List.map b0n h_.Combs), .fs 3 (List.map b0k h_.Trains), .fs 3 (List.map b0s h_.Shifts), I h_.Until] 0 ∧ t 9 = v9_1 ∧ t 10 = I n_10 ∧ t 29 = B (decide ((List.length y12 : Int) = 0)) ∧ RR h v9_1 hs9 1 eI all_9) (fun K hK => ?_) ?_
    ·simp only [go_sem, s3, s9, b3b qj, b0a v9, b0a v9_1]
     refine d7c (d0w h_ all_9 v9_1 hs9 _ qj _ h_y11) ?_
     rintro _ hq_y11 ⟨rfl, fr_y11, fx_y11⟩
     simp only [go_sem, s3, s9, b3b qj, b0a v9, b0a v9_1]
     refine b1o (c3b h_ y11 _ h_y12) ?_
     simp only [go_sem, s3, s9, b3b qj, b0a v9, b0a v9_1]
     exact hK _ _ ⟨s1, s2, s3, s9, s10, (by first | (simp only [go_sem, List.length_append, List.map_append]; done) | rfl), (b3k qj (by intro j hj  hl; first | rfl | simp only [go_sem, hl, fr_y11]) (by first | omega | exact Nat.le_refl _ | (simp only [go_sem, nxs] <;> omega)))⟩
    ·rintro t h ⟨s1, s2, s3, s9, s10, s29, qj⟩
     refine b0u fun K13 hK13 => ?_
     simp only [go_sem, s29]
     refine b0r (fun hc14 => ?_) (fun hc14 => ?_)
     ·rw [b04 hc14] at hm1
      refine b0d fun K hK => ?_
      simp only [go_sem, s10, b0a v9, b0a v9_1]
      refine hK _ _ ?_
      clear hK K
      simp only [b1c, b1e, b1d, b1f]
      obtain rfl := Option.some.inj hm1
      obtain rfl := hb7 _ rfl
      try dsimp only at hm0
      obtain rfl := Option.some.inj hm0
      exact c18 (by simp only [go_sem, b2c qj, List.length_append, List.map_append]) (by simp only [go_sem, b2c qj, List.length_append, List.map_append]) (b0j _) (b0j _)
     ·rw [b03 hc14] at hm1
      simp only [b02, b0h, b0i]
      refine hK13 _ _ ?_
      refine b06 ?_
      refine b0d fun K hK => ?_
      simp only [go_sem, s2, s3, s10, b0a v9, b0a v9_1]
      refine hK _ _ ?_
      clear hK K
      refine b0u fun K15 hK15 => ?_
      simp only [go_sem]
      refine b0r (fun hc16 => ?_) (fun hc16 => ?_)
      ·rw [b04 hc16] at hm1
       refine b0d fun K hK => ?_
       simp only [go_sem, b0a v9, b0a v9_1]
       refine hK _ _ ?_
       clear hK K
       simp only [b1c, b1e, b1d, b1f]
       obtain rfl := Option.some.inj hm1
       obtain rfl := hb7 _ rfl
       try dsimp only at hm0
       obtain rfl := Option.some.inj hm0
       exact c18 (by simp only [go_sem, b2c qj, List.length_append, List.map_append]) (by simp only [go_sem, b2c qj, List.length_append, List.map_append]) (b0j _) (b0j _)
      ·rw [b03 hc16] at hm1
       simp only [b02, b0h, b0i]
       refine hK15 _ _ ?_
       obtain ⟨x19, h_x19, hm1⟩ := b0g hm1
       have h_x190 := b0x h_x19
       have h_x191 := b0y h_x19
       obtain ⟨iqp34, rfl, q13, q12⟩ := b67 qj h_x19
       obtain ⟨wp35, hw_wp35, os_wp35⟩ := b64 qj h_x19
       obtain ⟨x20, h_x20, hm1⟩ := b0g hm1
       have h_x200 := b0x h_x20
       have h_x201 := b0y h_x20
       obtain ⟨irp36, rfl, obr_irp36, ltr_irp36⟩ := b5o os_wp35 h_x20
       refine b7c (fun t h => ∃ v9_2 : AV, t 1 = I comb ∧ t 2 = I from_ ∧ t 3 = .fp [.fs 5 (List.map b0n h_.Combs), .fs 3 (List.map b0k h_.Trains), .fs 3 (List.map b0s h_.Shifts), I h_.Until] 0 ∧ t 9 = v9_2 ∧ t 10 = I n_10 ∧ RR h v9_2 hs9 1 eI (List.set all_9 (Int.toNat comb) (List.set x19 (Int.toNat (wr (from_ + n_10))) 0))) (fun K hK => ?_) ?_
       ·simp only [go_sem, s1, s2, s9, b3b qj, s10, q13, q12, b0l h_x19, b0m h_x19, h_x190, h_x191, b0l hw_wp35, b0m hw_wp35, b46 os_wp35, b0l h_x20, b0m h_x20, h_x200, h_x201, obr_irp36, ltr_irp36, b0a v9]
        exact hK _ _ ⟨(.rs iqp34 0 (List.length all_9)), s1, s2, s3, (by first | (simp only [go_sem, s9, List.length_append, List.map_append]; done) | rfl), s10, (c6v qj h_x19 hw_wp35 (by simp only [go_sem, b2c qj, q13, q12, b3h qj hw_wp35, b0c (b3h qj hw_wp35), List.length_append, List.map_append]) (by simp only [List.length_set]) (by intro j hj hne hl; first | rfl | simp only [go_sem, hne, hl, q12]) (by first | omega | exact Nat.le_refl _ | (simp only [go_sem, nxs] <;> omega)))⟩
       ·try clear s1 s2 s3 s9 s10 s29 qj q13 q12
        rintro t h ⟨v9_2, s1, s2, s3, s9, s10, qj⟩
        simp only [b0h, b0i]
        refine hK8 _ _ ?_
        refine b1n fun K hK => ?_
        simp only [go_sem, s10, b0a v9, b0a v9_2]
        refine hK _ _ ?_
        clear hK K
        simp only [b0h, b0i]
        obtain rfl := Option.some.inj hm1
        refine ⟨_, rfl, ?_⟩
        exact ⟨v9_2, s1, s2, s3, s9, (by first | (simp only [go_sem, s10, List.length_append, List.map_append]; done) | rfl), qj⟩
theorem d0r (hf : Has O "newel/halls.Most" x_halls_Most) (b85 : c1n O) (b86 : c1o O) (b84 : c1m O) : c7h O := by
 intro h_ comb r hm0
 unfold c2k at hm0
 refine b2k hf rfl (b0e (.agg _ (b0e (b0w fun a _ => b2l a) (b0e (b0w fun a _ => b2n a) (b0e (b0w fun a _ => b2p a) (b0e (b0j _) b0z))))) (b0e (b0j _) b0z)) (.tup _ (b0e (b0w fun a _ => b2i a) (b0e (b0j _) b0z))) ?_
 refine b2f (fun t h => t 0 = .agg [.fs 5 (List.map b0n h_.Combs), .fs 3 (List.map b0k h_.Trains), .fs 3 (List.map b0s h_.Shifts), I h_.Until] ∧ t 1 = I comb) ⟨rfl, rfl⟩ fun t h ⟨s0, s1⟩ => ?_
 simp only [x_halls_Most]
 refine b0d fun K hK => ?_
 simp only [go_sem, s0]
 refine hK _ _ ?_
 clear hK K
 refine b06 ?_
 obtain ⟨y2, h_y2, hm0⟩ := b0g hm0
 refine b0d fun K hK => ?_
 simp only [go_sem, s1]
 refine g8y ?_ (b0e (.agg _ (b0e (b0w fun a _ => b2l a) (b0e (b0w fun a _ => b2n a) (b0e (b0w fun a _ => b2p a) (b0e (b0j _) b0z))))) (b0e (b0j _) (b0e (b0j _) b0z))) (b85 h_ comb ([]) _ h_y2) ?_
 ·exact .cons (.refl _ (.agg _ (b0e (b0w fun a _ => b2l a) (b0e (b0w fun a _ => b2n a) (b0e (b0w fun a _ => b2p a) (b0e (b0j _) b0z)))))) (.cons (.refl _ (b0j _)) (.cons (.nil _) (.nil)))
 simp only [go_sem, s1]
 refine hK _ _ ?_
 clear hK K
 refine b06 ?_
 refine b0d fun K hK => ?_
 simp only [go_sem]
 refine hK _ _ ?_
 clear hK K
 refine b0u fun K3 hK3 => ?_
 simp only [go_sem]
 refine b0r (fun hc4 => ?_) (fun hc4 => ?_)
 ·rw [b04 hc4] at hm0
  refine b0d fun K hK => ?_
  simp only [go_sem]
  refine hK _ _ ?_
  clear hK K
  simp only [b1c, b1e, b1d, b1f]
  obtain rfl := Option.some.inj hm0
  exact c17 (v := .v (.slice none 0 0)) (u := I y2) (by simp only [go_sem, List.length_append, List.map_append]) (by simp only [go_sem, List.length_append, List.map_append]) (.nil _) (.refl _ (b0j _))
 ·rw [b03 hc4] at hm0
  simp only [b02, b0h, b0i]
  refine hK3 _ _ ?_
  obtain ⟨y8, h_y8, hm0⟩ := b0g hm0
  obtain ⟨y9, h_y9, hm0⟩ := b0g hm0
  obtain ⟨x10, h_x10, hm0⟩ := b0g hm0
  have h_x100 := b0x h_x10
  have h_x101 := b0y h_x10
  refine b0d fun K hK => ?_
  simp only [go_sem, s1, b0l h_x10, b0m h_x10, h_x100, h_x101]
  refine b1o (b86 h_ _ h_y8) ?_
  simp only [go_sem, s1, b0l h_x10, b0m h_x10, h_x100, h_x101]
  refine b1o (b84 h_ y8 _ h_y9) ?_
  simp only [go_sem, s1, b0l h_x10, b0m h_x10, h_x100, h_x101]
  refine hK _ _ ?_
  clear hK K
  simp only [b1c, b1e, b1d, b1f]
  obtain rfl := Option.some.inj hm0
  exact c18 (by simp only [go_sem, List.length_append, List.map_append]) (by simp only [go_sem, List.length_append, List.map_append]) (b0w fun a _ => b2i a) (b0j _)
theorem d0s (hf : Has O "newel/halls.Over" x_halls_Over) (b83 : c1l O) (b86 : c1o O) (b84 : c1m O) (c3b : c4c O) : c7i O := by
 intro h_ r hm0
 unfold c2l at hm0
 refine b2k hf rfl (b0e (.agg _ (b0e (b0w fun a _ => b2l a) (b0e (b0w fun a _ => b2n a) (b0e (b0w fun a _ => b2p a) (b0e (b0j _) b0z))))) b0z) (.tup _ (b0e (b0w fun a _ => c45 a) (b0e (b0j _) b0z))) ?_
 refine b2f (fun t h => t 0 = .agg [.fs 5 (List.map b0n h_.Combs), .fs 3 (List.map b0k h_.Trains), .fs 3 (List.map b0s h_.Shifts), I h_.Until]) rfl fun t h s0 => ?_
 simp only [x_halls_Over]
 refine b0d fun K hK => ?_
 simp only [go_sem, s0]
 refine hK _ _ ?_
 clear hK K
 refine b06 ?_
 obtain ⟨y2, h_y2, hm0⟩ := b0g hm0
 refine b0d fun K hK => ?_
 simp only [go_sem]
 refine b1o (b83 h_ _ h_y2) ?_
 simp only [go_sem]
 refine hK _ _ ?_
 clear hK K
 refine b06 ?_
 refine b0d fun K hK => ?_
 simp only [go_sem]
 refine hK _ _ ?_
 clear hK K
 refine b0u fun K3 hK3 => ?_
 simp only [go_sem]
 refine b0r (fun hc4 => ?_) (fun hc4 => ?_)
 ·rw [b04 hc4] at hm0
  refine b0d fun K hK => ?_
  simp only [go_sem]
  refine hK _ _ ?_
  clear hK K
  simp only [b1c, b1e, b1d, b1f]
  obtain rfl := Option.some.inj hm0
  exact c17 (v := .v (.slice none 0 0)) (u := I y2) (by simp only [go_sem, List.length_append, List.map_append]) (by simp only [go_sem, List.length_append, List.map_append]) (.nil _) (.refl _ (b0j _))
 ·rw [b03 hc4] at hm0
  simp only [b02, b0h, b0i]
  refine hK3 _ _ ?_
  obtain ⟨y8, h_y8, hm0⟩ := b0g hm0
  obtain ⟨y9, h_y9, hm0⟩ := b0g hm0
  obtain ⟨y10, h_y10, hm0⟩ := b0g hm0
  refine b0d fun K hK => ?_
  simp only [go_sem]
  refine b1o (b86 h_ _ h_y8) ?_
  simp only [go_sem]
  refine b1o (b84 h_ y8 _ h_y9) ?_
  simp only [go_sem]
  refine b1o (c3b h_ y9 _ h_y10) ?_
  simp only [go_sem]
  refine hK _ _ ?_
  clear hK K
  simp only [b1c, b1e, b1d, b1f]
  obtain rfl := Option.some.inj hm0
  exact c18 (by simp only [go_sem, List.length_append, List.map_append]) (by simp only [go_sem, List.length_append, List.map_append]) (b0w fun a _ => c45 a) (b0j _)
theorem d0t (hf : Has O "newel/halls.Play" x_halls_Play) (b83 : c1l O) (d0z : c7p O) (b87 : c1p O) : c7j O := by
 intro h_ d r hm0
 unfold c2m at hm0
 refine b2k hf rfl (b0e (.agg _ (b0e (b0w fun a _ => b2l a) (b0e (b0w fun a _ => b2n a) (b0e (b0w fun a _ => b2p a) (b0e (b0j _) b0z))))) (b0e (.agg _ (b0e (b0w fun a _ => b2i a) (b0e (b0w fun a _ => b3g a) (b0e (b0w fun a _ => b3g a) b0z)))) b0z)) (.tup _ (b0e (b0w fun a _ => b3g a) (b0e (b0j _) b0z))) ?_
 refine b2f (fun t h => t 0 = .agg [.fs 5 (List.map b0n h_.Combs), .fs 3 (List.map b0k h_.Trains), .fs 3 (List.map b0s h_.Shifts), I h_.Until] ∧ t 1 = .agg [.fs 1 (List.map eI d.At), .fs 1 (List.map b0o d.People), .fs 1 (List.map b0o d.Walks)]) ⟨rfl, rfl⟩ fun t h ⟨s0, s1⟩ => ?_
 simp only [x_halls_Play]
 refine b0d fun K hK => ?_
 simp only [go_sem, s0, s1]
 refine hK _ _ ?_
 clear hK K
 refine b06 ?_
 obtain ⟨y2, h_y2, hm0⟩ := b0g hm0
 refine b0d fun K hK => ?_
 simp only [go_sem]
 refine b1o (b83 h_ _ h_y2) ?_
 simp only [go_sem]
 refine hK _ _ ?_
 clear hK K
 refine b06 ?_
 refine b0d fun K hK => ?_
 simp only [go_sem]
 refine hK _ _ ?_
 clear hK K
 refine b0u fun K3 hK3 => ?_
 simp only [go_sem]
 refine b0r (fun hc4 => ?_) (fun hc4 => ?_)
 ·rw [b04 hc4] at hm0
  refine b0d fun K hK => ?_
  simp only [go_sem]
  refine hK _ _ ?_
  clear hK K
  simp only [b1c, b1e, b1d, b1f]
  obtain rfl := Option.some.inj hm0
  exact c17 (v := .v (.slice none 0 0)) (u := I y2) (by simp only [go_sem, List.length_append, List.map_append]) (by simp only [go_sem, List.length_append, List.map_append]) (.nil _) (.refl _ (b0j _))
 ·rw [b03 hc4] at hm0
  simp only [b02, b0h, b0i]
  refine hK3 _ _ ?_
  refine b06 ?_
  obtain ⟨y6, h_y6, hm0⟩ := b0g hm0
  refine b0d fun K hK => ?_
  simp only [go_sem]
  refine b1o (d0z h_ d _ h_y6) ?_
  simp only [go_sem]
  refine hK _ _ ?_
  clear hK K
  refine b0u fun K7 hK7 => ?_
  simp only [go_sem]
  refine b0r (fun hc8 => ?_) (fun hc8 => ?_)
  ·rw [b04 hc8] at hm0
   refine b0d fun K hK => ?_
   simp only [go_sem]
   refine hK _ _ ?_
   clear hK K
   simp only [b1c, b1e, b1d, b1f]
   obtain rfl := Option.some.inj hm0
   exact c17 (v := .v (.slice none 0 0)) (u := I 61) (by simp only [go_sem, List.length_append, List.map_append]) (by simp only [go_sem, List.length_append, List.map_append]) (.nil _) (.refl _ (b0j _))
  ·rw [b03 hc8] at hm0
   simp only [b02, b0h, b0i]
   refine hK7 _ _ ?_
   refine b0d fun K hK => ?_
   simp only [go_sem]
   refine hK _ _ ?_
   clear hK K
   refine b06 ?_
   refine b0d fun K hK => ?_
   simp only [go_sem]
   refine hK _ _ ?_
   clear hK K
   refine b0u fun K9 hK9 => ?_
   have J10 : ∀ (rows_7 : List (List Int)) (v7 : AV) (hs7 : List AV) (t : Slots) (h : Heap), t 2 = .fp [.fs 5 (List.map b0n h_.Combs), .fs 3 (List.map b0k h_.Trains), .fs 3 (List.map b0s h_.Shifts), I h_.Until] 0 → t 3 = .fp [.fs 1 (List.map eI d.At), .fs 1 (List.map b0o d.People), .fs 1 (List.map b0o d.Walks)] 0 → t 7 = v7 → RR h v7 hs7 1 eI rows_7 → c5c h_ d rows_7 = some r → K9 t h := by
    intro rows_7 v7 hs7 t h s2 s3 s7 q0 hm0
    refine hK9 _ _ ?_
    unfold c5c at hm0
    refine b06 ?_
    refine b0d fun K hK => ?_
    simp only [go_sem, s2, b0a v7]
    refine hK _ _ ?_
    clear hK K
    refine b0u fun K11 hK11 => ?_
    have J12 : ∀ (rows_7_1 : List (List Int)) (v7_1 : AV) (t : Slots) (h : Heap), t 2 = .fp [.fs 5 (List.map b0n h_.Combs), .fs 3 (List.map b0k h_.Trains), .fs 3 (List.map b0s h_.Shifts), I h_.Until] 0 → t 3 = .fp [.fs 1 (List.map eI d.At), .fs 1 (List.map b0o d.People), .fs 1 (List.map b0o d.Walks)] 0 → t 7 = v7_1 → RR h v7_1 hs7 1 eI rows_7_1 → c5d h_ d rows_7_1 = some r → K11 t h := by
     intro rows_7_1 v7_1 t h s2 s3 s7 q0 hm0
     refine hK11 _ _ ?_
     unfold c5d at hm0
     obtain ⟨l14, h_l14, hm0⟩ := b0g hm0
     refine b2e (fun t h => ∃ v12 : AV, ∃ hs12 : List AV, t 2 = .fp [.fs 5 (List.map b0n h_.Combs), .fs 3 (List.map b0k h_.Trains), .fs 3 (List.map b0s h_.Shifts), I h_.Until] 0 ∧ t 3 = .fp [.fs 1 (List.map eI d.At), .fs 1 (List.map b0o d.People), .fs 1 (List.map b0o d.Walks)] 0 ∧ t 7 = v7_1 ∧ t 12 = v12 ∧ RR h v7_1 hs7 1 eI rows_7_1 ∧ RR h v12 hs12 1 eI l14 ∧ (∀ j, ¬b0v v12 hs12 j → b0v v7_1 hs7 j)) (fun K hK => ?_) ?_
     ·simp only [go_sem, s2, b0a v7, b0a v7_1]
      refine g9s h_l14 ?_
      simp only [go_sem, s2, b0a v7, b0a v7_1]
      exact hK _ _ ⟨(.rs h.nx 0 (List.length l14)), (List.map (fun _ => nilS) l14), s2, s3, s7, (by first | (simp only [go_sem, List.length_append, List.map_append]; done) | rfl), (b3k q0 (by intro j hj  hl; first | rfl | simp only [go_sem, hl]) (by first | omega | exact Nat.le_refl _ | (simp only [go_sem, nxs] <;> omega))), (j7i (by simp only [go_sem, List.length_append, List.map_append]) rfl (by simp only [go_sem]) (j1e h_l14)), (c1f (fun j hj => (j63 (b0c (b5p hj (by first | assumption | exact b4d (by assumption) (by first | assumption | omega | (simp only [nxs] <;> omega))))))))⟩
     ·rintro t h ⟨v12, hs12, s2, s3, s7, s12, q0, q5, rs_o7_o12⟩
      refine b06 ?_
      refine b0d fun K hK => ?_
      simp only [go_sem, s2, b0a v7, b0a v7_1, b0a v12]
      refine hK _ _ ?_
      clear hK K
      refine b0u fun K15 hK15 => ?_
      have J16 : ∀ (open_12 : List (List Int)) (v12_1 : AV) (hs12_1 : List AV) (t : Slots) (h : Heap), t 2 = .fp [.fs 5 (List.map b0n h_.Combs), .fs 3 (List.map b0k h_.Trains), .fs 3 (List.map b0s h_.Shifts), I h_.Until] 0 → t 3 = .fp [.fs 1 (List.map eI d.At), .fs 1 (List.map b0o d.People), .fs 1 (List.map b0o d.Walks)] 0 → t 7 = v7_1 → t 12 = v12_1 → RR h v7_1 hs7 1 eI rows_7_1 → RR h v12_1 hs12_1 1 eI open_12 → (∀ j, ¬b0v v12_1 hs12_1 j → b0v v7_1 hs7 j) → c5e h_ d rows_7_1 open_12 = some r → K15 t h := by
       intro open_12 v12_1 hs12_1 t h s2 s3 s7 s12 q0 q5 rs_o7_o12 hm0
       refine hK15 _ _ ?_
       unfold c5e at hm0
       refine b06 ?_
       refine b0d fun K hK => ?_
       simp only [go_sem, s7, b3b q0, b0a v7, b0a v7_1, b0a v12, b0a v12_1]
       refine hK _ _ ?_
       clear hK K
       refine b0u fun K17 hK17 => ?_
       have J18 : ∀ (rows_7_2 : List (List Int)) (v7_2 : AV) (t : Slots) (h : Heap), t 7 = v7_2 → RR h v7_2 hs7 1 eI rows_7_2 → c89 rows_7_2 = some r → K17 t h := by
        intro rows_7_2 v7_2 t h s7 q0 hm0
        refine hK17 _ _ ?_
        unfold c89 at hm0
        refine b0d fun K hK => ?_
        simp only [go_sem, s7, b3b q0, b0a v7, b0a v7_1, b0a v12, b0a v12_1, b0a v7_2]
        refine hK _ _ ?_
        clear hK K
        simp only [b1c, b1e, b1d, b1f]
        obtain rfl := Option.some.inj hm0
        exact c17 (v := v7_2) (u := I 0) (by simp only [go_sem, b2c q0, List.length_append, List.map_append]) (by simp only [go_sem, b2c q0, List.length_append, List.map_append]) (j7g (e := b0o) (b3k q0 (by intro j hj  hl; first | rfl | simp only [go_sem, hl]) (by first | omega | exact Nat.le_refl _ | (simp only [go_sem, nxs] <;> omega))) (fun _ => rfl) b2i b4v) (.refl _ (b0j _))
       simp only [b05]
       obtain ⟨b19, hl19, hm0⟩ := b0g hm0
       refine b10 hl19 (fun | (rows_7_2, x_101), t, h => ∃ v7_2 : AV, ∃ v12_2 : AV, t 2 = .fp [.fs 5 (List.map b0n h_.Combs), .fs 3 (List.map b0k h_.Trains), .fs 3 (List.map b0s h_.Shifts), I h_.Until] 0 ∧ t 3 = .fp [.fs 1 (List.map eI d.At), .fs 1 (List.map b0o d.People), .fs 1 (List.map b0o d.Walks)] 0 ∧ t 7 = v7_2 ∧ t 12 = v12_2 ∧ t 99 = v7_2 ∧ t 100 = I (List.length rows_7_1 : Int) ∧ t 101 = I x_101 ∧ RR h v7_2 hs7 1 eI rows_7_2 ∧ RR h v12_2 hs12_1 1 eI open_12 ∧ (∀ j, ¬b0v v12_2 hs12_1 j → b0v v7_2 hs7 j)) ?_ ?_
       ·exact ⟨v7_1, v12_1, s2, s3, s7, s12, (by first | (simp only [go_sem, List.length_append, List.map_append]; done) | rfl), (by first | (simp only [go_sem, List.length_append, List.map_append]; done) | rfl), (by first | (simp only [go_sem, List.length_append, List.map_append]; done) | rfl), q0, q5, (fun j hj => (rs_o7_o12 j hj))⟩
       ·rintro ⟨rows_7_2, x_101⟩ o t h ⟨v7_2, v12_2, s2, s3, s7, s12, s99, s100, s101, q0, q5, rs_o7_o12⟩ hm1 hb19
        simp only [c2q] at hm1
        rw [g04]
        refine b0d fun K hK => ?_
        simp only [go_sem, s100, s101, b0a v7, b0a v7_1, b0a v12, b0a v12_1, b0a v7_2, b0a v12_2]
        refine hK _ _ ?_
        clear hK K
        refine b0u fun K20 hK20 => ?_
        simp only [go_sem]
        refine b0r (fun hc21 => ?_) (fun hc21 => ?_)
        ·rw [b04 hc21] at hm1
         simp only [b02, b0h, b0i]
         refine hK20 _ _ ?_
         refine b0u fun K22 hK22 => ?_
         have J23 : ∀ (rows_7_3 : List (List Int)) (v7_3 : AV) (v12_3 : AV) (t : Slots) (h : Heap), t 2 = .fp [.fs 5 (List.map b0n h_.Combs), .fs 3 (List.map b0k h_.Trains), .fs 3 (List.map b0s h_.Shifts), I h_.Until] 0 → t 3 = .fp [.fs 1 (List.map eI d.At), .fs 1 (List.map b0o d.People), .fs 1 (List.map b0o d.Walks)] 0 → t 7 = v7_3 → t 12 = v12_3 → t 99 = v7_3 → t 100 = I (List.length rows_7_1 : Int) → t 101 = I x_101 → RR h v7_3 hs7 1 eI rows_7_3 → RR h v12_3 hs12_1 1 eI open_12 → (∀ j, ¬b0v v12_3 hs12_1 j → b0v v7_3 hs7 j) → c5f x_101 rows_7_3 = some o → K22 t h := by
          try clear s2 s3 s7 s12 s99 s100 s101 q0 q5 rs_o7_o12
          intro rows_7_3 v7_3 v12_3 t h s2 s3 s7 s12 s99 s100 s101 q0 q5 rs_o7_o12 hm1
          refine hK22 _ _ ?_
          unfold c5f at hm1
          refine b1n fun K hK => ?_
          simp only [go_sem, s101, b0a v7, b0a v7_1, b0a v12, b0a v12_1, b0a v7_2, b0a v12_2, b0a v7_3, b0a v12_3]
          refine hK _ _ ?_
          clear hK K
          simp only [b0h, b0i]
          obtain rfl := Option.some.inj hm1
          refine ⟨_, rfl, ?_⟩
          exact ⟨v7_3, v12_3, s2, s3, s7, s12, s99, s100, (by first | (simp only [go_sem, s101, List.length_append, List.map_append]; done) | rfl), q0, q5, (fun j hj => (rs_o7_o12 j hj))⟩
         simp only [b05]
         obtain ⟨x25, h_x25, hm1⟩ := b0g hm1
         have h_x250 := b0x h_x25
         have h_x251 := b0y h_x25
         obtain ⟨iqp1087, rfl, qm, qh⟩ := b67 q0 h_x25
         obtain ⟨wp1088, hw_wp1088, os_wp1088⟩ := b64 q0 h_x25
         refine b2e (fun t h => ∃ v7_3 : AV, ∃ w15 : AV, t 2 = .fp [.fs 5 (List.map b0n h_.Combs), .fs 3 (List.map b0k h_.Trains), .fs 3 (List.map b0s h_.Shifts), I h_.Until] 0 ∧ t 3 = .fp [.fs 1 (List.map eI d.At), .fs 1 (List.map b0o d.People), .fs 1 (List.map b0o d.Walks)] 0 ∧ t 7 = v7_3 ∧ t 12 = v12_2 ∧ t 14 = I x_101 ∧ t 15 = w15 ∧ t 99 = v7_3 ∧ t 100 = I (List.length rows_7_1 : Int) ∧ t 101 = I x_101 ∧ RR h v7_3 hs7 1 eI rows_7_2 ∧ RR h v12_2 hs12_1 1 eI open_12 ∧ get hs7 x_101 = some w15 ∧ (∀ j, ¬b0v v12_2 hs12_1 j → b0v v7_3 hs7 j)) (fun K hK => ?_) ?_
         ·simp only [go_sem, s99, b3b q0, s101, qm, qh, b0l h_x25, b0m h_x25, h_x250, h_x251, b0l hw_wp1088, b0m hw_wp1088, b46 os_wp1088, b0a v7, b0a v7_1, b0a v12, b0a v12_1, b0a v12_2]
          exact hK _ _ ⟨(.rs iqp1087 0 (List.length rows_7_2)), wp1088, s2, s3, (by first | (simp only [go_sem, s7, List.length_append, List.map_append]; done) | rfl), s12, (by first | (simp only [go_sem, List.length_append, List.map_append]; done) | rfl), (by first | (simp only [go_sem, List.length_append, List.map_append]; done) | rfl), (by first | (simp only [go_sem, s99, List.length_append, List.map_append]; done) | rfl), s100, s101, (b3k q0 (by intro j hj  hl; first | rfl | simp only [go_sem, hl]) (by first | omega | exact Nat.le_refl _ | (simp only [go_sem, nxs] <;> omega))), q5, (by first | assumption | simp only [go_sem]), (fun j hj => (rs_o7_o12 j hj))⟩
         ·try clear s2 s3 s7 s12 s99 s100 s101 q0 q5 rs_o7_o12 qm qh
          rintro t h ⟨v7_3, w15, s2, s3, s7, s12, s14, s15, s99, s100, s101, q0, q5, ra_15, rs_o7_o12⟩
          have os_w15 := d9u q0 ra_15 h_x25
          refine b2e (fun t h => ∃ w106 : AV, t 2 = .fp [.fs 5 (List.map b0n h_.Combs), .fs 3 (List.map b0k h_.Trains), .fs 3 (List.map b0s h_.Shifts), I h_.Until] 0 ∧ t 3 = .fp [.fs 1 (List.map eI d.At), .fs 1 (List.map b0o d.People), .fs 1 (List.map b0o d.Walks)] 0 ∧ t 7 = v7_3 ∧ t 12 = v12_2 ∧ t 14 = I x_101 ∧ t 99 = v7_3 ∧ t 100 = I (List.length rows_7_1 : Int) ∧ t 101 = I x_101 ∧ t 106 = w106 ∧ t 107 = I (List.length x25 : Int) ∧ t 108 = I 0 ∧ RR h v7_3 hs7 1 eI rows_7_2 ∧ RR h v12_2 hs12_1 1 eI open_12 ∧ get hs7 x_101 = some w106 ∧ (∀ j, ¬b0v v12_2 hs12_1 j → b0v v7_3 hs7 j)) (fun K hK => ?_) ?_
          ·simp only [go_sem, s15, b3b q0, b46 os_w15, b0l h_x25, b0m h_x25, h_x250, h_x251, b0a v7, b0a v7_1, b0a v12, b0a v12_1, b0a v12_2, b0a v7_3, b0a w15]
           exact hK _ _ ⟨w15, s2, s3, s7, s12, s14, s99, s100, s101, (by first | (simp only [go_sem, List.length_append, List.map_append]; done) | rfl), (by first | (simp only [go_sem, List.length_append, List.map_append]; done) | rfl), (by first | (simp only [go_sem, List.length_append, List.map_append]; done) | rfl), (b3k q0 (by intro j hj  hl; first | rfl | simp only [go_sem, hl]) (by first | omega | exact Nat.le_refl _ | (simp only [go_sem, nxs] <;> omega))), q5, (by first | assumption | simp only [go_sem]), (fun j hj => (rs_o7_o12 j hj))⟩
          ·try clear s2 s3 s7 s12 s14 s15 s99 s100 s101 q0 q5 ra_15 rs_o7_o12
           rintro t h ⟨w106, s2, s3, s7, s12, s14, s99, s100, s101, s106, s107, s108, q0, q5, ra_106, rs_o7_o12⟩
           simp only [b05]
           obtain ⟨b26, hl26, hm1⟩ := b0g hm1
           refine b10 hl26 (fun | (rows_7_3, x_108), t, h => ∃ v7_4 : AV, ∃ v12_3 : AV, ∃ w106_1 : AV, t 2 = .fp [.fs 5 (List.map b0n h_.Combs), .fs 3 (List.map b0k h_.Trains), .fs 3 (List.map b0s h_.Shifts), I h_.Until] 0 ∧ t 3 = .fp [.fs 1 (List.map eI d.At), .fs 1 (List.map b0o d.People), .fs 1 (List.map b0o d.Walks)] 0 ∧ t 7 = v7_4 ∧ t 12 = v12_3 ∧ t 14 = I x_101 ∧ t 99 = v7_4 ∧ t 100 = I (List.length rows_7_1 : Int) ∧ t 101 = I x_101 ∧ t 106 = w106_1 ∧ t 107 = I (List.length x25 : Int) ∧ t 108 = I x_108 ∧ RR h v7_4 hs7 1 eI rows_7_3 ∧ RR h v12_3 hs12_1 1 eI open_12 ∧ get hs7 x_101 = some w106_1 ∧ (∀ j, ¬b0v v12_3 hs12_1 j → b0v v7_4 hs7 j)) ?_ ?_
           ·exact ⟨v7_3, v12_2, w106, s2, s3, s7, s12, s14, s99, s100, s101, s106, s107, s108, q0, q5, (by first | assumption | simp only [go_sem]), (fun j hj => (rs_o7_o12 j hj))⟩
           ·try clear s2 s3 s7 s12 s14 s99 s100 s101 s106 s107 s108 q0 q5 ra_106 rs_o7_o12
            rintro ⟨rows_7_3, x_108⟩ o t h ⟨v7_4, v12_3, w106_1, s2, s3, s7, s12, s14, s99, s100, s101, s106, s107, s108, q0, q5, ra_106, rs_o7_o12⟩ hm2 hb26
            simp only [c0d] at hm2
            rw [g03]
            refine b0d fun K hK => ?_
            simp only [go_sem, s107, s108, b0a v7, b0a v7_1, b0a v12, b0a v12_1, b0a v12_2, b0a v7_3, b0a w15, b0a w106, b0a v7_4, b0a v12_3, b0a w106_1]
            refine hK _ _ ?_
            clear hK K
            refine b0u fun K27 hK27 => ?_
            simp only [go_sem]
            refine b0r (fun hc28 => ?_) (fun hc28 => ?_)
            ·rw [b04 hc28] at hm2
             simp only [b02, b0h, b0i]
             refine hK27 _ _ ?_
             refine b0u fun K29 hK29 => ?_
             have J30 : ∀ (rows_7_4 : List (List Int)) (v7_5 : AV) (v12_4 : AV) (w106_2 : AV) (t : Slots) (h : Heap), t 2 = .fp [.fs 5 (List.map b0n h_.Combs), .fs 3 (List.map b0k h_.Trains), .fs 3 (List.map b0s h_.Shifts), I h_.Until] 0 → t 3 = .fp [.fs 1 (List.map eI d.At), .fs 1 (List.map b0o d.People), .fs 1 (List.map b0o d.Walks)] 0 → t 7 = v7_5 → t 12 = v12_4 → t 14 = I x_101 → t 99 = v7_5 → t 100 = I (List.length rows_7_1 : Int) → t 101 = I x_101 → t 106 = w106_2 → t 107 = I (List.length x25 : Int) → t 108 = I x_108 → RR h v7_5 hs7 1 eI rows_7_4 → RR h v12_4 hs12_1 1 eI open_12 → get hs7 x_101 = some w106_2 → (∀ j, ¬b0v v12_4 hs12_1 j → b0v v7_5 hs7 j) → c0e x_108 rows_7_4 = some o → K29 t h := by
              try clear s2 s3 s7 s12 s14 s99 s100 s101 s106 s107 s108 q0 q5 ra_106 rs_o7_o12
              intro rows_7_4 v7_5 v12_4 w106_2 t h s2 s3 s7 s12 s14 s99 s100 s101 s106 s107 s108 q0 q5 ra_106 rs_o7_o12 hm2
              refine hK29 _ _ ?_
              unfold c0e at hm2
              refine b1n fun K hK => ?_
              simp only [go_sem, s108, b0a v7, b0a v7_1, b0a v12, b0a v12_1, b0a v12_2, b0a v7_3, b0a w15, b0a w106, b0a v7_4, b0a v12_3, b0a w106_1, b0a v7_5, b0a v12_4, b0a w106_2]
              refine hK _ _ ?_
              clear hK K
              simp only [b0h, b0i]
              obtain rfl := Option.some.inj hm2
              refine ⟨_, rfl, ?_⟩
              exact ⟨v7_5, v12_4, w106_2, s2, s3, s7, s12, s14, s99, s100, s101, s106, s107, (by first | (simp only [go_sem, s108, List.length_append, List.map_append]; done) | rfl), q0, q5, (by first | assumption | simp only [go_sem]), (fun j hj => (rs_o7_o12 j hj))⟩
             simp only [b05]
             obtain ⟨x33, h_x33, hm2⟩ := b0g hm2
             have h_x330 := b0x h_x33
             have h_x331 := b0y h_x33
             have os_w106_1 := d9u q0 ra_106 h_x33
             obtain ⟨x34, h_x34, hm2⟩ := b0g hm2
             have h_x340 := b0x h_x34
             have h_x341 := b0y h_x34
             obtain ⟨irp1220, rfl, obr_irp1220, ltr_irp1220⟩ := b5o os_w106_1 h_x34
             refine b2e (fun t h => ∃ w106_2 : AV, t 2 = .fp [.fs 5 (List.map b0n h_.Combs), .fs 3 (List.map b0k h_.Trains), .fs 3 (List.map b0s h_.Shifts), I h_.Until] 0 ∧ t 3 = .fp [.fs 1 (List.map eI d.At), .fs 1 (List.map b0o d.People), .fs 1 (List.map b0o d.Walks)] 0 ∧ t 7 = v7_4 ∧ t 12 = v12_3 ∧ t 14 = I x_101 ∧ t 16 = I x_108 ∧ t 17 = I x34 ∧ t 99 = v7_4 ∧ t 100 = I (List.length rows_7_1 : Int) ∧ t 101 = I x_101 ∧ t 106 = w106_2 ∧ t 107 = I (List.length x25 : Int) ∧ t 108 = I x_108 ∧ RR h v7_4 hs7 1 eI rows_7_3 ∧ RR h v12_3 hs12_1 1 eI open_12 ∧ get hs7 x_101 = some w106_2 ∧ (∀ j, ¬b0v v12_3 hs12_1 j → b0v v7_4 hs7 j)) (fun K hK => ?_) ?_
             ·simp only [go_sem, s106, b3b q0, s108, b0l h_x33, b0m h_x33, h_x330, h_x331, b46 os_w106_1, b0l h_x34, b0m h_x34, h_x340, h_x341, obr_irp1220, ltr_irp1220, b0a v7, b0a v7_1, b0a v12, b0a v12_1, b0a v12_2, b0a v7_3, b0a w15, b0a w106, b0a v7_4, b0a v12_3]
              exact hK _ _ ⟨(.rs irp1220 0 (List.length x33)), s2, s3, s7, s12, s14, (by first | (simp only [go_sem, List.length_append, List.map_append]; done) | rfl), (by first | (simp only [go_sem, List.length_append, List.map_append]; done) | rfl), s99, s100, s101, (by first | (simp only [go_sem, s106, List.length_append, List.map_append]; done) | rfl), s107, s108, (b3k q0 (by intro j hj  hl; first | rfl | simp only [go_sem, hl]) (by first | omega | exact Nat.le_refl _ | (simp only [go_sem, nxs] <;> omega))), q5, (by first | assumption | simp only [go_sem]), (fun j hj => (rs_o7_o12 j hj))⟩
             ·try clear s2 s3 s7 s12 s14 s99 s100 s101 s106 s107 s108 q0 q5 ra_106 rs_o7_o12
              rintro t h ⟨w106_2, s2, s3, s7, s12, s14, s16, s17, s99, s100, s101, s106, s107, s108, q0, q5, ra_106, rs_o7_o12⟩
              obtain ⟨x37, h_x37, hm2⟩ := b0g hm2
              have h_x370 := b0x h_x37
              have h_x371 := b0y h_x37
              obtain ⟨iqp1224, rfl, q4, q1⟩ := b67 q5 h_x37
              obtain ⟨wp1225, hw_wp1225, os_wp1225⟩ := b64 q5 h_x37
              obtain ⟨x38, h_x38, hm2⟩ := b0g hm2
              have h_x380 := b0x h_x38
              have h_x381 := b0y h_x38
              obtain ⟨irp1226, rfl, obr_irp1226, ltr_irp1226⟩ := b5o os_wp1225 h_x38
              refine b2e (fun t h => ∃ v12_4 : AV, ∃ w106_3 : AV, t 2 = .fp [.fs 5 (List.map b0n h_.Combs), .fs 3 (List.map b0k h_.Trains), .fs 3 (List.map b0s h_.Shifts), I h_.Until] 0 ∧ t 3 = .fp [.fs 1 (List.map eI d.At), .fs 1 (List.map b0o d.People), .fs 1 (List.map b0o d.Walks)] 0 ∧ t 7 = v7_4 ∧ t 12 = v12_4 ∧ t 14 = I x_101 ∧ t 16 = I x_108 ∧ t 17 = I x34 ∧ t 18 = I (mn x34 x38) ∧ t 99 = v7_4 ∧ t 100 = I (List.length rows_7_1 : Int) ∧ t 101 = I x_101 ∧ t 106 = w106_3 ∧ t 107 = I (List.length x25 : Int) ∧ t 108 = I x_108 ∧ RR h v7_4 hs7 1 eI rows_7_3 ∧ RR h v12_4 hs12_1 1 eI open_12 ∧ get hs7 x_101 = some w106_3 ∧ (∀ j, ¬b0v v12_4 hs12_1 j → b0v v7_4 hs7 j)) (fun K hK => ?_) ?_
              ·simp only [go_sem, s12, b3b q5, s14, s16, s17, q4, q1, b0l h_x37, b0m h_x37, h_x370, h_x371, b0l hw_wp1225, b0m hw_wp1225, b46 os_wp1225, b0l h_x38, b0m h_x38, h_x380, h_x381, obr_irp1226, ltr_irp1226, b0a v7, b0a v7_1, b0a v12, b0a v12_1, b0a v12_2, b0a v7_3, b0a w15, b0a w106, b0a v7_4, b0a w106_2]
               exact hK _ _ ⟨(.rs iqp1224 0 (List.length open_12)), w106_2, s2, s3, s7, (by first | (simp only [go_sem, s12, List.length_append, List.map_append]; done) | rfl), s14, s16, s17, (by first | (simp only [go_sem, List.length_append, List.map_append]; done) | rfl), s99, s100, s101, s106, s107, s108, q0, (b3k q5 (by intro j hj  hl; first | rfl | simp only [go_sem, hl]) (by first | omega | exact Nat.le_refl _ | (simp only [go_sem, nxs] <;> omega))), (by first | assumption | simp only [go_sem]), (fun j hj => (rs_o7_o12 j hj))⟩
              ·try clear s2 s3 s7 s12 s14 s16 s17 s99 s100 s101 s106 s107 s108 q0 q5 ra_106 rs_o7_o12 q4 q1
               rintro t h ⟨v12_4, w106_3, s2, s3, s7, s12, s14, s16, s17, s18, s99, s100, s101, s106, s107, s108, q0, q5, ra_106, rs_o7_o12⟩
               refine b06 ?_
               refine b0d fun K hK => ?_
               simp only [go_sem, s2, s14, b0a v7, b0a v7_1, b0a v12, b0a v12_1, b0a v12_2, b0a v7_3, b0a w15, b0a w106, b0a v7_4, b0a w106_2, b0a v12_4, b0a w106_3]
               refine hK _ _ ?_
               clear hK K
               refine b0u fun K39 hK39 => ?_
               have J40 : ∀ (rows_7_4 : List (List Int)) (v7_5 : AV) (w106_4 : AV) (t : Slots) (h : Heap), t 2 = .fp [.fs 5 (List.map b0n h_.Combs), .fs 3 (List.map b0k h_.Trains), .fs 3 (List.map b0s h_.Shifts), I h_.Until] 0 → t 3 = .fp [.fs 1 (List.map eI d.At), .fs 1 (List.map b0o d.People), .fs 1 (List.map b0o d.Walks)] 0 → t 7 = v7_5 → t 12 = v12_4 → t 14 = I x_101 → t 16 = I x_108 → t 18 = I (mn x34 x38) → t 99 = v7_5 → t 100 = I (List.length rows_7_1 : Int) → t 101 = I x_101 → t 106 = w106_4 → t 107 = I (List.length x25 : Int) → t 108 = I x_108 → RR h v7_5 hs7 1 eI rows_7_4 → RR h v12_4 hs12_1 1 eI open_12 → get hs7 x_101 = some w106_4 → (∀ j, ¬b0v v12_4 hs12_1 j → b0v v7_5 hs7 j) → c0f h_ d x_101 x_108 x34 x38 rows_7_4 = some o → K39 t h := by
                try clear s2 s3 s7 s12 s14 s16 s17 s18 s99 s100 s101 s106 s107 s108 q0 q5 ra_106 rs_o7_o12
                intro rows_7_4 v7_5 w106_4 t h s2 s3 s7 s12 s14 s16 s18 s99 s100 s101 s106 s107 s108 q0 q5 ra_106 rs_o7_o12 hm2
                refine hK39 _ _ ?_
                unfold c0f at hm2
                obtain ⟨x44, h_x44, hm2⟩ := b0g hm2
                have h_x440 := b0x h_x44
                have h_x441 := b0y h_x44
                obtain ⟨q45, h_q45, hm2⟩ := b0g hm2
                obtain ⟨x46, h_x46, hm2⟩ := b0g hm2
                have h_x460 := b0x h_x46
                have h_x461 := b0y h_x46
                refine b0d fun K hK => ?_
                simp only [go_sem, s3, s14, s16, b0l h_x44, b0m h_x44, h_x440, h_x441, g75 h_q45, b0l h_x46, b0m h_x46, h_x460, h_x461, b0a v7, b0a v7_1, b0a v12, b0a v12_1, b0a v12_2, b0a v7_3, b0a w15, b0a w106, b0a v7_4, b0a w106_2, b0a v12_4, b0a w106_3, b0a v7_5, b0a w106_4]
                refine hK _ _ ?_
                clear hK K
                obtain ⟨x48, h_x48, hm2⟩ := b0g hm2
                have h_x480 := b0x h_x48
                have h_x481 := b0y h_x48
                refine b0d fun K hK => ?_
                simp only [go_sem, s2, s16, b0l h_x48, b0m h_x48, h_x480, h_x481, b0a v7, b0a v7_1, b0a v12, b0a v12_1, b0a v12_2, b0a v7_3, b0a w15, b0a w106, b0a v7_4, b0a w106_2, b0a v12_4, b0a w106_3, b0a v7_5, b0a w106_4]
                refine hK _ _ ?_
                clear hK K
                refine b2e (fun t h => ∃ w106_5 : AV, t 2 = .fp [.fs 5 (List.map b0n h_.Combs), .fs 3 (List.map b0k h_.Trains), .fs 3 (List.map b0s h_.Shifts), I h_.Until] 0 ∧ t 3 = .fp [.fs 1 (List.map eI d.At), .fs 1 (List.map b0o d.People), .fs 1 (List.map b0o d.Walks)] 0 ∧ t 7 = v7_5 ∧ t 12 = v12_4 ∧ t 14 = I x_101 ∧ t 18 = I (mn x34 x38) ∧ t 19 = I x46 ∧ t 20 = I x48.Next ∧ t 99 = v7_5 ∧ t 100 = I (List.length rows_7_1 : Int) ∧ t 101 = I x_101 ∧ t 106 = w106_5 ∧ t 107 = I (List.length x25 : Int) ∧ t 108 = I x_108 ∧ t 170 = B ((decide (0 ≤ x48.Next)) && (decide ((wr (x_101 + x46)) < h_.Until))) ∧ RR h v7_5 hs7 1 eI rows_7_4 ∧ RR h v12_4 hs12_1 1 eI open_12 ∧ get hs7 x_101 = some w106_5 ∧ (∀ j, ¬b0v v12_4 hs12_1 j → b0v v7_5 hs7 j)) (fun K hK => ?_) ?_
                ·simp only [go_sem, s2, s14, b0a v7, b0a v7_1, b0a v12, b0a v12_1, b0a v12_2, b0a v7_3, b0a w15, b0a w106, b0a v7_4, b0a w106_2, b0a v12_4, b0a w106_3, b0a v7_5, b0a w106_4]
                 refine b0r (fun hg49 => ?_) (fun hg49 => ?_)
                 ·simp only [go_sem, s2, s14, hg49, b0a v7, b0a v7_1, b0a v12, b0a v12_1, b0a v12_2, b0a v7_3, b0a w15, b0a w106, b0a v7_4, b0a w106_2, b0a v12_4, b0a w106_3, b0a v7_5, b0a w106_4]
                  exact hK _ _ ⟨w106_4, s2, s3, s7, s12, s14, s18, (by first | (simp only [go_sem, hg49, List.length_append, List.map_append]; done) | rfl), (by first | (simp only [go_sem, hg49, List.length_append, List.map_append]; done) | rfl), s99, s100, s101, s106, s107, s108, (by first | (simp only [go_sem, hg49, List.length_append, List.map_append]; done) | rfl), q0, q5, (by first | assumption | simp only [go_sem]), (fun j hj => (rs_o7_o12 j hj))⟩
                 ·simp only [go_sem, s2, s14, hg49, b0a v7, b0a v7_1, b0a v12, b0a v12_1, b0a v12_2, b0a v7_3, b0a w15, b0a w106, b0a v7_4, b0a w106_2, b0a v12_4, b0a w106_3, b0a v7_5, b0a w106_4]
                  exact hK _ _ ⟨w106_4, s2, s3, s7, s12, s14, s18, (by first | (simp only [go_sem, hg49, List.length_append, List.map_append]; done) | rfl), (by first | (simp only [go_sem, hg49, List.length_append, List.map_append]; done) | rfl), s99, s100, s101, s106, s107, s108, (by first | (simp only [go_sem, hg49, List.length_append, List.map_append]; done) | rfl), q0, q5, (by first | assumption | simp only [go_sem]), (fun j hj => (rs_o7_o12 j hj))⟩
                ·try clear s2 s3 s7 s12 s14 s16 s18 s99 s100 s101 s106 s107 s108 q0 q5 ra_106 rs_o7_o12
                 rintro t h ⟨w106_5, s2, s3, s7, s12, s14, s18, s19, s20, s99, s100, s101, s106, s107, s108, s170, q0, q5, ra_106, rs_o7_o12⟩
                 simp only [go_sem, s170]
                 refine b0r (fun hc50 => ?_) (fun hc50 => ?_)
                 ·rw [b04 hc50] at hm2
                  obtain ⟨x53, h_x53, hm2⟩ := b0g hm2
                  have h_x530 := b0x h_x53
                  have h_x531 := b0y h_x53
                  obtain ⟨iqp1236, rfl, qm, qh⟩ := b67 q0 h_x53
                  obtain ⟨wp1237, hw_wp1237, os_wp1237⟩ := b64 q0 h_x53
                  obtain ⟨x54, h_x54, hm2⟩ := b0g hm2
                  have h_x540 := b0x h_x54
                  have h_x541 := b0y h_x54
                  obtain ⟨irp1238, rfl, obr_irp1238, ltr_irp1238⟩ := b5o os_wp1237 h_x54
                  refine b7c (fun t h => ∃ v7_6 : AV, ∃ w106_6 : AV, t 2 = .fp [.fs 5 (List.map b0n h_.Combs), .fs 3 (List.map b0k h_.Trains), .fs 3 (List.map b0s h_.Shifts), I h_.Until] 0 ∧ t 3 = .fp [.fs 1 (List.map eI d.At), .fs 1 (List.map b0o d.People), .fs 1 (List.map b0o d.Walks)] 0 ∧ t 7 = v7_6 ∧ t 12 = v12_4 ∧ t 14 = I x_101 ∧ t 99 = v7_6 ∧ t 100 = I (List.length rows_7_1 : Int) ∧ t 101 = I x_101 ∧ t 106 = w106_6 ∧ t 107 = I (List.length x25 : Int) ∧ t 108 = I x_108 ∧ RR h v7_6 hs7 1 eI (List.set rows_7_4 (Int.toNat (wr (x_101 + x46))) (List.set x53 (Int.toNat x48.Next) (wr (x54 + (mn x34 x38))))) ∧ RR h v12_4 hs12_1 1 eI open_12 ∧ get hs7 x_101 = some w106_6 ∧ (∀ j, ¬b0v v12_4 hs12_1 j → b0v v7_6 hs7 j)) (fun K hK => ?_) ?_
                  ·simp only [go_sem, s7, b3b q0, s14, s18, s19, s20, qm, qh, b0l h_x53, b0m h_x53, h_x530, h_x531, b0l hw_wp1237, b0m hw_wp1237, b46 os_wp1237, b0l h_x54, b0m h_x54, h_x540, h_x541, obr_irp1238, ltr_irp1238, b0a v7, b0a v7_1, b0a v12, b0a v12_1, b0a v12_2, b0a v7_3, b0a w15, b0a w106, b0a v7_4, b0a w106_2, b0a v12_4, b0a w106_3, b0a w106_4, b0a w106_5]
                   exact hK _ _ ⟨(.rs iqp1236 0 (List.length rows_7_4)), w106_5, s2, s3, (by first | (simp only [go_sem, s7, List.length_append, List.map_append]; done) | rfl), s12, s14, (by first | (simp only [go_sem, s99, List.length_append, List.map_append]; done) | rfl), s100, s101, s106, s107, s108, (c6v q0 h_x53 hw_wp1237 (by simp only [go_sem, b2c q0, qm, qh, b3h q0 hw_wp1237, b0c (b3h q0 hw_wp1237), List.length_append, List.map_append]) (by simp only [List.length_set]) (by intro j hj hne hl; first | rfl | simp only [go_sem, hne, hl, qh]) (by first | omega | exact Nat.le_refl _ | (simp only [go_sem, nxs] <;> omega))), (b3k q5 (by intro j hj  hl; first | rfl | simp only [go_sem, hl, b1k (rs_o7_o12 j hj), b09 (rs_o7_o12 j hj), b0c (b09 (rs_o7_o12 j hj)), b1a (rs_o7_o12 j hj) hw_wp1237, b0c (b1a (rs_o7_o12 j hj) hw_wp1237), qh]) (by first | omega | exact Nat.le_refl _ | (simp only [go_sem, nxs] <;> omega))), (by first | assumption | simp only [go_sem]), (fun j hj => (rs_o7_o12 j hj))⟩
                  ·try clear s2 s3 s7 s12 s14 s18 s19 s20 s99 s100 s101 s106 s107 s108 s170 q0 q5 ra_106 rs_o7_o12 qm qh
                   rintro t h ⟨v7_6, w106_6, s2, s3, s7, s12, s14, s99, s100, s101, s106, s107, s108, q0, q5, ra_106, rs_o7_o12⟩
                   simp only [b0h, b0i]
                   exact J30 (List.set rows_7_4 (Int.toNat (wr (x_101 + x46))) (List.set x53 (Int.toNat x48.Next) (wr (x54 + (mn x34 x38))))) v7_6 v12_4 w106_6 _ _ s2 s3 s7 s12 s14 s99 s100 s101 s106 s107 s108 q0 q5 (by first | assumption | simp only [go_sem]) (fun j hj => (rs_o7_o12 j hj)) hm2
                 ·rw [b03 hc50] at hm2
                  simp only [b02, b0h, b0i]
                  exact J30 rows_7_4 v7_5 v12_4 w106_5 _ _ s2 s3 s7 s12 s14 s99 s100 s101 s106 s107 s108 q0 q5 (by first | assumption | simp only [go_sem]) (fun j hj => (rs_o7_o12 j hj)) hm2
               simp only [go_sem]
               refine b0r (fun hc55 => ?_) (fun hc55 => ?_)
               ·rw [b04 hc55] at hm2
                obtain ⟨x58, h_x58, hm2⟩ := b0g hm2
                have h_x580 := b0x h_x58
                have h_x581 := b0y h_x58
                obtain ⟨iqp1242, rfl, qm, qh⟩ := b67 q0 h_x58
                obtain ⟨wp1243, hw_wp1243, os_wp1243⟩ := b64 q0 h_x58
                obtain ⟨x59, h_x59, hm2⟩ := b0g hm2
                have h_x590 := b0x h_x59
                have h_x591 := b0y h_x59
                obtain ⟨irp1244, rfl, obr_irp1244, ltr_irp1244⟩ := b5o os_wp1243 h_x59
                refine b7c (fun t h => ∃ v7_5 : AV, ∃ w106_4 : AV, t 2 = .fp [.fs 5 (List.map b0n h_.Combs), .fs 3 (List.map b0k h_.Trains), .fs 3 (List.map b0s h_.Shifts), I h_.Until] 0 ∧ t 3 = .fp [.fs 1 (List.map eI d.At), .fs 1 (List.map b0o d.People), .fs 1 (List.map b0o d.Walks)] 0 ∧ t 7 = v7_5 ∧ t 12 = v12_4 ∧ t 14 = I x_101 ∧ t 16 = I x_108 ∧ t 18 = I (mn x34 x38) ∧ t 99 = v7_5 ∧ t 100 = I (List.length rows_7_1 : Int) ∧ t 101 = I x_101 ∧ t 106 = w106_4 ∧ t 107 = I (List.length x25 : Int) ∧ t 108 = I x_108 ∧ RR h v7_5 hs7 1 eI (List.set rows_7_3 (Int.toNat (wr (x_101 + 1))) (List.set x58 (Int.toNat x_108) (wr (x59 + (wr (x34 - (mn x34 x38))))))) ∧ RR h v12_4 hs12_1 1 eI open_12 ∧ get hs7 x_101 = some w106_4 ∧ (∀ j, ¬b0v v12_4 hs12_1 j → b0v v7_5 hs7 j)) (fun K hK => ?_) ?_
                ·simp only [go_sem, s7, b3b q0, s14, s16, s17, s18, qm, qh, b0l h_x58, b0m h_x58, h_x580, h_x581, b0l hw_wp1243, b0m hw_wp1243, b46 os_wp1243, b0l h_x59, b0m h_x59, h_x590, h_x591, obr_irp1244, ltr_irp1244, b0a v7, b0a v7_1, b0a v12, b0a v12_1, b0a v12_2, b0a v7_3, b0a w15, b0a w106, b0a w106_2, b0a v12_4, b0a w106_3]
                 exact hK _ _ ⟨(.rs iqp1242 0 (List.length rows_7_3)), w106_3, s2, s3, (by first | (simp only [go_sem, s7, List.length_append, List.map_append]; done) | rfl), s12, s14, s16, s18, (by first | (simp only [go_sem, s99, List.length_append, List.map_append]; done) | rfl), s100, s101, s106, s107, s108, (c6v q0 h_x58 hw_wp1243 (by simp only [go_sem, b2c q0, qm, qh, b3h q0 hw_wp1243, b0c (b3h q0 hw_wp1243), List.length_append, List.map_append]) (by simp only [List.length_set]) (by intro j hj hne hl; first | rfl | simp only [go_sem, hne, hl, qh]) (by first | omega | exact Nat.le_refl _ | (simp only [go_sem, nxs] <;> omega))), (b3k q5 (by intro j hj  hl; first | rfl | simp only [go_sem, hl, b1k (rs_o7_o12 j hj), b09 (rs_o7_o12 j hj), b0c (b09 (rs_o7_o12 j hj)), b1a (rs_o7_o12 j hj) hw_wp1243, b0c (b1a (rs_o7_o12 j hj) hw_wp1243), qh]) (by first | omega | exact Nat.le_refl _ | (simp only [go_sem, nxs] <;> omega))), (by first | assumption | simp only [go_sem]), (fun j hj => (rs_o7_o12 j hj))⟩
                ·try clear s2 s3 s7 s12 s14 s16 s17 s18 s99 s100 s101 s106 s107 s108 q0 q5 ra_106 rs_o7_o12 qm qh
                 rintro t h ⟨v7_5, w106_4, s2, s3, s7, s12, s14, s16, s18, s99, s100, s101, s106, s107, s108, q0, q5, ra_106, rs_o7_o12⟩
                 simp only [b0h, b0i]
                 exact J40 (List.set rows_7_3 (Int.toNat (wr (x_101 + 1))) (List.set x58 (Int.toNat x_108) (wr (x59 + (wr (x34 - (mn x34 x38))))))) v7_5 w106_4 _ _ s2 s3 s7 s12 s14 s16 s18 s99 s100 s101 s106 s107 s108 q0 q5 (by first | assumption | simp only [go_sem]) (fun j hj => (rs_o7_o12 j hj)) hm2
               ·rw [b03 hc55] at hm2
                simp only [b02, b0h, b0i]
                exact J40 rows_7_3 v7_4 w106_3 _ _ s2 s3 s7 s12 s14 s16 s18 s99 s100 s101 s106 s107 s108 q0 q5 (by first | assumption | simp only [go_sem]) (fun j hj => (rs_o7_o12 j hj)) hm2
            ·rw [b03 hc28] at hm2
             simp only [b1w, b1z, b1y, b1x, b0h, b0i, Nat.reduceEqDiff, not_false_eq_true]
             obtain rfl := Option.some.inj hm2
             obtain rfl := hb26 _ rfl
             try dsimp only at hm1
             exact J23 rows_7_3 v7_4 v12_3 _ _ s2 s3 s7 s12 s99 s100 s101 q0 q5 (fun j hj => (rs_o7_o12 j hj)) hm1
        ·rw [b03 hc21] at hm1
         simp only [b1w, b1z, b1y, b1x, b0h, b0i, Nat.reduceEqDiff, not_false_eq_true]
         obtain rfl := Option.some.inj hm1
         obtain rfl := hb19 _ rfl
         try dsimp only at hm0
         exact J18 rows_7_2 v7_2 _ _ s7 q0 hm0
      simp only [b05]
      obtain ⟨b62, hl62, hm0⟩ := b0g hm0
      refine b10 hl62 (fun | (open_12, x_89), t, h => ∃ v12_1 : AV, ∃ hs12_1 : List AV, t 2 = .fp [.fs 5 (List.map b0n h_.Combs), .fs 3 (List.map b0k h_.Trains), .fs 3 (List.map b0s h_.Shifts), I h_.Until] 0 ∧ t 3 = .fp [.fs 1 (List.map eI d.At), .fs 1 (List.map b0o d.People), .fs 1 (List.map b0o d.Walks)] 0 ∧ t 7 = v7_1 ∧ t 12 = v12_1 ∧ t 88 = I (List.length h_.Combs : Int) ∧ t 89 = I x_89 ∧ RR h v7_1 hs7 1 eI rows_7_1 ∧ RR h v12_1 hs12_1 1 eI open_12 ∧ (∀ j, ¬b0v v12_1 hs12_1 j → b0v v7_1 hs7 j)) ?_ ?_
      ·exact ⟨v12, hs12, s2, s3, s7, s12, (by first | (simp only [go_sem, List.length_append, List.map_append]; done) | rfl), (by first | (simp only [go_sem, List.length_append, List.map_append]; done) | rfl), q0, q5, (fun j hj => (rs_o7_o12 j hj))⟩
      ·rintro ⟨open_12, x_89⟩ o t h ⟨v12_1, hs12_1, s2, s3, s7, s12, s88, s89, q0, q5, rs_o7_o12⟩ hm1 hb62
       simp only [c2p] at hm1
       rw [g02]
       refine b0d fun K hK => ?_
       simp only [go_sem, s88, s89, b0a v7, b0a v7_1, b0a v12, b0a v12_1]
       refine hK _ _ ?_
       clear hK K
       refine b0u fun K63 hK63 => ?_
       simp only [go_sem]
       refine b0r (fun hc64 => ?_) (fun hc64 => ?_)
       ·rw [b04 hc64] at hm1
        simp only [b02, b0h, b0i]
        refine hK63 _ _ ?_
        refine b0u fun K65 hK65 => ?_
        simp only [b05]
        refine b0d fun K hK => ?_
        simp only [go_sem, s89, b0a v7, b0a v7_1, b0a v12, b0a v12_1]
        refine hK _ _ ?_
        clear hK K
        obtain ⟨y68, h_y68, hm1⟩ := b0g hm1
        obtain ⟨x69, h_x69, hm1⟩ := b0g hm1
        have h_x690 := b0x h_x69
        have h_x691 := b0y h_x69
        obtain ⟨iqp1267, rfl, q4, q1⟩ := b67 q5 h_x69
        obtain ⟨wp1268, hw_wp1268, os_wp1268⟩ := b64 q5 h_x69
        refine b7c (fun t h => ∃ v12_2 : AV, ∃ hs12_2 : List AV, t 2 = .fp [.fs 5 (List.map b0n h_.Combs), .fs 3 (List.map b0k h_.Trains), .fs 3 (List.map b0s h_.Shifts), I h_.Until] 0 ∧ t 3 = .fp [.fs 1 (List.map eI d.At), .fs 1 (List.map b0o d.People), .fs 1 (List.map b0o d.Walks)] 0 ∧ t 7 = v7_1 ∧ t 12 = v12_2 ∧ t 88 = I (List.length h_.Combs : Int) ∧ t 89 = I x_89 ∧ RR h v7_1 hs7 1 eI rows_7_1 ∧ RR h v12_2 hs12_2 1 eI (List.set open_12 (Int.toNat x_89) y68) ∧ (∀ j, ¬b0v v12_2 hs12_2 j → b0v v7_1 hs7 j)) (fun K hK => ?_) ?_
        ·simp only [go_sem, s2, s12, b3b q5, q4, q1, b0l h_x69, b0m h_x69, h_x690, h_x691, b0l hw_wp1268, b0m hw_wp1268, b46 os_wp1268, b0a v7, b0a v7_1, b0a v12]
         refine d0g (e := eI) (l := y68) ?_ (b87 h_ x_89 _ h_y68) ?_
         ·exact .cons (.refl _ (.agg _ (b0e (b0w fun a _ => b2l a) (b0e (b0w fun a _ => b2n a) (b0e (b0w fun a _ => b2p a) (b0e (b0j _) b0z)))))) (.cons (.refl _ (b0j _)) (.nil))
         simp only [go_sem, s2, s12, b3b q5, q4, q1, b0l h_x69, b0m h_x69, h_x690, h_x691, b0l hw_wp1268, b0m hw_wp1268, b46 os_wp1268, b0a v7, b0a v7_1, b0a v12]
         exact hK _ _ ⟨(.rs iqp1267 0 (List.length open_12)), (List.set hs12_1 (Int.toNat x_89) (.rs h.nx 0 (List.length y68))), s2, s3, s7, (by first | (simp only [go_sem, s12, List.length_append, List.map_append]; done) | rfl), s88, s89, (b3k q0 (by intro j hj  hl; first | rfl | simp only [go_sem, hl, b1k (c1f rs_o7_o12 j hj), b09 (c1f rs_o7_o12 j hj), b0c (b09 (c1f rs_o7_o12 j hj)), q1]) (by first | omega | exact Nat.le_refl _ | (simp only [go_sem, nxs] <;> omega))), (j7j q5 h_x69 (by simp only [go_sem, b2c q5, q4, q1, List.length_append, List.map_append]) (b3e (by simp only [go_sem, b2c q5, q1, List.length_append, List.map_append]) (by simp only [go_sem, b2c q5, q1, List.length_append, List.map_append]) (by simp only [go_sem])) (b97 (by first | assumption | exact b4d q5 (by first | omega | (simp only [nxs] <;> omega)))) (by intro j hj hne hl; first | rfl | simp only [go_sem, hne, hl, q1]) (by first | omega | exact Nat.le_refl _ | (simp only [go_sem, nxs] <;> omega))), (c1f (fun j hj => (j66 (c1f rs_o7_o12 j hj) (by first | exact b1h | exact b1i (b0c (b5p hj (by first | assumption | exact b4d (by assumption) (by first | assumption | omega | (simp only [nxs] <;> omega))))) | exact b8d (by assumption) j hj))))⟩
        ·try clear s2 s3 s7 s12 s88 s89 q0 q5 rs_o7_o12 q4 q1
         rintro t h ⟨v12_2, hs12_2, s2, s3, s7, s12, s88, s89, q0, q5, rs_o7_o12⟩
         simp only [b0h, b0i]
         refine hK65 _ _ ?_
         refine b1n fun K hK => ?_
         simp only [go_sem, s89, b0a v7, b0a v7_1, b0a v12, b0a v12_2]
         refine hK _ _ ?_
         clear hK K
         simp only [b0h, b0i]
         obtain rfl := Option.some.inj hm1
         refine ⟨_, rfl, ?_⟩
         exact ⟨v12_2, hs12_2, s2, s3, s7, s12, s88, (by first | (simp only [go_sem, s89, List.length_append, List.map_append]; done) | rfl), q0, q5, (fun j hj => (rs_o7_o12 j hj))⟩
       ·rw [b03 hc64] at hm1
        simp only [b1w, b1z, b1y, b1x, b0h, b0i, Nat.reduceEqDiff, not_false_eq_true]
        obtain rfl := Option.some.inj hm1
        obtain rfl := hb62 _ rfl
        try dsimp only at hm0
        exact J16 open_12 v12_1 hs12_1 _ _ s2 s3 s7 s12 q0 q5 (fun j hj => (rs_o7_o12 j hj)) hm0
    simp only [b05]
    obtain ⟨b71, hl71, hm0⟩ := b0g hm0
    refine b10 hl71 (fun | (rows_7_1, x_45), t, h => ∃ v7_1 : AV, t 2 = .fp [.fs 5 (List.map b0n h_.Combs), .fs 3 (List.map b0k h_.Trains), .fs 3 (List.map b0s h_.Shifts), I h_.Until] 0 ∧ t 3 = .fp [.fs 1 (List.map eI d.At), .fs 1 (List.map b0o d.People), .fs 1 (List.map b0o d.Walks)] 0 ∧ t 7 = v7_1 ∧ t 43 = .fs 3 (List.map b0k h_.Trains) ∧ t 44 = I (List.length h_.Trains : Int) ∧ t 45 = I x_45 ∧ RR h v7_1 hs7 1 eI rows_7_1) ?_ ?_
    ·exact ⟨v7, s2, s3, s7, (by first | (simp only [go_sem, List.length_append, List.map_append]; done) | rfl), (by first | (simp only [go_sem, List.length_append, List.map_append]; done) | rfl), (by first | (simp only [go_sem, List.length_append, List.map_append]; done) | rfl), q0⟩
    ·rintro ⟨rows_7_1, x_45⟩ o t h ⟨v7_1, s2, s3, s7, s43, s44, s45, q0⟩ hm1 hb71
     simp only [c0c] at hm1
     rw [g01]
     refine b0d fun K hK => ?_
     simp only [go_sem, s44, s45, b0a v7, b0a v7_1]
     refine hK _ _ ?_
     clear hK K
     refine b0u fun K72 hK72 => ?_
     simp only [go_sem]
     refine b0r (fun hc73 => ?_) (fun hc73 => ?_)
     ·rw [b04 hc73] at hm1
      simp only [b02, b0h, b0i]
      refine hK72 _ _ ?_
      refine b0u fun K74 hK74 => ?_
      have J75 : ∀ (rows_7_2 : List (List Int)) (v7_2 : AV) (t : Slots) (h : Heap), t 2 = .fp [.fs 5 (List.map b0n h_.Combs), .fs 3 (List.map b0k h_.Trains), .fs 3 (List.map b0s h_.Shifts), I h_.Until] 0 → t 3 = .fp [.fs 1 (List.map eI d.At), .fs 1 (List.map b0o d.People), .fs 1 (List.map b0o d.Walks)] 0 → t 7 = v7_2 → t 43 = .fs 3 (List.map b0k h_.Trains) → t 44 = I (List.length h_.Trains : Int) → t 45 = I x_45 → RR h v7_2 hs7 1 eI rows_7_2 → c5g x_45 rows_7_2 = some o → K74 t h := by
       intro rows_7_2 v7_2 t h s2 s3 s7 s43 s44 s45 q0 hm1
       refine hK74 _ _ ?_
       unfold c5g at hm1
       refine b1n fun K hK => ?_
       simp only [go_sem, s45, b0a v7, b0a v7_1, b0a v7_2]
       refine hK _ _ ?_
       clear hK K
       simp only [b0h, b0i]
       obtain rfl := Option.some.inj hm1
       refine ⟨_, rfl, ?_⟩
       exact ⟨v7_2, s2, s3, s7, s43, s44, (by first | (simp only [go_sem, s45, List.length_append, List.map_append]; done) | rfl), q0⟩
      simp only [b05]
      obtain ⟨x77, h_x77, hm1⟩ := b0g hm1
      have h_x770 := b0x h_x77
      have h_x771 := b0y h_x77
      refine b0d fun K hK => ?_
      simp only [go_sem, s43, s45, b0l h_x77, b0m h_x77, h_x770, h_x771, b0a v7, b0a v7_1]
      refine hK _ _ ?_
      clear hK K
      refine b0d fun K hK => ?_
      simp only [go_sem, b0a v7, b0a v7_1]
      refine hK _ _ ?_
      clear hK K
      simp only [b05]
      obtain ⟨b78, hl78, hm1⟩ := b0g hm1
      refine b10 hl78 (fun | (rows_7_2, x_53), t, h => ∃ v7_2 : AV, t 2 = .fp [.fs 5 (List.map b0n h_.Combs), .fs 3 (List.map b0k h_.Trains), .fs 3 (List.map b0s h_.Shifts), I h_.Until] 0 ∧ t 3 = .fp [.fs 1 (List.map eI d.At), .fs 1 (List.map b0o d.People), .fs 1 (List.map b0o d.Walks)] 0 ∧ t 7 = v7_2 ∧ t 8 = I x_45 ∧ t 43 = .fs 3 (List.map b0k h_.Trains) ∧ t 44 = I (List.length h_.Trains : Int) ∧ t 45 = I x_45 ∧ t 51 = .fs 3 (List.map b2j x77.Crowds) ∧ t 52 = I (List.length x77.Crowds : Int) ∧ t 53 = I x_53 ∧ RR h v7_2 hs7 1 eI rows_7_2) ?_ ?_
      ·exact ⟨v7_1, s2, s3, s7, (by first | (simp only [go_sem, List.length_append, List.map_append]; done) | rfl), s43, s44, s45, (by first | (simp only [go_sem, List.length_append, List.map_append]; done) | rfl), (by first | (simp only [go_sem, List.length_append, List.map_append]; done) | rfl), (by first | (simp only [go_sem, List.length_append, List.map_append]; done) | rfl), (b3k q0 (by intro j hj  hl; first | rfl | simp only [go_sem, hl]) (by first | omega | exact Nat.le_refl _ | (simp only [go_sem, nxs] <;> omega)))⟩
      ·rintro ⟨rows_7_2, x_53⟩ o t h ⟨v7_2, s2, s3, s7, s8, s43, s44, s45, s51, s52, s53, q0⟩ hm2 hb78
       simp only [c2o] at hm2
       rw [g00]
       refine b0d fun K hK => ?_
       simp only [go_sem, s52, s53, b0a v7, b0a v7_1, b0a v7_2]
       refine hK _ _ ?_
       clear hK K
       refine b0u fun K79 hK79 => ?_
       simp only [go_sem]
       refine b0r (fun hc80 => ?_) (fun hc80 => ?_)
       ·rw [b04 hc80] at hm2
        simp only [b02, b0h, b0i]
        refine hK79 _ _ ?_
        refine b0u fun K81 hK81 => ?_
        simp only [b05]
        obtain ⟨x83, h_x83, hm2⟩ := b0g hm2
        have h_x830 := b0x h_x83
        have h_x831 := b0y h_x83
        refine b0d fun K hK => ?_
        simp only [go_sem, s51, s53, b0l h_x83, b0m h_x83, h_x830, h_x831, b0a v7, b0a v7_1, b0a v7_2]
        refine hK _ _ ?_
        clear hK K
        obtain ⟨x89, h_x89, hm2⟩ := b0g hm2
        have h_x890 := b0x h_x89
        have h_x891 := b0y h_x89
        obtain ⟨x90, h_x90, hm2⟩ := b0g hm2
        have h_x900 := b0x h_x90
        have h_x901 := b0y h_x90
        obtain ⟨iqp1422, rfl, qm, qh⟩ := b67 q0 h_x90
        obtain ⟨wp1423, hw_wp1423, os_wp1423⟩ := b64 q0 h_x90
        obtain ⟨x91, h_x91, hm2⟩ := b0g hm2
        have h_x910 := b0x h_x91
        have h_x911 := b0y h_x91
        obtain ⟨irp1424, rfl, obr_irp1424, ltr_irp1424⟩ := b5o os_wp1423 h_x91
        obtain ⟨x92, h_x92, hm2⟩ := b0g hm2
        have h_x920 := b0x h_x92
        have h_x921 := b0y h_x92
        obtain ⟨x93, h_x93, hm2⟩ := b0g hm2
        have h_x930 := b0x h_x93
        have h_x931 := b0y h_x93
        refine b7c (fun t h => ∃ v7_3 : AV, t 2 = .fp [.fs 5 (List.map b0n h_.Combs), .fs 3 (List.map b0k h_.Trains), .fs 3 (List.map b0s h_.Shifts), I h_.Until] 0 ∧ t 3 = .fp [.fs 1 (List.map eI d.At), .fs 1 (List.map b0o d.People), .fs 1 (List.map b0o d.Walks)] 0 ∧ t 7 = v7_3 ∧ t 8 = I x_45 ∧ t 43 = .fs 3 (List.map b0k h_.Trains) ∧ t 44 = I (List.length h_.Trains : Int) ∧ t 45 = I x_45 ∧ t 51 = .fs 3 (List.map b2j x77.Crowds) ∧ t 52 = I (List.length x77.Crowds : Int) ∧ t 53 = I x_53 ∧ RR h v7_3 hs7 1 eI (List.set rows_7_2 (Int.toNat x89) (List.set x90 (Int.toNat x83.Comb) (wr (x91 + x93))))) (fun K hK => ?_) ?_
        ·simp only [go_sem, s3, s7, b3b q0, s8, qm, qh, b0l h_x89, b0m h_x89, h_x890, h_x891, b0l h_x90, b0m h_x90, h_x900, h_x901, b0l hw_wp1423, b0m hw_wp1423, b46 os_wp1423, b0l h_x91, b0m h_x91, h_x910, h_x911, obr_irp1424, ltr_irp1424, b0l h_x92, b0m h_x92, h_x920, h_x921, b0l h_x93, b0m h_x93, h_x930, h_x931, b0a v7, b0a v7_1]
         exact hK _ _ ⟨(.rs iqp1422 0 (List.length rows_7_2)), s2, s3, (by first | (simp only [go_sem, s7, List.length_append, List.map_append]; done) | rfl), s8, s43, s44, s45, s51, s52, s53, (c6v q0 h_x90 hw_wp1423 (by simp only [go_sem, b2c q0, qm, qh, b3h q0 hw_wp1423, b0c (b3h q0 hw_wp1423), List.length_append, List.map_append]) (by simp only [List.length_set]) (by intro j hj hne hl; first | rfl | simp only [go_sem, hne, hl, qh]) (by first | omega | exact Nat.le_refl _ | (simp only [go_sem, nxs] <;> omega)))⟩
        ·try clear s2 s3 s7 s8 s43 s44 s45 s51 s52 s53 q0 qm qh
         rintro t h ⟨v7_3, s2, s3, s7, s8, s43, s44, s45, s51, s52, s53, q0⟩
         simp only [b0h, b0i]
         refine hK81 _ _ ?_
         refine b1n fun K hK => ?_
         simp only [go_sem, s53, b0a v7, b0a v7_1, b0a v7_3]
         refine hK _ _ ?_
         clear hK K
         simp only [b0h, b0i]
         obtain rfl := Option.some.inj hm2
         refine ⟨_, rfl, ?_⟩
         exact ⟨v7_3, s2, s3, s7, s8, s43, s44, s45, s51, s52, (by first | (simp only [go_sem, s53, List.length_append, List.map_append]; done) | rfl), q0⟩
       ·rw [b03 hc80] at hm2
        simp only [b1w, b1z, b1y, b1x, b0h, b0i, Nat.reduceEqDiff, not_false_eq_true]
        obtain rfl := Option.some.inj hm2
        obtain rfl := hb78 _ rfl
        try dsimp only at hm1
        exact J75 rows_7_2 v7_2 _ _ s2 s3 s7 s43 s44 s45 q0 hm1
     ·rw [b03 hc73] at hm1
      simp only [b1w, b1z, b1y, b1x, b0h, b0i, Nat.reduceEqDiff, not_false_eq_true]
      obtain rfl := Option.some.inj hm1
      obtain rfl := hb71 _ rfl
      try dsimp only at hm0
      exact J12 rows_7_1 v7_1 _ _ s2 s3 s7 q0 hm0
   simp only [b05]
   obtain ⟨b96, hl96, hm0⟩ := b0g hm0
   refine b10 hl96 (fun | (rows_7, x_32), t, h => ∃ v7 : AV, ∃ hs7 : List AV, t 2 = .fp [.fs 5 (List.map b0n h_.Combs), .fs 3 (List.map b0k h_.Trains), .fs 3 (List.map b0s h_.Shifts), I h_.Until] 0 ∧ t 3 = .fp [.fs 1 (List.map eI d.At), .fs 1 (List.map b0o d.People), .fs 1 (List.map b0o d.Walks)] 0 ∧ t 7 = v7 ∧ t 31 = I h_.Until ∧ t 32 = I x_32 ∧ RR h v7 hs7 1 eI rows_7) ?_ ?_
   ·exact ⟨nilS, [], (by first | (simp only [go_sem, List.length_append, List.map_append]; done) | rfl), (by first | (simp only [go_sem, List.length_append, List.map_append]; done) | rfl), (by first | (simp only [go_sem, List.length_append, List.map_append]; done) | rfl), (by first | (simp only [go_sem, List.length_append, List.map_append]; done) | rfl), (by first | (simp only [go_sem, List.length_append, List.map_append]; done) | rfl), d9w⟩
   ·rintro ⟨rows_7, x_32⟩ o t h ⟨v7, hs7, s2, s3, s7, s31, s32, q0⟩ hm1 hb96
    simp only [c2n] at hm1
    rw [g0z]
    refine b0d fun K hK => ?_
    simp only [go_sem, s31, s32, b0a v7]
    refine hK _ _ ?_
    clear hK K
    refine b0u fun K97 hK97 => ?_
    simp only [go_sem]
    refine b0r (fun hc98 => ?_) (fun hc98 => ?_)
    ·rw [b04 hc98] at hm1
     simp only [b02, b0h, b0i]
     refine hK97 _ _ ?_
     refine b0u fun K99 hK99 => ?_
     simp only [b05]
     obtain ⟨l102, h_l102, hm1⟩ := b0g hm1
     obtain ⟨l103, h_l103, hm1⟩ := b0g hm1
     refine b7c (fun t h => ∃ v7_1 : AV, ∃ hs7_1 : List AV, t 2 = .fp [.fs 5 (List.map b0n h_.Combs), .fs 3 (List.map b0k h_.Trains), .fs 3 (List.map b0s h_.Shifts), I h_.Until] 0 ∧ t 3 = .fp [.fs 1 (List.map eI d.At), .fs 1 (List.map b0o d.People), .fs 1 (List.map b0o d.Walks)] 0 ∧ t 7 = v7_1 ∧ t 31 = I h_.Until ∧ t 32 = I x_32 ∧ RR h v7_1 hs7_1 1 eI l103) (fun K hK => ?_) ?_
     ·simp only [go_sem, s2, s7, b3b q0, b0a v7]
      refine c0x (f := eI) (z := 0) rfl h_l102 ?_
      simp only [go_sem, s2, s7, b3b q0, b0a v7]
      refine d6d (f := eI) (sz := 1) (rows := rows_7) (hs := hs7) (u := .rs h.nx 0 (List.length l102)) ?_ ?_ ?_ h_l103 ?_
      ·exact (b3k q0 (by intro j hj  hl; first | rfl | simp only [go_sem, hl]) (by first | omega | exact Nat.le_refl _ | (simp only [go_sem, nxs] <;> omega)))
      ·exact (by simp only [go_sem, b2c q0, List.length_append, List.map_append])
      ·exact (b4d q0 (by first | assumption | omega | (simp only [nxs] <;> omega)))
      simp only [go_sem, s2, s7, b3b q0, b0a v7]
      exact hK _ _ ⟨(.rs (nxs (nxs h.nx)) 0 (List.length l103)), (hs7 ++ [.rs h.nx 0 (List.length l102)]), s2, s3, (by first | (simp only [go_sem, s7, List.length_append, List.map_append]; done) | rfl), s31, s32, (d9v (h := h) q0 h_l103 (by simp only [go_sem, b2c q0, List.length_append, List.map_append]) rfl (by simp only [go_sem]) (b3e (by simp only [go_sem, b2c q0, List.length_append, List.map_append]) (by simp only [go_sem, b2c q0, List.length_append, List.map_append]) (by simp only [go_sem])) (b97 (by first | assumption | exact b4d q0 (by first | omega | (simp only [nxs] <;> omega)))) (by first | omega | exact Nat.le_refl _ | (simp only [go_sem, nxs] <;> omega)) (by first | exact b1h | exact b1i (by first | assumption | omega | (simp only [nxs] <;> omega))) (by intro j hj h2 hl; first | rfl | simp only [go_sem, h2, hl]) (by first | omega | exact Nat.le_refl _ | (simp only [go_sem, nxs] <;> omega)))⟩
     ·rintro t h ⟨v7_1, hs7_1, s2, s3, s7, s31, s32, q0⟩
      simp only [b0h, b0i]
      refine hK99 _ _ ?_
      refine b1n fun K hK => ?_
      simp only [go_sem, s32, b0a v7, b0a v7_1]
      refine hK _ _ ?_
      clear hK K
      simp only [b0h, b0i]
      obtain rfl := Option.some.inj hm1
      refine ⟨_, rfl, ?_⟩
      exact ⟨v7_1, hs7_1, s2, s3, s7, s31, (by first | (simp only [go_sem, s32, List.length_append, List.map_append]; done) | rfl), q0⟩
    ·rw [b03 hc98] at hm1
     simp only [b1w, b1z, b1y, b1x, b0h, b0i, Nat.reduceEqDiff, not_false_eq_true]
     obtain rfl := Option.some.inj hm1
     obtain rfl := hb96 _ rfl
     try dsimp only at hm0
     exact J10 rows_7 v7 hs7 _ _ s2 s3 s7 q0 hm0
theorem d0u (hf : Has O "newel/halls.Witness" x_halls_Witness) (b85 : c1n O) (d09 : c72 O) (d0v : c7l O) (b86 : c1o O) (b84 : c1m O) : c7k O := by
 intro h_ comb tick r hm0
 unfold c0g at hm0
 refine b2k hf rfl (b0e (.agg _ (b0e (b0w fun a _ => b2l a) (b0e (b0w fun a _ => b2n a) (b0e (b0w fun a _ => b2p a) (b0e (b0j _) b0z))))) (b0e (b0j _) (b0e (b0j _) b0z))) (.tup _ (b0e (.agg _ (b0e (b0w fun a _ => b2i a) (b0e (b0w fun a _ => b3g a) (b0e (b0w fun a _ => b3g a) b0z)))) (b0e (b0j _) b0z))) ?_
 refine b2f (fun t h => t 0 = .agg [.fs 5 (List.map b0n h_.Combs), .fs 3 (List.map b0k h_.Trains), .fs 3 (List.map b0s h_.Shifts), I h_.Until] ∧ t 1 = I comb ∧ t 2 = I tick) ⟨rfl, rfl, rfl⟩ fun t h ⟨s0, s1, s2⟩ => ?_
 simp only [x_halls_Witness]
 refine b0d fun K hK => ?_
 simp only [go_sem, s0, s1]
 refine hK _ _ ?_
 clear hK K
 refine b06 ?_
 obtain ⟨y2, h_y2, hm0⟩ := b0g hm0
 refine b0d fun K hK => ?_
 simp only [go_sem, s2]
 refine c5z ?_ (b85 h_ comb ([tick]) _ h_y2) (.v _) ?_
 ·exact .cons (.refl _ (.agg _ (b0e (b0w fun a _ => b2l a) (b0e (b0w fun a _ => b2n a) (b0e (b0w fun a _ => b2p a) (b0e (b0j _) b0z)))))) (.cons (.refl _ (b0j _)) (.cons (b5j (f := eI) (l := ([tick])) (id := (nxs h.nx)) (by simp only [go_sem, List.length_append, List.map_append]) (by first | rfl | simp only [go_sem, List.length_append, List.map_append]) b2i b4v) (.nil)))
 simp only [go_sem, s2]
 refine hK _ _ ?_
 clear hK K
 refine b06 ?_
 refine b0d fun K hK => ?_
 simp only [go_sem]
 refine hK _ _ ?_
 clear hK K
 refine b0u fun K3 hK3 => ?_
 simp only [go_sem]
 refine b0r (fun hc4 => ?_) (fun hc4 => ?_)
 ·rw [b04 hc4] at hm0
  refine b0d fun K hK => ?_
  simp only [go_sem]
  refine hK _ _ ?_
  clear hK K
  simp only [b1c, b1e, b1d, b1f]
  obtain rfl := Option.some.inj hm0
  exact c8o (id := h.nx) (m := 3) (cs := [.v (.slice none 0 0), .v (.slice none 0 0), .v (.slice none 0 0)]) (u := I y2) (by simp only [go_sem, List.length_append, List.map_append]) (by simp only [go_sem, List.length_append, List.map_append]) rfl (by simp only [go_sem, List.length_append, List.map_append]) (c44 (.cons (.nil _) (.cons (.nil _) (.cons (.nil _) (.nil))))) (.refl _ (b0j _))
 ·rw [b03 hc4] at hm0
  simp only [b02, b0h, b0i]
  refine hK3 _ _ ?_
  refine b06 ?_
  obtain ⟨y8, h_y8, hm0⟩ := b0g hm0
  refine b0d fun K hK => ?_
  simp only [go_sem]
  refine b1o (d09 h_.Combs "newel/halls.Witness$1" [] [.fp [I comb] 0] (fun z7 => some (b8s z7 comb)) (.fn _ _ _ b0z (b0e (.fp _ _ (b0e (b0j _) b0z)) b0z)) (fun z0 y hz => by cases hz; exact d0v z0 comb) _ h_y8) ?_
  simp only [go_sem]
  refine hK _ _ ?_
  clear hK K
  refine b0u fun K9 hK9 => ?_
  simp only [go_sem]
  refine b0r (fun hc10 => ?_) (fun hc10 => ?_)
  ·rw [b04 hc10] at hm0
   refine b0d fun K hK => ?_
   simp only [go_sem]
   refine hK _ _ ?_
   clear hK K
   simp only [b1c, b1e, b1d, b1f]
   obtain rfl := Option.some.inj hm0
   exact c8o (id := h.nx) (m := 3) (cs := [.v (.slice none 0 0), .v (.slice none 0 0), .v (.slice none 0 0)]) (u := I 3) (by simp only [go_sem, List.length_append, List.map_append]) (by simp only [go_sem, List.length_append, List.map_append]) rfl (by simp only [go_sem, List.length_append, List.map_append]) (c44 (.cons (.nil _) (.cons (.nil _) (.cons (.nil _) (.nil))))) (.refl _ (b0j _))
  ·rw [b03 hc10] at hm0
   simp only [b02, b0h, b0i]
   refine hK9 _ _ ?_
   obtain ⟨y14, h_y14, hm0⟩ := b0g hm0
   obtain ⟨y15, h_y15, hm0⟩ := b0g hm0
   obtain ⟨x16, h_x16, hm0⟩ := b0g hm0
   have h_x160 := b0x h_x16
   have h_x161 := b0y h_x16
   refine b0d fun K hK => ?_
   simp only [go_sem, b0l h_x16, b0m h_x16, h_x160, h_x161]
   refine b1o (b86 h_ _ h_y14) ?_
   simp only [go_sem, b0l h_x16, b0m h_x16, h_x160, h_x161]
   refine b1o (b84 h_ y14 _ h_y15) ?_
   simp only [go_sem, b0l h_x16, b0m h_x16, h_x160, h_x161]
   refine hK _ _ ?_
   clear hK K
   refine b0d fun K hK => ?_
   simp only [go_sem]
   refine hK _ _ ?_
   clear hK K
   refine b06 ?_
   refine b0d fun K hK => ?_
   simp only [go_sem, s2]
   refine hK _ _ ?_
   clear hK K
   refine b0u fun K17 hK17 => ?_
   have J18 : ∀ (from_10 : Int) (i6 : Nat) (t : Slots) (h : Heap), t 2 = I tick → t 3 = .fp [.fs 5 (List.map b0n h_.Combs), .fs 3 (List.map b0k h_.Trains), .fs 3 (List.map b0s h_.Shifts), I h_.Until] 0 → t 6 = .rp i6 0 0 → t 10 = I from_10 → h.ob i6 = some (3, [[.v (.slice none 0 0), .v (.slice none 0 0), .v (.slice none 0 0)]]) → i6 < h.nx → c2t h_ tick from_10 = some r → K17 t h := by
    intro from_10 i6 t h s2 s3 s6 s10 q6 q2 hm0
    refine hK17 _ _ ?_
    unfold c2t at hm0
    refine b0d fun K hK => ?_
    simp only [go_sem, q2]
    refine hK _ _ ?_
    clear hK K
    refine b06 ?_
    refine b0d fun K hK => ?_
    simp only [go_sem, s3, q2]
    refine hK _ _ ?_
    clear hK K
    refine b0u fun K19 hK19 => ?_
    have J20 : ∀ (d_12_0 : List Int) (d_12_1 : List (List Int)) (i12 : Nat) (v12 : AV) (v12_1 : AV) (t : Slots) (h : Heap), t 3 = .fp [.fs 5 (List.map b0n h_.Combs), .fs 3 (List.map b0k h_.Trains), .fs 3 (List.map b0s h_.Shifts), I h_.Until] 0 → t 6 = .rp i6 0 0 → t 12 = .rp i12 0 0 → h.ob i6 = some (3, [[.v (.slice none 0 0), .v (.slice none 0 0), .v (.slice none 0 0)]]) → i6 < h.nx → h.ob i12 = some (3, [[v12, v12_1, .v (.slice none 0 0)]]) → i12 < h.nx → b01 h v12 1 (List.map eI d_12_0) → b01 h v12_1 1 (List.map b0o d_12_1) → ¬i6 = i12 → b0b v12 i6 → b0b v12_1 i6 → b0b v12 i12 → b0b v12_1 i12 → (∀ j, ¬b0b v12 j → b0b v12_1 j) → c5h h_ d_12_0 d_12_1 = some r → K19 t h := by
     intro d_12_0 d_12_1 i12 v12 v12_1 t h s3 s6 s12 q6 q2 q4 q1 qb qc q3 qa q9 q7 q8 qf hm0
     refine hK19 _ _ ?_
     unfold c5h at hm0
     refine b06 ?_
     refine b0d fun K hK => ?_
     simp only [go_sem, s3, q2, q1, b0a v12, b0a v12_1]
     refine hK _ _ ?_
     clear hK K
     refine b0u fun K21 hK21 => ?_
     have J22 : ∀ (d_12_2 : List (List Int)) (v12_2 : AV) (t : Slots) (h : Heap), t 6 = .rp i6 0 0 → t 12 = .rp i12 0 0 → h.ob i6 = some (3, [[.v (.slice none 0 0), .v (.slice none 0 0), .v (.slice none 0 0)]]) → i6 < h.nx → h.ob i12 = some (3, [[v12, v12_1, v12_2]]) → i12 < h.nx → b01 h v12 1 (List.map eI d_12_0) → b01 h v12_1 1 (List.map b0o d_12_1) → b01 h v12_2 1 (List.map b0o d_12_2) → ¬i6 = i12 → b0b v12 i6 → b0b v12_1 i6 → b0b v12_2 i6 → b0b v12 i12 → b0b v12_1 i12 → b0b v12_2 i12 → (∀ j, ¬b0b v12 j → b0b v12_1 j) → (∀ j, ¬b0b v12 j → b0b v12_2 j) → (∀ j, ¬b0b v12_1 j → b0b v12_2 j) → c9a d_12_0 d_12_1 d_12_2 = some r → K21 t h := by
      try clear s3 s6 s12 q6 q2 q4 q1 qb qc q3 qa q9 q7 q8 qf
      intro d_12_2 v12_2 t h s6 s12 q6 q2 q4 q1 qb qc qs q3 qa q9 qo q7 q8 qp qf q10 q11 hm0
      refine hK21 _ _ ?_
      unfold c9a at hm0
      refine b0d fun K hK => ?_
      simp only [go_sem, s6, s12, q6, q2, q4, q1, q3, b0c q3, qa, q9, qo, q7, q8, qp, b0a v12, b0a v12_1, b0a v12_2]
      refine hK _ _ ?_
      clear hK K
      simp only [b1c, b1e, b1d, b1f]
      obtain rfl := Option.some.inj hm0
      exact c8o (id := i6) (m := 3) (cs := [v12, v12_1, v12_2]) (u := I 0) (by simp only [go_sem, s6, q6, q2, q4, q1, b0q qb, b0q qc, b0q qs, q3, b0c q3, qa, q9, qo, q7, q8, qp, List.length_append, List.map_append]) (by simp only [go_sem, s6, q6, q2, q4, q1, b0q qb, b0q qc, b0q qs, q3, b0c q3, qa, q9, qo, q7, q8, qp, List.length_append, List.map_append]) rfl (by simp only [go_sem, s6, q6, q2, q4, q1, b0q qb, b0q qc, b0q qs, q3, b0c q3, qa, q9, qo, q7, q8, qp, List.length_append, List.map_append]) (c44 (.cons (b6c (f := eI) (l := d_12_0) (b1t qb (by intro j hj hl; first | rfl | simp only [go_sem, hl, b1m hj qa, b1m hj q7, qf j hj, q10 j hj]) (by first | omega | exact Nat.le_refl _ | (simp only [go_sem, nxs] <;> omega))) b2i b4v) (.cons (b6c (f := b0o) (l := d_12_1) (b1t qc (by intro j hj hl; first | rfl | simp only [go_sem, hl, b1m hj q9, b1m hj q8, b3w qf j hj, q11 j hj]) (by first | omega | exact Nat.le_refl _ | (simp only [go_sem, nxs] <;> omega))) b3g b9a) (.cons (b6c (f := b0o) (l := d_12_2) (b1t qs (by intro j hj hl; first | rfl | simp only [go_sem, hl, b1m hj qo, b1m hj qp, b3w q10 j hj, b3w q11 j hj]) (by first | omega | exact Nat.le_refl _ | (simp only [go_sem, nxs] <;> omega))) b3g b9a) (.nil))))) (.refl _ (b0j _))
     simp only [b05]
     obtain ⟨b23, hl23, hm0⟩ := b0g hm0
     refine b10 hl23 (fun | (d_12_2, x_152), t, h => ∃ v12_2 : AV, t 6 = .rp i6 0 0 ∧ t 12 = .rp i12 0 0 ∧ t 150 = .fs 5 (List.map b0n h_.Combs) ∧ t 151 = I (List.length h_.Combs : Int) ∧ t 152 = I x_152 ∧ h.ob i6 = some (3, [[.v (.slice none 0 0), .v (.slice none 0 0), .v (.slice none 0 0)]]) ∧ i6 < h.nx ∧ h.ob i12 = some (3, [[v12, v12_1, v12_2]]) ∧ i12 < h.nx ∧ b01 h v12 1 (List.map eI d_12_0) ∧ b01 h v12_1 1 (List.map b0o d_12_1) ∧ b01 h v12_2 1 (List.map b0o d_12_2) ∧ ¬i6 = i12 ∧ b0b v12 i6 ∧ b0b v12_1 i6 ∧ b0b v12_2 i6 ∧ b0b v12 i12 ∧ b0b v12_1 i12 ∧ b0b v12_2 i12 ∧ (∀ j, ¬b0b v12 j → b0b v12_1 j) ∧ (∀ j, ¬b0b v12 j → b0b v12_2 j) ∧ (∀ j, ¬b0b v12_1 j → b0b v12_2 j)) ?_ ?_
     ·exact ⟨(.v (.slice none 0 0)), s6, s12, (by first | (simp only [go_sem, List.length_append, List.map_append]; done) | rfl), (by first | (simp only [go_sem, List.length_append, List.map_append]; done) | rfl), (by first | (simp only [go_sem, List.length_append, List.map_append]; done) | rfl), q6, q2, q4, q1, qb, qc, b54, q3, qa, q9, (by first | exact b1h | exact b1i (by first | assumption | omega | (simp only [nxs] <;> omega)) | assumption | exact b00 (by assumption) (by first | assumption | omega | (simp only [nxs] <;> omega))), q7, q8, (by first | exact b1h | exact b1i (by first | assumption | omega | (simp only [nxs] <;> omega)) | assumption | exact b00 (by assumption) (by first | assumption | omega | (simp only [nxs] <;> omega))), qf, (by first | exact b3x | exact b3y | assumption | (refine b3z ?_; first | assumption | exact b00 (by assumption) (by first | assumption | omega | (simp only [nxs] <;> omega))) | (refine b2u ?_; first | assumption | exact b00 (by assumption) (by first | assumption | omega | (simp only [nxs] <;> omega)))), (by first | exact b3x | exact b3y | assumption | (refine b3z ?_; first | assumption | exact b00 (by assumption) (by first | assumption | omega | (simp only [nxs] <;> omega))) | (refine b2u ?_; first | assumption | exact b00 (by assumption) (by first | assumption | omega | (simp only [nxs] <;> omega))))⟩
     ·try clear s3 s6 s12 q6 q2 q4 q1 qb qc q3 qa q9 q7 q8 qf
      rintro ⟨d_12_2, x_152⟩ o t h ⟨v12_2, s6, s12, s150, s151, s152, q6, q2, q4, q1, qb, qc, qs, q3, qa, q9, qo, q7, q8, qp, qf, q10, q11⟩ hm1 hb23
      simp only [c2s] at hm1
      rw [g08]
      refine b0d fun K hK => ?_
      simp only [go_sem, s151, s152, q2, q1, b0a v12, b0a v12_1, b0a v12_2]
      refine hK _ _ ?_
      clear hK K
      refine b0u fun K24 hK24 => ?_
      simp only [go_sem]
      refine b0r (fun hc25 => ?_) (fun hc25 => ?_)
      ·rw [b04 hc25] at hm1
       simp only [b02, b0h, b0i]
       refine hK24 _ _ ?_
       refine b0u fun K26 hK26 => ?_
       simp only [b05]
       obtain ⟨x28, h_x28, hm1⟩ := b0g hm1
       have h_x280 := b0x h_x28
       have h_x281 := b0y h_x28
       refine b0d fun K hK => ?_
       simp only [go_sem, s150, s152, q2, q1, b0l h_x28, b0m h_x28, h_x280, h_x281, b0a v12, b0a v12_1, b0a v12_2]
       refine hK _ _ ?_
       clear hK K
       obtain ⟨l30, h_l30, hm1⟩ := b0g hm1
       refine b0d fun K hK => ?_
       simp only [go_sem, s12, q4, q1, q2, q3, b0c q3, qa, q9, qo, q7, q8, qp, b0a v12, b0a v12_1, b0a v12_2]
       refine d0e (f := b0o) (l := d_12_2) (a := ([x28.Walk.Low])) (raw := [.rs (nxs h.nx) 0 (1)]) ?_ ?_ ?_ h_l30 ?_
       ·exact (b1t qs (by intro j hj hl; first | rfl | simp only [go_sem, hl, b1m hj qo, b1m hj qp, b3w q10 j hj, b3w q11 j hj]) (by first | omega | exact Nat.le_refl _ | (simp only [go_sem, nxs] <;> omega)))
       ·exact (by simp only [go_sem, q6, q2, q4, q1, b0q qb, b0q qc, b0q qs, q3, b0c q3, qa, q9, qo, q7, q8, qp, List.length_append, List.map_append])
       ·exact (by first | exact b1h | exact b1i (by first | omega | (simp only [nxs] <;> omega)) | assumption | exact b00 (by assumption) (by first | omega | (simp only [go_sem, nxs] <;> omega)))
       simp only [go_sem, s12, q4, q1, q2, q3, b0c q3, qa, q9, qo, q7, q8, qp, b0a v12, b0a v12_1, b0a v12_2]
       refine hK _ _ ?_
       clear hK K
       refine c8n ?_
       refine d4h (id := (nxs (nxs (nxs h.nx)))) (sz := 1) (f := b0o) (l := d_12_2) (a := ([x28.Walk.Low])) (raw := [.rs (nxs h.nx) 0 (1)]) (fun j => j == (nxs h.nx)) (by simp only [go_sem, q6, q2, q4, q1, b0q qb, b0q qc, b0q qs, q3, b0c q3, qa, q9, qo, q7, q8, qp, List.length_append, List.map_append]) (by first | (simp; done) | (simp [nxs] <;> omega)) (.cons (b5j (f := eI) (l := ([x28.Walk.Low])) (id := (nxs h.nx)) (by rw [b6l (by simp)]; simp only [go_sem, q6, q2, q4, q1, b0q qb, b0q qc, b0q qs, q3, b0c q3, qa, q9, qo, q7, q8, qp, List.length_append, List.map_append]) (by first | rfl | simp only [go_sem, List.length_append, List.map_append]) b2i b4v) (.nil)) b3g b9a ?_
       rw [← (b9x h_l30).2]
       simp only [b02, b0h, b0i]
       refine hK26 _ _ ?_
       refine b1n fun K hK => ?_
       simp only [go_sem, s152, q2, q1, Bool.or_eq_false_iff, beq_eq_false_iff_ne, ne_eq, not_false_eq_true, and_self, b0a v12, b0a v12_1, b0a v12_2]
       refine hK _ _ ?_
       clear hK K
       simp only [b0h, b0i]
       obtain rfl := Option.some.inj hm1
       refine ⟨_, rfl, ?_⟩
       exact ⟨(.rs (nxs (nxs (nxs h.nx))) 0 (List.length l30)), s6, s12, s150, s151, (by first | (simp only [go_sem, s152, List.length_append, List.map_append]; done) | rfl), (by simp only [go_sem, Bool.or_eq_false_iff, beq_eq_false_iff_ne, ne_eq, not_false_eq_true, and_self, q6, q2, q1, b0q qs, q3, b0c q3, qo, List.length_append, List.map_append]), (by simp only [go_sem, q2]), (by simp only [go_sem, Bool.or_eq_false_iff, beq_eq_false_iff_ne, ne_eq, not_false_eq_true, and_self, q4, q1, b0q qs, qp, List.length_append, List.map_append]), (by simp only [go_sem, q1]), (b1t qb (by intro j hj hl; first | rfl | simp only [go_sem, hl, q1, b1m hj q7, q10 j hj, Bool.or_eq_false_iff, beq_eq_false_iff_ne, ne_eq, not_false_eq_true, and_self]) (by first | omega | exact Nat.le_refl _ | (simp only [go_sem, nxs] <;> omega))), (b1t qc (by intro j hj hl; first | rfl | simp only [go_sem, hl, q1, b1m hj q8, q11 j hj, Bool.or_eq_false_iff, beq_eq_false_iff_ne, ne_eq, not_false_eq_true, and_self]) (by first | omega | exact Nat.le_refl _ | (simp only [go_sem, nxs] <;> omega))), (b3e (by simp only [go_sem, Bool.or_eq_false_iff, beq_eq_false_iff_ne, ne_eq, not_false_eq_true, and_self, q1, b0q qs, List.length_append, List.map_append]) (by first | rfl | simp only [go_sem, List.length_append, List.map_append]) (by simp only [go_sem])), q3, qa, q9, (by first | exact b1h | exact b1i (by first | assumption | omega | (simp only [nxs] <;> omega)) | assumption | exact b00 (by assumption) (by first | assumption | omega | (simp only [nxs] <;> omega))), q7, q8, (by first | exact b1h | exact b1i (by first | assumption | omega | (simp only [nxs] <;> omega)) | assumption | exact b00 (by assumption) (by first | assumption | omega | (simp only [nxs] <;> omega))), qf, (by first | exact b3x | exact b3y | assumption | (refine b3z ?_; first | assumption | exact b00 (by assumption) (by first | assumption | omega | (simp only [nxs] <;> omega))) | (refine b2u ?_; first | assumption | exact b00 (by assumption) (by first | assumption | omega | (simp only [nxs] <;> omega)))), (by first | exact b3x | exact b3y | assumption | (refine b3z ?_; first | assumption | exact b00 (by assumption) (by first | assumption | omega | (simp only [nxs] <;> omega))) | (refine b2u ?_; first | assumption | exact b00 (by assumption) (by first | assumption | omega | (simp only [nxs] <;> omega))))⟩
      ·rw [b03 hc25] at hm1
       simp only [b1w, b1z, b1y, b1x, b0h, b0i, Nat.reduceEqDiff, not_false_eq_true]
       obtain rfl := Option.some.inj hm1
       obtain rfl := hb23 _ rfl
       try dsimp only at hm0
       exact J22 d_12_2 v12_2 _ _ s6 s12 q6 q2 q4 q1 qb qc qs q3 qa q9 qo q7 q8 qp qf q10 q11 hm0
    simp only [b05]
    obtain ⟨b32, hl32, hm0⟩ := b0g hm0
    refine b10 hl32 (fun | (d_12_0, d_12_1, x_87), t, h => ∃ i12 : Nat, ∃ v12 : AV, ∃ v12_1 : AV, t 2 = I tick ∧ t 3 = .fp [.fs 5 (List.map b0n h_.Combs), .fs 3 (List.map b0k h_.Trains), .fs 3 (List.map b0s h_.Shifts), I h_.Until] 0 ∧ t 6 = .rp i6 0 0 ∧ t 10 = I from_10 ∧ t 12 = .rp i12 0 0 ∧ t 85 = .fs 3 (List.map b0k h_.Trains) ∧ t 86 = I (List.length h_.Trains : Int) ∧ t 87 = I x_87 ∧ h.ob i6 = some (3, [[.v (.slice none 0 0), .v (.slice none 0 0), .v (.slice none 0 0)]]) ∧ i6 < h.nx ∧ h.ob i12 = some (3, [[v12, v12_1, .v (.slice none 0 0)]]) ∧ i12 < h.nx ∧ b01 h v12 1 (List.map eI d_12_0) ∧ b01 h v12_1 1 (List.map b0o d_12_1) ∧ ¬i6 = i12 ∧ b0b v12 i6 ∧ b0b v12_1 i6 ∧ b0b v12 i12 ∧ b0b v12_1 i12 ∧ (∀ j, ¬b0b v12 j → b0b v12_1 j)) ?_ ?_
    ·exact ⟨h.nx, (.v (.slice none 0 0)), (.v (.slice none 0 0)), s2, s3, s6, s10, (by first | (simp only [go_sem, List.length_append, List.map_append]; done) | rfl), (by first | (simp only [go_sem, List.length_append, List.map_append]; done) | rfl), (by first | (simp only [go_sem, List.length_append, List.map_append]; done) | rfl), (by first | (simp only [go_sem, List.length_append, List.map_append]; done) | rfl), (by simp only [go_sem, q6, q2, List.length_append, List.map_append]), (by simp only [go_sem, q2]), (by simp only [go_sem, List.length_append, List.map_append]), (by simp only [go_sem]), b54, b54, (by first | first | assumption | omega | (simp only [nxs] <;> omega)), (by first | exact b1h | exact b1i (by first | assumption | omega | (simp only [nxs] <;> omega)) | assumption | exact b00 (by assumption) (by first | assumption | omega | (simp only [nxs] <;> omega))), (by first | exact b1h | exact b1i (by first | assumption | omega | (simp only [nxs] <;> omega)) | assumption | exact b00 (by assumption) (by first | assumption | omega | (simp only [nxs] <;> omega))), (by first | exact b1h | exact b1i (by first | assumption | omega | (simp only [nxs] <;> omega)) | assumption | exact b00 (by assumption) (by first | assumption | omega | (simp only [nxs] <;> omega))), (by first | exact b1h | exact b1i (by first | assumption | omega | (simp only [nxs] <;> omega)) | assumption | exact b00 (by assumption) (by first | assumption | omega | (simp only [nxs] <;> omega))), (by first | exact b3x | exact b3y | assumption | (refine b3z ?_; first | assumption | exact b00 (by assumption) (by first | assumption | omega | (simp only [nxs] <;> omega))) | (refine b2u ?_; first | assumption | exact b00 (by assumption) (by first | assumption | omega | (simp only [nxs] <;> omega))))⟩
    ·rintro ⟨d_12_0, d_12_1, x_87⟩ o t h ⟨i12, v12, v12_1, s2, s3, s6, s10, s12, s85, s86, s87, q6, q2, q4, q1, qb, qc, q3, qa, q9, q7, q8, qf⟩ hm1 hb32
     simp only [c2r] at hm1
     rw [g07]
     refine b0d fun K hK => ?_
     simp only [go_sem, s86, s87, q2, q1, b0a v12, b0a v12_1]
     refine hK _ _ ?_
     clear hK K
     refine b0u fun K33 hK33 => ?_
     simp only [go_sem]
     refine b0r (fun hc34 => ?_) (fun hc34 => ?_)
     ·rw [b04 hc34] at hm1
      simp only [b02, b0h, b0i]
      refine hK33 _ _ ?_
      refine b0u fun K35 hK35 => ?_
      have J36 : ∀ (d_12_0_1 : List Int) (d_12_1_1 : List (List Int)) (i12_1 : Nat) (i12_2 : Nat) (t : Slots) (h : Heap), t 2 = I tick → t 3 = .fp [.fs 5 (List.map b0n h_.Combs), .fs 3 (List.map b0k h_.Trains), .fs 3 (List.map b0s h_.Shifts), I h_.Until] 0 → t 6 = .rp i6 0 0 → t 10 = I from_10 → t 12 = .rp i12 0 0 → t 85 = .fs 3 (List.map b0k h_.Trains) → t 86 = I (List.length h_.Trains : Int) → t 87 = I x_87 → h.ob i6 = some (3, [[.v (.slice none 0 0), .v (.slice none 0 0), .v (.slice none 0 0)]]) → i6 < h.nx → h.ob i12 = some (3, [[.rs i12_1 0 (List.length d_12_0_1), .rs i12_2 0 (List.length d_12_1_1), .v (.slice none 0 0)]]) → i12 < h.nx → h.ob i12_1 = some (1, List.map eI d_12_0_1) → i12_1 < h.nx → h.ob i12_2 = some (1, List.map b0o d_12_1_1) → i12_2 < h.nx → ¬i6 = i12 → ¬i6 = i12_1 → ¬i6 = i12_2 → ¬i12 = i12_1 → ¬i12 = i12_2 → ¬i12_1 = i12_2 → c5i x_87 d_12_0_1 d_12_1_1 = some o → K35 t h := by
       try clear s2 s3 s6 s10 s12 s85 s86 s87 q6 q2 q4 q1 qb qc q3 qa q9 q7 q8 qf
       intro d_12_0_1 d_12_1_1 i12_1 i12_2 t h s2 s3 s6 s10 s12 s85 s86 s87 q6 q2 q4 q1 q18 q14 q19 q15 q3 q1a q1b q1c q1d q1e hm1
       refine hK35 _ _ ?_
       unfold c5i at hm1
       refine b1n fun K hK => ?_
       simp only [go_sem, s87, q2, q1, q14, q15, b0a v12, b0a v12_1]
       refine hK _ _ ?_
       clear hK K
       simp only [b0h, b0i]
       obtain rfl := Option.some.inj hm1
       refine ⟨_, rfl, ?_⟩
       exact ⟨i12, (.rs i12_1 0 (List.length d_12_0_1)), (.rs i12_2 0 (List.length d_12_1_1)), s2, s3, s6, s10, s12, s85, s86, (by first | (simp only [go_sem, s87, List.length_append, List.map_append]; done) | rfl), q6, q2, q4, q1, (b3e (by simp only [go_sem, q18, q14, List.length_append, List.map_append]) (by first | rfl | simp only [go_sem, List.length_append, List.map_append]) (by simp only [go_sem, q14])), (b3e (by simp only [go_sem, q19, q15, List.length_append, List.map_append]) (by first | rfl | simp only [go_sem, List.length_append, List.map_append]) (by simp only [go_sem, q15])), q3, (by first | exact b1h | exact b1i (by first | assumption | omega | (simp only [nxs] <;> omega)) | assumption | exact b00 (by assumption) (by first | assumption | omega | (simp only [nxs] <;> omega))), (by first | exact b1h | exact b1i (by first | assumption | omega | (simp only [nxs] <;> omega)) | assumption | exact b00 (by assumption) (by first | assumption | omega | (simp only [nxs] <;> omega))), (by first | exact b1h | exact b1i (by first | assumption | omega | (simp only [nxs] <;> omega)) | assumption | exact b00 (by assumption) (by first | assumption | omega | (simp only [nxs] <;> omega))), (by first | exact b1h | exact b1i (by first | assumption | omega | (simp only [nxs] <;> omega)) | assumption | exact b00 (by assumption) (by first | assumption | omega | (simp only [nxs] <;> omega))), (by first | exact b3x | exact b3y | assumption | (refine b3z ?_; first | assumption | exact b00 (by assumption) (by first | assumption | omega | (simp only [nxs] <;> omega))) | (refine b2u ?_; first | assumption | exact b00 (by assumption) (by first | assumption | omega | (simp only [nxs] <;> omega))))⟩
      simp only [b05]
      obtain ⟨x38, h_x38, hm1⟩ := b0g hm1
      have h_x380 := b0x h_x38
      have h_x381 := b0y h_x38
      refine b0d fun K hK => ?_
      simp only [go_sem, s85, s87, q2, q1, b0l h_x38, b0m h_x38, h_x380, h_x381, b0a v12, b0a v12_1]
      refine hK _ _ ?_
      clear hK K
      refine b2e (fun t h => ∃ i14 : Nat, t 2 = I tick ∧ t 3 = .fp [.fs 5 (List.map b0n h_.Combs), .fs 3 (List.map b0k h_.Trains), .fs 3 (List.map b0s h_.Shifts), I h_.Until] 0 ∧ t 6 = .rp i6 0 0 ∧ t 10 = I from_10 ∧ t 12 = .rp i12 0 0 ∧ t 14 = .rp i14 0 0 ∧ t 15 = B ((decide (from_10 ≤ x38.At.High)) && (decide (x38.At.Low ≤ tick))) ∧ t 85 = .fs 3 (List.map b0k h_.Trains) ∧ t 86 = I (List.length h_.Trains : Int) ∧ t 87 = I x_87 ∧ h.ob i6 = some (3, [[.v (.slice none 0 0), .v (.slice none 0 0), .v (.slice none 0 0)]]) ∧ i6 < h.nx ∧ h.ob i12 = some (3, [[v12, v12_1, .v (.slice none 0 0)]]) ∧ i12 < h.nx ∧ b01 h v12 1 (List.map eI d_12_0) ∧ b01 h v12_1 1 (List.map b0o d_12_1) ∧ h.ob i14 = some (3, [[I x38.At.Low, I x38.At.High, .fs 3 (List.map b2j x38.Crowds)]]) ∧ i14 < h.nx ∧ ¬i6 = i12 ∧ b0b v12 i6 ∧ b0b v12_1 i6 ∧ ¬i6 = i14 ∧ b0b v12 i12 ∧ b0b v12_1 i12 ∧ ¬i12 = i14 ∧ (∀ j, ¬b0b v12 j → b0b v12_1 j) ∧ b0b v12 i14 ∧ b0b v12_1 i14) (fun K hK => ?_) ?_
      ·simp only [go_sem, s2, s10, q2, q1, b0a v12, b0a v12_1]
       refine b0r (fun hg39 => ?_) (fun hg39 => ?_)
       ·simp only [go_sem, s2, s10, q2, q1, hg39, b0a v12, b0a v12_1]
        exact hK _ _ ⟨h.nx, s2, s3, s6, s10, s12, (by first | (simp only [go_sem, hg39, List.length_append, List.map_append]; done) | rfl), (by first | (simp only [go_sem, hg39, List.length_append, List.map_append]; done) | rfl), s85, s86, s87, (by simp only [go_sem, q6, q2, hg39, List.length_append, List.map_append]), (by simp only [go_sem, q2]), (by simp only [go_sem, q4, q1, hg39, List.length_append, List.map_append]), (by simp only [go_sem, q1]), (b1t qb (by intro j hj hl; first | rfl | simp only [go_sem, hl]) (by first | omega | exact Nat.le_refl _ | (simp only [go_sem, nxs] <;> omega))), (b1t qc (by intro j hj hl; first | rfl | simp only [go_sem, hl]) (by first | omega | exact Nat.le_refl _ | (simp only [go_sem, nxs] <;> omega))), (by simp only [go_sem, hg39, List.length_append, List.map_append]), (by simp only [go_sem]), q3, qa, q9, (by first | first | assumption | omega | (simp only [nxs] <;> omega)), q7, q8, (by first | first | assumption | omega | (simp only [nxs] <;> omega)), qf, (by first | exact b1h | exact b1i (by first | assumption | omega | (simp only [nxs] <;> omega)) | assumption | exact b00 (by assumption) (by first | assumption | omega | (simp only [nxs] <;> omega))), (by first | exact b1h | exact b1i (by first | assumption | omega | (simp only [nxs] <;> omega)) | assumption | exact b00 (by assumption) (by first | assumption | omega | (simp only [nxs] <;> omega)))⟩
       ·simp only [go_sem, s2, s10, q2, q1, hg39, b0a v12, b0a v12_1]
        exact hK _ _ ⟨h.nx, s2, s3, s6, s10, s12, (by first | (simp only [go_sem, hg39, List.length_append, List.map_append]; done) | rfl), (by first | (simp only [go_sem, hg39, List.length_append, List.map_append]; done) | rfl), s85, s86, s87, (by simp only [go_sem, q6, q2, hg39, List.length_append, List.map_append]), (by simp only [go_sem, q2]), (by simp only [go_sem, q4, q1, hg39, List.length_append, List.map_append]), (by simp only [go_sem, q1]), (b1t qb (by intro j hj hl; first | rfl | simp only [go_sem, hl]) (by first | omega | exact Nat.le_refl _ | (simp only [go_sem, nxs] <;> omega))), (b1t qc (by intro j hj hl; first | rfl | simp only [go_sem, hl]) (by first | omega | exact Nat.le_refl _ | (simp only [go_sem, nxs] <;> omega))), (by simp only [go_sem, hg39, List.length_append, List.map_append]), (by simp only [go_sem]), q3, qa, q9, (by first | first | assumption | omega | (simp only [nxs] <;> omega)), q7, q8, (by first | first | assumption | omega | (simp only [nxs] <;> omega)), qf, (by first | exact b1h | exact b1i (by first | assumption | omega | (simp only [nxs] <;> omega)) | assumption | exact b00 (by assumption) (by first | assumption | omega | (simp only [nxs] <;> omega))), (by first | exact b1h | exact b1i (by first | assumption | omega | (simp only [nxs] <;> omega)) | assumption | exact b00 (by assumption) (by first | assumption | omega | (simp only [nxs] <;> omega)))⟩
      ·try clear s2 s3 s6 s10 s12 s85 s86 s87 q6 q2 q4 q1 qb qc q3 qa q9 q7 q8 qf
       rintro t h ⟨i14, s2, s3, s6, s10, s12, s14, s15, s85, s86, s87, q6, q2, q4, q1, qb, qc, qv, qt, q3, qa, q9, qq, q7, q8, qr, qf, qw, qx⟩
       refine b0d fun K hK => ?_
       simp only [go_sem, s14, qv, qt, q2, q1, qq, b0c qq, qr, b0c qr, qw, qx, b0a v12, b0a v12_1]
       refine hK _ _ ?_
       clear hK K
       refine b06 ?_
       refine b0d fun K hK => ?_
       simp only [go_sem, s15, q2, q1, qt, b0a v12, b0a v12_1]
       refine hK _ _ ?_
       clear hK K
       refine b0u fun K40 hK40 => ?_
       have J41 : ∀ (at_16 : Int) (t : Slots) (h : Heap), t 2 = I tick → t 3 = .fp [.fs 5 (List.map b0n h_.Combs), .fs 3 (List.map b0k h_.Trains), .fs 3 (List.map b0s h_.Shifts), I h_.Until] 0 → t 6 = .rp i6 0 0 → t 10 = I from_10 → t 12 = .rp i12 0 0 → t 14 = .rp i14 0 0 → t 15 = B ((decide (from_10 ≤ x38.At.High)) && (decide (x38.At.Low ≤ tick))) → t 16 = I at_16 → t 85 = .fs 3 (List.map b0k h_.Trains) → t 86 = I (List.length h_.Trains : Int) → t 87 = I x_87 → h.ob i6 = some (3, [[.v (.slice none 0 0), .v (.slice none 0 0), .v (.slice none 0 0)]]) → i6 < h.nx → h.ob i12 = some (3, [[v12, v12_1, .v (.slice none 0 0)]]) → i12 < h.nx → b01 h v12 1 (List.map eI d_12_0) → b01 h v12_1 1 (List.map b0o d_12_1) → h.ob i14 = some (3, [[I x38.At.Low, I x38.At.High, .fs 3 (List.map b2j x38.Crowds)]]) → i14 < h.nx → ¬i6 = i12 → b0b v12 i6 → b0b v12_1 i6 → ¬i6 = i14 → b0b v12 i12 → b0b v12_1 i12 → ¬i12 = i14 → (∀ j, ¬b0b v12 j → b0b v12_1 j) → b0b v12 i14 → b0b v12_1 i14 → c0j tick from_10 d_12_0 d_12_1 x_87 x38 at_16 = some o → K40 t h := by
        try clear s2 s3 s6 s10 s12 s14 s15 s85 s86 s87 q6 q2 q4 q1 qb qc qv qt q3 qa q9 qq q7 q8 qr qf qw qx
        intro at_16 t h s2 s3 s6 s10 s12 s14 s15 s16 s85 s86 s87 q6 q2 q4 q1 qb qc qv qt q3 qa q9 qq q7 q8 qr qf qw qx hm1
        refine hK40 _ _ ?_
        unfold c0j at hm1
        obtain ⟨l43, h_l43, hm1⟩ := b0g hm1
        refine b0d fun K hK => ?_
        simp only [go_sem, s14, qv, qt, q2, q1, qq, b0c qq, qr, b0c qr, qw, qx, b0a v12, b0a v12_1]
        refine c0x (f := eI) (z := 0) rfl h_l43 ?_
        simp only [go_sem, s14, qv, qt, q2, q1, qq, b0c qq, qr, b0c qr, qw, qx, b0a v12, b0a v12_1]
        refine hK _ _ ?_
        clear hK K
        refine b06 ?_
        refine b0d fun K hK => ?_
        simp only [go_sem, s14, qv, qt, q2, q1, qq, b0c qq, qr, b0c qr, qw, qx, b0a v12, b0a v12_1]
        refine hK _ _ ?_
        clear hK K
        refine b0u fun K44 hK44 => ?_
        have J45 : ∀ (people_17 : List Int) (i17 : Nat) (t : Slots) (h : Heap), t 2 = I tick → t 3 = .fp [.fs 5 (List.map b0n h_.Combs), .fs 3 (List.map b0k h_.Trains), .fs 3 (List.map b0s h_.Shifts), I h_.Until] 0 → t 6 = .rp i6 0 0 → t 10 = I from_10 → t 12 = .rp i12 0 0 → t 16 = I at_16 → t 17 = .rs i17 0 (List.length people_17) → t 85 = .fs 3 (List.map b0k h_.Trains) → t 86 = I (List.length h_.Trains : Int) → t 87 = I x_87 → h.ob i6 = some (3, [[.v (.slice none 0 0), .v (.slice none 0 0), .v (.slice none 0 0)]]) → i6 < h.nx → h.ob i12 = some (3, [[v12, v12_1, .v (.slice none 0 0)]]) → i12 < h.nx → b01 h v12 1 (List.map eI d_12_0) → b01 h v12_1 1 (List.map b0o d_12_1) → h.ob i17 = some (1, List.map eI people_17) → i17 < h.nx → ¬i6 = i12 → b0b v12 i6 → b0b v12_1 i6 → ¬i6 = i17 → b0b v12 i12 → b0b v12_1 i12 → ¬i12 = i17 → (∀ j, ¬b0b v12 j → b0b v12_1 j) → b0b v12 i17 → b0b v12_1 i17 → c5j d_12_0 d_12_1 x_87 at_16 people_17 = some o → K44 t h := by
         try clear s2 s3 s6 s10 s12 s14 s15 s16 s85 s86 s87 q6 q2 q4 q1 qb qc qv qt q3 qa q9 qq q7 q8 qr qf qw qx
         intro people_17 i17 t h s2 s3 s6 s10 s12 s16 s17 s85 s86 s87 q6 q2 q4 q1 qb qc qn qd q3 qa q9 qg q7 q8 qe qf qk qi hm1
         refine hK44 _ _ ?_
         unfold c5j at hm1
         obtain ⟨l47, h_l47, hm1⟩ := b0g hm1
         refine b0d fun K hK => ?_
         simp only [go_sem, s12, s16, q4, q1, q2, qd, q3, b0c q3, qa, q9, q7, q8, qe, b0c qe, qk, qi, b0a v12, b0a v12_1]
         refine b5d (f := eI) (l := d_12_0) (m := ([at_16])) ?_ ?_ ?_ ?_ h_l47 ?_
         ·exact (b1t qb (by intro j hj hl; first | rfl | simp only [go_sem, hl, b1m hj qa, b1m hj q7, qf j hj, b1m hj qk]) (by first | omega | exact Nat.le_refl _ | (simp only [go_sem, nxs] <;> omega)))
         ·exact (b5f (by simp only [go_sem, q6, q2, q4, q1, b0q qb, b0q qc, qn, qd, q3, b0c q3, qa, q9, qg, b0c qg, q7, q8, qe, b0c qe, qk, qi, List.length_append, List.map_append]) (by simp only [go_sem, q6, q2, q4, q1, b0q qb, b0q qc, qn, qd, q3, b0c q3, qa, q9, qg, b0c qg, q7, q8, qe, b0c qe, qk, qi, List.length_append, List.map_append]))
         ·exact (b2u (by first | exact b1h | exact b1i (by first | omega | (simp only [nxs] <;> omega)) | assumption | exact b00 (by assumption) (by first | omega | (simp only [go_sem, nxs] <;> omega))))
         ·exact (fun _ => by simp)
         simp only [go_sem, s12, s16, q4, q1, q2, qd, q3, b0c q3, qa, q9, q7, q8, qe, b0c qe, qk, qi, b0a v12, b0a v12_1]
         refine hK _ _ ?_
         clear hK K
         refine c15 (s := 17) (v := .rs i17 0 (List.length people_17)) (f := eI) (l := people_17) (by simp only [go_sem, s17, q6, q2, q4, q1, b0q qb, b0q qc, qn, qd, q3, b0c q3, qa, q9, qg, b0c qg, q7, q8, qe, b0c qe, qk, qi, List.length_append, List.map_append]) (b3e (by simp only [go_sem, s17, q6, q2, q4, q1, b0q qb, b0q qc, qn, qd, q3, b0c q3, qa, q9, qg, b0c qg, q7, q8, qe, b0c qe, qk, qi, List.length_append, List.map_append]) (by simp only [go_sem, s17, q6, q2, q4, q1, b0q qb, b0q qc, qn, qd, q3, b0c q3, qa, q9, qg, b0c qg, q7, q8, qe, b0c qe, qk, qi, List.length_append, List.map_append]) (by simp only [go_sem, q2, q1, qd])) b2i b4v ?_
         simp only [c41, c42]
         obtain ⟨l49, h_l49, hm1⟩ := b0g hm1
         refine b1n fun K hK => ?_
         simp only [go_sem, s12, s17, q4, q1, q2, qd, q3, b0c q3, q9, q7, q8, qe, b0c qe, qi, b0a v12, b0a v12_1]
         refine b5d (f := b0o) (l := d_12_1) (m := ([people_17])) ?_ ?_ ?_ ?_ h_l49 ?_
         ·exact (b1t qc (by intro j hj hl; first | rfl | simp only [go_sem, hl, b1m hj q9, b1m hj q8, b3w qf j hj, b1m hj qi]) (by first | omega | exact Nat.le_refl _ | (simp only [go_sem, nxs] <;> omega)))
         ·exact (b5f (by simp only [go_sem, q6, q2, q4, q1, b0q qb, b0q qc, qn, qd, q3, b0c q3, qa, q9, qg, b0c qg, q7, q8, qe, b0c qe, qk, qi, List.length_append, List.map_append]) (by simp only [go_sem, q6, q2, q4, q1, b0q qb, b0q qc, qn, qd, q3, b0c q3, qa, q9, qg, b0c qg, q7, q8, qe, b0c qe, qk, qi, List.length_append, List.map_append]))
         ·exact (b2u (by first | exact b1h | exact b1i (by first | omega | (simp only [nxs] <;> omega)) | assumption | exact b00 (by assumption) (by first | omega | (simp only [go_sem, nxs] <;> omega))))
         ·exact (fun _ => by simp)
         simp only [go_sem, s12, s17, q4, q1, q2, qd, q3, b0c q3, q9, q7, q8, qe, b0c qe, qi, b0a v12, b0a v12_1]
         refine hK _ _ ?_
         clear hK K
         simp only [b0h, b0i]
         exact J36 l47 l49 (nxs h.nx) (nxs (nxs (nxs h.nx))) _ _ s2 s3 s6 s10 s12 s85 s86 s87 (by simp only [go_sem, q6, q2, q1, b0q qb, b0q qc, qd, q3, b0c q3, qa, q9, qg, b0c qg, List.length_append, List.map_append]) (by simp only [go_sem, q2]) (by simp only [go_sem, q4, q1, b0q qb, b0q qc, qd, q7, q8, qe, b0c qe, List.length_append, List.map_append]) (by simp only [go_sem, q1]) (by simp only [go_sem, q1, b0q qb, b0q qc, qd, List.length_append, List.map_append]) (by simp only [go_sem]) (by simp only [go_sem, q1, b0q qb, b0q qc, qd, List.length_append, List.map_append]) (by simp only [go_sem]) q3 (by first | first | assumption | omega | (simp only [nxs] <;> omega)) (by first | first | assumption | omega | (simp only [nxs] <;> omega)) (by first | first | assumption | omega | (simp only [nxs] <;> omega)) (by first | first | assumption | omega | (simp only [nxs] <;> omega)) (by first | first | assumption | omega | (simp only [nxs] <;> omega)) hm1
        simp only [b05]
        obtain ⟨b50, hl50, hm1⟩ := b0g hm1
        refine b10 hl50 (fun | (people_17, x_117), t, h => ∃ i17 : Nat, t 2 = I tick ∧ t 3 = .fp [.fs 5 (List.map b0n h_.Combs), .fs 3 (List.map b0k h_.Trains), .fs 3 (List.map b0s h_.Shifts), I h_.Until] 0 ∧ t 6 = .rp i6 0 0 ∧ t 10 = I from_10 ∧ t 12 = .rp i12 0 0 ∧ t 15 = B ((decide (from_10 ≤ x38.At.High)) && (decide (x38.At.Low ≤ tick))) ∧ t 16 = I at_16 ∧ t 17 = .rs i17 0 (List.length people_17) ∧ t 85 = .fs 3 (List.map b0k h_.Trains) ∧ t 86 = I (List.length h_.Trains : Int) ∧ t 87 = I x_87 ∧ t 115 = .fs 3 (List.map b2j x38.Crowds) ∧ t 116 = I (List.length x38.Crowds : Int) ∧ t 117 = I x_117 ∧ h.ob i6 = some (3, [[.v (.slice none 0 0), .v (.slice none 0 0), .v (.slice none 0 0)]]) ∧ i6 < h.nx ∧ h.ob i12 = some (3, [[v12, v12_1, .v (.slice none 0 0)]]) ∧ i12 < h.nx ∧ b01 h v12 1 (List.map eI d_12_0) ∧ b01 h v12_1 1 (List.map b0o d_12_1) ∧ h.ob i17 = some (1, List.map eI people_17) ∧ i17 < h.nx ∧ ¬i6 = i12 ∧ b0b v12 i6 ∧ b0b v12_1 i6 ∧ ¬i6 = i17 ∧ b0b v12 i12 ∧ b0b v12_1 i12 ∧ ¬i12 = i17 ∧ (∀ j, ¬b0b v12 j → b0b v12_1 j) ∧ b0b v12 i17 ∧ b0b v12_1 i17) ?_ ?_
        ·exact ⟨h.nx, s2, s3, s6, s10, s12, s15, s16, (by first | (simp only [go_sem, List.length_append, List.map_append]; done) | rfl), s85, s86, s87, (by first | (simp only [go_sem, List.length_append, List.map_append]; done) | rfl), (by first | (simp only [go_sem, List.length_append, List.map_append]; done) | rfl), (by first | (simp only [go_sem, List.length_append, List.map_append]; done) | rfl), (by simp only [go_sem, q6, q2, List.length_append, List.map_append]), (by simp only [go_sem, q2]), (by simp only [go_sem, q4, q1, List.length_append, List.map_append]), (by simp only [go_sem, q1]), (b1t qb (by intro j hj hl; first | rfl | simp only [go_sem, hl]) (by first | omega | exact Nat.le_refl _ | (simp only [go_sem, nxs] <;> omega))), (b1t qc (by intro j hj hl; first | rfl | simp only [go_sem, hl]) (by first | omega | exact Nat.le_refl _ | (simp only [go_sem, nxs] <;> omega))), (by simp only [go_sem, List.length_append, List.map_append]), (by simp only [go_sem]), q3, qa, q9, (by first | first | assumption | omega | (simp only [nxs] <;> omega)), q7, q8, (by first | first | assumption | omega | (simp only [nxs] <;> omega)), qf, (by first | exact b1h | exact b1i (by first | assumption | omega | (simp only [nxs] <;> omega)) | assumption | exact b00 (by assumption) (by first | assumption | omega | (simp only [nxs] <;> omega))), (by first | exact b1h | exact b1i (by first | assumption | omega | (simp only [nxs] <;> omega)) | assumption | exact b00 (by assumption) (by first | assumption | omega | (simp only [nxs] <;> omega)))⟩
        ·try clear s2 s3 s6 s10 s12 s14 s15 s16 s85 s86 s87 q6 q2 q4 q1 qb qc qv qt q3 qa q9 qq q7 q8 qr qf qw qx
         rintro ⟨people_17, x_117⟩ o t h ⟨i17, s2, s3, s6, s10, s12, s15, s16, s17, s85, s86, s87, s115, s116, s117, q6, q2, q4, q1, qb, qc, qn, qd, q3, qa, q9, qg, q7, q8, qe, qf, qk, qi⟩ hm2 hb50
         simp only [c0i] at hm2
         rw [g06]
         refine b0d fun K hK => ?_
         simp only [go_sem, s116, s117, q2, q1, qd, b0a v12, b0a v12_1]
         refine hK _ _ ?_
         clear hK K
         refine b0u fun K51 hK51 => ?_
         simp only [go_sem]
         refine b0r (fun hc52 => ?_) (fun hc52 => ?_)
         ·rw [b04 hc52] at hm2
          simp only [b02, b0h, b0i]
          refine hK51 _ _ ?_
          refine b0u fun K53 hK53 => ?_
          have J54 : ∀ (people_17_1 : List Int) (t : Slots) (h : Heap), t 2 = I tick → t 3 = .fp [.fs 5 (List.map b0n h_.Combs), .fs 3 (List.map b0k h_.Trains), .fs 3 (List.map b0s h_.Shifts), I h_.Until] 0 → t 6 = .rp i6 0 0 → t 10 = I from_10 → t 12 = .rp i12 0 0 → t 15 = B ((decide (from_10 ≤ x38.At.High)) && (decide (x38.At.Low ≤ tick))) → t 16 = I at_16 → t 17 = .rs i17 0 (List.length people_17_1) → t 85 = .fs 3 (List.map b0k h_.Trains) → t 86 = I (List.length h_.Trains : Int) → t 87 = I x_87 → t 115 = .fs 3 (List.map b2j x38.Crowds) → t 116 = I (List.length x38.Crowds : Int) → t 117 = I x_117 → h.ob i6 = some (3, [[.v (.slice none 0 0), .v (.slice none 0 0), .v (.slice none 0 0)]]) → i6 < h.nx → h.ob i12 = some (3, [[v12, v12_1, .v (.slice none 0 0)]]) → i12 < h.nx → b01 h v12 1 (List.map eI d_12_0) → b01 h v12_1 1 (List.map b0o d_12_1) → h.ob i17 = some (1, List.map eI people_17_1) → i17 < h.nx → ¬i6 = i12 → b0b v12 i6 → b0b v12_1 i6 → ¬i6 = i17 → b0b v12 i12 → b0b v12_1 i12 → ¬i12 = i17 → (∀ j, ¬b0b v12 j → b0b v12_1 j) → b0b v12 i17 → b0b v12_1 i17 → c0k x_117 people_17_1 = some o → K53 t h := by
           try clear s2 s3 s6 s10 s12 s15 s16 s17 s85 s86 s87 s115 s116 s117 q6 q2 q4 q1 qb qc qn qd q3 qa q9 qg q7 q8 qe qf qk qi
           intro people_17_1 t h s2 s3 s6 s10 s12 s15 s16 s17 s85 s86 s87 s115 s116 s117 q6 q2 q4 q1 qb qc qn qd q3 qa q9 qg q7 q8 qe qf qk qi hm2
           refine hK53 _ _ ?_
           unfold c0k at hm2
           refine b1n fun K hK => ?_
           simp only [go_sem, s117, q2, q1, qd, b0a v12, b0a v12_1]
           refine hK _ _ ?_
           clear hK K
           simp only [b0h, b0i]
           obtain rfl := Option.some.inj hm2
           refine ⟨_, rfl, ?_⟩
           exact ⟨i17, s2, s3, s6, s10, s12, s15, s16, (by first | exact s17 | simp only [go_sem, s17, List.length_append, List.map_append]), s85, s86, s87, s115, s116, (by first | (simp only [go_sem, s117, List.length_append, List.map_append]; done) | rfl), q6, q2, q4, q1, qb, qc, qn, qd, q3, qa, q9, qg, q7, q8, qe, qf, qk, qi⟩
          simp only [b05]
          obtain ⟨x56, h_x56, hm2⟩ := b0g hm2
          have h_x560 := b0x h_x56
          have h_x561 := b0y h_x56
          refine b0d fun K hK => ?_
          simp only [go_sem, s115, s117, q2, q1, qd, b0l h_x56, b0m h_x56, h_x560, h_x561, b0a v12, b0a v12_1]
          refine hK _ _ ?_
          clear hK K
          obtain ⟨x58, h_x58, hm2⟩ := b0g hm2
          have h_x580 := b0x h_x58
          have h_x581 := b0y h_x58
          refine b0d fun K hK => ?_
          simp only [go_sem, s17, qn, qd, q2, q1, qg, b0c qg, qe, b0c qe, qk, qi, b0l h_x58, b0m h_x58, h_x580, h_x581, b0a v12, b0a v12_1]
          refine hK _ _ ?_
          clear hK K
          refine b0d fun K hK => ?_
          simp only [go_sem, s15, q2, q1, qd, b0a v12, b0a v12_1]
          refine hK _ _ ?_
          clear hK K
          simp only [go_sem]
          refine b0r (fun hc59 => ?_) (fun hc59 => ?_)
          ·rw [b04 hc59] at hm2
           obtain ⟨x61, h_x61, hm2⟩ := b0g hm2
           have h_x610 := b0x h_x61
           have h_x611 := b0y h_x61; (try simp only [List.length_set] at h_x611)
           refine b1n fun K hK => ?_
           simp only [go_sem, s17, qn, qd, q2, q1, qg, b0c qg, qe, b0c qe, qk, qi, b0l h_x61, b0m h_x61, h_x610, h_x611, b0a v12, b0a v12_1]
           refine hK _ _ ?_
           clear hK K
           simp only [b0h, b0i]
           exact J54 (List.set (List.set people_17 (Int.toNat x_117) x56.People.Low) (Int.toNat x_117) x56.People.High) _ _ s2 s3 s6 s10 s12 s15 s16 (by first | exact s17 | simp only [go_sem, s17, List.length_append, List.map_append]) s85 s86 s87 s115 s116 s117 (by simp only [go_sem, q6, q2, qd, qg, b0c qg, List.length_append, List.map_append]) (by simp only [go_sem, q2]) (by simp only [go_sem, q4, q1, qd, qe, b0c qe, List.length_append, List.map_append]) (by simp only [go_sem, q1]) (b1t qb (by intro j hj hl; first | rfl | simp only [go_sem, hl, qd, b1m hj qk]) (by first | omega | exact Nat.le_refl _ | (simp only [go_sem, nxs] <;> omega))) (b1t qc (by intro j hj hl; first | rfl | simp only [go_sem, hl, qd, b1m hj qi]) (by first | omega | exact Nat.le_refl _ | (simp only [go_sem, nxs] <;> omega))) (by simp only [go_sem, qn, qd, List.length_append, List.map_append]) (by simp only [go_sem, qd]) q3 qa q9 qg q7 q8 qe qf qk qi hm2
          ·rw [b03 hc59] at hm2
           simp only [b02, b0h, b0i]
           exact J54 (List.set people_17 (Int.toNat x_117) x56.People.Low) _ _ s2 s3 s6 s10 s12 s15 s16 (by first | exact s17 | simp only [go_sem, s17, List.length_append, List.map_append]) s85 s86 s87 s115 s116 s117 (by simp only [go_sem, q6, q2, qd, qg, b0c qg, List.length_append, List.map_append]) (by simp only [go_sem, q2]) (by simp only [go_sem, q4, q1, qd, qe, b0c qe, List.length_append, List.map_append]) (by simp only [go_sem, q1]) (b1t qb (by intro j hj hl; first | rfl | simp only [go_sem, hl, qd, b1m hj qk]) (by first | omega | exact Nat.le_refl _ | (simp only [go_sem, nxs] <;> omega))) (b1t qc (by intro j hj hl; first | rfl | simp only [go_sem, hl, qd, b1m hj qi]) (by first | omega | exact Nat.le_refl _ | (simp only [go_sem, nxs] <;> omega))) (by simp only [go_sem, qn, qd, List.length_append, List.map_append]) (by simp only [go_sem, qd]) q3 qa q9 qg q7 q8 qe qf qk qi hm2
         ·rw [b03 hc52] at hm2
          simp only [b1w, b1z, b1y, b1x, b0h, b0i, Nat.reduceEqDiff, not_false_eq_true]
          obtain rfl := Option.some.inj hm2
          obtain rfl := hb50 _ rfl
          try dsimp only at hm1
          exact J45 people_17 i17 _ _ s2 s3 s6 s10 s12 s16 (by first | exact s17 | simp only [go_sem, s17, List.length_append, List.map_append]) s85 s86 s87 q6 q2 q4 q1 qb qc qn qd q3 qa q9 qg q7 q8 qe qf qk qi hm1
       simp only [go_sem]
       refine b0r (fun hc63 => ?_) (fun hc63 => ?_)
       ·rw [b04 hc63] at hm1
        refine b1n fun K hK => ?_
        simp only [go_sem, s10, q2, q1, qt, b0a v12, b0a v12_1]
        refine hK _ _ ?_
        clear hK K
        simp only [b0h, b0i]
        exact J41 (mx x38.At.Low from_10) _ _ s2 s3 s6 s10 s12 s14 s15 (by first | (simp only [go_sem, List.length_append, List.map_append]; done) | rfl) s85 s86 s87 q6 q2 q4 q1 qb qc qv qt q3 qa q9 qq q7 q8 qr qf qw qx hm1
       ·rw [b03 hc63] at hm1
        simp only [b02, b0h, b0i]
        exact J41 x38.At.Low _ _ s2 s3 s6 s10 s12 s14 s15 (by first | (simp only [go_sem, List.length_append, List.map_append]; done) | rfl) s85 s86 s87 q6 q2 q4 q1 qb qc qv qt q3 qa q9 qq q7 q8 qr qf qw qx hm1
     ·rw [b03 hc34] at hm1
      simp only [b1w, b1z, b1y, b1x, b0h, b0i, Nat.reduceEqDiff, not_false_eq_true]
      obtain rfl := Option.some.inj hm1
      obtain rfl := hb32 _ rfl
      try dsimp only at hm0
      exact J20 d_12_0 d_12_1 i12 v12 v12_1 _ _ s3 s6 s12 q6 q2 q4 q1 qb qc q3 qa q9 q7 q8 qf hm0
   simp only [b05]
   obtain ⟨b65, hl65, hm0⟩ := b0g hm0
   refine b10 hl65 (fun | (from_10, x_45), t, h => ∃ i6 : Nat, t 2 = I tick ∧ t 3 = .fp [.fs 5 (List.map b0n h_.Combs), .fs 3 (List.map b0k h_.Trains), .fs 3 (List.map b0s h_.Shifts), I h_.Until] 0 ∧ t 6 = .rp i6 0 0 ∧ t 9 = .fp [.fs 1 (List.map eI x16.rates), .fs 1 (List.map eI x16.flow), .fs 1 (List.map eI x16.most), .fs 1 (List.map b0o x16.come)] 0 ∧ t 10 = I from_10 ∧ t 44 = I (wr (tick + 1)) ∧ t 45 = I x_45 ∧ h.ob i6 = some (3, [[.v (.slice none 0 0), .v (.slice none 0 0), .v (.slice none 0 0)]]) ∧ i6 < h.nx) ?_ ?_
   ·exact ⟨h.nx, s2, (by first | (simp only [go_sem, List.length_append, List.map_append]; done) | rfl), (by first | (simp only [go_sem, List.length_append, List.map_append]; done) | rfl), (by first | (simp only [go_sem, List.length_append, List.map_append]; done) | rfl), (by first | (simp only [go_sem, List.length_append, List.map_append]; done) | rfl), (by first | (simp only [go_sem, List.length_append, List.map_append]; done) | rfl), (by first | (simp only [go_sem, List.length_append, List.map_append]; done) | rfl), (by simp only [go_sem, List.length_append, List.map_append]), (by simp only [go_sem])⟩
   ·rintro ⟨from_10, x_45⟩ o t h ⟨i6, s2, s3, s6, s9, s10, s44, s45, q6, q2⟩ hm1 hb65
    simp only [c0h] at hm1
    rw [g05]
    refine b0d fun K hK => ?_
    simp only [go_sem, s44, s45, q2]
    refine hK _ _ ?_
    clear hK K
    refine b0u fun K66 hK66 => ?_
    simp only [go_sem]
    refine b0r (fun hc67 => ?_) (fun hc67 => ?_)
    ·rw [b04 hc67] at hm1
     simp only [b02, b0h, b0i]
     refine hK66 _ _ ?_
     refine b0u fun K68 hK68 => ?_
     simp only [b05]
     refine b0d fun K hK => ?_
     simp only [go_sem, s45, q2]
     refine hK _ _ ?_
     clear hK K
     obtain ⟨x74, h_x74, hm1⟩ := b0g hm1
     have h_x740 := b0x h_x74
     have h_x741 := b0y h_x74
     obtain ⟨x75, h_x75, hm1⟩ := b0g hm1
     have h_x750 := b0x h_x75
     have h_x751 := b0y h_x75
     obtain ⟨x76, h_x76, hm1⟩ := b0g hm1
     have h_x760 := b0x h_x76
     have h_x761 := b0y h_x76
     obtain ⟨x77, h_x77, hm1⟩ := b0g hm1
     have h_x770 := b0x h_x77
     have h_x771 := b0y h_x77
     obtain ⟨x78, h_x78, hm1⟩ := b0g hm1
     have h_x780 := b0x h_x78
     have h_x781 := b0y h_x78
     refine b0d fun K hK => ?_
     simp only [go_sem, s2, s9, q2, b0l h_x74, b0m h_x74, h_x740, h_x741, b0l h_x75, b0m h_x75, h_x750, h_x751, b0l h_x76, b0m h_x76, h_x760, h_x761, b0l h_x77, b0m h_x77, h_x770, h_x771, b0l h_x78, b0m h_x78, h_x780, h_x781]
     refine hK _ _ ?_
     clear hK K
     simp only [go_sem]
     refine b0r (fun hc79 => ?_) (fun hc79 => ?_)
     ·rw [b04 hc79] at hm1
      refine b0d fun K hK => ?_
      simp only [go_sem, q2]
      refine hK _ _ ?_
      clear hK K
      simp only [b1w, b1z, b1y, b1x, b0h, b0i, Nat.reduceEqDiff, not_false_eq_true]
      obtain rfl := Option.some.inj hm1
      obtain rfl := hb65 _ rfl
      try dsimp only at hm0
      exact J18 x_45 i6 _ _ s2 s3 s6 (by first | (simp only [go_sem, s10, List.length_append, List.map_append]; done) | rfl) q6 q2 hm0
     ·rw [b03 hc79] at hm1
      simp only [b02, b0h, b0i]
      refine hK68 _ _ ?_
      refine b1n fun K hK => ?_
      simp only [go_sem, s45, q2]
      refine hK _ _ ?_
      clear hK K
      simp only [b0h, b0i]
      obtain rfl := Option.some.inj hm1
      refine ⟨_, rfl, ?_⟩
      exact ⟨i6, s2, s3, s6, s9, s10, s44, (by first | (simp only [go_sem, s45, List.length_append, List.map_append]; done) | rfl), q6, q2⟩
    ·rw [b03 hc67] at hm1
     simp only [b1w, b1z, b1y, b1x, b0h, b0i, Nat.reduceEqDiff, not_false_eq_true]
     obtain rfl := Option.some.inj hm1
     obtain rfl := hb65 _ rfl
     try dsimp only at hm0
     exact J18 from_10 i6 _ _ s2 s3 s6 s10 q6 q2 hm0
theorem d0v (hf : Has O "newel/halls.Witness$1" x_halls_WitnessD1) : c7l O := by
 intro c c0
 generalize hm0 : b8s c c0 = r
 unfold b8s at hm0
 refine b2k hf rfl (b0e (.agg _ (b0e (b0j _) (b0e (b0j _) (b0e (b0j _) (b0e (b0j _) (b0e (b0j _) b0z)))))) (b0e (.fp _ _ (b0e (b0j _) b0z)) b0z)) (b0j _) ?_
 refine b2f (fun t h => t 0 = .agg [I c.Rate, I c.Limit, I c.Next, I c.Walk.Low, I c.Walk.High] ∧ t 1 = .fp [I c0] 0) ⟨rfl, rfl⟩ fun t h ⟨s0, s1⟩ => ?_
 simp only [x_halls_WitnessD1]
 refine b0d fun K hK => ?_
 simp only [go_sem, s0]
 refine hK _ _ ?_
 clear hK K
 refine b0d fun K hK => ?_
 simp only [go_sem, s1]
 refine hK _ _ ?_
 clear hK K
 simp only [b1c, b1e, b1d, b1f]
 obtain rfl := hm0
 exact b1s (by simp only [go_sem, List.length_append, List.map_append]) (b0j _)
theorem c3a (hf : Has O "newel/halls.brought" x_halls_brought) : c4b O := by
 intro h_ comb from_ to_ r hm0
 unfold b8u at hm0
 refine b2k hf rfl (b0e (.agg _ (b0e (b0w fun a _ => b2l a) (b0e (b0w fun a _ => b2n a) (b0e (b0w fun a _ => b2p a) (b0e (b0j _) b0z))))) (b0e (b0j _) (b0e (b0j _) (b0e (b0j _) b0z)))) (b0j _) ?_
 refine b2f (fun t h => t 0 = .agg [.fs 5 (List.map b0n h_.Combs), .fs 3 (List.map b0k h_.Trains), .fs 3 (List.map b0s h_.Shifts), I h_.Until] ∧ t 1 = I comb ∧ t 2 = I from_ ∧ t 3 = I to_) ⟨rfl, rfl, rfl, rfl⟩ fun t h ⟨s0, s1, s2, s3⟩ => ?_
 simp only [x_halls_brought]
 refine b0d fun K hK => ?_
 simp only [go_sem, s0]
 refine hK _ _ ?_
 clear hK K
 refine b06 ?_
 refine b0d fun K hK => ?_
 simp only [go_sem]
 refine hK _ _ ?_
 clear hK K
 refine b0u fun K1 hK1 => ?_
 have J2 : ∀ (sum_8 : Int) (t : Slots) (h : Heap), t 8 = I sum_8 → c2u sum_8 = some r → K1 t h := by
  intro sum_8 t h s8 hm0
  refine hK1 _ _ ?_
  unfold c2u at hm0
  refine b0d fun K hK => ?_
  simp only [go_sem, s8]
  refine hK _ _ ?_
  clear hK K
  simp only [b1c, b1e, b1d, b1f]
  obtain rfl := Option.some.inj hm0
  exact b1s (by simp only [go_sem, s8, List.length_append, List.map_append]) (b0j _)
 simp only [b05]
 obtain ⟨b3, hl3, hm0⟩ := b0g hm0
 refine b10 hl3 (fun | (sum_8, x_16), t, h => t 1 = I comb ∧ t 2 = I from_ ∧ t 3 = I to_ ∧ t 8 = I sum_8 ∧ t 14 = .fs 3 (List.map b0k h_.Trains) ∧ t 15 = I (List.length h_.Trains : Int) ∧ t 16 = I x_16) ?_ ?_
 ·exact ⟨s1, s2, s3, (by first | (simp only [go_sem, List.length_append, List.map_append]; done) | rfl), (by first | (simp only [go_sem, List.length_append, List.map_append]; done) | rfl), (by first | (simp only [go_sem, List.length_append, List.map_append]; done) | rfl), (by first | (simp only [go_sem, List.length_append, List.map_append]; done) | rfl)⟩
 ·rintro ⟨sum_8, x_16⟩ o t h ⟨s1, s2, s3, s8, s14, s15, s16⟩ hm1 hb3
  simp only [b8w] at hm1
  rw [g1a]
  refine b0d fun K hK => ?_
  simp only [go_sem, s15, s16]
  refine hK _ _ ?_
  clear hK K
  refine b0u fun K4 hK4 => ?_
  simp only [go_sem]
  refine b0r (fun hc5 => ?_) (fun hc5 => ?_)
  ·rw [b04 hc5] at hm1
   simp only [b02, b0h, b0i]
   refine hK4 _ _ ?_
   refine b0u fun K6 hK6 => ?_
   have J7 : ∀ (sum_8_1 : Int) (t : Slots) (h : Heap), t 1 = I comb → t 2 = I from_ → t 3 = I to_ → t 8 = I sum_8_1 → t 14 = .fs 3 (List.map b0k h_.Trains) → t 15 = I (List.length h_.Trains : Int) → t 16 = I x_16 → b7u x_16 sum_8_1 = some o → K6 t h := by
    intro sum_8_1 t h s1 s2 s3 s8 s14 s15 s16 hm1
    refine hK6 _ _ ?_
    unfold b7u at hm1
    refine b1n fun K hK => ?_
    simp only [go_sem, s16]
    refine hK _ _ ?_
    clear hK K
    simp only [b0h, b0i]
    obtain rfl := Option.some.inj hm1
    refine ⟨_, rfl, ?_⟩
    exact ⟨s1, s2, s3, s8, s14, s15, (by first | (simp only [go_sem, s16, List.length_append, List.map_append]; done) | rfl)⟩
   simp only [b05]
   obtain ⟨x9, h_x9, hm1⟩ := b0g hm1
   have h_x90 := b0x h_x9
   have h_x91 := b0y h_x9
   refine b0d fun K hK => ?_
   simp only [go_sem, s14, s16, b0l h_x9, b0m h_x9, h_x90, h_x91]
   refine hK _ _ ?_
   clear hK K
   refine b06 ?_
   refine b2e (fun t h => ∃ i10 : Nat, t 1 = I comb ∧ t 2 = I from_ ∧ t 3 = I to_ ∧ t 8 = I sum_8 ∧ t 10 = .rp i10 0 0 ∧ t 14 = .fs 3 (List.map b0k h_.Trains) ∧ t 15 = I (List.length h_.Trains : Int) ∧ t 16 = I x_16 ∧ t 31 = B ((decide (x9.At.High < from_)) || (decide (to_ < x9.At.Low))) ∧ h.ob i10 = some (3, [[I x9.At.Low, I x9.At.High, .fs 3 (List.map b2j x9.Crowds)]]) ∧ i10 < h.nx) (fun K hK => ?_) ?_
   ·simp only [go_sem, s2, s3]
    refine b0r (fun hg10 => ?_) (fun hg10 => ?_)
    ·simp only [go_sem, s2, s3, hg10]
     exact hK _ _ ⟨h.nx, s1, s2, s3, s8, (by first | (simp only [go_sem, hg10, List.length_append, List.map_append]; done) | rfl), s14, s15, s16, (by first | (simp only [go_sem, hg10, List.length_append, List.map_append]; done) | rfl), (by simp only [go_sem, hg10, List.length_append, List.map_append]), (by simp only [go_sem])⟩
    ·simp only [go_sem, s2, s3, hg10]
     exact hK _ _ ⟨h.nx, s1, s2, s3, s8, (by first | (simp only [go_sem, hg10, List.length_append, List.map_append]; done) | rfl), s14, s15, s16, (by first | (simp only [go_sem, hg10, List.length_append, List.map_append]; done) | rfl), (by simp only [go_sem, hg10, List.length_append, List.map_append]), (by simp only [go_sem])⟩
   ·rintro t h ⟨i10, s1, s2, s3, s8, s10, s14, s15, s16, s31, q16, q17⟩
    refine b0u fun K11 hK11 => ?_
    simp only [go_sem, s31]
    refine b0r (fun hc12 => ?_) (fun hc12 => ?_)
    ·rw [b04 hc12] at hm1
     simp only [b1w, b1z, b1y, b1x, b0h, b0i, Nat.reduceEqDiff, not_false_eq_true]
     exact J7 sum_8 _ _ s1 s2 s3 s8 s14 s15 s16 hm1
    ·rw [b03 hc12] at hm1
     simp only [b02, b0h, b0i]
     refine hK11 _ _ ?_
     refine b0d fun K hK => ?_
     simp only [go_sem, s10, q16, q17]
     refine hK _ _ ?_
     clear hK K
     simp only [b05]
     obtain ⟨b13, hl13, hm1⟩ := b0g hm1
     refine b10 hl13 (fun | (sum_8_1, x_35), t, h => t 1 = I comb ∧ t 2 = I from_ ∧ t 3 = I to_ ∧ t 8 = I sum_8_1 ∧ t 14 = .fs 3 (List.map b0k h_.Trains) ∧ t 15 = I (List.length h_.Trains : Int) ∧ t 16 = I x_16 ∧ t 33 = .fs 3 (List.map b2j x9.Crowds) ∧ t 34 = I (List.length x9.Crowds : Int) ∧ t 35 = I x_35) ?_ ?_
     ·exact ⟨s1, s2, s3, s8, s14, s15, s16, (by first | (simp only [go_sem, List.length_append, List.map_append]; done) | rfl), (by first | (simp only [go_sem, List.length_append, List.map_append]; done) | rfl), (by first | (simp only [go_sem, List.length_append, List.map_append]; done) | rfl)⟩
     ·try clear s1 s2 s3 s8 s10 s14 s15 s16 s31 q16 q17
      rintro ⟨sum_8_1, x_35⟩ o t h ⟨s1, s2, s3, s8, s14, s15, s16, s33, s34, s35⟩ hm2 hb13
      simp only [b8v] at hm2
      rw [g09]
      refine b0d fun K hK => ?_
      simp only [go_sem, s34, s35]
      refine hK _ _ ?_
      clear hK K
      refine b0u fun K14 hK14 => ?_
      simp only [go_sem]
      refine b0r (fun hc15 => ?_) (fun hc15 => ?_)
      ·rw [b04 hc15] at hm2
       simp only [b02, b0h, b0i]
       refine hK14 _ _ ?_
       refine b0u fun K16 hK16 => ?_
       have J17 : ∀ (sum_8_2 : Int) (t : Slots) (h : Heap), t 1 = I comb → t 2 = I from_ → t 3 = I to_ → t 8 = I sum_8_2 → t 14 = .fs 3 (List.map b0k h_.Trains) → t 15 = I (List.length h_.Trains : Int) → t 16 = I x_16 → t 33 = .fs 3 (List.map b2j x9.Crowds) → t 34 = I (List.length x9.Crowds : Int) → t 35 = I x_35 → b7t x_35 sum_8_2 = some o → K16 t h := by
        try clear s1 s2 s3 s8 s14 s15 s16 s33 s34 s35
        intro sum_8_2 t h s1 s2 s3 s8 s14 s15 s16 s33 s34 s35 hm2
        refine hK16 _ _ ?_
        unfold b7t at hm2
        refine b1n fun K hK => ?_
        simp only [go_sem, s35]
        refine hK _ _ ?_
        clear hK K
        simp only [b0h, b0i]
        obtain rfl := Option.some.inj hm2
        refine ⟨_, rfl, ?_⟩
        exact ⟨s1, s2, s3, s8, s14, s15, s16, s33, s34, (by first | (simp only [go_sem, s35, List.length_append, List.map_append]; done) | rfl)⟩
       simp only [b05]
       obtain ⟨x19, h_x19, hm2⟩ := b0g hm2
       have h_x190 := b0x h_x19
       have h_x191 := b0y h_x19
       refine b0d fun K hK => ?_
       simp only [go_sem, s33, s35, b0l h_x19, b0m h_x19, h_x190, h_x191]
       refine hK _ _ ?_
       clear hK K
       refine b0d fun K hK => ?_
       simp only [go_sem, s1]
       refine hK _ _ ?_
       clear hK K
       simp only [go_sem]
       refine b0r (fun hc20 => ?_) (fun hc20 => ?_)
       ·rw [b04 hc20] at hm2
        refine b1n fun K hK => ?_
        simp only [go_sem, s8]
        refine hK _ _ ?_
        clear hK K
        simp only [b0h, b0i]
        exact J17 (wr (sum_8_1 + x19.People.High)) _ _ s1 s2 s3 (by first | (simp only [go_sem, s8, List.length_append, List.map_append]; done) | rfl) s14 s15 s16 s33 s34 s35 hm2
       ·rw [b03 hc20] at hm2
        simp only [b02, b0h, b0i]
        exact J17 sum_8_1 _ _ s1 s2 s3 s8 s14 s15 s16 s33 s34 s35 hm2
      ·rw [b03 hc15] at hm2
       simp only [b1w, b1z, b1y, b1x, b0h, b0i, Nat.reduceEqDiff, not_false_eq_true]
       obtain rfl := Option.some.inj hm2
       obtain rfl := hb13 _ rfl
       try dsimp only at hm1
       exact J7 sum_8_1 _ _ s1 s2 s3 s8 s14 s15 s16 hm1
  ·rw [b03 hc5] at hm1
   simp only [b1w, b1z, b1y, b1x, b0h, b0i, Nat.reduceEqDiff, not_false_eq_true]
   obtain rfl := Option.some.inj hm1
   obtain rfl := hb3 _ rfl
   try dsimp only at hm0
   exact J2 sum_8 _ _ s8 hm0
theorem b85 (hf : Has O "newel/halls.check" x_halls_check) (b83 : c1l O) (c3d : c4f O) (d0x : c7n O) : c1n O := by
 intro h_ comb ticks r hm0
 unfold b6f at hm0
 refine b2k hf rfl (b0e (.agg _ (b0e (b0w fun a _ => b2l a) (b0e (b0w fun a _ => b2n a) (b0e (b0w fun a _ => b2p a) (b0e (b0j _) b0z))))) (b0e (b0j _) (b0e (b0w fun a _ => b2i a) b0z))) (b0j _) ?_
 refine b2f (fun t h => t 0 = .agg [.fs 5 (List.map b0n h_.Combs), .fs 3 (List.map b0k h_.Trains), .fs 3 (List.map b0s h_.Shifts), I h_.Until] ∧ t 1 = I comb ∧ t 2 = .fs 1 (List.map eI ticks)) ⟨rfl, rfl, rfl⟩ fun t h ⟨s0, s1, s2⟩ => ?_
 simp only [x_halls_check]
 refine b0d fun K hK => ?_
 simp only [go_sem, s0]
 refine hK _ _ ?_
 clear hK K
 refine b06 ?_
 obtain ⟨y2, h_y2, hm0⟩ := b0g hm0
 refine b0d fun K hK => ?_
 simp only [go_sem]
 refine b1o (b83 h_ _ h_y2) ?_
 simp only [go_sem]
 refine hK _ _ ?_
 clear hK K
 refine b06 ?_
 refine b0d fun K hK => ?_
 simp only [go_sem]
 refine hK _ _ ?_
 clear hK K
 refine b0u fun K3 hK3 => ?_
 simp only [go_sem]
 refine b0r (fun hc4 => ?_) (fun hc4 => ?_)
 ·rw [b04 hc4] at hm0
  refine b0d fun K hK => ?_
  simp only [go_sem]
  refine hK _ _ ?_
  clear hK K
  simp only [b1c, b1e, b1d, b1f]
  obtain rfl := Option.some.inj hm0
  exact b1s (by simp only [go_sem, List.length_append, List.map_append]) (b0j _)
 ·rw [b03 hc4] at hm0
  simp only [b02, b0h, b0i]
  refine hK3 _ _ ?_
  refine b06 ?_
  obtain ⟨c10, h_c10, hm0⟩ := b0g hm0
  refine b2e (fun t h => t 26 = B c10) (fun K hK => ?_) ?_
  ·simp only [go_sem, s1, s2]
   refine b0r (fun hg11 => ?_) (fun hg11 => ?_)
   ·simp only [hg11, Bool.not_true, Bool.not_false, eq_self, if_true, if_false, Bool.true_or, Bool.or_true, Bool.false_or, Bool.or_false, Bool.true_and, Bool.and_true, Bool.false_and, Bool.and_false, Bool.false_eq_true] at h_c10
    obtain rfl := Option.some.inj h_c10
    simp only [go_sem, s1, s2, hg11]
    exact hK _ _ (by first | (simp only [go_sem, hg11, List.length_append, List.map_append]; done) | rfl)
   ·simp only [go_sem, s1, s2, hg11]
    refine b0r (fun hg12 => ?_) (fun hg12 => ?_)
    ·simp only [hg11, hg12, Bool.not_true, Bool.not_false, eq_self, if_true, if_false, Bool.true_or, Bool.or_true, Bool.false_or, Bool.or_false, Bool.true_and, Bool.and_true, Bool.false_and, Bool.and_false, Bool.false_eq_true] at h_c10
     obtain rfl := Option.some.inj h_c10
     simp only [go_sem, s1, s2, hg11, hg12]
     exact hK _ _ (by first | (simp only [go_sem, hg11, hg12, List.length_append, List.map_append]; done) | rfl)
    ·simp only [hg11, hg12, Bool.not_true, Bool.not_false, eq_self, if_true, if_false, Bool.true_or, Bool.or_true, Bool.false_or, Bool.or_false, Bool.true_and, Bool.and_true, Bool.false_and, Bool.and_false, Bool.false_eq_true] at h_c10
     obtain ⟨y9, h_y9, h_c10⟩ := b0g h_c10
     obtain rfl := Option.some.inj h_c10
     simp only [go_sem, s1, s2, hg11, hg12]
     refine b1o (c3d ticks "newel/halls.check$1" [] [.fp [.fs 5 (List.map b0n h_.Combs), .fs 3 (List.map b0k h_.Trains), .fs 3 (List.map b0s h_.Shifts), I h_.Until] 0] (fun z8 => some (b6w z8 h_)) (.fn _ _ _ b0z (b0e (.fp _ _ (b0e (b0w fun a _ => b2l a) (b0e (b0w fun a _ => b2n a) (b0e (b0w fun a _ => b2p a) (b0e (b0j _) b0z))))) b0z)) (fun z0 y hz => by cases hz; exact d0x z0 h_) _ h_y9) ?_
     simp only [go_sem, s1, s2, hg11, hg12]
     exact hK _ _ (by first | (simp only [go_sem, hg11, hg12, List.length_append, List.map_append]; done) | rfl)
  ·rintro t h s26
   refine b0u fun K13 hK13 => ?_
   simp only [go_sem, s26]
   refine b0r (fun hc14 => ?_) (fun hc14 => ?_)
   ·rw [b04 hc14] at hm0
    refine b0d fun K hK => ?_
    simp only [go_sem]
    refine hK _ _ ?_
    clear hK K
    simp only [b1c, b1e, b1d, b1f]
    obtain rfl := Option.some.inj hm0
    exact b1s (by simp only [go_sem, List.length_append, List.map_append]) (b0j _)
   ·rw [b03 hc14] at hm0
    simp only [b02, b0h, b0i]
    refine hK13 _ _ ?_
    refine b0d fun K hK => ?_
    simp only [go_sem]
    refine hK _ _ ?_
    clear hK K
    simp only [b1c, b1e, b1d, b1f]
    obtain rfl := Option.some.inj hm0
    exact b1s (by simp only [go_sem, List.length_append, List.map_append]) (b0j _)
theorem d0x (hf : Has O "newel/halls.check$1" x_halls_checkD1) : c7n O := by
 intro t_ c0
 generalize hm0 : b6w t_ c0 = r
 unfold b6w at hm0
 refine b2k hf rfl (b0e (b0j _) (b0e (.fp _ _ (b0e (b0w fun a _ => b2l a) (b0e (b0w fun a _ => b2n a) (b0e (b0w fun a _ => b2p a) (b0e (b0j _) b0z))))) b0z)) (b0j _) ?_
 refine b2f (fun t h => t 0 = I t_ ∧ t 1 = .fp [.fs 5 (List.map b0n c0.Combs), .fs 3 (List.map b0k c0.Trains), .fs 3 (List.map b0s c0.Shifts), I c0.Until] 0) ⟨rfl, rfl⟩ fun t h ⟨s0, s1⟩ => ?_
 simp only [x_halls_checkD1]
 refine b0d fun K hK => ?_
 simp only [go_sem]
 refine hK _ _ ?_
 clear hK K
 refine b2e (fun t h => t 3 = B ((decide (t_ < 0)) || (decide (c0.Until ≤ t_)))) (fun K hK => ?_) ?_
 ·simp only [go_sem, s0, s1]
  refine b0r (fun hg1 => ?_) (fun hg1 => ?_)
  ·simp only [go_sem, s0, s1, hg1]
   exact hK _ _ (by first | (simp only [go_sem, hg1, List.length_append, List.map_append]; done) | rfl)
  ·simp only [go_sem, s0, s1, hg1]
   exact hK _ _ (by first | (simp only [go_sem, hg1, List.length_append, List.map_append]; done) | rfl)
 ·rintro t h s3
  simp only [b1c, b1e, b1d, b1f]
  obtain rfl := hm0
  exact b1s (by simp only [go_sem, s3, List.length_append, List.map_append]) (b0j _)
theorem b5m (hf : Has O "newel/halls.in" x_halls_in) : b9r O := by
 intro n s
 generalize hm0 : b3a n s = r
 unfold b3a at hm0
 refine b2k hf rfl (b0e (b0j _) (b0e (.agg _ (b0e (b0j _) (b0e (b0j _) b0z))) b0z)) (b0j _) ?_
 refine b2f (fun t h => t 0 = I n ∧ t 1 = .agg [I s.Low, I s.High]) ⟨rfl, rfl⟩ fun t h ⟨s0, s1⟩ => ?_
 simp only [x_halls_in]
 refine b0d fun K hK => ?_
 simp only [go_sem, s1]
 refine hK _ _ ?_
 clear hK K
 refine b2e (fun t h => t 4 = B ((decide (s.Low ≤ n)) && (decide (n ≤ s.High)))) (fun K hK => ?_) ?_
 ·simp only [go_sem, s0]
  refine b0r (fun hg1 => ?_) (fun hg1 => ?_)
  ·simp only [go_sem, s0, hg1]
   exact hK _ _ (by first | (simp only [go_sem, hg1, List.length_append, List.map_append]; done) | rfl)
  ·simp only [go_sem, s0, hg1]
   exact hK _ _ (by first | (simp only [go_sem, hg1, List.length_append, List.map_append]; done) | rfl)
 ·rintro t h s4
  simp only [b1c, b1e, b1d, b1f]
  obtain rfl := hm0
  exact b1s (by simp only [go_sem, s4, List.length_append, List.map_append]) (b0j _)
theorem d0y (hf : Has O "newel/halls.isComb" x_halls_isComb) (b5m : b9r O) (b88 : c4d O) : c7o O := by
 intro h_ i r hm0
 unfold b8x at hm0
 refine b2k hf rfl (b0e (.agg _ (b0e (b0w fun a _ => b2l a) (b0e (b0w fun a _ => b2n a) (b0e (b0w fun a _ => b2p a) (b0e (b0j _) b0z))))) (b0e (b0j _) b0z)) (b0j _) ?_
 refine b2f (fun t h => t 0 = .agg [.fs 5 (List.map b0n h_.Combs), .fs 3 (List.map b0k h_.Trains), .fs 3 (List.map b0s h_.Shifts), I h_.Until] ∧ t 1 = I i) ⟨rfl, rfl⟩ fun t h ⟨s0, s1⟩ => ?_
 simp only [x_halls_isComb]
 refine b0d fun K hK => ?_
 simp only [go_sem, s0]
 refine hK _ _ ?_
 clear hK K
 obtain ⟨x2, h_x2, hm0⟩ := b0g hm0
 have h_x20 := b0x h_x2
 have h_x21 := b0y h_x2
 refine b0d fun K hK => ?_
 simp only [go_sem, s1, b0l h_x2, b0m h_x2, h_x20, h_x21]
 refine hK _ _ ?_
 clear hK K
 refine b2e (fun t h => t 4 = B ((((b3a x2.Rate (Span.mk 0 1000)) && (b3a x2.Limit (Span.mk 0 100000))) && ((decide (x2.Next = (-1))) || ((decide (i < x2.Next)) && (decide (x2.Next < (List.length h_.Combs : Int)))))) && (b4u x2.Walk 1 20))) (fun K hK => ?_) ?_
 ·simp only [go_sem, s1]
  refine b1o (b5m x2.Rate (Span.mk 0 1000)) ?_
  simp only [go_sem, s1]
  refine b0r (fun hg3 => ?_) (fun hg3 => ?_)
  ·simp only [go_sem, s1, hg3]
   refine b1o (b5m x2.Limit (Span.mk 0 100000)) ?_
   simp only [go_sem, s1, hg3]
   refine b0r (fun hg4 => ?_) (fun hg4 => ?_)
   ·simp only [go_sem, s1, hg3, hg4]
    refine b0r (fun hg5 => ?_) (fun hg5 => ?_)
    ·simp only [go_sem, s1, hg3, hg4, hg5]
     refine b1o (b88 x2.Walk 1 20) ?_
     simp only [go_sem, s1, hg3, hg4, hg5]
     exact hK _ _ (by first | (simp only [go_sem, hg3, hg4, hg5, List.length_append, List.map_append]; done) | rfl)
    ·simp only [go_sem, s1, hg3, hg4, hg5]
     refine b0r (fun hg6 => ?_) (fun hg6 => ?_)
     ·simp only [go_sem, s1, hg3, hg4, hg5, hg6]
      refine b0r (fun hg7 => ?_) (fun hg7 => ?_)
      ·simp only [go_sem, s1, hg3, hg4, hg5, hg6, hg7]
       refine b1o (b88 x2.Walk 1 20) ?_
       simp only [go_sem, s1, hg3, hg4, hg5, hg6, hg7]
       exact hK _ _ (by first | (simp only [go_sem, hg3, hg4, hg5, hg6, hg7, List.length_append, List.map_append]; done) | rfl)
      ·simp only [go_sem, s1, hg3, hg4, hg5, hg6, hg7]
       exact hK _ _ (by first | (simp only [go_sem, hg3, hg4, hg5, hg6, hg7, List.length_append, List.map_append]; done) | rfl)
     ·simp only [go_sem, s1, hg3, hg4, hg5, hg6]
      exact hK _ _ (by first | (simp only [go_sem, hg3, hg4, hg5, hg6, List.length_append, List.map_append]; done) | rfl)
   ·simp only [go_sem, s1, hg3, hg4]
    exact hK _ _ (by first | (simp only [go_sem, hg3, hg4, List.length_append, List.map_append]; done) | rfl)
  ·simp only [go_sem, s1, hg3]
   exact hK _ _ (by first | (simp only [go_sem, hg3, List.length_append, List.map_append]; done) | rfl)
 ·rintro t h s4
  simp only [b1c, b1e, b1d, b1f]
  obtain rfl := Option.some.inj hm0
  exact b1s (by simp only [go_sem, s4, List.length_append, List.map_append]) (b0j _)
theorem d0z (hf : Has O "newel/halls.isDay" x_halls_isDay) (b5m : b9r O) (c3d : c4f O) (d00 : c7q O) : c7p O := by
 intro h_ d r hm0
 unfold b8y at hm0
 refine b2k hf rfl (b0e (.agg _ (b0e (b0w fun a _ => b2l a) (b0e (b0w fun a _ => b2n a) (b0e (b0w fun a _ => b2p a) (b0e (b0j _) b0z))))) (b0e (.agg _ (b0e (b0w fun a _ => b2i a) (b0e (b0w fun a _ => b3g a) (b0e (b0w fun a _ => b3g a) b0z)))) b0z)) (b0j _) ?_
 refine b2f (fun t h => t 0 = .agg [.fs 5 (List.map b0n h_.Combs), .fs 3 (List.map b0k h_.Trains), .fs 3 (List.map b0s h_.Shifts), I h_.Until] ∧ t 1 = .agg [.fs 1 (List.map eI d.At), .fs 1 (List.map b0o d.People), .fs 1 (List.map b0o d.Walks)]) ⟨rfl, rfl⟩ fun t h ⟨s0, s1⟩ => ?_
 simp only [x_halls_isDay]
 refine b0d fun K hK => ?_
 simp only [go_sem, s0, s1]
 refine hK _ _ ?_
 clear hK K
 refine b06 ?_
 refine b2e (fun t h => t 2 = .fp [.fs 5 (List.map b0n h_.Combs), .fs 3 (List.map b0k h_.Trains), .fs 3 (List.map b0s h_.Shifts), I h_.Until] 0 ∧ t 3 = .fp [.fs 1 (List.map eI d.At), .fs 1 (List.map b0o d.People), .fs 1 (List.map b0o d.Walks)] 0 ∧ t 36 = B (((decide (¬(List.length d.At : Int) = (List.length h_.Trains : Int))) || (decide (¬(List.length d.People : Int) = (List.length h_.Trains : Int)))) || (decide (¬(List.length d.Walks : Int) = (List.length h_.Combs : Int))))) (fun K hK => ?_) ?_
 ·simp only [go_sem]
  refine b0r (fun hg1 => ?_) (fun hg1 => ?_)
  ·simp only [go_sem, hg1]
   exact hK _ _ ⟨(by first | (simp only [go_sem, hg1, List.length_append, List.map_append]; done) | rfl), (by first | (simp only [go_sem, hg1, List.length_append, List.map_append]; done) | rfl), (by first | (simp only [go_sem, hg1, List.length_append, List.map_append]; done) | rfl)⟩
  ·simp only [go_sem, hg1]
   refine b0r (fun hg2 => ?_) (fun hg2 => ?_)
   ·simp only [go_sem, hg1, hg2]
    exact hK _ _ ⟨(by first | (simp only [go_sem, hg1, hg2, List.length_append, List.map_append]; done) | rfl), (by first | (simp only [go_sem, hg1, hg2, List.length_append, List.map_append]; done) | rfl), (by first | (simp only [go_sem, hg1, hg2, List.length_append, List.map_append]; done) | rfl)⟩
   ·simp only [go_sem, hg1, hg2]
    exact hK _ _ ⟨(by first | (simp only [go_sem, hg1, hg2, List.length_append, List.map_append]; done) | rfl), (by first | (simp only [go_sem, hg1, hg2, List.length_append, List.map_append]; done) | rfl), (by first | (simp only [go_sem, hg1, hg2, List.length_append, List.map_append]; done) | rfl)⟩
 ·rintro t h ⟨s2, s3, s36⟩
  refine b0u fun K3 hK3 => ?_
  simp only [go_sem, s36]
  refine b0r (fun hc4 => ?_) (fun hc4 => ?_)
  ·rw [b04 hc4] at hm0
   refine b0d fun K hK => ?_
   simp only [go_sem]
   refine hK _ _ ?_
   clear hK K
   simp only [b1c, b1e, b1d, b1f]
   obtain rfl := Option.some.inj hm0
   exact b1s (by simp only [go_sem, List.length_append, List.map_append]) (b0j _)
  ·rw [b03 hc4] at hm0
   simp only [b02, b0h, b0i]
   refine hK3 _ _ ?_
   refine b06 ?_
   refine b0d fun K hK => ?_
   simp only [go_sem, s2]
   refine hK _ _ ?_
   clear hK K
   refine b0u fun K5 hK5 => ?_
   have J6 : ∀ (t : Slots) (h : Heap), t 2 = .fp [.fs 5 (List.map b0n h_.Combs), .fs 3 (List.map b0k h_.Trains), .fs 3 (List.map b0s h_.Shifts), I h_.Until] 0 → t 3 = .fp [.fs 1 (List.map eI d.At), .fs 1 (List.map b0o d.People), .fs 1 (List.map b0o d.Walks)] 0 → c5r h_ d = some r → K5 t h := by
    intro t h s2 s3 hm0
    refine hK5 _ _ ?_
    unfold c5r at hm0
    refine b06 ?_
    refine b0d fun K hK => ?_
    simp only [go_sem, s2]
    refine hK _ _ ?_
    clear hK K
    refine b0u fun K7 hK7 => ?_
    have J8 : ∀ (t : Slots) (h : Heap), c9x = some r → K7 t h := by
     intro t h hm0
     refine hK7 _ _ ?_
     unfold c9x at hm0
     refine b0d fun K hK => ?_
     simp only [go_sem]
     refine hK _ _ ?_
     clear hK K
     simp only [b1c, b1e, b1d, b1f]
     obtain rfl := Option.some.inj hm0
     exact b1s (by simp only [go_sem, List.length_append, List.map_append]) (b0j _)
    simp only [b05]
    obtain ⟨b9, hl9, hm0⟩ := b0g hm0
    refine b10 hl9 (fun | x_91, t, h => t 3 = .fp [.fs 1 (List.map eI d.At), .fs 1 (List.map b0o d.People), .fs 1 (List.map b0o d.Walks)] 0 ∧ t 89 = .fs 5 (List.map b0n h_.Combs) ∧ t 90 = I (List.length h_.Combs : Int) ∧ t 91 = I x_91) ?_ ?_
    ·exact ⟨s3, (by first | (simp only [go_sem, List.length_append, List.map_append]; done) | rfl), (by first | (simp only [go_sem, List.length_append, List.map_append]; done) | rfl), (by first | (simp only [go_sem, List.length_append, List.map_append]; done) | rfl)⟩
    ·rintro x_91 o t h ⟨s3, s89, s90, s91⟩ hm1 hb9
     simp only [c0m] at hm1
     rw [g1d]
     refine b0d fun K hK => ?_
     simp only [go_sem, s90, s91]
     refine hK _ _ ?_
     clear hK K
     refine b0u fun K10 hK10 => ?_
     simp only [go_sem]
     refine b0r (fun hc11 => ?_) (fun hc11 => ?_)
     ·rw [b04 hc11] at hm1
      simp only [b02, b0h, b0i]
      refine hK10 _ _ ?_
      refine b0u fun K12 hK12 => ?_
      simp only [b05]
      obtain ⟨x14, h_x14, hm1⟩ := b0g hm1
      have h_x140 := b0x h_x14
      have h_x141 := b0y h_x14
      refine b0d fun K hK => ?_
      simp only [go_sem, s89, s91, b0l h_x14, b0m h_x14, h_x140, h_x141]
      refine hK _ _ ?_
      clear hK K
      refine b0d fun K hK => ?_
      simp only [go_sem]
      refine hK _ _ ?_
      clear hK K
      obtain ⟨x19, h_x19, hm1⟩ := b0g hm1
      have h_x190 := b0x h_x19
      have h_x191 := b0y h_x19
      obtain ⟨c22, h_c22, hm1⟩ := b0g hm1
      refine b2e (fun t h => t 3 = .fp [.fs 1 (List.map eI d.At), .fs 1 (List.map b0o d.People), .fs 1 (List.map b0o d.Walks)] 0 ∧ t 89 = .fs 5 (List.map b0n h_.Combs) ∧ t 90 = I (List.length h_.Combs : Int) ∧ t 91 = I x_91 ∧ t 121 = B c22) (fun K hK => ?_) ?_
      ·simp only [go_sem, s3, b0l h_x19, b0m h_x19, h_x190, h_x191]
       refine b0r (fun hg23 => ?_) (fun hg23 => ?_)
       ·simp only [hg23, Bool.not_true, Bool.not_false, eq_self, if_true, if_false, Bool.true_or, Bool.or_true, Bool.false_or, Bool.or_false, Bool.true_and, Bool.and_true, Bool.false_and, Bool.and_false, Bool.false_eq_true] at h_c22
        obtain rfl := Option.some.inj h_c22
        simp only [go_sem, s3, b0l h_x19, b0m h_x19, h_x190, h_x191, hg23]
        exact hK _ _ ⟨s3, s89, s90, s91, (by first | (simp only [go_sem, hg23, List.length_append, List.map_append]; done) | rfl)⟩
       ·simp only [go_sem, s3, b0l h_x19, b0m h_x19, h_x190, h_x191, hg23]
        refine b0r (fun hg24 => ?_) (fun hg24 => ?_)
        ·simp only [hg23, hg24, Bool.not_true, Bool.not_false, eq_self, if_true, if_false, Bool.true_or, Bool.or_true, Bool.false_or, Bool.or_false, Bool.true_and, Bool.and_true, Bool.false_and, Bool.and_false, Bool.false_eq_true] at h_c22
         obtain rfl := Option.some.inj h_c22
         simp only [go_sem, s3, b0l h_x19, b0m h_x19, h_x190, h_x191, hg23, hg24]
         exact hK _ _ ⟨s3, s89, s90, s91, (by first | (simp only [go_sem, hg23, hg24, List.length_append, List.map_append]; done) | rfl)⟩
        ·simp only [hg23, hg24, Bool.not_true, Bool.not_false, eq_self, if_true, if_false, Bool.true_or, Bool.or_true, Bool.false_or, Bool.or_false, Bool.true_and, Bool.and_true, Bool.false_and, Bool.and_false, Bool.false_eq_true] at h_c22
         obtain ⟨y21, h_y21, h_c22⟩ := b0g h_c22
         obtain rfl := Option.some.inj h_c22
         simp only [go_sem, s3, b0l h_x19, b0m h_x19, h_x190, h_x191, hg23, hg24]
         refine c5z ?_ (c3d x19 "newel/halls.isDay$1" [] [.fp [I x14.Rate, I x14.Limit, I x14.Next, I x14.Walk.Low, I x14.Walk.High] 0] (fun z20 => some (b6x z20 x14)) (.fn _ _ _ b0z (b0e (.fp _ _ (b0e (b0j _) (b0e (b0j _) (b0e (b0j _) (b0e (b0j _) (b0e (b0j _) b0z)))))) b0z)) (fun z0 y hz => by cases hz; exact d00 z0 x14) _ h_y21) (.v _) ?_
         ·exact .cons (.refl _ (b0w fun a _ => b2i a)) (.cons (d4s (.nil) (.cons (c46 (id := h.nx) (sz := 5) (xs := [I x14.Rate, I x14.Limit, I x14.Next, I x14.Walk.Low, I x14.Walk.High]) (by simp only [go_sem]) (.cons (.refl _ (b0j _)) (.cons (.refl _ (b0j _)) (.cons (.refl _ (b0j _)) (.cons (.refl _ (b0j _)) (.cons (.refl _ (b0j _)) (.nil))))))) (.nil))) (.nil))
         simp only [go_sem, s3, b0l h_x19, b0m h_x19, h_x190, h_x191, hg23, hg24]
         exact hK _ _ ⟨s3, s89, s90, s91, (by first | (simp only [go_sem, hg23, hg24, List.length_append, List.map_append]; done) | rfl)⟩
      ·rintro t h ⟨s3, s89, s90, s91, s121⟩
       simp only [go_sem, s121]
       refine b0r (fun hc25 => ?_) (fun hc25 => ?_)
       ·rw [b04 hc25] at hm1
        refine b0d fun K hK => ?_
        simp only [go_sem]
        refine hK _ _ ?_
        clear hK K
        simp only [b1c, b1e, b1d, b1f]
        obtain rfl := Option.some.inj hm1
        obtain rfl := hb9 _ rfl
        try dsimp only at hm0
        obtain rfl := Option.some.inj hm0
        exact b1s (by simp only [go_sem, List.length_append, List.map_append]) (b0j _)
       ·rw [b03 hc25] at hm1
        simp only [b02, b0h, b0i]
        refine hK12 _ _ ?_
        refine b1n fun K hK => ?_
        simp only [go_sem, s91]
        refine hK _ _ ?_
        clear hK K
        simp only [b0h, b0i]
        obtain rfl := Option.some.inj hm1
        refine ⟨_, rfl, ?_⟩
        exact ⟨s3, s89, s90, (by first | (simp only [go_sem, s91, List.length_append, List.map_append]; done) | rfl)⟩
     ·rw [b03 hc11] at hm1
      simp only [b1w, b1z, b1y, b1x, b0h, b0i, Nat.reduceEqDiff, not_false_eq_true]
      obtain rfl := Option.some.inj hm1
      obtain rfl := hb9 _ rfl
      try dsimp only at hm0
      exact J8  _ _  hm0
   simp only [b05]
   obtain ⟨b27, hl27, hm0⟩ := b0g hm0
   refine b10 hl27 (fun | x_40, t, h => t 2 = .fp [.fs 5 (List.map b0n h_.Combs), .fs 3 (List.map b0k h_.Trains), .fs 3 (List.map b0s h_.Shifts), I h_.Until] 0 ∧ t 3 = .fp [.fs 1 (List.map eI d.At), .fs 1 (List.map b0o d.People), .fs 1 (List.map b0o d.Walks)] 0 ∧ t 38 = .fs 3 (List.map b0k h_.Trains) ∧ t 39 = I (List.length h_.Trains : Int) ∧ t 40 = I x_40) ?_ ?_
   ·exact ⟨s2, s3, (by first | (simp only [go_sem, List.length_append, List.map_append]; done) | rfl), (by first | (simp only [go_sem, List.length_append, List.map_append]; done) | rfl), (by first | (simp only [go_sem, List.length_append, List.map_append]; done) | rfl)⟩
   ·rintro x_40 o t h ⟨s2, s3, s38, s39, s40⟩ hm1 hb27
    simp only [c0l] at hm1
    rw [g1c]
    refine b0d fun K hK => ?_
    simp only [go_sem, s39, s40]
    refine hK _ _ ?_
    clear hK K
    refine b0u fun K28 hK28 => ?_
    simp only [go_sem]
    refine b0r (fun hc29 => ?_) (fun hc29 => ?_)
    ·rw [b04 hc29] at hm1
     simp only [b02, b0h, b0i]
     refine hK28 _ _ ?_
     refine b0u fun K30 hK30 => ?_
     have J31 : ∀ (t : Slots) (h : Heap), t 2 = .fp [.fs 5 (List.map b0n h_.Combs), .fs 3 (List.map b0k h_.Trains), .fs 3 (List.map b0s h_.Shifts), I h_.Until] 0 → t 3 = .fp [.fs 1 (List.map eI d.At), .fs 1 (List.map b0o d.People), .fs 1 (List.map b0o d.Walks)] 0 → t 38 = .fs 3 (List.map b0k h_.Trains) → t 39 = I (List.length h_.Trains : Int) → t 40 = I x_40 → c5q x_40 = some o → K30 t h := by
      intro t h s2 s3 s38 s39 s40 hm1
      refine hK30 _ _ ?_
      unfold c5q at hm1
      refine b1n fun K hK => ?_
      simp only [go_sem, s40]
      refine hK _ _ ?_
      clear hK K
      simp only [b0h, b0i]
      obtain rfl := Option.some.inj hm1
      refine ⟨_, rfl, ?_⟩
      exact ⟨s2, s3, s38, s39, (by first | (simp only [go_sem, s40, List.length_append, List.map_append]; done) | rfl)⟩
     simp only [b05]
     obtain ⟨x33, h_x33, hm1⟩ := b0g hm1
     have h_x330 := b0x h_x33
     have h_x331 := b0y h_x33
     refine b0d fun K hK => ?_
     simp only [go_sem, s38, s40, b0l h_x33, b0m h_x33, h_x330, h_x331]
     refine hK _ _ ?_
     clear hK K
     refine b06 ?_
     obtain ⟨x37, h_x37, hm1⟩ := b0g hm1
     have h_x370 := b0x h_x37
     have h_x371 := b0y h_x37
     obtain ⟨c39, h_c39, hm1⟩ := b0g hm1
     refine b2e (fun t h => ∃ i6 : Nat, t 2 = .fp [.fs 5 (List.map b0n h_.Combs), .fs 3 (List.map b0k h_.Trains), .fs 3 (List.map b0s h_.Shifts), I h_.Until] 0 ∧ t 3 = .fp [.fs 1 (List.map eI d.At), .fs 1 (List.map b0o d.People), .fs 1 (List.map b0o d.Walks)] 0 ∧ t 5 = I x_40 ∧ t 6 = .rp i6 0 0 ∧ t 38 = .fs 3 (List.map b0k h_.Trains) ∧ t 39 = I (List.length h_.Trains : Int) ∧ t 40 = I x_40 ∧ t 65 = B c39 ∧ h.ob i6 = some (3, [[I x33.At.Low, I x33.At.High, .fs 3 (List.map b2j x33.Crowds)]]) ∧ i6 < h.nx) (fun K hK => ?_) ?_
     ·simp only [go_sem, s3, b0l h_x37, b0m h_x37, h_x370, h_x371]
      refine b1o (b5m x37 x33.At) ?_
      simp only [go_sem, s3, b0l h_x37, b0m h_x37, h_x370, h_x371]
      refine b0r (fun hg40 => ?_) (fun hg40 => ?_)
      ·simp only [hg40, Bool.not_true, Bool.not_false, eq_self, if_true, if_false, Bool.true_or, Bool.or_true, Bool.false_or, Bool.or_false, Bool.true_and, Bool.and_true, Bool.false_and, Bool.and_false, Bool.false_eq_true] at h_c39
       obtain rfl := Option.some.inj h_c39
       simp only [go_sem, s3, b0l h_x37, b0m h_x37, h_x370, h_x371, hg40]
       exact hK _ _ ⟨h.nx, s2, s3, (by first | (simp only [go_sem, hg40, List.length_append, List.map_append]; done) | rfl), (by first | (simp only [go_sem, hg40, List.length_append, List.map_append]; done) | rfl), s38, s39, s40, (by first | (simp only [go_sem, hg40, List.length_append, List.map_append]; done) | rfl), (by simp only [go_sem, hg40, List.length_append, List.map_append]), (by simp only [go_sem])⟩
      ·simp only [hg40, Bool.not_true, Bool.not_false, eq_self, if_true, if_false, Bool.true_or, Bool.or_true, Bool.false_or, Bool.or_false, Bool.true_and, Bool.and_true, Bool.false_and, Bool.and_false, Bool.false_eq_true] at h_c39
       obtain ⟨x38, h_x38, h_c39⟩ := b0g h_c39
       have h_x380 := b0x h_x38
       have h_x381 := b0y h_x38
       obtain rfl := Option.some.inj h_c39
       simp only [go_sem, s3, b0l h_x37, b0m h_x37, h_x370, h_x371, b0l h_x38, b0m h_x38, h_x380, h_x381, hg40]
       exact hK _ _ ⟨h.nx, s2, s3, (by first | (simp only [go_sem, hg40, List.length_append, List.map_append]; done) | rfl), (by first | (simp only [go_sem, hg40, List.length_append, List.map_append]; done) | rfl), s38, s39, s40, (by first | (simp only [go_sem, hg40, List.length_append, List.map_append]; done) | rfl), (by simp only [go_sem, hg40, List.length_append, List.map_append]), (by simp only [go_sem])⟩
     ·rintro t h ⟨i6, s2, s3, s5, s6, s38, s39, s40, s65, q6, q2⟩
      refine b0u fun K41 hK41 => ?_
      simp only [go_sem, s65]
      refine b0r (fun hc42 => ?_) (fun hc42 => ?_)
      ·rw [b04 hc42] at hm1
       refine b0d fun K hK => ?_
       simp only [go_sem, q2]
       refine hK _ _ ?_
       clear hK K
       simp only [b1c, b1e, b1d, b1f]
       obtain rfl := Option.some.inj hm1
       obtain rfl := hb27 _ rfl
       try dsimp only at hm0
       obtain rfl := Option.some.inj hm0
       exact b1s (by simp only [go_sem, q6, q2, List.length_append, List.map_append]) (b0j _)
      ·rw [b03 hc42] at hm1
       simp only [b02, b0h, b0i]
       refine hK41 _ _ ?_
       refine b0d fun K hK => ?_
       simp only [go_sem, s6, q6, q2]
       refine hK _ _ ?_
       clear hK K
       simp only [b05]
       obtain ⟨b43, hl43, hm1⟩ := b0g hm1
       refine b10 hl43 (fun | x_69, t, h => t 2 = .fp [.fs 5 (List.map b0n h_.Combs), .fs 3 (List.map b0k h_.Trains), .fs 3 (List.map b0s h_.Shifts), I h_.Until] 0 ∧ t 3 = .fp [.fs 1 (List.map eI d.At), .fs 1 (List.map b0o d.People), .fs 1 (List.map b0o d.Walks)] 0 ∧ t 5 = I x_40 ∧ t 38 = .fs 3 (List.map b0k h_.Trains) ∧ t 39 = I (List.length h_.Trains : Int) ∧ t 40 = I x_40 ∧ t 67 = .fs 3 (List.map b2j x33.Crowds) ∧ t 68 = I (List.length x33.Crowds : Int) ∧ t 69 = I x_69) ?_ ?_
       ·exact ⟨s2, s3, s5, s38, s39, s40, (by first | (simp only [go_sem, List.length_append, List.map_append]; done) | rfl), (by first | (simp only [go_sem, List.length_append, List.map_append]; done) | rfl), (by first | (simp only [go_sem, List.length_append, List.map_append]; done) | rfl)⟩
       ·try clear s2 s3 s5 s6 s38 s39 s40 s65 q6 q2
        rintro x_69 o t h ⟨s2, s3, s5, s38, s39, s40, s67, s68, s69⟩ hm2 hb43
        simp only [b7v] at hm2
        rw [g1b]
        refine b0d fun K hK => ?_
        simp only [go_sem, s68, s69]
        refine hK _ _ ?_
        clear hK K
        refine b0u fun K44 hK44 => ?_
        simp only [go_sem]
        refine b0r (fun hc45 => ?_) (fun hc45 => ?_)
        ·rw [b04 hc45] at hm2
         simp only [b02, b0h, b0i]
         refine hK44 _ _ ?_
         refine b0u fun K46 hK46 => ?_
         simp only [b05]
         obtain ⟨x48, h_x48, hm2⟩ := b0g hm2
         have h_x480 := b0x h_x48
         have h_x481 := b0y h_x48
         refine b0d fun K hK => ?_
         simp only [go_sem, s67, s69, b0l h_x48, b0m h_x48, h_x480, h_x481]
         refine hK _ _ ?_
         clear hK K
         obtain ⟨x51, h_x51, hm2⟩ := b0g hm2
         have h_x510 := b0x h_x51
         have h_x511 := b0y h_x51
         obtain ⟨x52, h_x52, hm2⟩ := b0g hm2
         have h_x520 := b0x h_x52
         have h_x521 := b0y h_x52
         refine b0d fun K hK => ?_
         simp only [go_sem, s3, s5, b0l h_x51, b0m h_x51, h_x510, h_x511, b0l h_x52, b0m h_x52, h_x520, h_x521]
         refine b1o (b5m x52 x48.People) ?_
         simp only [go_sem, s3, s5, b0l h_x51, b0m h_x51, h_x510, h_x511, b0l h_x52, b0m h_x52, h_x520, h_x521]
         refine hK _ _ ?_
         clear hK K
         simp only [go_sem]
         refine b0r (fun hc53 => ?_) (fun hc53 => ?_)
         ·rw [b04 hc53] at hm2
          refine b0d fun K hK => ?_
          simp only [go_sem]
          refine hK _ _ ?_
          clear hK K
          simp only [b1c, b1e, b1d, b1f]
          obtain rfl := Option.some.inj hm2
          obtain rfl := hb43 _ rfl
          try dsimp only at hm1
          obtain rfl := Option.some.inj hm1
          obtain rfl := hb27 _ rfl
          try dsimp only at hm0
          obtain rfl := Option.some.inj hm0
          exact b1s (by simp only [go_sem, List.length_append, List.map_append]) (b0j _)
         ·rw [b03 hc53] at hm2
          simp only [b02, b0h, b0i]
          refine hK46 _ _ ?_
          refine b1n fun K hK => ?_
          simp only [go_sem, s69]
          refine hK _ _ ?_
          clear hK K
          simp only [b0h, b0i]
          obtain rfl := Option.some.inj hm2
          refine ⟨_, rfl, ?_⟩
          exact ⟨s2, s3, s5, s38, s39, s40, s67, s68, (by first | (simp only [go_sem, s69, List.length_append, List.map_append]; done) | rfl)⟩
        ·rw [b03 hc45] at hm2
         simp only [b1w, b1z, b1y, b1x, b0h, b0i, Nat.reduceEqDiff, not_false_eq_true]
         obtain rfl := Option.some.inj hm2
         obtain rfl := hb43 _ rfl
         try dsimp only at hm1
         exact J31  _ _ s2 s3 s38 s39 s40 hm1
    ·rw [b03 hc29] at hm1
     simp only [b1w, b1z, b1y, b1x, b0h, b0i, Nat.reduceEqDiff, not_false_eq_true]
     obtain rfl := Option.some.inj hm1
     obtain rfl := hb27 _ rfl
     try dsimp only at hm0
     exact J6  _ _ s2 s3 hm0
theorem d00 (hf : Has O "newel/halls.isDay$1" x_halls_isDayD1) (b5m : b9r O) : c7q O := by
 intro n c0
 generalize hm0 : b6x n c0 = r
 unfold b6x at hm0
 refine b2k hf rfl (b0e (b0j _) (b0e (.fp _ _ (b0e (b0j _) (b0e (b0j _) (b0e (b0j _) (b0e (b0j _) (b0e (b0j _) b0z)))))) b0z)) (b0j _) ?_
 refine b2f (fun t h => t 0 = I n ∧ t 1 = .fp [I c0.Rate, I c0.Limit, I c0.Next, I c0.Walk.Low, I c0.Walk.High] 0) ⟨rfl, rfl⟩ fun t h ⟨s0, s1⟩ => ?_
 simp only [x_halls_isDayD1]
 refine b0d fun K hK => ?_
 simp only [go_sem]
 refine hK _ _ ?_
 clear hK K
 refine b0d fun K hK => ?_
 simp only [go_sem, s0, s1]
 refine b1o (b5m n c0.Walk) ?_
 simp only [go_sem, s0, s1]
 refine hK _ _ ?_
 clear hK K
 simp only [b1c, b1e, b1d, b1f]
 obtain rfl := hm0
 exact b1s (by simp only [go_sem, List.length_append, List.map_append]) (b0j _)
theorem d01 (hf : Has O "newel/halls.isTrain" x_halls_isTrain) (b88 : c4d O) : c7r O := by
 intro h_ t_ r hm0
 unfold b8z at hm0
 refine b2k hf rfl (b0e (.agg _ (b0e (b0w fun a _ => b2l a) (b0e (b0w fun a _ => b2n a) (b0e (b0w fun a _ => b2p a) (b0e (b0j _) b0z))))) (b0e (.agg _ (b0e (b0j _) (b0e (b0j _) (b0e (b0w fun a _ => c2d a) b0z)))) b0z)) (b0j _) ?_
 refine b2f (fun t h => t 0 = .agg [.fs 5 (List.map b0n h_.Combs), .fs 3 (List.map b0k h_.Trains), .fs 3 (List.map b0s h_.Shifts), I h_.Until] ∧ t 1 = .agg [I t_.At.Low, I t_.At.High, .fs 3 (List.map b2j t_.Crowds)]) ⟨rfl, rfl⟩ fun t h ⟨s0, s1⟩ => ?_
 simp only [x_halls_isTrain]
 refine b0d fun K hK => ?_
 simp only [go_sem, s0, s1]
 refine hK _ _ ?_
 clear hK K
 refine b0d fun K hK => ?_
 simp only [go_sem]
 refine hK _ _ ?_
 clear hK K
 refine b06 ?_
 refine b0d fun K hK => ?_
 simp only [go_sem]
 refine hK _ _ ?_
 clear hK K
 refine b0u fun K1 hK1 => ?_
 have J2 : ∀ (t : Slots) (h : Heap), t 2 = .fp [.fs 5 (List.map b0n h_.Combs), .fs 3 (List.map b0k h_.Trains), .fs 3 (List.map b0s h_.Shifts), I h_.Until] 0 → t 3 = .fp [I t_.At.Low, I t_.At.High, .fs 3 (List.map b2j t_.Crowds)] 0 → c0n h_ t_ = some r → K1 t h := by
  intro t h s2 s3 hm0
  refine hK1 _ _ ?_
  unfold c0n at hm0
  refine b2e (fun t h => t 4 = B ((b4u t_.At 0 (wr (h_.Until - 1))) && (decide ((List.length t_.Crowds : Int) ≤ 4)))) (fun K hK => ?_) ?_
  ·simp only [go_sem, s2, s3]
   refine b1o (b88 t_.At 0 (wr (h_.Until - 1))) ?_
   simp only [go_sem, s2, s3]
   refine b0r (fun hg3 => ?_) (fun hg3 => ?_)
   ·simp only [go_sem, s2, s3, hg3]
    exact hK _ _ (by first | (simp only [go_sem, hg3, List.length_append, List.map_append]; done) | rfl)
   ·simp only [go_sem, s2, s3, hg3]
    exact hK _ _ (by first | (simp only [go_sem, hg3, List.length_append, List.map_append]; done) | rfl)
  ·rintro t h s4
   simp only [b1c, b1e, b1d, b1f]
   obtain rfl := Option.some.inj hm0
   exact b1s (by simp only [go_sem, s4, List.length_append, List.map_append]) (b0j _)
 simp only [b05]
 obtain ⟨b4, hl4, hm0⟩ := b0g hm0
 refine b10 hl4 (fun | (last_5, x_11), t, h => t 2 = .fp [.fs 5 (List.map b0n h_.Combs), .fs 3 (List.map b0k h_.Trains), .fs 3 (List.map b0s h_.Shifts), I h_.Until] 0 ∧ t 3 = .fp [I t_.At.Low, I t_.At.High, .fs 3 (List.map b2j t_.Crowds)] 0 ∧ t 5 = I last_5 ∧ t 9 = .fs 3 (List.map b2j t_.Crowds) ∧ t 10 = I (List.length t_.Crowds : Int) ∧ t 11 = I x_11) ?_ ?_
 ·exact ⟨(by first | (simp only [go_sem, List.length_append, List.map_append]; done) | rfl), (by first | (simp only [go_sem, List.length_append, List.map_append]; done) | rfl), (by first | (simp only [go_sem, List.length_append, List.map_append]; done) | rfl), (by first | (simp only [go_sem, List.length_append, List.map_append]; done) | rfl), (by first | (simp only [go_sem, List.length_append, List.map_append]; done) | rfl), (by first | (simp only [go_sem, List.length_append, List.map_append]; done) | rfl)⟩
 ·rintro ⟨last_5, x_11⟩ o t h ⟨s2, s3, s5, s9, s10, s11⟩ hm1 hb4
  simp only [b6g] at hm1
  rw [g1e]
  refine b0d fun K hK => ?_
  simp only [go_sem, s10, s11]
  refine hK _ _ ?_
  clear hK K
  refine b0u fun K5 hK5 => ?_
  simp only [go_sem]
  refine b0r (fun hc6 => ?_) (fun hc6 => ?_)
  ·rw [b04 hc6] at hm1
   simp only [b02, b0h, b0i]
   refine hK5 _ _ ?_
   refine b0u fun K7 hK7 => ?_
   simp only [b05]
   obtain ⟨x9, h_x9, hm1⟩ := b0g hm1
   have h_x90 := b0x h_x9
   have h_x91 := b0y h_x9
   refine b0d fun K hK => ?_
   simp only [go_sem, s9, s11, b0l h_x9, b0m h_x9, h_x90, h_x91]
   refine hK _ _ ?_
   clear hK K
   refine b06 ?_
   refine b2e (fun t h => ∃ i7 : Nat, t 2 = .fp [.fs 5 (List.map b0n h_.Combs), .fs 3 (List.map b0k h_.Trains), .fs 3 (List.map b0s h_.Shifts), I h_.Until] 0 ∧ t 3 = .fp [I t_.At.Low, I t_.At.High, .fs 3 (List.map b2j t_.Crowds)] 0 ∧ t 7 = .rp i7 0 0 ∧ t 9 = .fs 3 (List.map b2j t_.Crowds) ∧ t 10 = I (List.length t_.Crowds : Int) ∧ t 11 = I x_11 ∧ t 32 = B (((decide (x9.Comb ≤ last_5)) || (decide ((List.length h_.Combs : Int) ≤ x9.Comb))) || (!(b4u x9.People 0 1000))) ∧ h.ob i7 = some (3, [[I x9.Comb, I x9.People.Low, I x9.People.High]]) ∧ i7 < h.nx) (fun K hK => ?_) ?_
   ·simp only [go_sem, s2, s5]
    refine b0r (fun hg10 => ?_) (fun hg10 => ?_)
    ·simp only [go_sem, s2, s5, hg10]
     exact hK _ _ ⟨h.nx, s2, s3, (by first | (simp only [go_sem, hg10, List.length_append, List.map_append]; done) | rfl), s9, s10, s11, (by first | (simp only [go_sem, hg10, List.length_append, List.map_append]; done) | rfl), (by simp only [go_sem, hg10, List.length_append, List.map_append]), (by simp only [go_sem])⟩
    ·simp only [go_sem, s2, s5, hg10]
     refine b0r (fun hg11 => ?_) (fun hg11 => ?_)
     ·simp only [go_sem, s2, s5, hg10, hg11]
      exact hK _ _ ⟨h.nx, s2, s3, (by first | (simp only [go_sem, hg10, hg11, List.length_append, List.map_append]; done) | rfl), s9, s10, s11, (by first | (simp only [go_sem, hg10, hg11, List.length_append, List.map_append]; done) | rfl), (by simp only [go_sem, hg10, hg11, List.length_append, List.map_append]), (by simp only [go_sem])⟩
     ·simp only [go_sem, s2, s5, hg10, hg11]
      refine b1o (b88 x9.People 0 1000) ?_
      simp only [go_sem, s2, s5, hg10, hg11]
      exact hK _ _ ⟨h.nx, s2, s3, (by first | (simp only [go_sem, hg10, hg11, List.length_append, List.map_append]; done) | rfl), s9, s10, s11, (by first | (simp only [go_sem, hg10, hg11, List.length_append, List.map_append]; done) | rfl), (by simp only [go_sem, hg10, hg11, List.length_append, List.map_append]), (by simp only [go_sem])⟩
   ·rintro t h ⟨i7, s2, s3, s7, s9, s10, s11, s32, qm, qh⟩
    refine b0u fun K12 hK12 => ?_
    simp only [go_sem, s32]
    refine b0r (fun hc13 => ?_) (fun hc13 => ?_)
    ·rw [b04 hc13] at hm1
     refine b0d fun K hK => ?_
     simp only [go_sem, qh]
     refine hK _ _ ?_
     clear hK K
     simp only [b1c, b1e, b1d, b1f]
     obtain rfl := Option.some.inj hm1
     obtain rfl := hb4 _ rfl
     try dsimp only at hm0
     obtain rfl := Option.some.inj hm0
     exact b1s (by simp only [go_sem, qm, qh, List.length_append, List.map_append]) (b0j _)
    ·rw [b03 hc13] at hm1
     simp only [b02, b0h, b0i]
     refine hK12 _ _ ?_
     refine b1n fun K hK => ?_
     simp only [go_sem, s7, qm, qh]
     refine hK _ _ ?_
     clear hK K
     simp only [b0h, b0i]
     refine hK7 _ _ ?_
     refine b1n fun K hK => ?_
     simp only [go_sem, s11, qh]
     refine hK _ _ ?_
     clear hK K
     simp only [b0h, b0i]
     obtain rfl := Option.some.inj hm1
     refine ⟨_, rfl, ?_⟩
     exact ⟨s2, s3, (by first | (simp only [go_sem, List.length_append, List.map_append]; done) | rfl), s9, s10, (by first | (simp only [go_sem, s11, List.length_append, List.map_append]; done) | rfl)⟩
  ·rw [b03 hc6] at hm1
   simp only [b1w, b1z, b1y, b1x, b0h, b0i, Nat.reduceEqDiff, not_false_eq_true]
   obtain rfl := Option.some.inj hm1
   obtain rfl := hb4 _ rfl
   try dsimp only at hm0
   exact J2  _ _ s2 s3 hm0
theorem b86 (hf : Has O "newel/halls.open" x_halls_open) (b87 : c1p O) : c1o O := by
 intro h_ r hm0
 unfold b4t at hm0
 refine b2k hf rfl (b0e (.agg _ (b0e (b0w fun a _ => b2l a) (b0e (b0w fun a _ => b2n a) (b0e (b0w fun a _ => b2p a) (b0e (b0j _) b0z))))) b0z) (b0w fun a _ => b3g a) ?_
 refine b2f (fun t h => t 0 = .agg [.fs 5 (List.map b0n h_.Combs), .fs 3 (List.map b0k h_.Trains), .fs 3 (List.map b0s h_.Shifts), I h_.Until]) rfl fun t h s0 => ?_
 simp only [x_halls_open]
 refine b0d fun K hK => ?_
 simp only [go_sem, s0]
 refine hK _ _ ?_
 clear hK K
 refine b06 ?_
 refine b0d fun K hK => ?_
 simp only [go_sem]
 refine hK _ _ ?_
 clear hK K
 refine b0u fun K1 hK1 => ?_
 have J2 : ∀ (out_2 : List (List Int)) (v2 : AV) (t : Slots) (h : Heap), t 2 = v2 → b01 h v2 1 (List.map b0o out_2) → b80 out_2 = some r → K1 t h := by
  intro out_2 v2 t h s2 qy hm0
  refine hK1 _ _ ?_
  unfold b80 at hm0
  refine b0d fun K hK => ?_
  simp only [go_sem, s2, b0a v2]
  refine hK _ _ ?_
  clear hK K
  simp only [b1c, b1e, b1d, b1f]
  obtain rfl := Option.some.inj hm0
  exact d4k (v := v2) (by simp only [go_sem, s2, b0q qy, List.length_append, List.map_append]) (b6c (f := b0o) (l := out_2) (b1t qy (by intro j hj hl; first | rfl | simp only [go_sem, hl]) (by first | omega | exact Nat.le_refl _ | (simp only [go_sem, nxs] <;> omega))) b3g b9a)
 simp only [b05]
 obtain ⟨b3, hl3, hm0⟩ := b0g hm0
 refine b10 hl3 (fun | (out_2, x_7), t, h => ∃ v2 : AV, t 1 = .fp [.fs 5 (List.map b0n h_.Combs), .fs 3 (List.map b0k h_.Trains), .fs 3 (List.map b0s h_.Shifts), I h_.Until] 0 ∧ t 2 = v2 ∧ t 6 = I (List.length h_.Combs : Int) ∧ t 7 = I x_7 ∧ b01 h v2 1 (List.map b0o out_2)) ?_ ?_
 ·exact ⟨(.v (.slice none 0 0)), (by first | (simp only [go_sem, List.length_append, List.map_append]; done) | rfl), (by first | (simp only [go_sem, List.length_append, List.map_append]; done) | rfl), (by first | (simp only [go_sem, List.length_append, List.map_append]; done) | rfl), (by first | (simp only [go_sem, List.length_append, List.map_append]; done) | rfl), b54⟩
 ·rintro ⟨out_2, x_7⟩ o t h ⟨v2, s1, s2, s6, s7, qy⟩ hm1 hb3
  simp only [b7w] at hm1
  rw [d2z]
  refine b0d fun K hK => ?_
  simp only [go_sem, s6, s7, b0a v2]
  refine hK _ _ ?_
  clear hK K
  refine b0u fun K4 hK4 => ?_
  simp only [go_sem]
  refine b0r (fun hc5 => ?_) (fun hc5 => ?_)
  ·rw [b04 hc5] at hm1
   simp only [b02, b0h, b0i]
   refine hK4 _ _ ?_
   refine b0u fun K6 hK6 => ?_
   simp only [b05]
   refine b0d fun K hK => ?_
   simp only [go_sem, s7, b0a v2]
   refine hK _ _ ?_
   clear hK K
   obtain ⟨y9, h_y9, hm1⟩ := b0g hm1
   obtain ⟨l10, h_l10, hm1⟩ := b0g hm1
   refine b0d fun K hK => ?_
   simp only [go_sem, s1, s2, b0a v2]
   refine d0g (e := eI) (l := y9) ?_ (b87 h_ x_7 _ h_y9) ?_
   ·exact .cons (.refl _ (.agg _ (b0e (b0w fun a _ => b2l a) (b0e (b0w fun a _ => b2n a) (b0e (b0w fun a _ => b2p a) (b0e (b0j _) b0z)))))) (.cons (.refl _ (b0j _)) (.nil))
   simp only [go_sem, s1, s2, b0a v2]
   refine d0e (f := b0o) (l := out_2) (a := y9) (raw := [.rs h.nx 0 (List.length y9)]) ?_ ?_ ?_ h_l10 ?_
   ·exact (b1t qy (by intro j hj hl; first | rfl | simp only [go_sem, hl]) (by first | omega | exact Nat.le_refl _ | (simp only [go_sem, nxs] <;> omega)))
   ·exact (by simp only [go_sem, b0q qy, List.length_append, List.map_append])
   ·exact (by first | exact b1h | exact b1i (by first | omega | (simp only [nxs] <;> omega)) | assumption | exact b00 (by assumption) (by first | omega | (simp only [go_sem, nxs] <;> omega)))
   simp only [go_sem, s1, s2, b0a v2]
   refine hK _ _ ?_
   clear hK K
   refine c8n ?_
   refine d4h (id := (nxs (nxs h.nx))) (sz := 1) (f := b0o) (l := out_2) (a := y9) (raw := [.rs h.nx 0 (List.length y9)]) (fun j => j == h.nx) (by simp only [go_sem, b0q qy, List.length_append, List.map_append]) (by first | (simp; done) | (simp [nxs] <;> omega)) (.cons (b5j (f := eI) (l := y9) (id := h.nx) (by rw [b6l (by simp)]; simp only [go_sem, b0q qy, List.length_append, List.map_append]) (by first | rfl | simp only [go_sem, List.length_append, List.map_append]) b2i b4v) (.nil)) b3g b9a ?_
   rw [← (b9x h_l10).2]
   simp only [b02, b0h, b0i]
   refine hK6 _ _ ?_
   refine b1n fun K hK => ?_
   simp only [go_sem, s7, Bool.or_eq_false_iff, beq_eq_false_iff_ne, ne_eq, not_false_eq_true, and_self, b0a v2]
   refine hK _ _ ?_
   clear hK K
   simp only [b0h, b0i]
   obtain rfl := Option.some.inj hm1
   refine ⟨_, rfl, ?_⟩
   exact ⟨(.rs (nxs (nxs h.nx)) 0 (List.length l10)), s1, (by first | (simp only [go_sem, s2, List.length_append, List.map_append]; done) | rfl), s6, (by first | (simp only [go_sem, s7, List.length_append, List.map_append]; done) | rfl), (b3e (by simp only [go_sem, Bool.or_eq_false_iff, beq_eq_false_iff_ne, ne_eq, not_false_eq_true, and_self, b0q qy, List.length_append, List.map_append]) (by first | rfl | simp only [go_sem, List.length_append, List.map_append]) (by simp only [go_sem]))⟩
  ·rw [b03 hc5] at hm1
   simp only [b1w, b1z, b1y, b1x, b0h, b0i, Nat.reduceEqDiff, not_false_eq_true]
   obtain rfl := Option.some.inj hm1
   obtain rfl := hb3 _ rfl
   try dsimp only at hm0
   exact J2 out_2 v2 _ _ s2 qy hm0
theorem d02 (hf : Has O "newel/halls.open" x_halls_open) (b87 : c1p O) : c7s O := by
 intro h_ h0 r hm0
 unfold b4t at hm0
 refine d6a hf rfl ?_
 refine b2f (fun t h => t 0 = .agg [.fs 5 (List.map b0n h_.Combs), .fs 3 (List.map b0k h_.Trains), .fs 3 (List.map b0s h_.Shifts), I h_.Until] ∧ (∀ j, j < h0.nx → h.ob j = h0.ob j) ∧ h0.nx ≤ h.nx) ⟨rfl, fun _ _ => rfl, Nat.le_refl _⟩ fun t h ⟨s0, fr, fx⟩ => ?_
 simp only [x_halls_open]
 refine b0d fun K hK => ?_
 simp only [go_sem, s0]
 refine hK _ _ ?_
 clear hK K
 refine b06 ?_
 refine b0d fun K hK => ?_
 simp only [go_sem]
 refine hK _ _ ?_
 clear hK K
 refine b0u fun K1 hK1 => ?_
 have J2 : ∀ (out_2 : List (List Int)) (v2 : AV) (hs2 : List AV) (t : Slots) (h : Heap), t 2 = v2 → RR h v2 hs2 1 eI out_2 → (∀ j, j < h0.nx → h.ob j = h0.ob j) → h0.nx ≤ h.nx → (∀ j, ¬b0v v2 hs2 j → h0.nx ≤ j) → b80 out_2 = some r → K1 t h := by
  intro out_2 v2 hs2 t h s2 ql fr fx qz hm0
  refine hK1 _ _ ?_
  unfold b80 at hm0
  refine b0d fun K hK => ?_
  simp only [go_sem, s2, b3b ql, b0a v2]
  refine hK _ _ ?_
  clear hK K
  simp only [b1c, b1e, b1d, b1f]
  obtain rfl := Option.some.inj hm0
  exact d9s (Post := fun v h => ∃ hs, RR h v hs 1 eI out_2 ∧ (∀ j, j < h0.nx → h.ob j = h0.ob j) ∧ h0.nx ≤ h.nx ∧ ∀ j, ¬b0v v hs j → h0.nx ≤ j) (v := v2) (by simp only [go_sem, s2, b2c ql, List.length_append, List.map_append]) ⟨hs2, ql, fr, fx, qz⟩
 simp only [b05]
 obtain ⟨b3, hl3, hm0⟩ := b0g hm0
 refine b10 hl3 (fun | (out_2, x_7), t, h => ∃ v2 : AV, ∃ hs2 : List AV, t 1 = .fp [.fs 5 (List.map b0n h_.Combs), .fs 3 (List.map b0k h_.Trains), .fs 3 (List.map b0s h_.Shifts), I h_.Until] 0 ∧ t 2 = v2 ∧ t 6 = I (List.length h_.Combs : Int) ∧ t 7 = I x_7 ∧ RR h v2 hs2 1 eI out_2 ∧ (∀ j, j < h0.nx → h.ob j = h0.ob j) ∧ h0.nx ≤ h.nx ∧ (∀ j, ¬b0v v2 hs2 j → h0.nx ≤ j)) ?_ ?_
 ·exact ⟨nilS, [], (by first | (simp only [go_sem, List.length_append, List.map_append]; done) | rfl), (by first | (simp only [go_sem, List.length_append, List.map_append]; done) | rfl), (by first | (simp only [go_sem, List.length_append, List.map_append]; done) | rfl), (by first | (simp only [go_sem, List.length_append, List.map_append]; done) | rfl), d9w, fr, fx, (fun _ hj => absurd j64 hj)⟩
 ·rintro ⟨out_2, x_7⟩ o t h ⟨v2, hs2, s1, s2, s6, s7, ql, fr, fx, qz⟩ hm1 hb3
  simp only [b7w] at hm1
  rw [d2z]
  refine b0d fun K hK => ?_
  simp only [go_sem, s6, s7, b0a v2]
  refine hK _ _ ?_
  clear hK K
  refine b0u fun K4 hK4 => ?_
  simp only [go_sem]
  refine b0r (fun hc5 => ?_) (fun hc5 => ?_)
  ·rw [b04 hc5] at hm1
   simp only [b02, b0h, b0i]
   refine hK4 _ _ ?_
   refine b0u fun K6 hK6 => ?_
   simp only [b05]
   refine b0d fun K hK => ?_
   simp only [go_sem, s7, b0a v2]
   refine hK _ _ ?_
   clear hK K
   obtain ⟨y9, h_y9, hm1⟩ := b0g hm1
   obtain ⟨l10, h_l10, hm1⟩ := b0g hm1
   refine b2e (fun t h => ∃ v2_1 : AV, ∃ hs2_1 : List AV, t 1 = .fp [.fs 5 (List.map b0n h_.Combs), .fs 3 (List.map b0k h_.Trains), .fs 3 (List.map b0s h_.Shifts), I h_.Until] 0 ∧ t 2 = v2_1 ∧ t 6 = I (List.length h_.Combs : Int) ∧ t 7 = I x_7 ∧ RR h v2_1 hs2_1 1 eI l10 ∧ (∀ j, j < h0.nx → h.ob j = h0.ob j) ∧ h0.nx ≤ h.nx ∧ (∀ j, ¬b0v v2_1 hs2_1 j → h0.nx ≤ j)) (fun K hK => ?_) ?_
   ·simp only [go_sem, s1, s2, b3b ql, b0a v2]
    refine d0g (e := eI) (l := y9) ?_ (b87 h_ x_7 _ h_y9) ?_
    ·exact .cons (.refl _ (.agg _ (b0e (b0w fun a _ => b2l a) (b0e (b0w fun a _ => b2n a) (b0e (b0w fun a _ => b2p a) (b0e (b0j _) b0z)))))) (.cons (.refl _ (b0j _)) (.nil))
    simp only [go_sem, s1, s2, b3b ql, b0a v2]
    refine d6d (f := eI) (sz := 1) (rows := out_2) (hs := hs2) (u := .rs h.nx 0 (List.length y9)) ?_ ?_ ?_ h_l10 ?_
    ·exact (b3k ql (by intro j hj  hl; first | rfl | simp only [go_sem, hl]) (by first | omega | exact Nat.le_refl _ | (simp only [go_sem, nxs] <;> omega)))
    ·exact (by simp only [go_sem, b2c ql, List.length_append, List.map_append])
    ·exact (b4d ql (by first | assumption | omega | (simp only [nxs] <;> omega)))
    simp only [go_sem, s1, s2, b3b ql, b0a v2]
    exact hK _ _ ⟨(.rs (nxs (nxs h.nx)) 0 (List.length l10)), (hs2 ++ [.rs h.nx 0 (List.length y9)]), s1, (by first | (simp only [go_sem, s2, List.length_append, List.map_append]; done) | rfl), s6, s7, (d9v (h := h) ql h_l10 (by simp only [go_sem, b2c ql, List.length_append, List.map_append]) rfl (by simp only [go_sem]) (b3e (by simp only [go_sem, b2c ql, List.length_append, List.map_append]) (by simp only [go_sem, b2c ql, List.length_append, List.map_append]) (by simp only [go_sem])) (b97 (by first | assumption | exact b4d ql (by first | omega | (simp only [nxs] <;> omega)))) (by first | omega | exact Nat.le_refl _ | (simp only [go_sem, nxs] <;> omega)) (by first | exact b1h | exact b1i (by first | assumption | omega | (simp only [nxs] <;> omega))) (by intro j hj h2 hl; first | rfl | simp only [go_sem, h2, hl]) (by first | omega | exact Nat.le_refl _ | (simp only [go_sem, nxs] <;> omega))), (by intro j hj; first | exact fr j hj | (refine Eq.trans ?_ (fr j hj); first | rfl | simp only [go_sem, Nat.lt_of_lt_of_le hj fx, b1k (g6q qz hj)])), (by first | exact fx | omega | (simp only [go_sem, nxs] <;> omega)), (g6p qz (by first | assumption | omega | (simp only [nxs] <;> omega)) (c47 (by first | assumption | omega | (simp only [nxs] <;> omega))))⟩
   ·rintro t h ⟨v2_1, hs2_1, s1, s2, s6, s7, ql, fr, fx, qz⟩
    refine c8n ?_
    refine g48 ?_
    simp only [b02, b0h, b0i]
    refine hK6 _ _ ?_
    refine b1n fun K hK => ?_
    simp only [go_sem, s7, b0a v2, b0a v2_1]
    refine hK _ _ ?_
    clear hK K
    simp only [b0h, b0i]
    obtain rfl := Option.some.inj hm1
    refine ⟨_, rfl, ?_⟩
    exact ⟨v2_1, hs2_1, s1, s2, s6, (by first | (simp only [go_sem, s7, List.length_append, List.map_append]; done) | rfl), (b3k ql (by intro j hj  hl; first | rfl | simp only [go_sem, hl]) (by first | omega | exact Nat.le_refl _ | (simp only [go_sem, nxs] <;> omega))), (by intro j hj; first | exact fr j hj | (refine Eq.trans ?_ (fr j hj); first | rfl | simp only [go_sem, Nat.lt_of_lt_of_le hj fx])), (by first | exact fx | omega | (simp only [go_sem, nxs] <;> omega)), qz⟩
  ·rw [b03 hc5] at hm1
   simp only [b1w, b1z, b1y, b1x, b0h, b0i, Nat.reduceEqDiff, not_false_eq_true]
   obtain rfl := Option.some.inj hm1
   obtain rfl := hb3 _ rfl
   try dsimp only at hm0
   exact J2 out_2 v2 hs2 _ _ s2 ql fr fx qz hm0
theorem c3b (hf : Has O "newel/halls.over" x_halls_over) (c3e : c4g O) (d03 : c7t O) : c4c O := by
 intro h_ all r hm0
 unfold c0o at hm0
 refine b2k hf rfl (b0e (.agg _ (b0e (b0w fun a _ => b2l a) (b0e (b0w fun a _ => b2n a) (b0e (b0w fun a _ => b2p a) (b0e (b0j _) b0z))))) (b0e (b0w fun a _ => c2e a) b0z)) (b0w fun a _ => c45 a) ?_
 refine b2f (fun t h => t 0 = .agg [.fs 5 (List.map b0n h_.Combs), .fs 3 (List.map b0k h_.Trains), .fs 3 (List.map b0s h_.Shifts), I h_.Until] ∧ t 1 = .fs 1 (List.map b2a all)) ⟨rfl, rfl⟩ fun t h ⟨s0, s1⟩ => ?_
 simp only [x_halls_over]
 refine b0d fun K hK => ?_
 simp only [go_sem, s0]
 refine hK _ _ ?_
 clear hK K
 refine b06 ?_
 refine b0d fun K hK => ?_
 simp only [go_sem, s1]
 refine hK _ _ ?_
 clear hK K
 refine b0u fun K1 hK1 => ?_
 have J2 : ∀ (out_4 : List (Int × Int)) (v4 : AV) (t : Slots) (h : Heap), t 4 = v4 → b01 h v4 2 (List.map b5w out_4) → c2w out_4 = some r → K1 t h := by
  intro out_4 v4 t h s4 qu hm0
  refine hK1 _ _ ?_
  unfold c2w at hm0
  refine b0d fun K hK => ?_
  simp only [go_sem, s4, b0a v4]
  refine hK _ _ ?_
  clear hK K
  simp only [b1c, b1e, b1d, b1f]
  obtain rfl := Option.some.inj hm0
  exact d4k (v := v4) (by simp only [go_sem, s4, b0q qu, List.length_append, List.map_append]) (b6c (f := b5w) (l := out_4) (b1t qu (by intro j hj hl; first | rfl | simp only [go_sem, hl]) (by first | omega | exact Nat.le_refl _ | (simp only [go_sem, nxs] <;> omega))) c45 j09)
 simp only [b05]
 obtain ⟨b3, hl3, hm0⟩ := b0g hm0
 refine b10 hl3 (fun | (out_4, x_10), t, h => ∃ v4 : AV, t 2 = .fp [.fs 5 (List.map b0n h_.Combs), .fs 3 (List.map b0k h_.Trains), .fs 3 (List.map b0s h_.Shifts), I h_.Until] 0 ∧ t 4 = v4 ∧ t 8 = .fs 1 (List.map b2a all) ∧ t 9 = I (List.length all : Int) ∧ t 10 = I x_10 ∧ b01 h v4 2 (List.map b5w out_4)) ?_ ?_
 ·exact ⟨(.v (.slice none 0 0)), (by first | (simp only [go_sem, List.length_append, List.map_append]; done) | rfl), (by first | (simp only [go_sem, List.length_append, List.map_append]; done) | rfl), (by first | (simp only [go_sem, List.length_append, List.map_append]; done) | rfl), (by first | (simp only [go_sem, List.length_append, List.map_append]; done) | rfl), (by first | (simp only [go_sem, List.length_append, List.map_append]; done) | rfl), b54⟩
 ·rintro ⟨out_4, x_10⟩ o t h ⟨v4, s2, s4, s8, s9, s10, qu⟩ hm1 hb3
  simp only [c5u] at hm1
  rw [g1f]
  refine b0d fun K hK => ?_
  simp only [go_sem, s9, s10, b0a v4]
  refine hK _ _ ?_
  clear hK K
  refine b0u fun K4 hK4 => ?_
  simp only [go_sem]
  refine b0r (fun hc5 => ?_) (fun hc5 => ?_)
  ·rw [b04 hc5] at hm1
   simp only [b02, b0h, b0i]
   refine hK4 _ _ ?_
   refine b0u fun K6 hK6 => ?_
   have J7 : ∀ (out_4_1 : List (Int × Int)) (v4_1 : AV) (t : Slots) (h : Heap), t 2 = .fp [.fs 5 (List.map b0n h_.Combs), .fs 3 (List.map b0k h_.Trains), .fs 3 (List.map b0s h_.Shifts), I h_.Until] 0 → t 4 = v4_1 → t 8 = .fs 1 (List.map b2a all) → t 9 = I (List.length all : Int) → t 10 = I x_10 → b01 h v4_1 2 (List.map b5w out_4_1) → c0q x_10 out_4_1 = some o → K6 t h := by
    intro out_4_1 v4_1 t h s2 s4 s8 s9 s10 qu hm1
    refine hK6 _ _ ?_
    unfold c0q at hm1
    refine b1n fun K hK => ?_
    simp only [go_sem, s10, b0a v4, b0a v4_1]
    refine hK _ _ ?_
    clear hK K
    simp only [b0h, b0i]
    obtain rfl := Option.some.inj hm1
    refine ⟨_, rfl, ?_⟩
    exact ⟨v4_1, s2, s4, s8, s9, (by first | (simp only [go_sem, s10, List.length_append, List.map_append]; done) | rfl), qu⟩
   simp only [b05]
   obtain ⟨x9, h_x9, hm1⟩ := b0g hm1
   have h_x90 := b0x h_x9
   have h_x91 := b0y h_x9
   refine b0d fun K hK => ?_
   simp only [go_sem, s8, s10, b0l h_x9, b0m h_x9, h_x90, h_x91, b0a v4]
   refine hK _ _ ?_
   clear hK K
   obtain ⟨y13, h_y13, hm1⟩ := b0g hm1
   refine b0d fun K hK => ?_
   simp only [go_sem, s2, b0a v4]
   refine c5z ?_ (c3e x9.most "newel/halls.over$1" [] [.fp [.fs 5 (List.map b0n h_.Combs), .fs 3 (List.map b0k h_.Trains), .fs 3 (List.map b0s h_.Shifts), I h_.Until] 0, .fp [I x_10] 0] (fun z12 => c0p z12 h_ x_10) (.fn _ _ _ b0z (b0e (.fp _ _ (b0e (b0w fun a _ => b2l a) (b0e (b0w fun a _ => b2n a) (b0e (b0w fun a _ => b2p a) (b0e (b0j _) b0z))))) (b0e (.fp _ _ (b0e (b0j _) b0z)) b0z))) (fun z0 y hz => d03 z0 h_ x_10 y hz) _ h_y13) (.v _) ?_
   ·exact .cons (.refl _ (b0w fun a _ => b2i a)) (.cons (d4s (.nil) (.cons (.refl _ (.fp _ _ (b0e (b0w fun a _ => b2l a) (b0e (b0w fun a _ => b2n a) (b0e (b0w fun a _ => b2p a) (b0e (b0j _) b0z)))))) (.cons (c46 (id := h.nx) (sz := 1) (xs := [I x_10]) (by simp only [go_sem, b0q qu]) (.cons (.refl _ (b0j _)) (.nil))) (.nil)))) (.nil))
   simp only [go_sem, s2, b0a v4]
   refine hK _ _ ?_
   clear hK K
   refine b0d fun K hK => ?_
   simp only [go_sem, b0a v4]
   refine hK _ _ ?_
   clear hK K
   simp only [go_sem]
   refine b0r (fun hc14 => ?_) (fun hc14 => ?_)
   ·rw [b04 hc14] at hm1
    obtain ⟨l16, h_l16, hm1⟩ := b0g hm1
    refine b1n fun K hK => ?_
    simp only [go_sem, s4, b0a v4]
    refine b5d (f := b5w) (l := out_4) (m := ([(x_10, y13)])) ?_ ?_ ?_ ?_ h_l16 ?_
    ·exact (b1t qu (by intro j hj hl; first | rfl | simp only [go_sem, hl]) (by first | omega | exact Nat.le_refl _ | (simp only [go_sem, nxs] <;> omega)))
    ·exact (b5f (by simp only [go_sem, b0q qu, List.length_append, List.map_append]) (by simp only [go_sem, b0q qu, List.length_append, List.map_append]))
    ·exact (b2u (by first | exact b1h | exact b1i (by first | omega | (simp only [nxs] <;> omega)) | assumption | exact b00 (by assumption) (by first | omega | (simp only [go_sem, nxs] <;> omega))))
    ·exact (fun _ => by simp)
    simp only [go_sem, s4, b0a v4]
    refine hK _ _ ?_
    clear hK K
    simp only [b0h, b0i]
    exact J7 l16 (.rs (nxs (nxs h.nx)) 0 (List.length l16)) _ _ s2 (by first | (simp only [go_sem, s4, List.length_append, List.map_append]; done) | rfl) s8 s9 s10 (b3e (by simp only [go_sem, b0q qu, List.length_append, List.map_append]) (by first | rfl | simp only [go_sem, List.length_append, List.map_append]) (by simp only [go_sem])) hm1
   ·rw [b03 hc14] at hm1
    simp only [b02, b0h, b0i]
    exact J7 out_4 v4 _ _ s2 s4 s8 s9 s10 (b1t qu (by intro j hj hl; first | rfl | simp only [go_sem, hl]) (by first | omega | exact Nat.le_refl _ | (simp only [go_sem, nxs] <;> omega))) hm1
  ·rw [b03 hc5] at hm1
   simp only [b1w, b1z, b1y, b1x, b0h, b0i, Nat.reduceEqDiff, not_false_eq_true]
   obtain rfl := Option.some.inj hm1
   obtain rfl := hb3 _ rfl
   try dsimp only at hm0
   exact J2 out_4 v4 _ _ s4 qu hm0
theorem d03 (hf : Has O "newel/halls.over$1" x_halls_overD1) : c7t O := by
 intro n c0 c1 r hm0
 unfold c0p at hm0
 refine b2k hf rfl (b0e (b0j _) (b0e (.fp _ _ (b0e (b0w fun a _ => b2l a) (b0e (b0w fun a _ => b2n a) (b0e (b0w fun a _ => b2p a) (b0e (b0j _) b0z))))) (b0e (.fp _ _ (b0e (b0j _) b0z)) b0z))) (b0j _) ?_
 refine b2f (fun t h => t 0 = I n ∧ t 1 = .fp [.fs 5 (List.map b0n c0.Combs), .fs 3 (List.map b0k c0.Trains), .fs 3 (List.map b0s c0.Shifts), I c0.Until] 0 ∧ t 2 = .fp [I c1] 0) ⟨rfl, rfl, rfl⟩ fun t h ⟨s0, s1, s2⟩ => ?_
 simp only [x_halls_overD1]
 refine b0d fun K hK => ?_
 simp only [go_sem]
 refine hK _ _ ?_
 clear hK K
 obtain ⟨x2, h_x2, hm0⟩ := b0g hm0
 have h_x20 := b0x h_x2
 have h_x21 := b0y h_x2
 refine b0d fun K hK => ?_
 simp only [go_sem, s0, s1, s2, b0l h_x2, b0m h_x2, h_x20, h_x21]
 refine hK _ _ ?_
 clear hK K
 simp only [b1c, b1e, b1d, b1f]
 obtain rfl := Option.some.inj hm0
 exact b1s (by simp only [go_sem, List.length_append, List.map_append]) (b0j _)
theorem b88 (hf : Has O "newel/halls.span" x_halls_span) : c4d O := by
 intro s low high
 generalize hm0 : b4u s low high = r
 unfold b4u at hm0
 refine b2k hf rfl (b0e (.agg _ (b0e (b0j _) (b0e (b0j _) b0z))) (b0e (b0j _) (b0e (b0j _) b0z))) (b0j _) ?_
 refine b2f (fun t h => t 0 = .agg [I s.Low, I s.High] ∧ t 1 = I low ∧ t 2 = I high) ⟨rfl, rfl, rfl⟩ fun t h ⟨s0, s1, s2⟩ => ?_
 simp only [x_halls_span]
 refine b0d fun K hK => ?_
 simp only [go_sem, s0]
 refine hK _ _ ?_
 clear hK K
 refine b2e (fun t h => t 6 = B (((decide (low ≤ s.Low)) && (decide (s.Low ≤ s.High))) && (decide (s.High ≤ high)))) (fun K hK => ?_) ?_
 ·simp only [go_sem, s1, s2]
  refine b0r (fun hg1 => ?_) (fun hg1 => ?_)
  ·simp only [go_sem, s1, s2, hg1]
   refine b0r (fun hg2 => ?_) (fun hg2 => ?_)
   ·simp only [go_sem, s1, s2, hg1, hg2]
    exact hK _ _ (by first | (simp only [go_sem, hg1, hg2, List.length_append, List.map_append]; done) | rfl)
   ·simp only [go_sem, s1, s2, hg1, hg2]
    exact hK _ _ (by first | (simp only [go_sem, hg1, hg2, List.length_append, List.map_append]; done) | rfl)
  ·simp only [go_sem, s1, s2, hg1]
   exact hK _ _ (by first | (simp only [go_sem, hg1, List.length_append, List.map_append]; done) | rfl)
 ·rintro t h s6
  simp only [b1c, b1e, b1d, b1f]
  obtain rfl := hm0
  exact b1s (by simp only [go_sem, s6, List.length_append, List.map_append]) (b0j _)
end Go.Nw.HM
