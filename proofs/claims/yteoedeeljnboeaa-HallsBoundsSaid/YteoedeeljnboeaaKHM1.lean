/- That the texts make what their models say: printed by a program. -/
import Derived.Test.YteoedeeljnboeaaHM
set_option linter.all false
set_option linter.unusedVariables false
set_option linter.unusedSimpArgs false
set_option linter.unusedSectionVars false
namespace Go.Nw.HM
open Go.Nw.Halls
set_option linter.unusedSimpArgs false
set_option linter.unusedVariables false
set_option maxHeartbeats 4000000
variable {O : Orac}
theorem d0k (hf : Has O "(*newel/halls.bound).passes" x___halls_bound__passes) : c7l O := by
 intro b from_ to_ r hm0
 unfold b8f at hm0
 refine b2n hf rfl (b0e (.fp _ _ (b0e (b0y fun a _ => b21 a) (b0e (b0y fun a _ => b21 a) (b0e (b0y fun a _ => b21 a) (b0e (b0y fun a _ => b4p a) b02))))) (b0e (b0j _) (b0e (b0j _) b02))) (b0j _) ?_
 refine b2g (fun t h => t 0 = .fp [.fs 1 (List.map eI b.rates), .fs 1 (List.map eI b.flow), .fs 1 (List.map eI b.most), .fs 1 (List.map b0z b.come)] 0 ∧ t 1 = I from_ ∧ t 2 = I to_) ⟨rfl, rfl, rfl⟩ fun t h ⟨s0, s1, s2⟩ => ?_
 simp only [x___halls_bound__passes]
 refine b0f fun K hK => ?_
 simp only [go_sem]
 refine hK _ _ ?_
 clear hK K
 refine b05 ?_
 refine b2j (fun t h => t 0 = .fp [.fs 1 (List.map eI b.rates), .fs 1 (List.map eI b.flow), .fs 1 (List.map eI b.most), .fs 1 (List.map b0z b.come)] 0 ∧ t 1 = I from_ ∧ t 2 = I to_ ∧ t 16 = B ((decide (to_ < from_)) || (decide (to_ < 0)))) (fun K hK => ?_) ?_
 ·simp only [go_sem, s1, s2]
  refine b0w (fun hg1 => ?_) (fun hg1 => ?_)
  ·simp only [go_sem, s1, s2, hg1]
   exact hK _ _ ⟨s0, s1, s2, (by first | (simp only [go_sem, hg1, lA9, mA9]; done) | rfl)⟩
  ·simp only [go_sem, s1, s2, hg1]
   exact hK _ _ ⟨s0, s1, s2, (by first | (simp only [go_sem, hg1, lA9, mA9]; done) | rfl)⟩
 ·rintro t h ⟨s0, s1, s2, s16⟩
  refine b0x fun K2 hK2 => ?_
  simp only [go_sem, s16]
  refine b0w (fun hc3 => ?_) (fun hc3 => ?_)
  ·rw [b1b hc3] at hm0
   refine b0f fun K hK => ?_
   simp only [go_sem]
   refine hK _ _ ?_
   clear hK K
   simp only [b1i, b1m, b1l, b1n]
   obtain rfl := sI9 hm0
   exact b1z (by simp only [go_sem, lA9, mA9]) (b0j _)
  ·rw [b1a hc3] at hm0
   simp only [b08, b0m, b0n]
   refine hK2 _ _ ?_
   refine b0f fun K hK => ?_
   simp only [go_sem, s1]
   refine hK _ _ ?_
   clear hK K
   obtain ⟨x8, h_x8, hm0⟩ := b0k hm0
   have h_x80 := b06 h_x8
   have h_x81 := b09 h_x8
   obtain ⟨x9, h_x9, hm0⟩ := b0k hm0
   have h_x90 := b06 h_x9
   have h_x91 := b09 h_x9
   obtain ⟨x10, h_x10, hm0⟩ := b0k hm0
   have h_x100 := b06 h_x10
   have h_x101 := b09 h_x10
   obtain ⟨x11, h_x11, hm0⟩ := b0k hm0
   have h_x110 := b06 h_x11
   have h_x111 := b09 h_x11
   refine b0f fun K hK => ?_
   simp only [go_sem, s0, s1, s2, b0u h_x8, b0v h_x8, h_x80, h_x81, b0u h_x9, b0v h_x9, h_x90, h_x91, b0u h_x10, b0v h_x10, h_x100, h_x101, b0u h_x11, b0v h_x11, h_x110, h_x111]
   refine hK _ _ ?_
   clear hK K
   refine b05 ?_
   refine b0f fun K hK => ?_
   simp only [go_sem, s1]
   refine hK _ _ ?_
   clear hK K
   refine b0x fun K12 hK12 => ?_
   have J13 : ∀ (least_7 : Int) (t : Slots) (h : Heap), t 7 = I least_7 → b95 least_7 = some r → K12 t h := by
    intro least_7 t h s7 hm0
    refine hK12 _ _ ?_
    unfold b95 at hm0
    refine b0f fun K hK => ?_
    simp only [go_sem, s7]
    refine hK _ _ ?_
    clear hK K
    simp only [b1i, b1m, b1l, b1n]
    obtain rfl := sI9 hm0
    exact b1z (by simp only [go_sem, lA9, mA9]) (b0j _)
   simp only [b1e]
   obtain ⟨b14, hl14, hm0⟩ := b0k hm0
   refine b2c hl14 (fun | (least_7, k_8), t, h => t 0 = .fp [.fs 1 (List.map eI b.rates), .fs 1 (List.map eI b.flow), .fs 1 (List.map eI b.most), .fs 1 (List.map b0z b.come)] 0 ∧ t 1 = I (mx from_ 0) ∧ t 2 = I to_ ∧ t 7 = I least_7 ∧ t 8 = I k_8) ?_ ?_
   ·exact ⟨s0, (by first | (simp only [go_sem, s1, lA9, mA9]; done) | rfl), s2, (by first | (simp only [go_sem, lA9, mA9]; done) | rfl), (by first | (simp only [go_sem, lA9, mA9]; done) | rfl)⟩
   ·rintro ⟨least_7, k_8⟩ o t h ⟨s0, s1, s2, s7, s8⟩ hm1 hb14
    simp only [b8g] at hm1
    rw [d94]
    refine b05 ?_
    refine b0f fun K hK => ?_
    simp only [go_sem, s2, s8]
    refine hK _ _ ?_
    clear hK K
    refine b0x fun K15 hK15 => ?_
    simp only [go_sem]
    refine b0w (fun hc16 => ?_) (fun hc16 => ?_)
    ·rw [b1b hc16] at hm1
     simp only [b08, b0m, b0n]
     refine hK15 _ _ ?_
     refine b0x fun K17 hK17 => ?_
     simp only [b1e]
     refine b0f fun K hK => ?_
     simp only [go_sem]
     refine hK _ _ ?_
     clear hK K
     refine b05 ?_
     refine b0f fun K hK => ?_
     simp only [go_sem, s2, s8]
     refine hK _ _ ?_
     clear hK K
     refine b0x fun K18 hK18 => ?_
     have J19 : ∀ (behind_9 : Int) (t : Slots) (h : Heap), t 0 = .fp [.fs 1 (List.map eI b.rates), .fs 1 (List.map eI b.flow), .fs 1 (List.map eI b.most), .fs 1 (List.map b0z b.come)] 0 → t 1 = I (mx from_ 0) → t 2 = I to_ → t 7 = I least_7 → t 8 = I k_8 → t 9 = I behind_9 → b7a b from_ least_7 k_8 behind_9 = some o → K18 t h := by
      intro behind_9 t h s0 s1 s2 s7 s8 s9 hm1
      refine hK18 _ _ ?_
      unfold b7a at hm1
      obtain ⟨x23, h_x23, hm1⟩ := b0k hm1
      have h_x230 := b06 h_x23
      have h_x231 := b09 h_x23
      obtain ⟨x24, h_x24, hm1⟩ := b0k hm1
      have h_x240 := b06 h_x24
      have h_x241 := b09 h_x24
      obtain ⟨x25, h_x25, hm1⟩ := b0k hm1
      have h_x250 := b06 h_x25
      have h_x251 := b09 h_x25
      refine b1t fun K hK => ?_
      simp only [go_sem, s0, s1, s7, s8, s9, b0u h_x23, b0v h_x23, h_x230, h_x231, b0u h_x24, b0v h_x24, h_x240, h_x241, b0u h_x25, b0v h_x25, h_x250, h_x251]
      refine hK _ _ ?_
      clear hK K
      simp only [b0m, b0n]
      refine hK17 _ _ ?_
      refine b1t fun K hK => ?_
      simp only [go_sem, s8]
      refine hK _ _ ?_
      clear hK K
      simp only [b0m, b0n]
      obtain rfl := sI9 hm1
      refine ⟨_, rfl, ?_⟩
      exact ⟨s0, s1, s2, (by first | (simp only [go_sem, s7, lA9, mA9]; done) | rfl), (by first | (simp only [go_sem, s8, lA9, mA9]; done) | rfl)⟩
     simp only [go_sem]
     refine b0w (fun hc26 => ?_) (fun hc26 => ?_)
     ·rw [b1b hc26] at hm1
      obtain ⟨x29, h_x29, hm1⟩ := b0k hm1
      have h_x290 := b06 h_x29
      have h_x291 := b09 h_x29
      obtain ⟨x30, h_x30, hm1⟩ := b0k hm1
      have h_x300 := b06 h_x30
      have h_x301 := b09 h_x30
      refine b1t fun K hK => ?_
      simp only [go_sem, s0, s2, s8, b0u h_x29, b0v h_x29, h_x290, h_x291, b0u h_x30, b0v h_x30, h_x300, h_x301]
      refine hK _ _ ?_
      clear hK K
      simp only [b0m, b0n]
      exact J19 x30 _ _ s0 s1 s2 s7 s8 (by first | (simp only [go_sem, lA9, mA9]; done) | rfl) hm1
     ·rw [b1a hc26] at hm1
      simp only [b08, b0m, b0n]
      exact J19 0 _ _ s0 s1 s2 s7 s8 (by first | (simp only [go_sem, lA9, mA9]; done) | rfl) hm1
    ·rw [b1a hc16] at hm1
     simp only [b17, b2b, b2a, b19, b0m, b0n, Nat.reduceEqDiff, nF9]
     obtain rfl := sI9 hm1
     obtain rfl := hb14 _ rfl
     try dsimp only at hm0
     exact J13 least_7 _ _ s7 hm0
theorem d0l (hf : Has O "(newel/newelref06.Bounds).pass" x__r06_Bounds__pass) : c7m O := by
 intro b c from_ to_ r hm0
 unfold b96 at hm0
 refine b2n hf rfl (b0e (.agg _ (b0e (b0y fun a _ => b4p a) (b0e (b0y fun a _ => b4p a) (b0e (b0y fun a _ => b7h a) (b0e (b0y fun a _ => b7h a) b02))))) (b0e (b0j _) (b0e (b0j _) (b0e (b0j _) b02)))) (b0j _) ?_
 refine b2g (fun t h => t 0 = .agg [.fs 1 (List.map b0z b.Most), .fs 1 (List.map b0z b.Flow), .fs 1 (List.map b03 b.Come), .fs 1 (List.map b03 b.Pass)] ∧ t 1 = I c ∧ t 2 = I from_ ∧ t 3 = I to_) ⟨rfl, rfl, rfl, rfl⟩ fun t h ⟨s0, s1, s2, s3⟩ => ?_
 simp only [x__r06_Bounds__pass]
 refine b0f fun K hK => ?_
 simp only [go_sem, s0]
 refine hK _ _ ?_
 clear hK K
 refine b0f fun K hK => ?_
 simp only [go_sem, s2]
 refine hK _ _ ?_
 clear hK K
 refine b05 ?_
 refine b0f fun K hK => ?_
 simp only [go_sem, s2, s3]
 refine hK _ _ ?_
 clear hK K
 refine b0x fun K1 hK1 => ?_
 simp only [go_sem]
 refine b0w (fun hc2 => ?_) (fun hc2 => ?_)
 ·rw [b1b hc2] at hm0
  refine b0f fun K hK => ?_
  simp only [go_sem]
  refine hK _ _ ?_
  clear hK K
  simp only [b1i, b1m, b1l, b1n]
  obtain rfl := sI9 hm0
  exact b1z (by simp only [go_sem, lA9, mA9]) (b0j _)
 ·rw [b1a hc2] at hm0
  simp only [b08, b0m, b0n]
  refine hK1 _ _ ?_
  obtain ⟨x6, h_x6, hm0⟩ := b0k hm0
  have h_x60 := b06 h_x6
  have h_x61 := b09 h_x6
  obtain ⟨x7, h_x7, hm0⟩ := b0k hm0
  have h_x70 := b06 h_x7
  have h_x71 := b09 h_x7
  obtain ⟨x8, h_x8, hm0⟩ := b0k hm0
  have h_x80 := b06 h_x8
  have h_x81 := b09 h_x8
  refine b0f fun K hK => ?_
  simp only [go_sem, s1, s2, s3, b0u h_x6, b0v h_x6, h_x60, h_x61, b0u h_x7, b0v h_x7, h_x70, h_x71, b0u h_x8, b0v h_x8, h_x80, h_x81]
  refine hK _ _ ?_
  clear hK K
  simp only [b1i, b1m, b1l, b1n]
  obtain rfl := sI9 hm0
  exact b1z (by simp only [go_sem, lA9, mA9]) (b0j _)
theorem b85 (hf : Has O "newel/halls.Check" x_halls_Check) (d0t : c7u O) (d05 : c79 O) (d0m : c7n O) (b88 : c4k O) : c15 O := by
 intro h_ r hm0
 unfold b4q at hm0
 refine b2n hf rfl (b0e (.agg _ (b0e (b0y fun a _ => b2p a) (b0e (b0y fun a _ => b2o a) (b0e (b0y fun a _ => b2r a) (b0e (b0j _) b02))))) b02) (b0j _) ?_
 refine b2g (fun t h => t 0 = .agg [.fs 5 (List.map b0r h_.Combs), .fs 3 (List.map b0o h_.Trains), .fs 3 (List.map b0s h_.Shifts), I h_.Until]) rfl fun t h s0 => ?_
 simp only [x_halls_Check]
 refine b0f fun K hK => ?_
 simp only [go_sem, s0]
 refine hK _ _ ?_
 clear hK K
 refine b05 ?_
 refine b2j (fun t h => t 1 = .fp [.fs 5 (List.map b0r h_.Combs), .fs 3 (List.map b0o h_.Trains), .fs 3 (List.map b0s h_.Shifts), I h_.Until] 0 ∧ t 37 = B ((((((decide (h_.Until < 1)) || (decide (100 < h_.Until))) || (decide ((List.length h_.Combs : Int) < 1))) || (decide (8 < (List.length h_.Combs : Int)))) || (decide (12 < (List.length h_.Trains : Int)))) || (decide (20 < (List.length h_.Shifts : Int))))) (fun K hK => ?_) ?_
 ·simp only [go_sem]
  refine b0w (fun hg1 => ?_) (fun hg1 => ?_)
  ·simp only [go_sem, hg1]
   exact hK _ _ ⟨(by first | (simp only [go_sem, hg1, lA9, mA9]; done) | rfl), (by first | (simp only [go_sem, hg1, lA9, mA9]; done) | rfl)⟩
  ·simp only [go_sem, hg1]
   refine b0w (fun hg2 => ?_) (fun hg2 => ?_)
   ·simp only [go_sem, hg1, hg2]
    exact hK _ _ ⟨(by first | (simp only [go_sem, hg1, hg2, lA9, mA9]; done) | rfl), (by first | (simp only [go_sem, hg1, hg2, lA9, mA9]; done) | rfl)⟩
   ·simp only [go_sem, hg1, hg2]
    refine b0w (fun hg3 => ?_) (fun hg3 => ?_)
    ·simp only [go_sem, hg1, hg2, hg3]
     exact hK _ _ ⟨(by first | (simp only [go_sem, hg1, hg2, hg3, lA9, mA9]; done) | rfl), (by first | (simp only [go_sem, hg1, hg2, hg3, lA9, mA9]; done) | rfl)⟩
    ·simp only [go_sem, hg1, hg2, hg3]
     refine b0w (fun hg4 => ?_) (fun hg4 => ?_)
     ·simp only [go_sem, hg1, hg2, hg3, hg4]
      exact hK _ _ ⟨(by first | (simp only [go_sem, hg1, hg2, hg3, hg4, lA9, mA9]; done) | rfl), (by first | (simp only [go_sem, hg1, hg2, hg3, hg4, lA9, mA9]; done) | rfl)⟩
     ·simp only [go_sem, hg1, hg2, hg3, hg4]
      refine b0w (fun hg5 => ?_) (fun hg5 => ?_)
      ·simp only [go_sem, hg1, hg2, hg3, hg4, hg5]
       exact hK _ _ ⟨(by first | (simp only [go_sem, hg1, hg2, hg3, hg4, hg5, lA9, mA9]; done) | rfl), (by first | (simp only [go_sem, hg1, hg2, hg3, hg4, hg5, lA9, mA9]; done) | rfl)⟩
      ·simp only [go_sem, hg1, hg2, hg3, hg4, hg5]
       exact hK _ _ ⟨(by first | (simp only [go_sem, hg1, hg2, hg3, hg4, hg5, lA9, mA9]; done) | rfl), (by first | (simp only [go_sem, hg1, hg2, hg3, hg4, hg5, lA9, mA9]; done) | rfl)⟩
 ·rintro t h ⟨s1, s37⟩
  refine b0x fun K6 hK6 => ?_
  simp only [go_sem, s37]
  refine b0w (fun hc7 => ?_) (fun hc7 => ?_)
  ·rw [b1b hc7] at hm0
   refine b0f fun K hK => ?_
   simp only [go_sem]
   refine hK _ _ ?_
   clear hK K
   simp only [b1i, b1m, b1l, b1n]
   obtain rfl := sI9 hm0
   exact b1z (by simp only [go_sem, lA9, mA9]) (b0j _)
  ·rw [b1a hc7] at hm0
   simp only [b08, b0m, b0n]
   refine hK6 _ _ ?_
   refine b05 ?_
   refine b0f fun K hK => ?_
   simp only [go_sem, s1]
   refine hK _ _ ?_
   clear hK K
   refine b0x fun K8 hK8 => ?_
   have J9 : ∀ (t : Slots) (h : Heap), t 1 = .fp [.fs 5 (List.map b0r h_.Combs), .fs 3 (List.map b0o h_.Trains), .fs 3 (List.map b0s h_.Shifts), I h_.Until] 0 → c0n h_ = some r → K8 t h := by
    intro t h s1 hm0
    refine hK8 _ _ ?_
    unfold c0n at hm0
    refine b05 ?_
    obtain ⟨y13, h_y13, hm0⟩ := b0k hm0
    refine b0f fun K hK => ?_
    simp only [go_sem, s1]
    refine b1p (d05 h_.Trains "newel/halls.Check$1" [] [.fp [.fs 5 (List.map b0r h_.Combs), .fs 3 (List.map b0o h_.Trains), .fs 3 (List.map b0s h_.Shifts), I h_.Until] 0] (fun z12 => b7i z12 h_) (.fn _ _ _ b02 (b0e (.fp _ _ (b0e (b0y fun a _ => b2p a) (b0e (b0y fun a _ => b2o a) (b0e (b0y fun a _ => b2r a) (b0e (b0j _) b02))))) b02)) (fun z0 y hz => d0m z0 h_ y hz) _ h_y13) ?_
    simp only [go_sem, s1]
    refine hK _ _ ?_
    clear hK K
    refine b0x fun K14 hK14 => ?_
    simp only [go_sem]
    refine b0w (fun hc15 => ?_) (fun hc15 => ?_)
    ·rw [b1b hc15] at hm0
     refine b0f fun K hK => ?_
     simp only [go_sem]
     refine hK _ _ ?_
     clear hK K
     simp only [b1i, b1m, b1l, b1n]
     obtain rfl := sI9 hm0
     exact b1z (by simp only [go_sem, lA9, mA9]) (b0j _)
    ·rw [b1a hc15] at hm0
     simp only [b08, b0m, b0n]
     refine hK14 _ _ ?_
     refine b05 ?_
     refine b0f fun K hK => ?_
     simp only [go_sem, s1]
     refine hK _ _ ?_
     clear hK K
     refine b0x fun K16 hK16 => ?_
     have J17 : ∀ (t : Slots) (h : Heap), c2z = some r → K16 t h := by
      intro t h hm0
      refine hK16 _ _ ?_
      unfold c2z at hm0
      refine b0f fun K hK => ?_
      simp only [go_sem]
      refine hK _ _ ?_
      clear hK K
      simp only [b1i, b1m, b1l, b1n]
      obtain rfl := sI9 hm0
      exact b1z (by simp only [go_sem, lA9, mA9]) (b0j _)
     simp only [b1e]
     obtain ⟨b18, hl18, hm0⟩ := b0k hm0
     refine b2c hl18 (fun | x_56, t, h => t 1 = .fp [.fs 5 (List.map b0r h_.Combs), .fs 3 (List.map b0o h_.Trains), .fs 3 (List.map b0s h_.Shifts), I h_.Until] 0 ∧ t 54 = .fs 3 (List.map b0s h_.Shifts) ∧ t 55 = I (List.length h_.Shifts : Int) ∧ t 56 = I x_56) ?_ ?_
     ·exact ⟨s1, (by first | (simp only [go_sem, lA9, mA9]; done) | rfl), (by first | (simp only [go_sem, lA9, mA9]; done) | rfl), (by first | (simp only [go_sem, lA9, mA9]; done) | rfl)⟩
     ·rintro x_56 o t h ⟨s1, s54, s55, s56⟩ hm1 hb18
      simp only [b7j] at hm1
      rw [d95]
      refine b0f fun K hK => ?_
      simp only [go_sem, s55, s56]
      refine hK _ _ ?_
      clear hK K
      refine b0x fun K19 hK19 => ?_
      simp only [go_sem]
      refine b0w (fun hc20 => ?_) (fun hc20 => ?_)
      ·rw [b1b hc20] at hm1
       simp only [b08, b0m, b0n]
       refine hK19 _ _ ?_
       refine b0x fun K21 hK21 => ?_
       simp only [b1e]
       obtain ⟨x23, h_x23, hm1⟩ := b0k hm1
       have h_x230 := b06 h_x23
       have h_x231 := b09 h_x23
       refine b0f fun K hK => ?_
       simp only [go_sem, s54, s56, b0u h_x23, b0v h_x23, h_x230, h_x231]
       refine hK _ _ ?_
       clear hK K
       obtain ⟨c29, h_c29, hm1⟩ := b0k hm1
       refine b2j (fun t h => t 1 = .fp [.fs 5 (List.map b0r h_.Combs), .fs 3 (List.map b0o h_.Trains), .fs 3 (List.map b0s h_.Shifts), I h_.Until] 0 ∧ t 54 = .fs 3 (List.map b0s h_.Shifts) ∧ t 55 = I (List.length h_.Shifts : Int) ∧ t 56 = I x_56 ∧ t 106 = B (((c29 || (decide (x23.Comb < 0))) || (decide ((List.length h_.Combs : Int) ≤ x23.Comb))) || (!(b4h x23.Rate (Span.mk 0 1000))))) (fun K hK => ?_) ?_
       ·simp only [go_sem, s1]
        refine b0w (fun hg30 => ?_) (fun hg30 => ?_)
        ·simp only [hg30, Bool.not_true, Bool.not_false, eq_self, if_true, if_false, Bool.true_or, Bool.or_true, Bool.false_or, Bool.or_false, Bool.true_and, Bool.and_true, Bool.false_and, Bool.and_false, Bool.false_eq_true] at h_c29
         obtain rfl := sI9 h_c29
         simp only [go_sem, s1, hg30]
         exact hK _ _ ⟨s1, s54, s55, s56, (by first | (simp only [go_sem, hg30, lA9, mA9]; done) | rfl)⟩
        ·simp only [go_sem, s1, hg30]
         refine b0w (fun hg31 => ?_) (fun hg31 => ?_)
         ·simp only [hg30, hg31, Bool.not_true, Bool.not_false, eq_self, if_true, if_false, Bool.true_or, Bool.or_true, Bool.false_or, Bool.or_false, Bool.true_and, Bool.and_true, Bool.false_and, Bool.and_false, Bool.false_eq_true] at h_c29
          obtain rfl := sI9 h_c29
          simp only [go_sem, s1, hg30, hg31]
          exact hK _ _ ⟨s1, s54, s55, s56, (by first | (simp only [go_sem, hg30, hg31, lA9, mA9]; done) | rfl)⟩
         ·simp only [hg30, hg31, Bool.not_true, Bool.not_false, eq_self, if_true, if_false, Bool.true_or, Bool.or_true, Bool.false_or, Bool.or_false, Bool.true_and, Bool.and_true, Bool.false_and, Bool.and_false, Bool.false_eq_true] at h_c29
          obtain ⟨c28, h_c28, h_c29⟩ := b0k h_c29
          obtain rfl := sI9 h_c29
          simp only [go_sem, s1, hg30, hg31]
          refine b0w (fun hg32 => ?_) (fun hg32 => ?_)
          ·simp only [hg30, hg31, hg32, Bool.not_true, Bool.not_false, eq_self, if_true, if_false, Bool.true_or, Bool.or_true, Bool.false_or, Bool.or_false, Bool.true_and, Bool.and_true, Bool.false_and, Bool.and_false, Bool.false_eq_true] at h_c28
           obtain ⟨x27, h_x27, h_c28⟩ := b0k h_c28
           have h_x270 := b06 h_x27
           have h_x271 := b09 h_x27
           obtain rfl := sI9 h_c28
           simp only [go_sem, s1, b0u h_x27, b0v h_x27, h_x270, h_x271, hg30, hg31, hg32]
           refine b0w (fun hg33 => ?_) (fun hg33 => ?_)
           ·simp only [go_sem, s1, b0u h_x27, b0v h_x27, h_x270, h_x271, hg30, hg31, hg32, hg33]
            exact hK _ _ ⟨s1, s54, s55, s56, (by first | (simp only [go_sem, hg30, hg31, hg32, hg33, lA9, mA9]; done) | rfl)⟩
           ·simp only [go_sem, s1, b0u h_x27, b0v h_x27, h_x270, h_x271, hg30, hg31, hg32, hg33]
            refine b0w (fun hg34 => ?_) (fun hg34 => ?_)
            ·simp only [go_sem, s1, b0u h_x27, b0v h_x27, h_x270, h_x271, hg30, hg31, hg32, hg33, hg34]
             exact hK _ _ ⟨s1, s54, s55, s56, (by first | (simp only [go_sem, hg30, hg31, hg32, hg33, hg34, lA9, mA9]; done) | rfl)⟩
            ·simp only [go_sem, s1, b0u h_x27, b0v h_x27, h_x270, h_x271, hg30, hg31, hg32, hg33, hg34]
             refine b0w (fun hg35 => ?_) (fun hg35 => ?_)
             ·simp only [go_sem, s1, b0u h_x27, b0v h_x27, h_x270, h_x271, hg30, hg31, hg32, hg33, hg34, hg35]
              exact hK _ _ ⟨s1, s54, s55, s56, (by first | (simp only [go_sem, hg30, hg31, hg32, hg33, hg34, hg35, lA9, mA9]; done) | rfl)⟩
             ·simp only [go_sem, s1, b0u h_x27, b0v h_x27, h_x270, h_x271, hg30, hg31, hg32, hg33, hg34, hg35]
              refine b1p (b88 x23.Rate (Span.mk 0 1000)) ?_
              simp only [go_sem, s1, b0u h_x27, b0v h_x27, h_x270, h_x271, hg30, hg31, hg32, hg33, hg34, hg35]
              exact hK _ _ ⟨s1, s54, s55, s56, (by first | (simp only [go_sem, hg30, hg31, hg32, hg33, hg34, hg35, lA9, mA9]; done) | rfl)⟩
          ·simp only [hg30, hg31, hg32, Bool.not_true, Bool.not_false, eq_self, if_true, if_false, Bool.true_or, Bool.or_true, Bool.false_or, Bool.or_false, Bool.true_and, Bool.and_true, Bool.false_and, Bool.and_false, Bool.false_eq_true] at h_c28
           obtain rfl := sI9 h_c28
           simp only [go_sem, s1, hg30, hg31, hg32]
           refine b0w (fun hg36 => ?_) (fun hg36 => ?_)
           ·simp only [go_sem, s1, hg30, hg31, hg32, hg36]
            exact hK _ _ ⟨s1, s54, s55, s56, (by first | (simp only [go_sem, hg30, hg31, hg32, hg36, lA9, mA9]; done) | rfl)⟩
           ·simp only [go_sem, s1, hg30, hg31, hg32, hg36]
            refine b0w (fun hg37 => ?_) (fun hg37 => ?_)
            ·simp only [go_sem, s1, hg30, hg31, hg32, hg36, hg37]
             exact hK _ _ ⟨s1, s54, s55, s56, (by first | (simp only [go_sem, hg30, hg31, hg32, hg36, hg37, lA9, mA9]; done) | rfl)⟩
            ·simp only [go_sem, s1, hg30, hg31, hg32, hg36, hg37]
             refine b1p (b88 x23.Rate (Span.mk 0 1000)) ?_
             simp only [go_sem, s1, hg30, hg31, hg32, hg36, hg37]
             exact hK _ _ ⟨s1, s54, s55, s56, (by first | (simp only [go_sem, hg30, hg31, hg32, hg36, hg37, lA9, mA9]; done) | rfl)⟩
       ·rintro t h ⟨s1, s54, s55, s56, s106⟩
        simp only [go_sem, s106]
        refine b0w (fun hc38 => ?_) (fun hc38 => ?_)
        ·rw [b1b hc38] at hm1
         refine b0f fun K hK => ?_
         simp only [go_sem]
         refine hK _ _ ?_
         clear hK K
         simp only [b1i, b1m, b1l, b1n]
         obtain rfl := sI9 hm1
         obtain rfl := hb18 _ rfl
         try dsimp only at hm0
         obtain rfl := sI9 hm0
         exact b1z (by simp only [go_sem, lA9, mA9]) (b0j _)
        ·rw [b1a hc38] at hm1
         simp only [b08, b0m, b0n]
         refine hK21 _ _ ?_
         refine b1t fun K hK => ?_
         simp only [go_sem, s56]
         refine hK _ _ ?_
         clear hK K
         simp only [b0m, b0n]
         obtain rfl := sI9 hm1
         refine ⟨_, rfl, ?_⟩
         exact ⟨s1, s54, s55, (by first | (simp only [go_sem, s56, lA9, mA9]; done) | rfl)⟩
      ·rw [b1a hc20] at hm1
       simp only [b17, b2b, b2a, b19, b0m, b0n, Nat.reduceEqDiff, nF9]
       obtain rfl := sI9 hm1
       obtain rfl := hb18 _ rfl
       try dsimp only at hm0
       exact J17  _ _  hm0
   simp only [b1e]
   obtain ⟨b40, hl40, hm0⟩ := b0k hm0
   refine b2c hl40 (fun | x_41, t, h => t 1 = .fp [.fs 5 (List.map b0r h_.Combs), .fs 3 (List.map b0o h_.Trains), .fs 3 (List.map b0s h_.Shifts), I h_.Until] 0 ∧ t 40 = I (List.length h_.Combs : Int) ∧ t 41 = I x_41) ?_ ?_
   ·exact ⟨s1, (by first | (simp only [go_sem, lA9, mA9]; done) | rfl), (by first | (simp only [go_sem, lA9, mA9]; done) | rfl)⟩
   ·rintro x_41 o t h ⟨s1, s40, s41⟩ hm1 hb40
    simp only [b7k] at hm1
    rw [d96]
    refine b0f fun K hK => ?_
    simp only [go_sem, s40, s41]
    refine hK _ _ ?_
    clear hK K
    refine b0x fun K41 hK41 => ?_
    simp only [go_sem]
    refine b0w (fun hc42 => ?_) (fun hc42 => ?_)
    ·rw [b1b hc42] at hm1
     simp only [b08, b0m, b0n]
     refine hK41 _ _ ?_
     refine b0x fun K43 hK43 => ?_
     simp only [b1e]
     refine b0f fun K hK => ?_
     simp only [go_sem, s41]
     refine hK _ _ ?_
     clear hK K
     obtain ⟨y45, h_y45, hm1⟩ := b0k hm1
     refine b0f fun K hK => ?_
     simp only [go_sem, s1]
     refine b1p (d0t h_ x_41 _ h_y45) ?_
     simp only [go_sem, s1]
     refine hK _ _ ?_
     clear hK K
     simp only [go_sem]
     refine b0w (fun hc46 => ?_) (fun hc46 => ?_)
     ·rw [b1b hc46] at hm1
      refine b0f fun K hK => ?_
      simp only [go_sem]
      refine hK _ _ ?_
      clear hK K
      simp only [b1i, b1m, b1l, b1n]
      obtain rfl := sI9 hm1
      obtain rfl := hb40 _ rfl
      try dsimp only at hm0
      obtain rfl := sI9 hm0
      exact b1z (by simp only [go_sem, lA9, mA9]) (b0j _)
     ·rw [b1a hc46] at hm1
      simp only [b08, b0m, b0n]
      refine hK43 _ _ ?_
      refine b1t fun K hK => ?_
      simp only [go_sem, s41]
      refine hK _ _ ?_
      clear hK K
      simp only [b0m, b0n]
      obtain rfl := sI9 hm1
      refine ⟨_, rfl, ?_⟩
      exact ⟨s1, s40, (by first | (simp only [go_sem, s41, lA9, mA9]; done) | rfl)⟩
    ·rw [b1a hc42] at hm1
     simp only [b17, b2b, b2a, b19, b0m, b0n, Nat.reduceEqDiff, nF9]
     obtain rfl := sI9 hm1
     obtain rfl := hb40 _ rfl
     try dsimp only at hm0
     exact J9  _ _ s1 hm0
theorem d0m (hf : Has O "newel/halls.Check$1" x_halls_CheckD1) (d0u : c7v O) : c7n O := by
 intro t_ c0 r hm0
 unfold b7i at hm0
 refine b2n hf rfl (b0e (.agg _ (b0e (b0j _) (b0e (b0j _) (b0e (b0y fun a _ => c2x a) b02)))) (b0e (.fp _ _ (b0e (b0y fun a _ => b2p a) (b0e (b0y fun a _ => b2o a) (b0e (b0y fun a _ => b2r a) (b0e (b0j _) b02))))) b02)) (b0j _) ?_
 refine b2g (fun t h => t 0 = .agg [I t_.At.Low, I t_.At.High, .fs 3 (List.map b20 t_.Crowds)] ∧ t 1 = .fp [.fs 5 (List.map b0r c0.Combs), .fs 3 (List.map b0o c0.Trains), .fs 3 (List.map b0s c0.Shifts), I c0.Until] 0) ⟨rfl, rfl⟩ fun t h ⟨s0, s1⟩ => ?_
 simp only [x_halls_CheckD1]
 refine b0f fun K hK => ?_
 simp only [go_sem, s0]
 refine hK _ _ ?_
 clear hK K
 obtain ⟨y2, h_y2, hm0⟩ := b0k hm0
 refine b0f fun K hK => ?_
 simp only [go_sem, s1]
 refine b1p (d0u c0 t_ _ h_y2) ?_
 simp only [go_sem, s1]
 refine hK _ _ ?_
 clear hK K
 simp only [b1i, b1m, b1l, b1n]
 obtain rfl := sI9 hm0
 exact b1z (by simp only [go_sem, lA9, mA9]) (b0j _)
theorem d0n (hf : Has O "newel/halls.Come" x_halls_Come) (b86 : c16 O) (b58 : b8b O) (b57 : b8a O) : c7o O := by
 intro h_ comb from_ to_ r hm0
 unfold b53 at hm0
 refine b2n hf rfl (b0e (.agg _ (b0e (b0y fun a _ => b2p a) (b0e (b0y fun a _ => b2o a) (b0e (b0y fun a _ => b2r a) (b0e (b0j _) b02))))) (b0e (b0j _) (b0e (b0j _) (b0e (b0j _) b02)))) (.tup _ (b0e (b0j _) (b0e (b0j _) b02))) ?_
 refine b2g (fun t h => t 0 = .agg [.fs 5 (List.map b0r h_.Combs), .fs 3 (List.map b0o h_.Trains), .fs 3 (List.map b0s h_.Shifts), I h_.Until] ∧ t 1 = I comb ∧ t 2 = I from_ ∧ t 3 = I to_) ⟨rfl, rfl, rfl, rfl⟩ fun t h ⟨s0, s1, s2, s3⟩ => ?_
 simp only [x_halls_Come]
 refine b0f fun K hK => ?_
 simp only [go_sem, s0]
 refine hK _ _ ?_
 clear hK K
 refine b05 ?_
 obtain ⟨y2, h_y2, hm0⟩ := b0k hm0
 refine b0f fun K hK => ?_
 simp only [go_sem, s1, s2, s3]
 refine c5x ?_ (b86 h_ comb ([from_, to_]) _ h_y2) (.v _) ?_
 ·exact .cons (.refl _ (.agg _ (b0e (b0y fun a _ => b2p a) (b0e (b0y fun a _ => b2o a) (b0e (b0y fun a _ => b2r a) (b0e (b0j _) b02)))))) (.cons (.refl _ (b0j _)) (.cons (b6x (f := eI) (l := ([from_, to_])) (id := h.nx) (by simp only [go_sem, lA9, mA9]) (by first | rfl | simp only [go_sem, lA9, mA9]) b21 b59) (.nil)))
 simp only [go_sem, s1, s2, s3]
 refine hK _ _ ?_
 clear hK K
 refine b05 ?_
 refine b0f fun K hK => ?_
 simp only [go_sem]
 refine hK _ _ ?_
 clear hK K
 refine b0x fun K3 hK3 => ?_
 simp only [go_sem]
 refine b0w (fun hc4 => ?_) (fun hc4 => ?_)
 ·rw [b1b hc4] at hm0
  refine b0f fun K hK => ?_
  simp only [go_sem]
  refine hK _ _ ?_
  clear hK K
  simp only [b1i, b1m, b1l, b1n]
  obtain rfl := sI9 hm0
  exact b33 (by simp only [go_sem, lA9, mA9]) (by simp only [go_sem, lA9, mA9]) (b0j _) (b0j _)
 ·rw [b1a hc4] at hm0
  simp only [b08, b0m, b0n]
  refine hK3 _ _ ?_
  obtain ⟨y10, h_y10, hm0⟩ := b0k hm0
  obtain ⟨y11, h_y11, hm0⟩ := b0k hm0
  obtain ⟨x12, h_x12, hm0⟩ := b0k hm0
  have h_x120 := b06 h_x12
  have h_x121 := b09 h_x12
  obtain ⟨x13, h_x13, hm0⟩ := b0k hm0
  have h_x130 := b06 h_x13
  have h_x131 := b09 h_x13
  obtain ⟨x14, h_x14, hm0⟩ := b0k hm0
  have h_x140 := b06 h_x14
  have h_x141 := b09 h_x14
  refine b2j (fun t h => t 8 = I x14 ∧ t 9 = I 0) (fun K hK => ?_) ?_
  ·simp only [go_sem, s1, s2, s3, b0u h_x12, b0v h_x12, h_x120, h_x121, b0u h_x13, b0v h_x13, h_x130, h_x131, b0u h_x14, b0v h_x14, h_x140, h_x141]
   refine b6q (b58 h_ _  _ h_y10) ?_
   rintro rv_y10 hq_y10 ⟨rh_y10, rw_y10, fr_y10, fx_y10, ge_y10⟩
   have lw_y100 : h.nx < hq_y10.nx := Nat.lt_of_lt_of_le (by first | omega | simp only [go_sem]) fx_y10
   simp only [go_sem, s1, s2, s3, b0u h_x12, b0v h_x12, h_x120, h_x121, b0u h_x13, b0v h_x13, h_x130, h_x131, b0u h_x14, b0v h_x14, h_x140, h_x141]
   refine b6q (b57 h_ y10 rv_y10 rh_y10 _ rw_y10 _ h_y11) ?_
   rintro _ hq_y11 ⟨rfl, fr_y11, fx_y11⟩
   have lw_y110 : h.nx < hq_y11.nx := Nat.lt_of_lt_of_le (by first | omega | simp only [go_sem, lw_y100]) fx_y11
   simp only [go_sem, s1, s2, s3, b0u h_x12, b0v h_x12, h_x120, h_x121, b0u h_x13, b0v h_x13, h_x130, h_x131, b0u h_x14, b0v h_x14, h_x140, h_x141]
   exact hK _ _ ⟨(by first | (simp only [go_sem, lA9, mA9]; done) | rfl), (by first | (simp only [go_sem, lA9, mA9]; done) | rfl)⟩
  ·rintro t h ⟨s8, s9⟩
   simp only [b1i, b1m, b1l, b1n]
   obtain rfl := sI9 hm0
   exact b33 (by simp only [go_sem, s8, s9, lA9, mA9]) (by simp only [go_sem, s8, s9, lA9, mA9]) (b0j _) (b0j _)
theorem d0o (hf : Has O "newel/halls.Empty" x_halls_Empty) (b85 : c15 O) (b58 : b8b O) (b57 : b8a O) : c7p O := by
 intro h_ r hm0
 unfold b8s at hm0
 refine b2n hf rfl (b0e (.agg _ (b0e (b0y fun a _ => b2p a) (b0e (b0y fun a _ => b2o a) (b0e (b0y fun a _ => b2r a) (b0e (b0j _) b02))))) b02) (.tup _ (b0e (b0j _) (b0e (b0j _) b02))) ?_
 refine b2g (fun t h => t 0 = .agg [.fs 5 (List.map b0r h_.Combs), .fs 3 (List.map b0o h_.Trains), .fs 3 (List.map b0s h_.Shifts), I h_.Until]) rfl fun t h s0 => ?_
 simp only [x_halls_Empty]
 refine b0f fun K hK => ?_
 simp only [go_sem, s0]
 refine hK _ _ ?_
 clear hK K
 refine b05 ?_
 obtain ⟨y2, h_y2, hm0⟩ := b0k hm0
 refine b0f fun K hK => ?_
 simp only [go_sem]
 refine b1p (b85 h_ _ h_y2) ?_
 simp only [go_sem]
 refine hK _ _ ?_
 clear hK K
 refine b05 ?_
 refine b0f fun K hK => ?_
 simp only [go_sem]
 refine hK _ _ ?_
 clear hK K
 refine b0x fun K3 hK3 => ?_
 simp only [go_sem]
 refine b0w (fun hc4 => ?_) (fun hc4 => ?_)
 ·rw [b1b hc4] at hm0
  refine b0f fun K hK => ?_
  simp only [go_sem]
  refine hK _ _ ?_
  clear hK K
  simp only [b1i, b1m, b1l, b1n]
  obtain rfl := sI9 hm0
  exact b33 (by simp only [go_sem, lA9, mA9]) (by simp only [go_sem, lA9, mA9]) (b0j _) (b0j _)
 ·rw [b1a hc4] at hm0
  simp only [b08, b0m, b0n]
  refine hK3 _ _ ?_
  refine b0f fun K hK => ?_
  simp only [go_sem]
  refine hK _ _ ?_
  clear hK K
  refine b05 ?_
  obtain ⟨y7, h_y7, hm0⟩ := b0k hm0
  obtain ⟨y8, h_y8, hm0⟩ := b0k hm0
  refine b2j (fun t h => t 5 = I 0 ∧ t 18 = .fs 1 (List.map b2v y8) ∧ t 19 = I (List.length y8 : Int) ∧ t 20 = I 0) (fun K hK => ?_) ?_
  ·simp only [go_sem]
   refine b6q (b58 h_ _  _ h_y7) ?_
   rintro rv_y7 hq_y7 ⟨rh_y7, rw_y7, fr_y7, fx_y7, ge_y7⟩
   simp only [go_sem]
   refine b6q (b57 h_ y7 rv_y7 rh_y7 _ rw_y7 _ h_y8) ?_
   rintro _ hq_y8 ⟨rfl, fr_y8, fx_y8⟩
   simp only [go_sem]
   exact hK _ _ ⟨(by first | (simp only [go_sem, lA9, mA9]; done) | rfl), (by first | (simp only [go_sem, lA9, mA9]; done) | rfl), (by first | (simp only [go_sem, lA9, mA9]; done) | rfl), (by first | (simp only [go_sem, lA9, mA9]; done) | rfl)⟩
  ·rintro t h ⟨s5, s18, s19, s20⟩
   refine b0x fun K9 hK9 => ?_
   have J10 : ∀ (first_5 : Int) (t : Slots) (h : Heap), t 5 = I first_5 → c88 first_5 = some r → K9 t h := by
    intro first_5 t h s5 hm0
    refine hK9 _ _ ?_
    unfold c88 at hm0
    refine b0f fun K hK => ?_
    simp only [go_sem, s5]
    refine hK _ _ ?_
    clear hK K
    simp only [b1i, b1m, b1l, b1n]
    obtain rfl := sI9 hm0
    exact b33 (by simp only [go_sem, lA9, mA9]) (by simp only [go_sem, lA9, mA9]) (b0j _) (b0j _)
   simp only [b1e]
   obtain ⟨b11, hl11, hm0⟩ := b0k hm0
   refine b2c hl11 (fun | (first_5, x_20), t, h => t 5 = I first_5 ∧ t 18 = .fs 1 (List.map b2v y8) ∧ t 19 = I (List.length y8 : Int) ∧ t 20 = I x_20) ?_ ?_
   ·exact ⟨s5, s18, s19, s20⟩
   ·rintro ⟨first_5, x_20⟩ o t h ⟨s5, s18, s19, s20⟩ hm1 hb11
    simp only [c0p] at hm1
    rw [d98]
    refine b0f fun K hK => ?_
    simp only [go_sem, s19, s20]
    refine hK _ _ ?_
    clear hK K
    refine b0x fun K12 hK12 => ?_
    simp only [go_sem]
    refine b0w (fun hc13 => ?_) (fun hc13 => ?_)
    ·rw [b1b hc13] at hm1
     simp only [b08, b0m, b0n]
     refine hK12 _ _ ?_
     refine b0x fun K14 hK14 => ?_
     have J15 : ∀ (first_5_1 : Int) (t : Slots) (h : Heap), t 5 = I first_5_1 → t 18 = .fs 1 (List.map b2v y8) → t 19 = I (List.length y8 : Int) → t 20 = I x_20 → c5j x_20 first_5_1 = some o → K14 t h := by
      intro first_5_1 t h s5 s18 s19 s20 hm1
      refine hK14 _ _ ?_
      unfold c5j at hm1
      refine b1t fun K hK => ?_
      simp only [go_sem, s20]
      refine hK _ _ ?_
      clear hK K
      simp only [b0m, b0n]
      obtain rfl := sI9 hm1
      refine ⟨_, rfl, ?_⟩
      exact ⟨s5, s18, s19, (by first | (simp only [go_sem, s20, lA9, mA9]; done) | rfl)⟩
     simp only [b1e]
     obtain ⟨x17, h_x17, hm1⟩ := b0k hm1
     have h_x170 := b06 h_x17
     have h_x171 := b09 h_x17
     refine b0f fun K hK => ?_
     simp only [go_sem, s18, s20, b0u h_x17, b0v h_x17, h_x170, h_x171]
     refine hK _ _ ?_
     clear hK K
     refine b0f fun K hK => ?_
     simp only [go_sem]
     refine hK _ _ ?_
     clear hK K
     simp only [b1e]
     obtain ⟨b18, hl18, hm1⟩ := b0k hm1
     refine b2c hl18 (fun | (first_5_1, x_29), t, h => t 5 = I first_5_1 ∧ t 18 = .fs 1 (List.map b2v y8) ∧ t 19 = I (List.length y8 : Int) ∧ t 20 = I x_20 ∧ t 27 = .fs 1 (List.map eI x17.most) ∧ t 28 = I (List.length x17.most : Int) ∧ t 29 = I x_29) ?_ ?_
     ·exact ⟨s5, s18, s19, s20, (by first | (simp only [go_sem, lA9, mA9]; done) | rfl), (by first | (simp only [go_sem, lA9, mA9]; done) | rfl), (by first | (simp only [go_sem, lA9, mA9]; done) | rfl)⟩
     ·rintro ⟨first_5_1, x_29⟩ o t h ⟨s5, s18, s19, s20, s27, s28, s29⟩ hm2 hb18
      simp only [c0o] at hm2
      rw [d97]
      refine b0f fun K hK => ?_
      simp only [go_sem, s28, s29]
      refine hK _ _ ?_
      clear hK K
      refine b0x fun K19 hK19 => ?_
      simp only [go_sem]
      refine b0w (fun hc20 => ?_) (fun hc20 => ?_)
      ·rw [b1b hc20] at hm2
       simp only [b08, b0m, b0n]
       refine hK19 _ _ ?_
       refine b0x fun K21 hK21 => ?_
       have J22 : ∀ (first_5_2 : Int) (t : Slots) (h : Heap), t 5 = I first_5_2 → t 18 = .fs 1 (List.map b2v y8) → t 19 = I (List.length y8 : Int) → t 20 = I x_20 → t 27 = .fs 1 (List.map eI x17.most) → t 28 = I (List.length x17.most : Int) → t 29 = I x_29 → c0q x_29 first_5_2 = some o → K21 t h := by
        intro first_5_2 t h s5 s18 s19 s20 s27 s28 s29 hm2
        refine hK21 _ _ ?_
        unfold c0q at hm2
        refine b1t fun K hK => ?_
        simp only [go_sem, s29]
        refine hK _ _ ?_
        clear hK K
        simp only [b0m, b0n]
        obtain rfl := sI9 hm2
        refine ⟨_, rfl, ?_⟩
        exact ⟨s5, s18, s19, s20, s27, s28, (by first | (simp only [go_sem, s29, lA9, mA9]; done) | rfl)⟩
       simp only [b1e]
       obtain ⟨x24, h_x24, hm2⟩ := b0k hm2
       have h_x240 := b06 h_x24
       have h_x241 := b09 h_x24
       refine b0f fun K hK => ?_
       simp only [go_sem, s27, s29, b0u h_x24, b0v h_x24, h_x240, h_x241]
       refine hK _ _ ?_
       clear hK K
       refine b0f fun K hK => ?_
       simp only [go_sem]
       refine hK _ _ ?_
       clear hK K
       simp only [go_sem]
       refine b0w (fun hc25 => ?_) (fun hc25 => ?_)
       ·rw [b1b hc25] at hm2
        refine b1t fun K hK => ?_
        simp only [go_sem, s5]
        refine hK _ _ ?_
        clear hK K
        simp only [b0m, b0n]
        exact J22 (mx first_5_1 (wr (x_29 + 1))) _ _ (by first | (simp only [go_sem, s5, lA9, mA9]; done) | rfl) s18 s19 s20 s27 s28 s29 hm2
       ·rw [b1a hc25] at hm2
        simp only [b08, b0m, b0n]
        exact J22 first_5_1 _ _ s5 s18 s19 s20 s27 s28 s29 hm2
      ·rw [b1a hc20] at hm2
       simp only [b17, b2b, b2a, b19, b0m, b0n, Nat.reduceEqDiff, nF9]
       obtain rfl := sI9 hm2
       obtain rfl := hb18 _ rfl
       try dsimp only at hm1
       exact J15 first_5_1 _ _ s5 s18 s19 s20 hm1
    ·rw [b1a hc13] at hm1
     simp only [b17, b2b, b2a, b19, b0m, b0n, Nat.reduceEqDiff, nF9]
     obtain rfl := sI9 hm1
     obtain rfl := hb11 _ rfl
     try dsimp only at hm0
     exact J10 first_5 _ _ s5 hm0
theorem d0p (hf : Has O "newel/halls.Guard" x_halls_Guard) (b86 : c16 O) (b58 : b8b O) (b57 : b8a O) (c3j : c4l O) : c7q O := by
 intro h_ comb from_ r hm0
 unfold c21 at hm0
 refine b2n hf rfl (b0e (.agg _ (b0e (b0y fun a _ => b2p a) (b0e (b0y fun a _ => b2o a) (b0e (b0y fun a _ => b2r a) (b0e (b0j _) b02))))) (b0e (b0j _) (b0e (b0j _) b02))) (.tup _ (b0e (b0j _) (b0e (b0j _) b02))) ?_
 refine b2g (fun t h => t 0 = .agg [.fs 5 (List.map b0r h_.Combs), .fs 3 (List.map b0o h_.Trains), .fs 3 (List.map b0s h_.Shifts), I h_.Until] ∧ t 1 = I comb ∧ t 2 = I from_) ⟨rfl, rfl, rfl⟩ fun t h ⟨s0, s1, s2⟩ => ?_
 simp only [x_halls_Guard]
 refine b0f fun K hK => ?_
 simp only [go_sem, s0]
 refine hK _ _ ?_
 clear hK K
 refine b05 ?_
 obtain ⟨y2, h_y2, hm0⟩ := b0k hm0
 refine b0f fun K hK => ?_
 simp only [go_sem, s1, s2]
 refine c5x ?_ (b86 h_ comb ([from_]) _ h_y2) (.v _) ?_
 ·exact .cons (.refl _ (.agg _ (b0e (b0y fun a _ => b2p a) (b0e (b0y fun a _ => b2o a) (b0e (b0y fun a _ => b2r a) (b0e (b0j _) b02)))))) (.cons (.refl _ (b0j _)) (.cons (b6x (f := eI) (l := ([from_])) (id := h.nx) (by simp only [go_sem, lA9, mA9]) (by first | rfl | simp only [go_sem, lA9, mA9]) b21 b59) (.nil)))
 simp only [go_sem, s1, s2]
 refine hK _ _ ?_
 clear hK K
 refine b05 ?_
 refine b0f fun K hK => ?_
 simp only [go_sem]
 refine hK _ _ ?_
 clear hK K
 refine b0x fun K3 hK3 => ?_
 simp only [go_sem]
 refine b0w (fun hc4 => ?_) (fun hc4 => ?_)
 ·rw [b1b hc4] at hm0
  refine b0f fun K hK => ?_
  simp only [go_sem]
  refine hK _ _ ?_
  clear hK K
  simp only [b1i, b1m, b1l, b1n]
  obtain rfl := sI9 hm0
  exact b33 (by simp only [go_sem, lA9, mA9]) (by simp only [go_sem, lA9, mA9]) (b0j _) (b0j _)
 ·rw [b1a hc4] at hm0
  simp only [b08, b0m, b0n]
  refine hK3 _ _ ?_
  obtain ⟨y6, h_y6, hm0⟩ := b0k hm0
  refine b2j (fun t h => ∃ v9 : AV, ∃ hs9 : List AV, t 1 = I comb ∧ t 2 = I from_ ∧ t 3 = .fp [.fs 5 (List.map b0r h_.Combs), .fs 3 (List.map b0o h_.Trains), .fs 3 (List.map b0s h_.Shifts), I h_.Until] 0 ∧ t 9 = v9 ∧ RR h v9 hs9 1 eI y6) (fun K hK => ?_) ?_
  ·simp only [go_sem]
   refine b6q (b58 h_ _  _ h_y6) ?_
   rintro rv_y6 hq_y6 ⟨rh_y6, rw_y6, fr_y6, fx_y6, ge_y6⟩
   have lw_y60 : h.nx < hq_y6.nx := Nat.lt_of_lt_of_le (by first | omega | simp only [go_sem]) fx_y6
   simp only [go_sem]
   exact hK _ _ ⟨rv_y6, rh_y6, s1, s2, (by first | (simp only [go_sem, lA9, mA9]; done) | rfl), (by first | (simp only [go_sem, lA9, mA9]; done) | rfl), rw_y6⟩
  ·rintro t h ⟨v9, hs9, s1, s2, s3, s9, Q18⟩
   refine b0f fun K hK => ?_
   simp only [go_sem, b0b v9]
   refine hK _ _ ?_
   clear hK K
   simp only [b1e]
   obtain ⟨b7, hl7, hm0⟩ := b0k hm0
   refine b2c hl7 (fun | (all_9, n_10), t, h => ∃ v9_1 : AV, t 1 = I comb ∧ t 2 = I from_ ∧ t 3 = .fp [.fs 5 (List.map b0r h_.Combs), .fs 3 (List.map b0o h_.Trains), .fs 3 (List.map b0s h_.Shifts), I h_.Until] 0 ∧ t 9 = v9_1 ∧ t 10 = I n_10 ∧ RR h v9_1 hs9 1 eI all_9) ?_ ?_
   ·exact ⟨v9, s1, s2, s3, s9, (by first | (simp only [go_sem, lA9, mA9]; done) | rfl), Q18⟩
   ·rintro ⟨all_9, n_10⟩ o t h ⟨v9_1, s1, s2, s3, s9, s10, Q18⟩ hm1 hb7
    simp only [c5k] at hm1
    rw [d99]
    refine b0x fun K8 hK8 => ?_
    simp only [b1e]
    refine b05 ?_
    obtain ⟨y11, h_y11, hm1⟩ := b0k hm1
    obtain ⟨y12, h_y12, hm1⟩ := b0k hm1
    refine b2j (fun t h => t 1 = I comb ∧ t 2 = I from_ ∧ t 3 = .fp [.fs 5 (List.map b0r h_.Combs), .fs 3 (List.map b0o h_.Trains), .fs 3 (List.map b0s h_.Shifts), I h_.Until] 0 ∧ t 9 = v9_1 ∧ t 10 = I n_10 ∧ t 29 = B (decide ((List.length y12 : Int) = 0)) ∧ RR h v9_1 hs9 1 eI all_9) (fun K hK => ?_) ?_
    ·simp only [go_sem, s3, s9, b3j Q18, b0b v9, b0b v9_1]
     refine b6q (b57 h_ all_9 v9_1 hs9 _ Q18 _ h_y11) ?_
     rintro _ hq_y11 ⟨rfl, fr_y11, fx_y11⟩
     simp only [go_sem, s3, s9, b3j Q18, b0b v9, b0b v9_1]
     refine b1p (c3j h_ y11 _ h_y12) ?_
     simp only [go_sem, s3, s9, b3j Q18, b0b v9, b0b v9_1]
     exact hK _ _ ⟨s1, s2, s3, s9, s10, (by first | (simp only [go_sem, lA9, mA9]; done) | rfl), (b3i Q18 (by intro j hj  hl; first | rfl | simp only [go_sem, hl, fr_y11]) (by first | omega | exact Nat.le_refl _ | (simp only [go_sem, nxs] <;> omega)))⟩
    ·rintro t h ⟨s1, s2, s3, s9, s10, s29, Q18⟩
     refine b0x fun K13 hK13 => ?_
     simp only [go_sem, s29]
     refine b0w (fun hc14 => ?_) (fun hc14 => ?_)
     ·rw [b1b hc14] at hm1
      refine b0f fun K hK => ?_
      simp only [go_sem, s10, b0b v9, b0b v9_1]
      refine hK _ _ ?_
      clear hK K
      simp only [b1i, b1m, b1l, b1n]
      obtain rfl := sI9 hm1
      obtain rfl := hb7 _ rfl
      try dsimp only at hm0
      obtain rfl := sI9 hm0
      exact b33 (by simp only [go_sem, b07 Q18, lA9, mA9]) (by simp only [go_sem, b07 Q18, lA9, mA9]) (b0j _) (b0j _)
     ·rw [b1a hc14] at hm1
      simp only [b08, b0m, b0n]
      refine hK13 _ _ ?_
      refine b05 ?_
      refine b0f fun K hK => ?_
      simp only [go_sem, s2, s3, s10, b0b v9, b0b v9_1]
      refine hK _ _ ?_
      clear hK K
      refine b0x fun K15 hK15 => ?_
      simp only [go_sem]
      refine b0w (fun hc16 => ?_) (fun hc16 => ?_)
      ·rw [b1b hc16] at hm1
       refine b0f fun K hK => ?_
       simp only [go_sem, b0b v9, b0b v9_1]
       refine hK _ _ ?_
       clear hK K
       simp only [b1i, b1m, b1l, b1n]
       obtain rfl := sI9 hm1
       obtain rfl := hb7 _ rfl
       try dsimp only at hm0
       obtain rfl := sI9 hm0
       exact b33 (by simp only [go_sem, b07 Q18, lA9, mA9]) (by simp only [go_sem, b07 Q18, lA9, mA9]) (b0j _) (b0j _)
      ·rw [b1a hc16] at hm1
       simp only [b08, b0m, b0n]
       refine hK15 _ _ ?_
       obtain ⟨x19, h_x19, hm1⟩ := b0k hm1
       have h_x190 := b06 h_x19
       have h_x191 := b09 h_x19
       obtain ⟨iqp34, rfl, Q15, Qm⟩ := b6f Q18 h_x19
       obtain ⟨wp35, hw_wp35, os_wp35⟩ := b6e Q18 h_x19
       obtain ⟨x20, h_x20, hm1⟩ := b0k hm1
       have h_x200 := b06 h_x20
       have h_x201 := b09 h_x20
       obtain ⟨irp36, rfl, obr_irp36, ltr_irp36⟩ := b6b os_wp35 h_x20
       refine b8l (fun t h => ∃ v9_2 : AV, t 1 = I comb ∧ t 2 = I from_ ∧ t 3 = .fp [.fs 5 (List.map b0r h_.Combs), .fs 3 (List.map b0o h_.Trains), .fs 3 (List.map b0s h_.Shifts), I h_.Until] 0 ∧ t 9 = v9_2 ∧ t 10 = I n_10 ∧ RR h v9_2 hs9 1 eI (List.set all_9 (Int.toNat comb) (List.set x19 (Int.toNat (wr (from_ + n_10))) 0))) (fun K hK => ?_) ?_
       ·simp only [go_sem, s1, s2, s9, b3j Q18, s10, Q15, Qm, b0u h_x19, b0v h_x19, h_x190, h_x191, b0u hw_wp35, b0v hw_wp35, b4l os_wp35, b0u h_x20, b0v h_x20, h_x200, h_x201, obr_irp36, ltr_irp36, b0b v9]
        exact hK _ _ ⟨(.rs iqp34 0 (List.length all_9)), s1, s2, s3, (by first | (simp only [go_sem, s9, lA9, mA9]; done) | rfl), s10, (c67 Q18 h_x19 hw_wp35 (by simp only [go_sem, b07 Q18, Q15, Qm, b2e Q18 hw_wp35, b0c (b2e Q18 hw_wp35), lA9, mA9]) (by simp only [List.length_set]) (by intro j hj hne hl; first | rfl | simp only [go_sem, hne, hl, Qm]) (by first | omega | exact Nat.le_refl _ | (simp only [go_sem, nxs] <;> omega)))⟩
       ·try clear s1 s2 s3 s9 s10 s29 Q18 Q15 Qm
        rintro t h ⟨v9_2, s1, s2, s3, s9, s10, Q18⟩
        simp only [b0m, b0n]
        refine hK8 _ _ ?_
        refine b1t fun K hK => ?_
        simp only [go_sem, s10, b0b v9, b0b v9_2]
        refine hK _ _ ?_
        clear hK K
        simp only [b0m, b0n]
        obtain rfl := sI9 hm1
        refine ⟨_, rfl, ?_⟩
        exact ⟨v9_2, s1, s2, s3, s9, (by first | (simp only [go_sem, s10, lA9, mA9]; done) | rfl), Q18⟩
theorem d0q (hf : Has O "newel/halls.Most" x_halls_Most) (b86 : c16 O) (b58 : b8b O) (b57 : b8a O) : c7r O := by
 intro h_ comb r hm0
 unfold b6y at hm0
 refine b2n hf rfl (b0e (.agg _ (b0e (b0y fun a _ => b2p a) (b0e (b0y fun a _ => b2o a) (b0e (b0y fun a _ => b2r a) (b0e (b0j _) b02))))) (b0e (b0j _) b02)) (.tup _ (b0e (b0y fun a _ => b21 a) (b0e (b0j _) b02))) ?_
 refine b2g (fun t h => t 0 = .agg [.fs 5 (List.map b0r h_.Combs), .fs 3 (List.map b0o h_.Trains), .fs 3 (List.map b0s h_.Shifts), I h_.Until] ∧ t 1 = I comb) ⟨rfl, rfl⟩ fun t h ⟨s0, s1⟩ => ?_
 simp only [x_halls_Most]
 refine b0f fun K hK => ?_
 simp only [go_sem, s0]
 refine hK _ _ ?_
 clear hK K
 refine b05 ?_
 obtain ⟨y2, h_y2, hm0⟩ := b0k hm0
 refine b0f fun K hK => ?_
 simp only [go_sem, s1]
 refine g8v ?_ (b0e (.agg _ (b0e (b0y fun a _ => b2p a) (b0e (b0y fun a _ => b2o a) (b0e (b0y fun a _ => b2r a) (b0e (b0j _) b02))))) (b0e (b0j _) (b0e (b0j _) b02))) (b86 h_ comb ([]) _ h_y2) ?_
 ·exact .cons (.refl _ (.agg _ (b0e (b0y fun a _ => b2p a) (b0e (b0y fun a _ => b2o a) (b0e (b0y fun a _ => b2r a) (b0e (b0j _) b02)))))) (.cons (.refl _ (b0j _)) (.cons (.nil _) (.nil)))
 simp only [go_sem, s1]
 refine hK _ _ ?_
 clear hK K
 refine b05 ?_
 refine b0f fun K hK => ?_
 simp only [go_sem]
 refine hK _ _ ?_
 clear hK K
 refine b0x fun K3 hK3 => ?_
 simp only [go_sem]
 refine b0w (fun hc4 => ?_) (fun hc4 => ?_)
 ·rw [b1b hc4] at hm0
  refine b0f fun K hK => ?_
  simp only [go_sem]
  refine hK _ _ ?_
  clear hK K
  simp only [b1i, b1m, b1l, b1n]
  obtain rfl := sI9 hm0
  exact c2r (v := .v (.slice none 0 0)) (u := I y2) (by simp only [go_sem, lA9, mA9]) (by simp only [go_sem, lA9, mA9]) (.nil _) (.refl _ (b0j _))
 ·rw [b1a hc4] at hm0
  simp only [b08, b0m, b0n]
  refine hK3 _ _ ?_
  obtain ⟨y8, h_y8, hm0⟩ := b0k hm0
  obtain ⟨y9, h_y9, hm0⟩ := b0k hm0
  obtain ⟨x10, h_x10, hm0⟩ := b0k hm0
  have h_x100 := b06 h_x10
  have h_x101 := b09 h_x10
  refine b2j (fun t h => t 4 = .fs 1 (List.map eI x10.most) ∧ t 5 = I 0) (fun K hK => ?_) ?_
  ·simp only [go_sem, s1, b0u h_x10, b0v h_x10, h_x100, h_x101]
   refine b6q (b58 h_ _  _ h_y8) ?_
   rintro rv_y8 hq_y8 ⟨rh_y8, rw_y8, fr_y8, fx_y8, ge_y8⟩
   simp only [go_sem, s1, b0u h_x10, b0v h_x10, h_x100, h_x101]
   refine b6q (b57 h_ y8 rv_y8 rh_y8 _ rw_y8 _ h_y9) ?_
   rintro _ hq_y9 ⟨rfl, fr_y9, fx_y9⟩
   simp only [go_sem, s1, b0u h_x10, b0v h_x10, h_x100, h_x101]
   exact hK _ _ ⟨(by first | (simp only [go_sem, lA9, mA9]; done) | rfl), (by first | (simp only [go_sem, lA9, mA9]; done) | rfl)⟩
  ·rintro t h ⟨s4, s5⟩
   simp only [b1i, b1m, b1l, b1n]
   obtain rfl := sI9 hm0
   exact b33 (by simp only [go_sem, s4, s5, lA9, mA9]) (by simp only [go_sem, s4, s5, lA9, mA9]) (b0y fun a _ => b21 a) (b0j _)
theorem c3i (hf : Has O "newel/halls.Over" x_halls_Over) (b85 : c15 O) (b58 : b8b O) (b57 : b8a O) (c3j : c4l O) : c4j O := by
 intro h_ r hm0
 unfold b6o at hm0
 refine b2n hf rfl (b0e (.agg _ (b0e (b0y fun a _ => b2p a) (b0e (b0y fun a _ => b2o a) (b0e (b0y fun a _ => b2r a) (b0e (b0j _) b02))))) b02) (.tup _ (b0e (b0y fun a _ => b7g a) (b0e (b0j _) b02))) ?_
 refine b2g (fun t h => t 0 = .agg [.fs 5 (List.map b0r h_.Combs), .fs 3 (List.map b0o h_.Trains), .fs 3 (List.map b0s h_.Shifts), I h_.Until]) rfl fun t h s0 => ?_
 simp only [x_halls_Over]
 refine b0f fun K hK => ?_
 simp only [go_sem, s0]
 refine hK _ _ ?_
 clear hK K
 refine b05 ?_
 obtain ⟨y2, h_y2, hm0⟩ := b0k hm0
 refine b0f fun K hK => ?_
 simp only [go_sem]
 refine b1p (b85 h_ _ h_y2) ?_
 simp only [go_sem]
 refine hK _ _ ?_
 clear hK K
 refine b05 ?_
 refine b0f fun K hK => ?_
 simp only [go_sem]
 refine hK _ _ ?_
 clear hK K
 refine b0x fun K3 hK3 => ?_
 simp only [go_sem]
 refine b0w (fun hc4 => ?_) (fun hc4 => ?_)
 ·rw [b1b hc4] at hm0
  refine b0f fun K hK => ?_
  simp only [go_sem]
  refine hK _ _ ?_
  clear hK K
  simp only [b1i, b1m, b1l, b1n]
  obtain rfl := sI9 hm0
  exact c2r (v := .v (.slice none 0 0)) (u := I y2) (by simp only [go_sem, lA9, mA9]) (by simp only [go_sem, lA9, mA9]) (.nil _) (.refl _ (b0j _))
 ·rw [b1a hc4] at hm0
  simp only [b08, b0m, b0n]
  refine hK3 _ _ ?_
  obtain ⟨y8, h_y8, hm0⟩ := b0k hm0
  obtain ⟨y9, h_y9, hm0⟩ := b0k hm0
  obtain ⟨y10, h_y10, hm0⟩ := b0k hm0
  refine b2j (fun t h => t 2 = .fs 2 (List.map b3c y10) ∧ t 3 = I 0) (fun K hK => ?_) ?_
  ·simp only [go_sem]
   refine b6q (b58 h_ _  _ h_y8) ?_
   rintro rv_y8 hq_y8 ⟨rh_y8, rw_y8, fr_y8, fx_y8, ge_y8⟩
   simp only [go_sem]
   refine b6q (b57 h_ y8 rv_y8 rh_y8 _ rw_y8 _ h_y9) ?_
   rintro _ hq_y9 ⟨rfl, fr_y9, fx_y9⟩
   simp only [go_sem]
   refine b1p (c3j h_ y9 _ h_y10) ?_
   simp only [go_sem]
   exact hK _ _ ⟨(by first | (simp only [go_sem, lA9, mA9]; done) | rfl), (by first | (simp only [go_sem, lA9, mA9]; done) | rfl)⟩
  ·rintro t h ⟨s2, s3⟩
   simp only [b1i, b1m, b1l, b1n]
   obtain rfl := sI9 hm0
   exact b33 (by simp only [go_sem, s2, s3, lA9, mA9]) (by simp only [go_sem, s2, s3, lA9, mA9]) (b0y fun a _ => b7g a) (b0j _)
theorem b57 (hf : Has O "newel/halls.bounds" x_halls_bounds) (d0r : c7s O) (d0k : c7l O) : b8a O := by
 intro h_ open_ v_1 hs_1 h0 rr_p1 r hm0
 unfold b5h at hm0
 refine d5k hf rfl ?_
 refine b2g (fun t h => t 0 = .agg [.fs 5 (List.map b0r h_.Combs), .fs 3 (List.map b0o h_.Trains), .fs 3 (List.map b0s h_.Shifts), I h_.Until] ∧ t 1 = v_1 ∧ RR h v_1 hs_1 1 eI open_ ∧ (∀ j, j < h0.nx → h.ob j = h0.ob j) ∧ h0.nx ≤ h.nx) ⟨rfl, rfl, rr_p1, fun _ _ => rfl, Nat.le_refl _⟩ fun t h ⟨s0, s1, rr_p1, fr, fx⟩ => ?_
 simp only [x_halls_bounds]
 refine b0f fun K hK => ?_
 simp only [go_sem, s0]
 refine hK _ _ ?_
 clear hK K
 refine b0f fun K hK => ?_
 simp only [go_sem]
 refine hK _ _ ?_
 clear hK K
 refine b05 ?_
 refine b0f fun K hK => ?_
 simp only [go_sem]
 refine hK _ _ ?_
 clear hK K
 refine b0x fun K1 hK1 => ?_
 have J2 : ∀ (all_5 : List halls_bound) (v5 : AV) (t : Slots) (h : Heap), t 5 = v5 → b0l h v5 1 (List.map b2v all_5) → (∀ j, j < h0.nx → h.ob j = h0.ob j) → h0.nx ≤ h.nx → (∀ j, ¬b0a v5 j → h0.nx ≤ j) → c24 all_5 = some r → K1 t h := by
  intro all_5 v5 t h s5 Qc fr fx Qo hm0
  refine hK1 _ _ ?_
  unfold c24 at hm0
  refine b05 ?_
  refine c48 (s := 5) (v := v5) (f := b2v) (l := all_5) (by simp only [go_sem, s5, b0t Qc, lA9, mA9]) (b1g Qc (by intro j hj hl; first | rfl | simp only [go_sem, hl]) (by first | omega | exact Nat.le_refl _ | (simp only [go_sem, nxs] <;> omega))) d3z j06 ?_
  skip
  refine b0f fun K hK => ?_
  simp only [go_sem, s5, b0b v5]
  refine hK _ _ ?_
  clear hK K
  simp only [b1i, b1m, b1l, b1n]
  obtain rfl := sI9 hm0
  exact d85 (Post := fun v h => v = .fs 1 (List.map b2v all_5) ∧ (∀ j, j < h0.nx → h.ob j = h0.ob j) ∧ h0.nx ≤ h.nx) (v := .fs 1 (List.map b2v all_5)) (by simp only [go_sem, b0t Qc, lA9, mA9]) ⟨rfl, (by intro j hj; first | exact fr j hj | (refine Eq.trans ?_ (fr j hj); first | rfl | simp only [go_sem, Nat.lt_of_lt_of_le hj fx, b5n Qo hj, b2y Qc (b5n Qo hj), c8z Qc (b5n Qo hj)])), (by first | exact fx | omega | (simp only [go_sem, nxs] <;> omega))⟩
 simp only [b1e]
 obtain ⟨b3, hl3, hm0⟩ := b0k hm0
 refine b2c hl3 (fun | (all_5, x_19), t, h => ∃ v1 : AV, ∃ v5 : AV, t 1 = v1 ∧ t 2 = .fp [.fs 5 (List.map b0r h_.Combs), .fs 3 (List.map b0o h_.Trains), .fs 3 (List.map b0s h_.Shifts), I h_.Until] 0 ∧ t 5 = v5 ∧ t 18 = I (List.length h_.Combs : Int) ∧ t 19 = I x_19 ∧ RR h v1 hs_1 1 eI open_ ∧ b0l h v5 1 (List.map b2v all_5) ∧ (∀ j, ¬b0a v5 j → b0d v1 hs_1 j) ∧ (∀ j, j < h0.nx → h.ob j = h0.ob j) ∧ h0.nx ≤ h.nx ∧ (∀ j, ¬b0a v5 j → h0.nx ≤ j)) ?_ ?_
 ·exact ⟨v_1, (.v (.slice none 0 0)), s1, (by first | (simp only [go_sem, lA9, mA9]; done) | rfl), (by first | (simp only [go_sem, lA9, mA9]; done) | rfl), (by first | (simp only [go_sem, lA9, mA9]; done) | rfl), (by first | (simp only [go_sem, lA9, mA9]; done) | rfl), rr_p1, b68, c0g, fr, fx, c0g⟩
 ·rintro ⟨all_5, x_19⟩ o t h ⟨v1, v5, s1, s2, s5, s18, s19, Q8, Qc, Qg, fr, fx, Qo⟩ hm1 hb3
  simp only [b8u] at hm1
  rw [g0f]
  refine b0f fun K hK => ?_
  simp only [go_sem, s18, s19, b0b v1, b0b v5]
  refine hK _ _ ?_
  clear hK K
  refine b0x fun K4 hK4 => ?_
  simp only [go_sem]
  refine b0w (fun hc5 => ?_) (fun hc5 => ?_)
  ·rw [b1b hc5] at hm1
   simp only [b08, b0m, b0n]
   refine hK4 _ _ ?_
   refine b0x fun K6 hK6 => ?_
   have J7 : ∀ (all_5_1 : List halls_bound) (v1_1 : AV) (i5 : Nat) (t : Slots) (h : Heap), t 1 = v1_1 → t 2 = .fp [.fs 5 (List.map b0r h_.Combs), .fs 3 (List.map b0o h_.Trains), .fs 3 (List.map b0s h_.Shifts), I h_.Until] 0 → t 5 = .rs i5 0 (List.length all_5_1) → t 18 = I (List.length h_.Combs : Int) → t 19 = I x_19 → RR h v1_1 hs_1 1 eI open_ → h.ob i5 = some (1, List.map b2v all_5_1) → i5 < h.nx → b0d v1_1 hs_1 i5 → (∀ j, j < h0.nx → h.ob j = h0.ob j) → h0.nx ≤ h.nx → h0.nx ≤ i5 → c0w x_19 all_5_1 = some o → K6 t h := by
    try clear s1 s2 s5 s18 s19 Q8 Qc Qg fr fx Qo
    intro all_5_1 v1_1 i5 t h s1 s2 s5 s18 s19 Q8 Q17 Qz Q1u fr fx Qo hm1
    refine hK6 _ _ ?_
    unfold c0w at hm1
    refine b1t fun K hK => ?_
    simp only [go_sem, s19, Qz, b0b v1, b0b v5, b0b v1_1]
    refine hK _ _ ?_
    clear hK K
    simp only [b0m, b0n]
    obtain rfl := sI9 hm1
    refine ⟨_, rfl, ?_⟩
    exact ⟨v1_1, (.rs i5 0 (List.length all_5_1)), s1, s2, (by first | exact s5 | simp only [go_sem, s5, lA9, mA9]), s18, (by first | (simp only [go_sem, s19, lA9, mA9]; done) | rfl), Q8, (b3v (by simp only [go_sem, Q17, Qz, lA9, mA9]) (by first | rfl | simp only [go_sem, lA9, mA9]) (by simp only [go_sem, Qz])), (c0h Q1u), fr, fx, (c5f Qo)⟩
   simp only [b1e]
   refine b0f fun K hK => ?_
   simp only [go_sem, s19, b0b v1, b0b v5]
   refine hK _ _ ?_
   clear hK K
   refine b0f fun K hK => ?_
   simp only [go_sem, b0b v1, b0b v5]
   refine hK _ _ ?_
   clear hK K
   refine b05 ?_
   refine b0f fun K hK => ?_
   simp only [go_sem, s2, b0b v1, b0b v5]
   refine hK _ _ ?_
   clear hK K
   refine b0x fun K8 hK8 => ?_
   have J9 : ∀ (b_7_0 : List Int) (b_7_3 : List (List Int)) (v1_1 : AV) (v5_1 : AV) (i7 : Nat) (i7_1 : Nat) (i7_2 : Nat) (v7 : AV) (t : Slots) (h : Heap), t 1 = v1_1 → t 2 = .fp [.fs 5 (List.map b0r h_.Combs), .fs 3 (List.map b0o h_.Trains), .fs 3 (List.map b0s h_.Shifts), I h_.Until] 0 → t 5 = v5_1 → t 6 = I x_19 → t 7 = .rp i7 0 0 → t 18 = I (List.length h_.Combs : Int) → t 19 = I x_19 → RR h v1_1 hs_1 1 eI open_ → b0l h v5_1 1 (List.map b2v all_5) → h.ob i7 = some (4, [[.rs i7_1 0 (List.length b_7_0), .rs i7_2 0 (List.length ([0])), .v (.slice none 0 0), v7]]) → i7 < h.nx → h.ob i7_1 = some (1, List.map eI b_7_0) → i7_1 < h.nx → h.ob i7_2 = some (1, List.map eI ([0])) → i7_2 < h.nx → b0l h v7 1 (List.map b0z b_7_3) → (∀ j, ¬b0a v5_1 j → b0d v1_1 hs_1 j) → b0d v1_1 hs_1 i7 → b0d v1_1 hs_1 i7_1 → b0d v1_1 hs_1 i7_2 → (∀ j, ¬b0a v7 j → b0d v1_1 hs_1 j) → b0a v5_1 i7 → b0a v5_1 i7_1 → b0a v5_1 i7_2 → (∀ j, ¬b0a v5_1 j → b0a v7 j) → ¬i7 = i7_1 → ¬i7 = i7_2 → b0a v7 i7 → ¬i7_1 = i7_2 → b0a v7 i7_1 → b0a v7 i7_2 → (∀ j, j < h0.nx → h.ob j = h0.ob j) → h0.nx ≤ h.nx → (∀ j, ¬b0a v5_1 j → h0.nx ≤ j) → h0.nx ≤ i7 → h0.nx ≤ i7_1 → h0.nx ≤ i7_2 → (∀ j, ¬b0a v7 j → h0.nx ≤ j) → c0y h_ open_ all_5 x_19 b_7_0 b_7_3 = some o → K8 t h := by
    try clear s1 s2 s5 s18 s19 Q8 Qc Qg fr fx Qo
    intro b_7_0 b_7_3 v1_1 v5_1 i7 i7_1 i7_2 v7 t h s1 s2 s5 s6 s7 s18 s19 Q8 Qc Qf Q0 Qh Q2 Qi Q1 Qa Qg Q3 Q4 Q5 Qn Qb Qd Qe Qy Q6 Q7 Qj Q9 Qk Ql fr fx Qo Qt Qv Qw Qu hm1
    refine hK8 _ _ ?_
    unfold c0y at hm1
    refine b05 ?_
    refine b0f fun K hK => ?_
    simp only [go_sem, s2, Q0, Q2, Q1, b0b v1, b0b v5, b0b v1_1, b0b v5_1, b0b v7]
    refine hK _ _ ?_
    clear hK K
    refine b0x fun K10 hK10 => ?_
    have J11 : ∀ (b_7_1 : List Int) (b_7_2 : List Int) (v1_2 : AV) (i7_3 : Nat) (v7_1 : AV) (v7_2 : AV) (t : Slots) (h : Heap), t 1 = v1_2 → t 2 = .fp [.fs 5 (List.map b0r h_.Combs), .fs 3 (List.map b0o h_.Trains), .fs 3 (List.map b0s h_.Shifts), I h_.Until] 0 → t 5 = v5_1 → t 7 = .rp i7 0 0 → t 18 = I (List.length h_.Combs : Int) → t 19 = I x_19 → RR h v1_2 hs_1 1 eI open_ → b0l h v5_1 1 (List.map b2v all_5) → h.ob i7 = some (4, [[.rs i7_1 0 (List.length b_7_0), .rs i7_3 0 (List.length b_7_1), v7_1, v7_2]]) → i7 < h.nx → h.ob i7_1 = some (1, List.map eI b_7_0) → i7_1 < h.nx → h.ob i7_3 = some (1, List.map eI b_7_1) → i7_3 < h.nx → b0l h v7_1 1 (List.map eI b_7_2) → b0l h v7_2 1 (List.map b0z b_7_3) → (∀ j, ¬b0a v5_1 j → b0d v1_2 hs_1 j) → b0d v1_2 hs_1 i7 → b0d v1_2 hs_1 i7_1 → b0d v1_2 hs_1 i7_3 → (∀ j, ¬b0a v7_1 j → b0d v1_2 hs_1 j) → (∀ j, ¬b0a v7_2 j → b0d v1_2 hs_1 j) → b0a v5_1 i7 → b0a v5_1 i7_1 → b0a v5_1 i7_3 → (∀ j, ¬b0a v5_1 j → b0a v7_1 j) → (∀ j, ¬b0a v5_1 j → b0a v7_2 j) → ¬i7 = i7_1 → ¬i7 = i7_3 → b0a v7_1 i7 → b0a v7_2 i7 → ¬i7_1 = i7_3 → b0a v7_1 i7_1 → b0a v7_2 i7_1 → b0a v7_1 i7_3 → b0a v7_2 i7_3 → (∀ j, ¬b0a v7_1 j → b0a v7_2 j) → (∀ j, j < h0.nx → h.ob j = h0.ob j) → h0.nx ≤ h.nx → (∀ j, ¬b0a v5_1 j → h0.nx ≤ j) → h0.nx ≤ i7 → h0.nx ≤ i7_1 → h0.nx ≤ i7_3 → (∀ j, ¬b0a v7_1 j → h0.nx ≤ j) → (∀ j, ¬b0a v7_2 j → h0.nx ≤ j) → c0r all_5 x_19 b_7_0 b_7_3 b_7_1 b_7_2 = some o → K10 t h := by
     try clear s1 s2 s5 s6 s7 s18 s19 Q8 Qc Qf Q0 Qh Q2 Qi Q1 Qa Qg Q3 Q4 Q5 Qn Qb Qd Qe Qy Q6 Q7 Qj Q9 Qk Ql fr fx Qo Qt Qv Qw Qu
     intro b_7_1 b_7_2 v1_2 i7_3 v7_1 v7_2 t h s1 s2 s5 s7 s18 s19 Q8 Qc Qf Q0 Qh Q2 Qi Q1 Qa Qx Qg Q3 Q4 Q5 Qn Q16 Qb Qd Qe Qy Q19 Q6 Q7 Qj Q10 Q9 Qk Q11 Ql Q12 Q1e fr fx Qo Qt Qv Qw Qu Q1a hm1
     refine hK10 _ _ ?_
     unfold c0r at hm1
     refine c8q (s := 7) (v := .rp i7 0 0) (y := .fp [.fs 1 (List.map eI b_7_0), .fs 1 (List.map eI b_7_1), .fs 1 (List.map eI b_7_2), .fs 1 (List.map b0z b_7_3)] 0) (fun j => j == i7 || j == i7_1 || j == i7_3 || b78 v7_1 j || b78 v7_2 j) (by simp only [go_sem, s7, b07 Q8, b0t Qc, Qf, Q0, Qh, Q2, Qi, Q1, b0t Qa, b0t Qx, b0h Q3, b0h Q4, b0h Q5, Qb, Qd, Qe, Q6, b0c Q6, Q7, b0c Q7, Qj, Q10, Q9, b0c Q9, Qk, Q11, Ql, Q12, lA9, mA9]) (d30 (id := i7) (sz := 4) (xs := [.rs i7_1 0 (List.length b_7_0), .rs i7_3 0 (List.length b_7_1), v7_1, v7_2]) (by rw [c3t (by simp)]; simp only [go_sem, b07 Q8, b0t Qc, Qf, Q0, Qh, Q2, Qi, Q1, b0t Qa, b0t Qx, b0h Q3, b0h Q4, b0h Q5, Qb, Qd, Qe, Q6, b0c Q6, Q7, b0c Q7, Qj, Q10, Q9, b0c Q9, Qk, Q11, Ql, Q12, lA9, mA9]) (.cons (b6x (f := eI) (l := b_7_0) (id := i7_1) (by rw [c3t (by simp)]; simp only [go_sem, b07 Q8, b0t Qc, Qf, Q0, Qh, Q2, Qi, Q1, b0t Qa, b0t Qx, b0h Q3, b0h Q4, b0h Q5, Qb, Qd, Qe, Q6, b0c Q6, Q7, b0c Q7, Qj, Q10, Q9, b0c Q9, Qk, Q11, Ql, Q12, lA9, mA9]) (by first | rfl | simp only [go_sem, lA9, mA9]) b21 b59) (.cons (b6x (f := eI) (l := b_7_1) (id := i7_3) (by rw [c3t (by simp)]; simp only [go_sem, b07 Q8, b0t Qc, Qf, Q0, Qh, Q2, Qi, Q1, b0t Qa, b0t Qx, b0h Q3, b0h Q4, b0h Q5, Qb, Qd, Qe, Q6, b0c Q6, Q7, b0c Q7, Qj, Q10, Q9, b0c Q9, Qk, Q11, Ql, Q12, lA9, mA9]) (by first | rfl | simp only [go_sem, lA9, mA9]) b21 b59) (.cons (b5f (f := eI) (l := b_7_2) (d8r (b1g Qa (by intro j hj hl; first | rfl | simp only [go_sem, hl, b0h (Qn j hj), b2z Qy j hj, b1h hj Qj, b1h hj Qk, b1h hj Ql, Q1e j hj]) (by first | omega | exact Nat.le_refl _ | (simp only [go_sem, nxs] <;> omega))) (by intro j hj; simp [c7g hj])) b21 b59) (.cons (b5f (f := b0z) (l := b_7_3) (d8r (b1g Qx (by intro j hj hl; first | rfl | simp only [go_sem, hl, b0h (Q16 j hj), b2z Q19 j hj, b1h hj Q10, b1h hj Q11, b1h hj Q12, b2z Q1e j hj]) (by first | omega | exact Nat.le_refl _ | (simp only [go_sem, nxs] <;> omega))) (by intro j hj; simp [c7g hj])) b4p c3p) (.nil)))))) (.fp _ _ (b0e (b0y fun a _ => b21 a) (b0e (b0y fun a _ => b21 a) (b0e (b0y fun a _ => b21 a) (b0e (b0y fun a _ => b4p a) b02))))) ?_
     obtain ⟨l13, h_l13, hm1⟩ := b0k hm1
     refine b1t fun K hK => ?_
     simp only [go_sem, s5, s7, Q0, Q2, Q1, Qb, Qd, Qe, oF9, bF9, ne_eq, nF9, and_self, b2y Qa Qj, b2y Qx Q10, b2y Qa Qk, b2y Qx Q11, b2y Qa Ql, b2y Qx Q12, b0b v1, b0b v5, b0b v1_1, b0b v5_1, b0b v7, b0b v1_2, b0b v7_1, b0b v7_2]
     refine b55 (f := b2v) (l := all_5) (m := ([(halls_bound.mk b_7_0 b_7_1 b_7_2 b_7_3)])) ?_ ?_ ?_ ?_ h_l13 ?_
     ·exact (b1g Qc (by intro j hj hl; first | rfl | simp only [go_sem, hl, b0h (Qg j hj), b1h hj Qb, b1h hj Qd, b1h hj Qe, Qy j hj, b2y Qa (Qy j hj), Q19 j hj, b2y Qx (Q19 j hj), oF9, bF9, ne_eq, nF9, and_self]) (by first | omega | exact Nat.le_refl _ | (simp only [go_sem, nxs] <;> omega)))
     ·exact (b6c (by simp only [go_sem, oF9, bF9, ne_eq, nF9, and_self, b2y Qa Qj, b2y Qx Q10, b2y Qa Qk, b2y Qx Q11, b2y Qa Ql, b2y Qx Q12, b07 Q8, b0t Qc, Qf, Q0, Qh, Q2, Qi, Q1, b0t Qa, b0t Qx, b0h Q3, b0h Q4, b0h Q5, Qb, Qd, Qe, Q6, b0c Q6, Q7, b0c Q7, Qj, Q10, Q9, b0c Q9, Qk, Q11, Ql, Q12, lA9, mA9]) (by simp only [go_sem, oF9, bF9, ne_eq, nF9, and_self, b2y Qa Qj, b2y Qx Q10, b2y Qa Qk, b2y Qx Q11, b2y Qa Ql, b2y Qx Q12, b07 Q8, b0t Qc, Qf, Q0, Qh, Q2, Qi, Q1, b0t Qa, b0t Qx, b0h Q3, b0h Q4, b0h Q5, Qb, Qd, Qe, Q6, b0c Q6, Q7, b0c Q7, Qj, Q10, Q9, b0c Q9, Qk, Q11, Ql, Q12, lA9, mA9]))
     ·exact (b24 (by first | exact b1j | exact b1k (by first | omega | (simp only [nxs] <;> omega)) | assumption | exact b01 (by assumption) (by first | omega | (simp only [go_sem, nxs] <;> omega))))
     ·exact (fun _ => by simp)
     simp only [go_sem, s5, s7, Q0, Q2, Q1, Qb, Qd, Qe, oF9, bF9, ne_eq, nF9, and_self, b2y Qa Qj, b2y Qx Q10, b2y Qa Qk, b2y Qx Q11, b2y Qa Ql, b2y Qx Q12, b0b v1, b0b v5, b0b v1_1, b0b v5_1, b0b v7, b0b v1_2, b0b v7_1, b0b v7_2]
     refine hK _ _ ?_
     clear hK K
     simp only [b0m, b0n]
     exact J7 l13 v1_2 (nxs h.nx) _ _ s1 s2 (by first | (simp only [go_sem, s5, lA9, mA9]; done) | rfl) s18 s19 (b3i Q8 (by intro j hj  hl; first | rfl | simp only [go_sem, hl, b5q Qg j hj, b3t hj Q3, b3t hj Q4, b3t hj Q5, b5q Qn j hj, b2y Qa (b5q Qn j hj), b5q Q16 j hj, b2y Qx (b5q Q16 j hj), oF9, bF9, ne_eq, nF9, and_self, Q0, Q2, Q1]) (by first | omega | exact Nat.le_refl _ | (simp only [go_sem, nxs] <;> omega))) (by simp only [go_sem, oF9, bF9, ne_eq, nF9, and_self, b0t Qc, Q0, Q2, Q1, b0t Qa, b0t Qx, lA9, mA9]) (by simp only [go_sem]) (by first | assumption | exact b2l Q8 (by first | assumption | omega | (simp only [nxs] <;> omega))) (by intro j hj; first | exact fr j hj | (refine Eq.trans ?_ (fr j hj); first | rfl | simp only [go_sem, Nat.lt_of_lt_of_le hj fx, b5n Qo hj, b6n Qt hj, b6n Qv hj, b6n Qw hj, b5n Qu hj, b2y Qa (b5n Qu hj), c8z Qa (b5n Qu hj), b5n Q1a hj, b2y Qx (b5n Q1a hj), c8z Qx (b5n Q1a hj), oF9, bF9, ne_eq, nF9, and_self])) (by first | exact fx | omega | (simp only [go_sem, nxs] <;> omega)) (by first | assumption | omega | (simp only [nxs] <;> omega)) hm1
    simp only [b1e]
    obtain ⟨b14, hl14, hm1⟩ := b0k hm1
    refine b2c hl14 (fun | (b_7_1, b_7_2, x_122), t, h => ∃ v1_2 : AV, ∃ i7_3 : Nat, ∃ v7_1 : AV, ∃ v7_2 : AV, t 1 = v1_2 ∧ t 2 = .fp [.fs 5 (List.map b0r h_.Combs), .fs 3 (List.map b0o h_.Trains), .fs 3 (List.map b0s h_.Shifts), I h_.Until] 0 ∧ t 5 = v5_1 ∧ t 6 = I x_19 ∧ t 7 = .rp i7 0 0 ∧ t 18 = I (List.length h_.Combs : Int) ∧ t 19 = I x_19 ∧ t 121 = I h_.Until ∧ t 122 = I x_122 ∧ RR h v1_2 hs_1 1 eI open_ ∧ b0l h v5_1 1 (List.map b2v all_5) ∧ h.ob i7 = some (4, [[.rs i7_1 0 (List.length b_7_0), .rs i7_3 0 (List.length b_7_1), v7_1, v7_2]]) ∧ i7 < h.nx ∧ h.ob i7_1 = some (1, List.map eI b_7_0) ∧ i7_1 < h.nx ∧ h.ob i7_3 = some (1, List.map eI b_7_1) ∧ i7_3 < h.nx ∧ b0l h v7_1 1 (List.map eI b_7_2) ∧ b0l h v7_2 1 (List.map b0z b_7_3) ∧ (∀ j, ¬b0a v5_1 j → b0d v1_2 hs_1 j) ∧ b0d v1_2 hs_1 i7 ∧ b0d v1_2 hs_1 i7_1 ∧ b0d v1_2 hs_1 i7_3 ∧ (∀ j, ¬b0a v7_1 j → b0d v1_2 hs_1 j) ∧ (∀ j, ¬b0a v7_2 j → b0d v1_2 hs_1 j) ∧ b0a v5_1 i7 ∧ b0a v5_1 i7_1 ∧ b0a v5_1 i7_3 ∧ (∀ j, ¬b0a v5_1 j → b0a v7_1 j) ∧ (∀ j, ¬b0a v5_1 j → b0a v7_2 j) ∧ ¬i7 = i7_1 ∧ ¬i7 = i7_3 ∧ b0a v7_1 i7 ∧ b0a v7_2 i7 ∧ ¬i7_1 = i7_3 ∧ b0a v7_1 i7_1 ∧ b0a v7_2 i7_1 ∧ b0a v7_1 i7_3 ∧ b0a v7_2 i7_3 ∧ (∀ j, ¬b0a v7_1 j → b0a v7_2 j) ∧ (∀ j, j < h0.nx → h.ob j = h0.ob j) ∧ h0.nx ≤ h.nx ∧ (∀ j, ¬b0a v5_1 j → h0.nx ≤ j) ∧ h0.nx ≤ i7 ∧ h0.nx ≤ i7_1 ∧ h0.nx ≤ i7_3 ∧ (∀ j, ¬b0a v7_1 j → h0.nx ≤ j) ∧ (∀ j, ¬b0a v7_2 j → h0.nx ≤ j)) ?_ ?_
    ·exact ⟨v1_1, i7_2, (.v (.slice none 0 0)), v7, s1, s2, s5, s6, s7, s18, s19, (by first | (simp only [go_sem, lA9, mA9]; done) | rfl), (by first | (simp only [go_sem, lA9, mA9]; done) | rfl), Q8, Qc, Qf, Q0, Qh, Q2, Qi, Q1, b68, Qa, Qg, Q3, Q4, Q5, c0g, Qn, Qb, Qd, Qe, (by first | exact b3x | exact b3y | assumption | (refine b3z ?_; first | assumption | exact b01 (by assumption) (by first | assumption | omega | (simp only [nxs] <;> omega))) | (refine b24 ?_; first | assumption | exact b01 (by assumption) (by first | assumption | omega | (simp only [nxs] <;> omega)))), Qy, Q6, Q7, (by first | exact b1j | exact b1k (by first | assumption | omega | (simp only [nxs] <;> omega)) | assumption | exact b01 (by assumption) (by first | assumption | omega | (simp only [nxs] <;> omega))), Qj, Q9, (by first | exact b1j | exact b1k (by first | assumption | omega | (simp only [nxs] <;> omega)) | assumption | exact b01 (by assumption) (by first | assumption | omega | (simp only [nxs] <;> omega))), Qk, (by first | exact b1j | exact b1k (by first | assumption | omega | (simp only [nxs] <;> omega)) | assumption | exact b01 (by assumption) (by first | assumption | omega | (simp only [nxs] <;> omega))), Ql, (by first | exact b3x | exact b3y | assumption | (refine b3z ?_; first | assumption | exact b01 (by assumption) (by first | assumption | omega | (simp only [nxs] <;> omega))) | (refine b24 ?_; first | assumption | exact b01 (by assumption) (by first | assumption | omega | (simp only [nxs] <;> omega)))), fr, fx, Qo, Qt, Qv, Qw, c0g, Qu⟩
    ·try clear s1 s2 s5 s6 s7 s18 s19 Q8 Qc Qf Q0 Qh Q2 Qi Q1 Qa Qg Q3 Q4 Q5 Qn Qb Qd Qe Qy Q6 Q7 Qj Q9 Qk Ql fr fx Qo Qt Qv Qw Qu
     rintro ⟨b_7_1, b_7_2, x_122⟩ o t h ⟨v1_2, i7_3, v7_1, v7_2, s1, s2, s5, s6, s7, s18, s19, s121, s122, Q8, Qc, Qf, Q0, Qh, Q2, Qi, Q1, Qa, Qx, Qg, Q3, Q4, Q5, Qn, Q16, Qb, Qd, Qe, Qy, Q19, Q6, Q7, Qj, Q10, Q9, Qk, Q11, Ql, Q12, Q1e, fr, fx, Qo, Qt, Qv, Qw, Qu, Q1a⟩ hm2 hb14
     simp only [b7o] at hm2
     rw [g0e]
     refine b0f fun K hK => ?_
     simp only [go_sem, s121, s122, Q0, Q2, Q1, b0b v1, b0b v5, b0b v1_1, b0b v5_1, b0b v7, b0b v1_2, b0b v7_1, b0b v7_2]
     refine hK _ _ ?_
     clear hK K
     refine b0x fun K15 hK15 => ?_
     simp only [go_sem]
     refine b0w (fun hc16 => ?_) (fun hc16 => ?_)
     ·rw [b1b hc16] at hm2
      simp only [b08, b0m, b0n]
      refine hK15 _ _ ?_
      refine b0x fun K17 hK17 => ?_
      have J18 : ∀ (b_7_1_1 : List Int) (b_7_2_1 : List Int) (v1_3 : AV) (i7_4 : Nat) (i7_5 : Nat) (v7_3 : AV) (t : Slots) (h : Heap), t 1 = v1_3 → t 2 = .fp [.fs 5 (List.map b0r h_.Combs), .fs 3 (List.map b0o h_.Trains), .fs 3 (List.map b0s h_.Shifts), I h_.Until] 0 → t 5 = v5_1 → t 6 = I x_19 → t 7 = .rp i7 0 0 → t 18 = I (List.length h_.Combs : Int) → t 19 = I x_19 → t 121 = I h_.Until → t 122 = I x_122 → RR h v1_3 hs_1 1 eI open_ → b0l h v5_1 1 (List.map b2v all_5) → h.ob i7 = some (4, [[.rs i7_1 0 (List.length b_7_0), .rs i7_4 0 (List.length b_7_1_1), .rs i7_5 0 (List.length b_7_2_1), v7_3]]) → i7 < h.nx → h.ob i7_1 = some (1, List.map eI b_7_0) → i7_1 < h.nx → h.ob i7_4 = some (1, List.map eI b_7_1_1) → i7_4 < h.nx → h.ob i7_5 = some (1, List.map eI b_7_2_1) → i7_5 < h.nx → b0l h v7_3 1 (List.map b0z b_7_3) → (∀ j, ¬b0a v5_1 j → b0d v1_3 hs_1 j) → b0d v1_3 hs_1 i7 → b0d v1_3 hs_1 i7_1 → b0d v1_3 hs_1 i7_4 → b0d v1_3 hs_1 i7_5 → (∀ j, ¬b0a v7_3 j → b0d v1_3 hs_1 j) → b0a v5_1 i7 → b0a v5_1 i7_1 → b0a v5_1 i7_4 → b0a v5_1 i7_5 → (∀ j, ¬b0a v5_1 j → b0a v7_3 j) → ¬i7 = i7_1 → ¬i7 = i7_4 → ¬i7 = i7_5 → b0a v7_3 i7 → ¬i7_1 = i7_4 → ¬i7_1 = i7_5 → b0a v7_3 i7_1 → ¬i7_4 = i7_5 → b0a v7_3 i7_4 → b0a v7_3 i7_5 → (∀ j, j < h0.nx → h.ob j = h0.ob j) → h0.nx ≤ h.nx → (∀ j, ¬b0a v5_1 j → h0.nx ≤ j) → h0.nx ≤ i7 → h0.nx ≤ i7_1 → h0.nx ≤ i7_4 → h0.nx ≤ i7_5 → (∀ j, ¬b0a v7_3 j → h0.nx ≤ j) → c0s x_122 b_7_1_1 b_7_2_1 = some o → K17 t h := by
       try clear s1 s2 s5 s6 s7 s18 s19 s121 s122 Q8 Qc Qf Q0 Qh Q2 Qi Q1 Qa Qx Qg Q3 Q4 Q5 Qn Q16 Qb Qd Qe Qy Q19 Q6 Q7 Qj Q10 Q9 Qk Q11 Ql Q12 Q1e fr fx Qo Qt Qv Qw Qu Q1a
       intro b_7_1_1 b_7_2_1 v1_3 i7_4 i7_5 v7_3 t h s1 s2 s5 s6 s7 s18 s19 s121 s122 Q8 Qc Qf Q0 Qh Q2 Qi Q1 Q1i Q1h Qx Qg Q3 Q4 Q5 Q1j Q16 Qb Qd Qe Q1l Q19 Q6 Q7 Q1m Q10 Q9 Q1n Q11 Q1o Q12 Q1q fr fx Qo Qt Qv Qw Qu Q1a hm2
       refine hK17 _ _ ?_
       unfold c0s at hm2
       refine b1t fun K hK => ?_
       simp only [go_sem, s122, Q0, Q2, Q1, Q1h, b0b v1, b0b v5, b0b v1_1, b0b v5_1, b0b v7, b0b v1_2, b0b v7_1, b0b v7_2, b0b v1_3, b0b v7_3]
       refine hK _ _ ?_
       clear hK K
       simp only [b0m, b0n]
       obtain rfl := sI9 hm2
       refine ⟨_, rfl, ?_⟩
       exact ⟨v1_3, i7_4, (.rs i7_5 0 (List.length b_7_2_1)), v7_3, s1, s2, s5, s6, s7, s18, s19, s121, (by first | (simp only [go_sem, s122, lA9, mA9]; done) | rfl), Q8, Qc, Qf, Q0, Qh, Q2, Qi, Q1, (b3v (by simp only [go_sem, Q1i, Q1h, lA9, mA9]) (by first | rfl | simp only [go_sem, lA9, mA9]) (by simp only [go_sem, Q1h])), Qx, Qg, Q3, Q4, Q5, (c0h Q1j), Q16, Qb, Qd, Qe, (by first | exact b3x | exact b3y | assumption | (refine b3z ?_; first | assumption | exact b01 (by assumption) (by first | assumption | omega | (simp only [nxs] <;> omega))) | (refine b24 ?_; first | assumption | exact b01 (by assumption) (by first | assumption | omega | (simp only [nxs] <;> omega)))), Q19, Q6, Q7, (by first | exact b1j | exact b1k (by first | assumption | omega | (simp only [nxs] <;> omega)) | assumption | exact b01 (by assumption) (by first | assumption | omega | (simp only [nxs] <;> omega))), Q10, Q9, (by first | exact b1j | exact b1k (by first | assumption | omega | (simp only [nxs] <;> omega)) | assumption | exact b01 (by assumption) (by first | assumption | omega | (simp only [nxs] <;> omega))), Q11, (by first | exact b1j | exact b1k (by first | assumption | omega | (simp only [nxs] <;> omega)) | assumption | exact b01 (by assumption) (by first | assumption | omega | (simp only [nxs] <;> omega))), Q12, (by first | exact b3x | exact b3y | assumption | (refine b3z ?_; first | assumption | exact b01 (by assumption) (by first | assumption | omega | (simp only [nxs] <;> omega))) | (refine b24 ?_; first | assumption | exact b01 (by assumption) (by first | assumption | omega | (simp only [nxs] <;> omega)))), fr, fx, Qo, Qt, Qv, Qw, (c5f Qu), Q1a⟩
      simp only [b1e]
      refine b0f fun K hK => ?_
      simp only [go_sem, s122, Q0, Q2, Q1, b0b v1, b0b v5, b0b v1_1, b0b v5_1, b0b v7, b0b v1_2, b0b v7_1, b0b v7_2]
      refine hK _ _ ?_
      clear hK K
      refine b0f fun K hK => ?_
      simp only [go_sem, Q0, Q2, Q1, b0b v1, b0b v5, b0b v1_1, b0b v5_1, b0b v7, b0b v1_2, b0b v7_1, b0b v7_2]
      refine hK _ _ ?_
      clear hK K
      refine b05 ?_
      refine b0f fun K hK => ?_
      simp only [go_sem, Q0, Q2, Q1, b0b v1, b0b v5, b0b v1_1, b0b v5_1, b0b v7, b0b v1_2, b0b v7_1, b0b v7_2]
      refine hK _ _ ?_
      clear hK K
      refine b0x fun K19 hK19 => ?_
      have J20 : ∀ (most_14 : Int) (v7_3 : AV) (t : Slots) (h : Heap), t 1 = v1_2 → t 2 = .fp [.fs 5 (List.map b0r h_.Combs), .fs 3 (List.map b0o h_.Trains), .fs 3 (List.map b0s h_.Shifts), I h_.Until] 0 → t 5 = v5_1 → t 6 = I x_19 → t 7 = .rp i7 0 0 → t 13 = I x_122 → t 14 = I most_14 → t 18 = I (List.length h_.Combs : Int) → t 19 = I x_19 → t 121 = I h_.Until → t 122 = I x_122 → RR h v1_2 hs_1 1 eI open_ → b0l h v5_1 1 (List.map b2v all_5) → h.ob i7 = some (4, [[.rs i7_1 0 (List.length b_7_0), .rs i7_3 0 (List.length b_7_1), v7_1, v7_3]]) → i7 < h.nx → h.ob i7_1 = some (1, List.map eI b_7_0) → i7_1 < h.nx → h.ob i7_3 = some (1, List.map eI b_7_1) → i7_3 < h.nx → b0l h v7_1 1 (List.map eI b_7_2) → b0l h v7_3 1 (List.map b0z b_7_3) → (∀ j, ¬b0a v5_1 j → b0d v1_2 hs_1 j) → b0d v1_2 hs_1 i7 → b0d v1_2 hs_1 i7_1 → b0d v1_2 hs_1 i7_3 → (∀ j, ¬b0a v7_1 j → b0d v1_2 hs_1 j) → (∀ j, ¬b0a v7_3 j → b0d v1_2 hs_1 j) → b0a v5_1 i7 → b0a v5_1 i7_1 → b0a v5_1 i7_3 → (∀ j, ¬b0a v5_1 j → b0a v7_1 j) → (∀ j, ¬b0a v5_1 j → b0a v7_3 j) → ¬i7 = i7_1 → ¬i7 = i7_3 → b0a v7_1 i7 → b0a v7_3 i7 → ¬i7_1 = i7_3 → b0a v7_1 i7_1 → b0a v7_3 i7_1 → b0a v7_1 i7_3 → b0a v7_3 i7_3 → (∀ j, ¬b0a v7_1 j → b0a v7_3 j) → (∀ j, j < h0.nx → h.ob j = h0.ob j) → h0.nx ≤ h.nx → (∀ j, ¬b0a v5_1 j → h0.nx ≤ j) → h0.nx ≤ i7 → h0.nx ≤ i7_1 → h0.nx ≤ i7_3 → (∀ j, ¬b0a v7_1 j → h0.nx ≤ j) → (∀ j, ¬b0a v7_3 j → h0.nx ≤ j) → c0t open_ x_19 b_7_1 b_7_2 x_122 most_14 = some o → K19 t h := by
       try clear s1 s2 s5 s6 s7 s18 s19 s121 s122 Q8 Qc Qf Q0 Qh Q2 Qi Q1 Qa Qx Qg Q3 Q4 Q5 Qn Q16 Qb Qd Qe Qy Q19 Q6 Q7 Qj Q10 Q9 Qk Q11 Ql Q12 Q1e fr fx Qo Qt Qv Qw Qu Q1a
       intro most_14 v7_3 t h s1 s2 s5 s6 s7 s13 s14 s18 s19 s121 s122 Q8 Qc Qf Q0 Qh Q2 Qi Q1 Qa Qx Qg Q3 Q4 Q5 Qn Q16 Qb Qd Qe Qy Q19 Q6 Q7 Qj Q10 Q9 Qk Q11 Ql Q12 Q1e fr fx Qo Qt Qv Qw Qu Q1a hm2
       refine hK19 _ _ ?_
       unfold c0t at hm2
       obtain ⟨l22, h_l22, hm2⟩ := b0k hm2
       refine b0f fun K hK => ?_
       simp only [go_sem, s7, s14, Qf, Q0, Qh, Q2, Qi, Q1, Qb, Qd, Qe, Q6, b0c Q6, Q7, b0c Q7, Qj, Q10, Q9, b0c Q9, Qk, Q11, Ql, Q12, b0b v1, b0b v5, b0b v1_1, b0b v5_1, b0b v7, b0b v1_2, b0b v7_1, b0b v7_2, b0b v7_3]
       refine b55 (f := eI) (l := b_7_2) (m := ([most_14])) ?_ ?_ ?_ ?_ h_l22 ?_
       ·exact (b1g Qa (by intro j hj hl; first | rfl | simp only [go_sem, hl, b0h (Qn j hj), b2z Qy j hj, b1h hj Qj, b1h hj Qk, b1h hj Ql, Q1e j hj]) (by first | omega | exact Nat.le_refl _ | (simp only [go_sem, nxs] <;> omega)))
       ·exact (b6c (by simp only [go_sem, b07 Q8, b0t Qc, Qf, Q0, Qh, Q2, Qi, Q1, b0t Qa, b0t Qx, b0h Q3, b0h Q4, b0h Q5, Qb, Qd, Qe, Q6, b0c Q6, Q7, b0c Q7, Qj, Q10, Q9, b0c Q9, Qk, Q11, Ql, Q12, lA9, mA9]) (by simp only [go_sem, b07 Q8, b0t Qc, Qf, Q0, Qh, Q2, Qi, Q1, b0t Qa, b0t Qx, b0h Q3, b0h Q4, b0h Q5, Qb, Qd, Qe, Q6, b0c Q6, Q7, b0c Q7, Qj, Q10, Q9, b0c Q9, Qk, Q11, Ql, Q12, lA9, mA9]))
       ·exact (b24 (by first | exact b1j | exact b1k (by first | omega | (simp only [nxs] <;> omega)) | assumption | exact b01 (by assumption) (by first | omega | (simp only [go_sem, nxs] <;> omega))))
       ·exact (fun _ => by simp)
       simp only [go_sem, s7, s14, Qf, Q0, Qh, Q2, Qi, Q1, Qb, Qd, Qe, Q6, b0c Q6, Q7, b0c Q7, Qj, Q10, Q9, b0c Q9, Qk, Q11, Ql, Q12, b0b v1, b0b v5, b0b v1_1, b0b v5_1, b0b v7, b0b v1_2, b0b v7_1, b0b v7_2, b0b v7_3]
       refine hK _ _ ?_
       clear hK K
       obtain ⟨x27, h_x27, hm2⟩ := b0k hm2
       have h_x270 := b06 h_x27
       have h_x271 := b09 h_x27
       obtain ⟨x28, h_x28, hm2⟩ := b0k hm2
       have h_x280 := b06 h_x28
       have h_x281 := b09 h_x28
       obtain ⟨iqp946, rfl, Q1f, Q1d⟩ := b6f Q8 h_x28
       obtain ⟨wp947, hw_wp947, os_wp947⟩ := b6e Q8 h_x28
       obtain ⟨x29, h_x29, hm2⟩ := b0k hm2
       have h_x290 := b06 h_x29
       have h_x291 := b09 h_x29
       obtain ⟨irp948, rfl, obr_irp948, ltr_irp948⟩ := b6b os_wp947 h_x29
       obtain ⟨l30, h_l30, hm2⟩ := b0k hm2
       refine b8l (fun t h => ∃ v1_3 : AV, ∃ i7_4 : Nat, ∃ i7_5 : Nat, t 1 = v1_3 ∧ t 2 = .fp [.fs 5 (List.map b0r h_.Combs), .fs 3 (List.map b0o h_.Trains), .fs 3 (List.map b0s h_.Shifts), I h_.Until] 0 ∧ t 5 = v5_1 ∧ t 6 = I x_19 ∧ t 7 = .rp i7 0 0 ∧ t 18 = I (List.length h_.Combs : Int) ∧ t 19 = I x_19 ∧ t 121 = I h_.Until ∧ t 122 = I x_122 ∧ RR h v1_3 hs_1 1 eI open_ ∧ b0l h v5_1 1 (List.map b2v all_5) ∧ h.ob i7 = some (4, [[.rs i7_1 0 (List.length b_7_0), .rs i7_4 0 (List.length l30), .rs i7_5 0 (List.length l22), v7_3]]) ∧ i7 < h.nx ∧ h.ob i7_1 = some (1, List.map eI b_7_0) ∧ i7_1 < h.nx ∧ h.ob i7_4 = some (1, List.map eI l30) ∧ i7_4 < h.nx ∧ h.ob i7_5 = some (1, List.map eI l22) ∧ i7_5 < h.nx ∧ b0l h v7_3 1 (List.map b0z b_7_3) ∧ (∀ j, ¬b0a v5_1 j → b0d v1_3 hs_1 j) ∧ b0d v1_3 hs_1 i7 ∧ b0d v1_3 hs_1 i7_1 ∧ b0d v1_3 hs_1 i7_4 ∧ b0d v1_3 hs_1 i7_5 ∧ (∀ j, ¬b0a v7_3 j → b0d v1_3 hs_1 j) ∧ b0a v5_1 i7 ∧ b0a v5_1 i7_1 ∧ b0a v5_1 i7_4 ∧ b0a v5_1 i7_5 ∧ (∀ j, ¬b0a v5_1 j → b0a v7_3 j) ∧ ¬i7 = i7_1 ∧ ¬i7 = i7_4 ∧ ¬i7 = i7_5 ∧ b0a v7_3 i7 ∧ ¬i7_1 = i7_4 ∧ ¬i7_1 = i7_5 ∧ b0a v7_3 i7_1 ∧ ¬i7_4 = i7_5 ∧ b0a v7_3 i7_4 ∧ b0a v7_3 i7_5 ∧ (∀ j, j < h0.nx → h.ob j = h0.ob j) ∧ h0.nx ≤ h.nx ∧ (∀ j, ¬b0a v5_1 j → h0.nx ≤ j) ∧ h0.nx ≤ i7 ∧ h0.nx ≤ i7_1 ∧ h0.nx ≤ i7_4 ∧ h0.nx ≤ i7_5 ∧ (∀ j, ¬b0a v7_3 j → h0.nx ≤ j)) (fun K hK => ?_) ?_
       ·simp only [go_sem, s1, b3j Q8, s6, s7, s13, s14, Q1f, Q1d, Qf, Q0, Qh, Q2, Qi, Q1, b1d Qg, b1o Qg hw_wp947, b0i (Q3), b0c (b0i (Q3)), b0q (Q3) hw_wp947, b0c (b0q (Q3) hw_wp947), b0i (Q4), b0c (b0i (Q4)), b0q (Q4) hw_wp947, b0c (b0q (Q4) hw_wp947), b0i (Q5), b0c (b0i (Q5)), b0q (Q5) hw_wp947, b0c (b0q (Q5) hw_wp947), b1d Qn, b1o Qn hw_wp947, b1d Q16, b1o Q16 hw_wp947, Qb, Qd, Qe, Q6, b0c Q6, Q7, b0c Q7, Qj, Q10, Q9, b0c Q9, Qk, Q11, Ql, Q12, b0u h_x27, b0v h_x27, h_x270, h_x271, b0u h_x28, b0v h_x28, h_x280, h_x281, b0u hw_wp947, b0v hw_wp947, b4l os_wp947, b0u h_x29, b0v h_x29, h_x290, h_x291, obr_irp948, ltr_irp948, b0b v1, b0b v5, b0b v1_1, b0b v5_1, b0b v7, b0b v7_1, b0b v7_2, b0b v7_3]
        refine b55 (f := eI) (l := b_7_1) (m := ([wr (x27 + (mn most_14 x29))])) ?_ ?_ ?_ ?_ h_l30 ?_
        ·exact (b3v (by simp only [go_sem, b07 Q8, b0t Qc, Qf, Q0, Qh, Q2, Qi, Q1, b0t Qa, b0t Qx, b1d Qg, b1o Qg hw_wp947, b0h Q3, b0i (Q3), b0c (b0i (Q3)), b0q (Q3) hw_wp947, b0c (b0q (Q3) hw_wp947), b0h Q4, b0i (Q4), b0c (b0i (Q4)), b0q (Q4) hw_wp947, b0c (b0q (Q4) hw_wp947), b0h Q5, b0i (Q5), b0c (b0i (Q5)), b0q (Q5) hw_wp947, b0c (b0q (Q5) hw_wp947), b1d Qn, b1o Qn hw_wp947, b1d Q16, b1o Q16 hw_wp947, Qb, Qd, Qe, Q6, b0c Q6, Q7, b0c Q7, Qj, Q10, Q9, b0c Q9, Qk, Q11, Ql, Q12, Q1f, Q1d, b2e Q8 hw_wp947, b0c (b2e Q8 hw_wp947), lA9, mA9]) (by simp only [go_sem, b07 Q8, b0t Qc, Qf, Q0, Qh, Q2, Qi, Q1, b0t Qa, b0t Qx, b1d Qg, b1o Qg hw_wp947, b0h Q3, b0i (Q3), b0c (b0i (Q3)), b0q (Q3) hw_wp947, b0c (b0q (Q3) hw_wp947), b0h Q4, b0i (Q4), b0c (b0i (Q4)), b0q (Q4) hw_wp947, b0c (b0q (Q4) hw_wp947), b0h Q5, b0i (Q5), b0c (b0i (Q5)), b0q (Q5) hw_wp947, b0c (b0q (Q5) hw_wp947), b1d Qn, b1o Qn hw_wp947, b1d Q16, b1o Q16 hw_wp947, Qb, Qd, Qe, Q6, b0c Q6, Q7, b0c Q7, Qj, Q10, Q9, b0c Q9, Qk, Q11, Ql, Q12, Q1f, Q1d, b2e Q8 hw_wp947, b0c (b2e Q8 hw_wp947), lA9, mA9]) (by simp only [go_sem, Q0, Q2, Q1, Q1d]))
        ·exact (b6c (by simp only [go_sem, b07 Q8, b0t Qc, Qf, Q0, Qh, Q2, Qi, Q1, b0t Qa, b0t Qx, b1d Qg, b1o Qg hw_wp947, b0h Q3, b0i (Q3), b0c (b0i (Q3)), b0q (Q3) hw_wp947, b0c (b0q (Q3) hw_wp947), b0h Q4, b0i (Q4), b0c (b0i (Q4)), b0q (Q4) hw_wp947, b0c (b0q (Q4) hw_wp947), b0h Q5, b0i (Q5), b0c (b0i (Q5)), b0q (Q5) hw_wp947, b0c (b0q (Q5) hw_wp947), b1d Qn, b1o Qn hw_wp947, b1d Q16, b1o Q16 hw_wp947, Qb, Qd, Qe, Q6, b0c Q6, Q7, b0c Q7, Qj, Q10, Q9, b0c Q9, Qk, Q11, Ql, Q12, Q1f, Q1d, b2e Q8 hw_wp947, b0c (b2e Q8 hw_wp947), lA9, mA9]) (by simp only [go_sem, b07 Q8, b0t Qc, Qf, Q0, Qh, Q2, Qi, Q1, b0t Qa, b0t Qx, b1d Qg, b1o Qg hw_wp947, b0h Q3, b0i (Q3), b0c (b0i (Q3)), b0q (Q3) hw_wp947, b0c (b0q (Q3) hw_wp947), b0h Q4, b0i (Q4), b0c (b0i (Q4)), b0q (Q4) hw_wp947, b0c (b0q (Q4) hw_wp947), b0h Q5, b0i (Q5), b0c (b0i (Q5)), b0q (Q5) hw_wp947, b0c (b0q (Q5) hw_wp947), b1d Qn, b1o Qn hw_wp947, b1d Q16, b1o Q16 hw_wp947, Qb, Qd, Qe, Q6, b0c Q6, Q7, b0c Q7, Qj, Q10, Q9, b0c Q9, Qk, Q11, Ql, Q12, Q1f, Q1d, b2e Q8 hw_wp947, b0c (b2e Q8 hw_wp947), lA9, mA9]))
        ·exact (b24 (by first | exact b1j | exact b1k (by first | omega | (simp only [nxs] <;> omega)) | assumption | exact b01 (by assumption) (by first | omega | (simp only [go_sem, nxs] <;> omega))))
        ·exact (fun _ => by simp)
        simp only [go_sem, s1, b3j Q8, s6, s7, s13, s14, Q1f, Q1d, Qf, Q0, Qh, Q2, Qi, Q1, b1d Qg, b1o Qg hw_wp947, b0i (Q3), b0c (b0i (Q3)), b0q (Q3) hw_wp947, b0c (b0q (Q3) hw_wp947), b0i (Q4), b0c (b0i (Q4)), b0q (Q4) hw_wp947, b0c (b0q (Q4) hw_wp947), b0i (Q5), b0c (b0i (Q5)), b0q (Q5) hw_wp947, b0c (b0q (Q5) hw_wp947), b1d Qn, b1o Qn hw_wp947, b1d Q16, b1o Q16 hw_wp947, Qb, Qd, Qe, Q6, b0c Q6, Q7, b0c Q7, Qj, Q10, Q9, b0c Q9, Qk, Q11, Ql, Q12, b0u h_x27, b0v h_x27, h_x270, h_x271, b0u h_x28, b0v h_x28, h_x280, h_x281, b0u hw_wp947, b0v hw_wp947, b4l os_wp947, b0u h_x29, b0v h_x29, h_x290, h_x291, obr_irp948, ltr_irp948, b0b v1, b0b v5, b0b v1_1, b0b v5_1, b0b v7, b0b v7_1, b0b v7_2, b0b v7_3]
        exact hK _ _ ⟨(.rs iqp946 0 (List.length open_)), (nxs (nxs (nxs h.nx))), (nxs h.nx), (by first | (simp only [go_sem, s1, lA9, mA9]; done) | rfl), s2, s5, s6, s7, s18, s19, s121, s122, (b3i Q8 (by intro j hj  hl; first | rfl | simp only [go_sem, hl, b3t hj Q3, b3t hj Q5, b5q Qn j hj, Q0, Q1]) (by first | omega | exact Nat.le_refl _ | (simp only [go_sem, nxs] <;> omega))), (b1g Qc (by intro j hj hl; first | rfl | simp only [go_sem, hl, Q0, Q1, b1h hj Qb, b1h hj Qe, Qy j hj]) (by first | omega | exact Nat.le_refl _ | (simp only [go_sem, nxs] <;> omega))), (by simp only [go_sem, Qf, Q0, Q1, b0t Qa, Q7, b0c Q7, Qj, lA9, mA9]), (by simp only [go_sem, Q0]), (by simp only [go_sem, Q0, Qh, Q2, Q1, b0t Qa, Q6, b0c Q6, Q9, b0c Q9, Qk, lA9, mA9]), (by simp only [go_sem, Q2]), (by simp only [go_sem, Q0, Q1, b0t Qa, lA9, mA9]), (by simp only [go_sem]), (by simp only [go_sem, Q0, Q1, b0t Qa, lA9, mA9]), (by simp only [go_sem]), (b1g Qx (by intro j hj hl; first | rfl | simp only [go_sem, hl, Q0, Q1, b1h hj Q10, b1h hj Q12, b2z Q1e j hj]) (by first | omega | exact Nat.le_refl _ | (simp only [go_sem, nxs] <;> omega))), Qg, Q3, Q4, (by first | assumption | exact b2l Q8 (by first | assumption | omega | (simp only [nxs] <;> omega))), (by first | assumption | exact b2l Q8 (by first | assumption | omega | (simp only [nxs] <;> omega))), Q16, Qb, Qd, (by first | exact b1j | exact b1k (by first | assumption | omega | (simp only [nxs] <;> omega)) | assumption | exact b01 (by assumption) (by first | assumption | omega | (simp only [nxs] <;> omega))), (by first | exact b1j | exact b1k (by first | assumption | omega | (simp only [nxs] <;> omega)) | assumption | exact b01 (by assumption) (by first | assumption | omega | (simp only [nxs] <;> omega))), Q19, Q6, (by first | first | assumption | omega | (simp only [nxs] <;> omega)), (by first | first | assumption | omega | (simp only [nxs] <;> omega)), Q10, (by first | first | assumption | omega | (simp only [nxs] <;> omega)), (by first | first | assumption | omega | (simp only [nxs] <;> omega)), Q11, (by first | first | assumption | omega | (simp only [nxs] <;> omega)), (by first | exact b1j | exact b1k (by first | assumption | omega | (simp only [nxs] <;> omega)) | assumption | exact b01 (by assumption) (by first | assumption | omega | (simp only [nxs] <;> omega))), (by first | exact b1j | exact b1k (by first | assumption | omega | (simp only [nxs] <;> omega)) | assumption | exact b01 (by assumption) (by first | assumption | omega | (simp only [nxs] <;> omega))), (by intro j hj; first | exact fr j hj | (refine Eq.trans ?_ (fr j hj); first | rfl | simp only [go_sem, Nat.lt_of_lt_of_le hj fx, b6n Qt hj, b6n Qw hj, b5n Qu hj])), (by first | exact fx | omega | (simp only [go_sem, nxs] <;> omega)), Qo, Qt, Qv, (by first | assumption | omega | (simp only [nxs] <;> omega)), (by first | assumption | omega | (simp only [nxs] <;> omega)), Q1a⟩
       ·try clear s1 s2 s5 s6 s7 s13 s14 s18 s19 s121 s122 Q8 Qc Qf Q0 Qh Q2 Qi Q1 Qa Qx Qg Q3 Q4 Q5 Qn Q16 Qb Qd Qe Qy Q19 Q6 Q7 Qj Q10 Q9 Qk Q11 Ql Q12 Q1e fr fx Qo Qt Qv Qw Qu Q1a Q1f Q1d
        rintro t h ⟨v1_3, i7_4, i7_5, s1, s2, s5, s6, s7, s18, s19, s121, s122, Q8, Qc, Qf, Q0, Qh, Q2, Qi, Q1, Q1i, Q1h, Qx, Qg, Q3, Q4, Q5, Q1j, Q16, Qb, Qd, Qe, Q1l, Q19, Q6, Q7, Q1m, Q10, Q9, Q1n, Q11, Q1o, Q12, Q1q, fr, fx, Qo, Qt, Qv, Qw, Qu, Q1a⟩
        simp only [b0m, b0n]
        exact J18 l30 l22 v1_3 i7_4 i7_5 v7_3 _ _ s1 s2 s5 s6 s7 s18 s19 s121 s122 Q8 Qc Qf Q0 Qh Q2 Qi Q1 Q1i Q1h Qx Qg Q3 Q4 Q5 Q1j Q16 Qb Qd Qe Q1l Q19 Q6 Q7 Q1m Q10 Q9 Q1n Q11 Q1o Q12 Q1q fr fx Qo Qt Qv Qw Qu Q1a hm2
      simp only [b1e]
      obtain ⟨b31, hl31, hm2⟩ := b0k hm2
      refine b2c hl31 (fun | (most_14, x_127), t, h => ∃ v7_3 : AV, t 1 = v1_2 ∧ t 2 = .fp [.fs 5 (List.map b0r h_.Combs), .fs 3 (List.map b0o h_.Trains), .fs 3 (List.map b0s h_.Shifts), I h_.Until] 0 ∧ t 5 = v5_1 ∧ t 6 = I x_19 ∧ t 7 = .rp i7 0 0 ∧ t 13 = I x_122 ∧ t 14 = I most_14 ∧ t 18 = I (List.length h_.Combs : Int) ∧ t 19 = I x_19 ∧ t 121 = I h_.Until ∧ t 122 = I x_122 ∧ t 126 = I (wr (x_122 + 1)) ∧ t 127 = I x_127 ∧ RR h v1_2 hs_1 1 eI open_ ∧ b0l h v5_1 1 (List.map b2v all_5) ∧ h.ob i7 = some (4, [[.rs i7_1 0 (List.length b_7_0), .rs i7_3 0 (List.length b_7_1), v7_1, v7_3]]) ∧ i7 < h.nx ∧ h.ob i7_1 = some (1, List.map eI b_7_0) ∧ i7_1 < h.nx ∧ h.ob i7_3 = some (1, List.map eI b_7_1) ∧ i7_3 < h.nx ∧ b0l h v7_1 1 (List.map eI b_7_2) ∧ b0l h v7_3 1 (List.map b0z b_7_3) ∧ (∀ j, ¬b0a v5_1 j → b0d v1_2 hs_1 j) ∧ b0d v1_2 hs_1 i7 ∧ b0d v1_2 hs_1 i7_1 ∧ b0d v1_2 hs_1 i7_3 ∧ (∀ j, ¬b0a v7_1 j → b0d v1_2 hs_1 j) ∧ (∀ j, ¬b0a v7_3 j → b0d v1_2 hs_1 j) ∧ b0a v5_1 i7 ∧ b0a v5_1 i7_1 ∧ b0a v5_1 i7_3 ∧ (∀ j, ¬b0a v5_1 j → b0a v7_1 j) ∧ (∀ j, ¬b0a v5_1 j → b0a v7_3 j) ∧ ¬i7 = i7_1 ∧ ¬i7 = i7_3 ∧ b0a v7_1 i7 ∧ b0a v7_3 i7 ∧ ¬i7_1 = i7_3 ∧ b0a v7_1 i7_1 ∧ b0a v7_3 i7_1 ∧ b0a v7_1 i7_3 ∧ b0a v7_3 i7_3 ∧ (∀ j, ¬b0a v7_1 j → b0a v7_3 j) ∧ (∀ j, j < h0.nx → h.ob j = h0.ob j) ∧ h0.nx ≤ h.nx ∧ (∀ j, ¬b0a v5_1 j → h0.nx ≤ j) ∧ h0.nx ≤ i7 ∧ h0.nx ≤ i7_1 ∧ h0.nx ≤ i7_3 ∧ (∀ j, ¬b0a v7_1 j → h0.nx ≤ j) ∧ (∀ j, ¬b0a v7_3 j → h0.nx ≤ j)) ?_ ?_
      ·exact ⟨v7_2, s1, s2, s5, s6, s7, (by first | (simp only [go_sem, lA9, mA9]; done) | rfl), (by first | (simp only [go_sem, lA9, mA9]; done) | rfl), s18, s19, s121, s122, (by first | (simp only [go_sem, lA9, mA9]; done) | rfl), (by first | (simp only [go_sem, lA9, mA9]; done) | rfl), Q8, Qc, Qf, Q0, Qh, Q2, Qi, Q1, Qa, Qx, Qg, Q3, Q4, Q5, Qn, Q16, Qb, Qd, Qe, Qy, Q19, Q6, Q7, Qj, Q10, Q9, Qk, Q11, Ql, Q12, Q1e, fr, fx, Qo, Qt, Qv, Qw, Qu, Q1a⟩
      ·try clear s1 s2 s5 s6 s7 s18 s19 s121 s122 Q8 Qc Qf Q0 Qh Q2 Qi Q1 Qa Qx Qg Q3 Q4 Q5 Qn Q16 Qb Qd Qe Qy Q19 Q6 Q7 Qj Q10 Q9 Qk Q11 Ql Q12 Q1e fr fx Qo Qt Qv Qw Qu Q1a
       rintro ⟨most_14, x_127⟩ o t h ⟨v7_3, s1, s2, s5, s6, s7, s13, s14, s18, s19, s121, s122, s126, s127, Q8, Qc, Qf, Q0, Qh, Q2, Qi, Q1, Qa, Qx, Qg, Q3, Q4, Q5, Qn, Q16, Qb, Qd, Qe, Qy, Q19, Q6, Q7, Qj, Q10, Q9, Qk, Q11, Ql, Q12, Q1e, fr, fx, Qo, Qt, Qv, Qw, Qu, Q1a⟩ hm3 hb31
       simp only [b7n] at hm3
       rw [g0d]
       refine b0f fun K hK => ?_
       simp only [go_sem, s126, s127, Q0, Q2, Q1, b0b v1, b0b v5, b0b v1_1, b0b v5_1, b0b v7, b0b v1_2, b0b v7_1, b0b v7_2, b0b v7_3]
       refine hK _ _ ?_
       clear hK K
       refine b0x fun K32 hK32 => ?_
       simp only [go_sem]
       refine b0w (fun hc33 => ?_) (fun hc33 => ?_)
       ·rw [b1b hc33] at hm3
        simp only [b08, b0m, b0n]
        refine hK32 _ _ ?_
        refine b0x fun K34 hK34 => ?_
        simp only [b1e]
        refine b0f fun K hK => ?_
        simp only [go_sem, s127, Q0, Q2, Q1, b0b v1, b0b v5, b0b v1_1, b0b v5_1, b0b v7, b0b v1_2, b0b v7_1, b0b v7_2, b0b v7_3]
        refine hK _ _ ?_
        clear hK K
        obtain ⟨x40, h_x40, hm3⟩ := b0k hm3
        have h_x400 := b06 h_x40
        have h_x401 := b09 h_x40
        obtain ⟨iq41, rfl, Q1r, Q1p⟩ := b6b Qx h_x40
        obtain ⟨x42, h_x42, hm3⟩ := b0k hm3
        have h_x420 := b06 h_x42
        have h_x421 := b09 h_x42
        obtain ⟨x43, h_x43, hm3⟩ := b0k hm3
        have h_x430 := b06 h_x43
        have h_x431 := b09 h_x43
        obtain ⟨x44, h_x44, hm3⟩ := b0k hm3
        have h_x440 := b06 h_x44
        have h_x441 := b09 h_x44
        refine b1t fun K hK => ?_
        simp only [go_sem, s7, s13, s14, Qf, Q0, Qh, Q2, Qi, Q1, Q1r, Q1p, Qb, Qd, Qe, Q6, b0c Q6, Q7, b0c Q7, Qj, Q10, Q9, b0c Q9, Qk, Q11, Ql, Q12, b0u h_x40, b0v h_x40, h_x400, h_x401, b0u h_x42, b0v h_x42, h_x420, h_x421, b0u h_x43, b0v h_x43, h_x430, h_x431, b0u h_x44, b0v h_x44, h_x440, h_x441, b0b v1, b0b v5, b0b v1_1, b0b v5_1, b0b v7, b0b v1_2, b0b v7_1, b0b v7_2]
        refine hK _ _ ?_
        clear hK K
        simp only [b0m, b0n]
        refine hK34 _ _ ?_
        refine b1t fun K hK => ?_
        simp only [go_sem, s127, Q0, Q2, Q1, Q1p, b0b v1, b0b v5, b0b v1_1, b0b v5_1, b0b v7, b0b v1_2, b0b v7_1, b0b v7_2]
        refine hK _ _ ?_
        clear hK K
        simp only [b0m, b0n]
        obtain rfl := sI9 hm3
        refine ⟨_, rfl, ?_⟩
        exact ⟨(.rs iq41 0 (List.length b_7_3)), s1, s2, s5, s6, s7, s13, (by first | (simp only [go_sem, s14, lA9, mA9]; done) | rfl), s18, s19, s121, s122, s126, (by first | (simp only [go_sem, s127, lA9, mA9]; done) | rfl), Q8, Qc, (by simp only [go_sem, Qf, Q0, lA9, mA9]), (by simp only [go_sem, Q0]), Qh, Q2, Qi, Q1, Qa, (b3v (by simp only [go_sem, Q1r, Q1p, lA9, mA9]) (by first | rfl | simp only [go_sem, lA9, mA9]) (by simp only [go_sem, Q1p])), Qg, Q3, Q4, Q5, Qn, Q16, Qb, Qd, Qe, Qy, Q19, Q6, Q7, Qj, Q10, Q9, Qk, Q11, Ql, Q12, Q1e, fr, fx, Qo, Qt, Qv, Qw, Qu, Q1a⟩
       ·rw [b1a hc33] at hm3
        simp only [b17, b2b, b2a, b19, b0m, b0n, Nat.reduceEqDiff, nF9]
        obtain rfl := sI9 hm3
        obtain rfl := hb31 _ rfl
        try dsimp only at hm2
        exact J20 most_14 v7_3 _ _ s1 s2 s5 s6 s7 s13 s14 s18 s19 s121 s122 Q8 Qc Qf Q0 Qh Q2 Qi Q1 Qa Qx Qg Q3 Q4 Q5 Qn Q16 Qb Qd Qe Qy Q19 Q6 Q7 Qj Q10 Q9 Qk Q11 Ql Q12 Q1e fr fx Qo Qt Qv Qw Qu Q1a hm2
     ·rw [b1a hc16] at hm2
      simp only [b17, b2b, b2a, b19, b0m, b0n, Nat.reduceEqDiff, nF9]
      obtain rfl := sI9 hm2
      obtain rfl := hb14 _ rfl
      try dsimp only at hm1
      exact J11 b_7_1 b_7_2 v1_2 i7_3 v7_1 v7_2 _ _ s1 s2 s5 s7 s18 s19 Q8 Qc Qf Q0 Qh Q2 Qi Q1 Qa Qx Qg Q3 Q4 Q5 Qn Q16 Qb Qd Qe Qy Q19 Q6 Q7 Qj Q10 Q9 Qk Q11 Ql Q12 Q1e fr fx Qo Qt Qv Qw Qu Q1a hm1
   simp only [b1e]
   obtain ⟨b47, hl47, hm1⟩ := b0k hm1
   refine b2c hl47 (fun | (b_7_0, b_7_3, x_28), t, h => ∃ v1_1 : AV, ∃ v5_1 : AV, ∃ i7 : Nat, ∃ i7_1 : Nat, ∃ i7_2 : Nat, ∃ v7 : AV, t 1 = v1_1 ∧ t 2 = .fp [.fs 5 (List.map b0r h_.Combs), .fs 3 (List.map b0o h_.Trains), .fs 3 (List.map b0s h_.Shifts), I h_.Until] 0 ∧ t 5 = v5_1 ∧ t 6 = I x_19 ∧ t 7 = .rp i7 0 0 ∧ t 18 = I (List.length h_.Combs : Int) ∧ t 19 = I x_19 ∧ t 27 = I h_.Until ∧ t 28 = I x_28 ∧ RR h v1_1 hs_1 1 eI open_ ∧ b0l h v5_1 1 (List.map b2v all_5) ∧ h.ob i7 = some (4, [[.rs i7_1 0 (List.length b_7_0), .rs i7_2 0 (List.length ([0])), .v (.slice none 0 0), v7]]) ∧ i7 < h.nx ∧ h.ob i7_1 = some (1, List.map eI b_7_0) ∧ i7_1 < h.nx ∧ h.ob i7_2 = some (1, List.map eI ([0])) ∧ i7_2 < h.nx ∧ b0l h v7 1 (List.map b0z b_7_3) ∧ (∀ j, ¬b0a v5_1 j → b0d v1_1 hs_1 j) ∧ b0d v1_1 hs_1 i7 ∧ b0d v1_1 hs_1 i7_1 ∧ b0d v1_1 hs_1 i7_2 ∧ (∀ j, ¬b0a v7 j → b0d v1_1 hs_1 j) ∧ b0a v5_1 i7 ∧ b0a v5_1 i7_1 ∧ b0a v5_1 i7_2 ∧ (∀ j, ¬b0a v5_1 j → b0a v7 j) ∧ ¬i7 = i7_1 ∧ ¬i7 = i7_2 ∧ b0a v7 i7 ∧ ¬i7_1 = i7_2 ∧ b0a v7 i7_1 ∧ b0a v7 i7_2 ∧ (∀ j, j < h0.nx → h.ob j = h0.ob j) ∧ h0.nx ≤ h.nx ∧ (∀ j, ¬b0a v5_1 j → h0.nx ≤ j) ∧ h0.nx ≤ i7 ∧ h0.nx ≤ i7_1 ∧ h0.nx ≤ i7_2 ∧ (∀ j, ¬b0a v7 j → h0.nx ≤ j)) ?_ ?_
   ·exact ⟨v1, v5, (nxs (nxs h.nx)), h.nx, (nxs h.nx), (.v (.slice none 0 0)), s1, s2, s5, (by first | (simp only [go_sem, lA9, mA9]; done) | rfl), (by first | (simp only [go_sem, lA9, mA9]; done) | rfl), s18, s19, (by first | (simp only [go_sem, lA9, mA9]; done) | rfl), (by first | (simp only [go_sem, lA9, mA9]; done) | rfl), (b3i Q8 (by intro j hj  hl; first | rfl | simp only [go_sem, hl]) (by first | omega | exact Nat.le_refl _ | (simp only [go_sem, nxs] <;> omega))), (b1g Qc (by intro j hj hl; first | rfl | simp only [go_sem, hl]) (by first | omega | exact Nat.le_refl _ | (simp only [go_sem, nxs] <;> omega))), (by simp only [go_sem, lA9, mA9]), (by simp only [go_sem]), (by simp only [go_sem, lA9, mA9]), (by simp only [go_sem]), (by simp only [go_sem, lA9, mA9]), (by simp only [go_sem]), b68, Qg, (by first | assumption | exact b2l Q8 (by first | assumption | omega | (simp only [nxs] <;> omega))), (by first | assumption | exact b2l Q8 (by first | assumption | omega | (simp only [nxs] <;> omega))), (by first | assumption | exact b2l Q8 (by first | assumption | omega | (simp only [nxs] <;> omega))), c0g, (by first | exact b1j | exact b1k (by first | assumption | omega | (simp only [nxs] <;> omega)) | assumption | exact b01 (by assumption) (by first | assumption | omega | (simp only [nxs] <;> omega))), (by first | exact b1j | exact b1k (by first | assumption | omega | (simp only [nxs] <;> omega)) | assumption | exact b01 (by assumption) (by first | assumption | omega | (simp only [nxs] <;> omega))), (by first | exact b1j | exact b1k (by first | assumption | omega | (simp only [nxs] <;> omega)) | assumption | exact b01 (by assumption) (by first | assumption | omega | (simp only [nxs] <;> omega))), (by first | exact b3x | exact b3y | assumption | (refine b3z ?_; first | assumption | exact b01 (by assumption) (by first | assumption | omega | (simp only [nxs] <;> omega))) | (refine b24 ?_; first | assumption | exact b01 (by assumption) (by first | assumption | omega | (simp only [nxs] <;> omega)))), (by first | first | assumption | omega | (simp only [nxs] <;> omega)), (by first | first | assumption | omega | (simp only [nxs] <;> omega)), (by first | exact b1j | exact b1k (by first | assumption | omega | (simp only [nxs] <;> omega)) | assumption | exact b01 (by assumption) (by first | assumption | omega | (simp only [nxs] <;> omega))), (by first | first | assumption | omega | (simp only [nxs] <;> omega)), (by first | exact b1j | exact b1k (by first | assumption | omega | (simp only [nxs] <;> omega)) | assumption | exact b01 (by assumption) (by first | assumption | omega | (simp only [nxs] <;> omega))), (by first | exact b1j | exact b1k (by first | assumption | omega | (simp only [nxs] <;> omega)) | assumption | exact b01 (by assumption) (by first | assumption | omega | (simp only [nxs] <;> omega))), (by intro j hj; first | exact fr j hj | (refine Eq.trans ?_ (fr j hj); first | rfl | simp only [go_sem, Nat.lt_of_lt_of_le hj fx])), (by first | exact fx | omega | (simp only [go_sem, nxs] <;> omega)), Qo, (by first | assumption | omega | (simp only [nxs] <;> omega)), (by first | assumption | omega | (simp only [nxs] <;> omega)), (by first | assumption | omega | (simp only [nxs] <;> omega)), c0g⟩
   ·try clear s1 s2 s5 s18 s19 Q8 Qc Qg fr fx Qo
    rintro ⟨b_7_0, b_7_3, x_28⟩ o t h ⟨v1_1, v5_1, i7, i7_1, i7_2, v7, s1, s2, s5, s6, s7, s18, s19, s27, s28, Q8, Qc, Qf, Q0, Qh, Q2, Qi, Q1, Qa, Qg, Q3, Q4, Q5, Qn, Qb, Qd, Qe, Qy, Q6, Q7, Qj, Q9, Qk, Ql, fr, fx, Qo, Qt, Qv, Qw, Qu⟩ hm2 hb47
    simp only [b7m] at hm2
    rw [g0c]
    refine b0f fun K hK => ?_
    simp only [go_sem, s27, s28, Q0, Q2, Q1, b0b v1, b0b v5, b0b v1_1, b0b v5_1, b0b v7]
    refine hK _ _ ?_
    clear hK K
    refine b0x fun K48 hK48 => ?_
    simp only [go_sem]
    refine b0w (fun hc49 => ?_) (fun hc49 => ?_)
    ·rw [b1b hc49] at hm2
     simp only [b08, b0m, b0n]
     refine hK48 _ _ ?_
     refine b0x fun K50 hK50 => ?_
     have J51 : ∀ (b_7_0_1 : List Int) (b_7_3_1 : List (List Int)) (v1_2 : AV) (v5_2 : AV) (i7_3 : Nat) (i7_4 : Nat) (t : Slots) (h : Heap), t 1 = v1_2 → t 2 = .fp [.fs 5 (List.map b0r h_.Combs), .fs 3 (List.map b0o h_.Trains), .fs 3 (List.map b0s h_.Shifts), I h_.Until] 0 → t 5 = v5_2 → t 6 = I x_19 → t 7 = .rp i7 0 0 → t 18 = I (List.length h_.Combs : Int) → t 19 = I x_19 → t 27 = I h_.Until → t 28 = I x_28 → RR h v1_2 hs_1 1 eI open_ → b0l h v5_2 1 (List.map b2v all_5) → h.ob i7 = some (4, [[.rs i7_3 0 (List.length b_7_0_1), .rs i7_2 0 (List.length ([0])), .v (.slice none 0 0), .rs i7_4 0 (List.length b_7_3_1)]]) → i7 < h.nx → h.ob i7_3 = some (1, List.map eI b_7_0_1) → i7_3 < h.nx → h.ob i7_2 = some (1, List.map eI ([0])) → i7_2 < h.nx → h.ob i7_4 = some (1, List.map b0z b_7_3_1) → i7_4 < h.nx → (∀ j, ¬b0a v5_2 j → b0d v1_2 hs_1 j) → b0d v1_2 hs_1 i7 → b0d v1_2 hs_1 i7_3 → b0d v1_2 hs_1 i7_2 → b0d v1_2 hs_1 i7_4 → b0a v5_2 i7 → b0a v5_2 i7_3 → b0a v5_2 i7_2 → b0a v5_2 i7_4 → ¬i7 = i7_3 → ¬i7 = i7_2 → ¬i7 = i7_4 → ¬i7_3 = i7_2 → ¬i7_3 = i7_4 → ¬i7_2 = i7_4 → (∀ j, j < h0.nx → h.ob j = h0.ob j) → h0.nx ≤ h.nx → (∀ j, ¬b0a v5_2 j → h0.nx ≤ j) → h0.nx ≤ i7 → h0.nx ≤ i7_3 → h0.nx ≤ i7_2 → h0.nx ≤ i7_4 → c0u x_28 b_7_0_1 b_7_3_1 = some o → K50 t h := by
      try clear s1 s2 s5 s6 s7 s18 s19 s27 s28 Q8 Qc Qf Q0 Qh Q2 Qi Q1 Qa Qg Q3 Q4 Q5 Qn Qb Qd Qe Qy Q6 Q7 Qj Q9 Qk Ql fr fx Qo Qt Qv Qw Qu
      intro b_7_0_1 b_7_3_1 v1_2 v5_2 i7_3 i7_4 t h s1 s2 s5 s6 s7 s18 s19 s27 s28 Q8 Qc Qf Q0 Qh Q2 Qi Q1 Q1i Q1h Qg Q3 Q4 Q5 Q1j Qb Qd Qe Q1l Q6 Q7 Q1m Q9 Q1n Q1o fr fx Qo Qt Qv Qw Qu hm2
      refine hK50 _ _ ?_
      unfold c0u at hm2
      refine b1t fun K hK => ?_
      simp only [go_sem, s28, Q0, Q2, Q1, Q1h, b0b v1, b0b v5, b0b v1_1, b0b v5_1, b0b v7, b0b v1_2, b0b v5_2]
      refine hK _ _ ?_
      clear hK K
      simp only [b0m, b0n]
      obtain rfl := sI9 hm2
      refine ⟨_, rfl, ?_⟩
      exact ⟨v1_2, v5_2, i7, i7_3, i7_2, (.rs i7_4 0 (List.length b_7_3_1)), s1, s2, s5, s6, s7, s18, s19, s27, (by first | (simp only [go_sem, s28, lA9, mA9]; done) | rfl), Q8, Qc, Qf, Q0, Qh, Q2, Qi, Q1, (b3v (by simp only [go_sem, Q1i, Q1h, lA9, mA9]) (by first | rfl | simp only [go_sem, lA9, mA9]) (by simp only [go_sem, Q1h])), Qg, Q3, Q4, Q5, (c0h Q1j), Qb, Qd, Qe, (by first | exact b3x | exact b3y | assumption | (refine b3z ?_; first | assumption | exact b01 (by assumption) (by first | assumption | omega | (simp only [nxs] <;> omega))) | (refine b24 ?_; first | assumption | exact b01 (by assumption) (by first | assumption | omega | (simp only [nxs] <;> omega)))), Q6, Q7, (by first | exact b1j | exact b1k (by first | assumption | omega | (simp only [nxs] <;> omega)) | assumption | exact b01 (by assumption) (by first | assumption | omega | (simp only [nxs] <;> omega))), Q9, (by first | exact b1j | exact b1k (by first | assumption | omega | (simp only [nxs] <;> omega)) | assumption | exact b01 (by assumption) (by first | assumption | omega | (simp only [nxs] <;> omega))), (by first | exact b1j | exact b1k (by first | assumption | omega | (simp only [nxs] <;> omega)) | assumption | exact b01 (by assumption) (by first | assumption | omega | (simp only [nxs] <;> omega))), fr, fx, Qo, Qt, Qv, Qw, (c5f Qu)⟩
     simp only [b1e]
     refine b0f fun K hK => ?_
     simp only [go_sem, s28, Q0, Q2, Q1, b0b v1, b0b v5, b0b v1_1, b0b v5_1, b0b v7]
     refine hK _ _ ?_
     clear hK K
     obtain ⟨l53, h_l53, hm2⟩ := b0k hm2
     refine b0f fun K hK => ?_
     simp only [go_sem, s2, Q0, Q2, Q1, b0b v1, b0b v5, b0b v1_1, b0b v5_1, b0b v7]
     refine b7w (f := eI) (z := 0) rfl h_l53 ?_
     simp only [go_sem, s2, Q0, Q2, Q1, b0b v1, b0b v5, b0b v1_1, b0b v5_1, b0b v7]
     refine hK _ _ ?_
     clear hK K
     refine b05 ?_
     refine b0f fun K hK => ?_
     simp only [go_sem, Q0, Q2, Q1, b0b v1, b0b v5, b0b v1_1, b0b v5_1, b0b v7]
     refine hK _ _ ?_
     clear hK K
     refine b0x fun K54 hK54 => ?_
     have J55 : ∀ (row_9 : List Int) (v5_2 : AV) (i9 : Nat) (t : Slots) (h : Heap), t 1 = v1_1 → t 2 = .fp [.fs 5 (List.map b0r h_.Combs), .fs 3 (List.map b0o h_.Trains), .fs 3 (List.map b0s h_.Shifts), I h_.Until] 0 → t 5 = v5_2 → t 6 = I x_19 → t 7 = .rp i7 0 0 → t 8 = I x_28 → t 9 = .rs i9 0 (List.length row_9) → t 18 = I (List.length h_.Combs : Int) → t 19 = I x_19 → t 27 = I h_.Until → t 28 = I x_28 → RR h v1_1 hs_1 1 eI open_ → b0l h v5_2 1 (List.map b2v all_5) → h.ob i7 = some (4, [[.rs i7_1 0 (List.length b_7_0), .rs i7_2 0 (List.length ([0])), .v (.slice none 0 0), v7]]) → i7 < h.nx → h.ob i7_1 = some (1, List.map eI b_7_0) → i7_1 < h.nx → h.ob i7_2 = some (1, List.map eI ([0])) → i7_2 < h.nx → b0l h v7 1 (List.map b0z b_7_3) → h.ob i9 = some (1, List.map eI row_9) → i9 < h.nx → (∀ j, ¬b0a v5_2 j → b0d v1_1 hs_1 j) → b0d v1_1 hs_1 i7 → b0d v1_1 hs_1 i7_1 → b0d v1_1 hs_1 i7_2 → (∀ j, ¬b0a v7 j → b0d v1_1 hs_1 j) → b0d v1_1 hs_1 i9 → b0a v5_2 i7 → b0a v5_2 i7_1 → b0a v5_2 i7_2 → (∀ j, ¬b0a v5_2 j → b0a v7 j) → b0a v5_2 i9 → ¬i7 = i7_1 → ¬i7 = i7_2 → b0a v7 i7 → ¬i7 = i9 → ¬i7_1 = i7_2 → b0a v7 i7_1 → ¬i7_1 = i9 → b0a v7 i7_2 → ¬i7_2 = i9 → b0a v7 i9 → (∀ j, j < h0.nx → h.ob j = h0.ob j) → h0.nx ≤ h.nx → (∀ j, ¬b0a v5_2 j → h0.nx ≤ j) → h0.nx ≤ i7 → h0.nx ≤ i7_1 → h0.nx ≤ i7_2 → (∀ j, ¬b0a v7 j → h0.nx ≤ j) → h0.nx ≤ i9 → c0v open_ x_19 b_7_0 b_7_3 x_28 row_9 = some o → K54 t h := by
      try clear s1 s2 s5 s6 s7 s18 s19 s27 s28 Q8 Qc Qf Q0 Qh Q2 Qi Q1 Qa Qg Q3 Q4 Q5 Qn Qb Qd Qe Qy Q6 Q7 Qj Q9 Qk Ql fr fx Qo Qt Qv Qw Qu
      intro row_9 v5_2 i9 t h s1 s2 s5 s6 s7 s8 s9 s18 s19 s27 s28 Q8 Qc Qf Q0 Qh Q2 Qi Q1 Qa Q15 Qm Qg Q3 Q4 Q5 Qn Qs Qb Qd Qe Qy Q13 Q6 Q7 Qj Qp Q9 Qk Qr Ql Qq Q14 fr fx Qo Qt Qv Qw Qu Q1b hm2
      refine hK54 _ _ ?_
      unfold c0v at hm2
      refine b05 ?_
      refine c48 (s := 9) (v := .rs i9 0 (List.length row_9)) (f := eI) (l := row_9) (by simp only [go_sem, s9, b07 Q8, b0t Qc, Qf, Q0, Qh, Q2, Qi, Q1, b0t Qa, Q15, Qm, b0h Q3, b0h Q4, b0h Q5, b0h Qs, Qb, Qd, Qe, Q13, Q6, b0c Q6, Q7, b0c Q7, Qj, Qp, b0c Qp, Q9, b0c Q9, Qk, Qr, b0c Qr, Ql, Qq, b0c Qq, Q14, lA9, mA9]) (b3v (by simp only [go_sem, s9, b07 Q8, b0t Qc, Qf, Q0, Qh, Q2, Qi, Q1, b0t Qa, Q15, Qm, b0h Q3, b0h Q4, b0h Q5, b0h Qs, Qb, Qd, Qe, Q13, Q6, b0c Q6, Q7, b0c Q7, Qj, Qp, b0c Qp, Q9, b0c Q9, Qk, Qr, b0c Qr, Ql, Qq, b0c Qq, Q14, lA9, mA9]) (by simp only [go_sem, s9, b07 Q8, b0t Qc, Qf, Q0, Qh, Q2, Qi, Q1, b0t Qa, Q15, Qm, b0h Q3, b0h Q4, b0h Q5, b0h Qs, Qb, Qd, Qe, Q13, Q6, b0c Q6, Q7, b0c Q7, Qj, Qp, b0c Qp, Q9, b0c Q9, Qk, Qr, b0c Qr, Ql, Qq, b0c Qq, Q14, lA9, mA9]) (by simp only [go_sem, Q0, Q2, Q1, Qm])) b21 b59 ?_
      simp only [c5d, c5e]
      obtain ⟨l57, h_l57, hm2⟩ := b0k hm2
      refine b0f fun K hK => ?_
      simp only [go_sem, s7, s9, Qf, Q0, Qh, Q2, Qi, Q1, Qm, Qb, Qd, Qe, Q6, b0c Q6, Q7, b0c Q7, Qj, Qp, b0c Qp, Q9, b0c Q9, Qk, Qr, b0c Qr, Ql, Qq, b0c Qq, Q14, b0b v1, b0b v5, b0b v1_1, b0b v5_1, b0b v7, b0b v5_2]
      refine b55 (f := b0z) (l := b_7_3) (m := ([row_9])) ?_ ?_ ?_ ?_ h_l57 ?_
      ·exact (b1g Qa (by intro j hj hl; first | rfl | simp only [go_sem, hl, b0h (Qn j hj), b2z Qy j hj, b1h hj Qj, b1h hj Qk, b1h hj Ql, b1h hj Q14]) (by first | omega | exact Nat.le_refl _ | (simp only [go_sem, nxs] <;> omega)))
      ·exact (b6c (by simp only [go_sem, b07 Q8, b0t Qc, Qf, Q0, Qh, Q2, Qi, Q1, b0t Qa, Q15, Qm, b0h Q3, b0h Q4, b0h Q5, b0h Qs, Qb, Qd, Qe, Q13, Q6, b0c Q6, Q7, b0c Q7, Qj, Qp, b0c Qp, Q9, b0c Q9, Qk, Qr, b0c Qr, Ql, Qq, b0c Qq, Q14, lA9, mA9]) (by simp only [go_sem, b07 Q8, b0t Qc, Qf, Q0, Qh, Q2, Qi, Q1, b0t Qa, Q15, Qm, b0h Q3, b0h Q4, b0h Q5, b0h Qs, Qb, Qd, Qe, Q13, Q6, b0c Q6, Q7, b0c Q7, Qj, Qp, b0c Qp, Q9, b0c Q9, Qk, Qr, b0c Qr, Ql, Qq, b0c Qq, Q14, lA9, mA9]))
      ·exact (b24 (by first | exact b1j | exact b1k (by first | omega | (simp only [nxs] <;> omega)) | assumption | exact b01 (by assumption) (by first | omega | (simp only [go_sem, nxs] <;> omega))))
      ·exact (fun _ => by simp)
      simp only [go_sem, s7, s9, Qf, Q0, Qh, Q2, Qi, Q1, Qm, Qb, Qd, Qe, Q6, b0c Q6, Q7, b0c Q7, Qj, Qp, b0c Qp, Q9, b0c Q9, Qk, Qr, b0c Qr, Ql, Qq, b0c Qq, Q14, b0b v1, b0b v5, b0b v1_1, b0b v5_1, b0b v7, b0b v5_2]
      refine hK _ _ ?_
      clear hK K
      obtain ⟨x62, h_x62, hm2⟩ := b0k hm2
      have h_x620 := b06 h_x62
      have h_x621 := b09 h_x62
      obtain ⟨x63, h_x63, hm2⟩ := b0k hm2
      have h_x630 := b06 h_x63
      have h_x631 := b09 h_x63
      obtain ⟨iqp982, rfl, Q1f, Q1d⟩ := b6f Q8 h_x63
      obtain ⟨wp983, hw_wp983, os_wp983⟩ := b6e Q8 h_x63
      obtain ⟨x64, h_x64, hm2⟩ := b0k hm2
      have h_x640 := b06 h_x64
      have h_x641 := b09 h_x64
      obtain ⟨irp984, rfl, obr_irp984, ltr_irp984⟩ := b6b os_wp983 h_x64
      obtain ⟨l65, h_l65, hm2⟩ := b0k hm2
      refine b8l (fun t h => ∃ v1_2 : AV, ∃ i7_3 : Nat, ∃ i7_4 : Nat, t 1 = v1_2 ∧ t 2 = .fp [.fs 5 (List.map b0r h_.Combs), .fs 3 (List.map b0o h_.Trains), .fs 3 (List.map b0s h_.Shifts), I h_.Until] 0 ∧ t 5 = v5_2 ∧ t 6 = I x_19 ∧ t 7 = .rp i7 0 0 ∧ t 18 = I (List.length h_.Combs : Int) ∧ t 19 = I x_19 ∧ t 27 = I h_.Until ∧ t 28 = I x_28 ∧ RR h v1_2 hs_1 1 eI open_ ∧ b0l h v5_2 1 (List.map b2v all_5) ∧ h.ob i7 = some (4, [[.rs i7_3 0 (List.length l65), .rs i7_2 0 (List.length ([0])), .v (.slice none 0 0), .rs i7_4 0 (List.length l57)]]) ∧ i7 < h.nx ∧ h.ob i7_3 = some (1, List.map eI l65) ∧ i7_3 < h.nx ∧ h.ob i7_2 = some (1, List.map eI ([0])) ∧ i7_2 < h.nx ∧ h.ob i7_4 = some (1, List.map b0z l57) ∧ i7_4 < h.nx ∧ (∀ j, ¬b0a v5_2 j → b0d v1_2 hs_1 j) ∧ b0d v1_2 hs_1 i7 ∧ b0d v1_2 hs_1 i7_3 ∧ b0d v1_2 hs_1 i7_2 ∧ b0d v1_2 hs_1 i7_4 ∧ b0a v5_2 i7 ∧ b0a v5_2 i7_3 ∧ b0a v5_2 i7_2 ∧ b0a v5_2 i7_4 ∧ ¬i7 = i7_3 ∧ ¬i7 = i7_2 ∧ ¬i7 = i7_4 ∧ ¬i7_3 = i7_2 ∧ ¬i7_3 = i7_4 ∧ ¬i7_2 = i7_4 ∧ (∀ j, j < h0.nx → h.ob j = h0.ob j) ∧ h0.nx ≤ h.nx ∧ (∀ j, ¬b0a v5_2 j → h0.nx ≤ j) ∧ h0.nx ≤ i7 ∧ h0.nx ≤ i7_3 ∧ h0.nx ≤ i7_2 ∧ h0.nx ≤ i7_4) (fun K hK => ?_) ?_
      ·simp only [go_sem, s1, b3j Q8, s6, s7, s8, Q1f, Q1d, Qf, Q0, Qh, Q2, Qi, Q1, Qm, b1d Qg, b1o Qg hw_wp983, b0i (Q3), b0c (b0i (Q3)), b0q (Q3) hw_wp983, b0c (b0q (Q3) hw_wp983), b0i (Q4), b0c (b0i (Q4)), b0q (Q4) hw_wp983, b0c (b0q (Q4) hw_wp983), b0i (Q5), b0c (b0i (Q5)), b0q (Q5) hw_wp983, b0c (b0q (Q5) hw_wp983), b1d Qn, b1o Qn hw_wp983, b0i (Qs), b0c (b0i (Qs)), b0q (Qs) hw_wp983, b0c (b0q (Qs) hw_wp983), Qb, Qd, Qe, Q6, b0c Q6, Q7, b0c Q7, Qj, Qp, b0c Qp, Q9, b0c Q9, Qk, Qr, b0c Qr, Ql, Qq, b0c Qq, b0u h_x62, b0v h_x62, h_x620, h_x621, b0u h_x63, b0v h_x63, h_x630, h_x631, b0u hw_wp983, b0v hw_wp983, b4l os_wp983, b0u h_x64, b0v h_x64, h_x640, h_x641, obr_irp984, ltr_irp984, b0b v1, b0b v5, b0b v5_1, b0b v7, b0b v5_2]
       refine b55 (f := eI) (l := b_7_0) (m := ([wr (x62 + x64)])) ?_ ?_ ?_ ?_ h_l65 ?_
       ·exact (b3v (by simp only [go_sem, b07 Q8, b0t Qc, Qf, Q0, Qh, Q2, Qi, Q1, b0t Qa, Q15, Qm, b1d Qg, b1o Qg hw_wp983, b0h Q3, b0i (Q3), b0c (b0i (Q3)), b0q (Q3) hw_wp983, b0c (b0q (Q3) hw_wp983), b0h Q4, b0i (Q4), b0c (b0i (Q4)), b0q (Q4) hw_wp983, b0c (b0q (Q4) hw_wp983), b0h Q5, b0i (Q5), b0c (b0i (Q5)), b0q (Q5) hw_wp983, b0c (b0q (Q5) hw_wp983), b1d Qn, b1o Qn hw_wp983, b0h Qs, b0i (Qs), b0c (b0i (Qs)), b0q (Qs) hw_wp983, b0c (b0q (Qs) hw_wp983), Qb, Qd, Qe, Q13, Q6, b0c Q6, Q7, b0c Q7, Qj, Qp, b0c Qp, Q9, b0c Q9, Qk, Qr, b0c Qr, Ql, Qq, b0c Qq, Q14, Q1f, Q1d, b2e Q8 hw_wp983, b0c (b2e Q8 hw_wp983), lA9, mA9]) (by simp only [go_sem, b07 Q8, b0t Qc, Qf, Q0, Qh, Q2, Qi, Q1, b0t Qa, Q15, Qm, b1d Qg, b1o Qg hw_wp983, b0h Q3, b0i (Q3), b0c (b0i (Q3)), b0q (Q3) hw_wp983, b0c (b0q (Q3) hw_wp983), b0h Q4, b0i (Q4), b0c (b0i (Q4)), b0q (Q4) hw_wp983, b0c (b0q (Q4) hw_wp983), b0h Q5, b0i (Q5), b0c (b0i (Q5)), b0q (Q5) hw_wp983, b0c (b0q (Q5) hw_wp983), b1d Qn, b1o Qn hw_wp983, b0h Qs, b0i (Qs), b0c (b0i (Qs)), b0q (Qs) hw_wp983, b0c (b0q (Qs) hw_wp983), Qb, Qd, Qe, Q13, Q6, b0c Q6, Q7, b0c Q7, Qj, Qp, b0c Qp, Q9, b0c Q9, Qk, Qr, b0c Qr, Ql, Qq, b0c Qq, Q14, Q1f, Q1d, b2e Q8 hw_wp983, b0c (b2e Q8 hw_wp983), lA9, mA9]) (by simp only [go_sem, Q0, Q2, Q1, Qm, Q1d]))
       ·exact (b6c (by simp only [go_sem, b07 Q8, b0t Qc, Qf, Q0, Qh, Q2, Qi, Q1, b0t Qa, Q15, Qm, b1d Qg, b1o Qg hw_wp983, b0h Q3, b0i (Q3), b0c (b0i (Q3)), b0q (Q3) hw_wp983, b0c (b0q (Q3) hw_wp983), b0h Q4, b0i (Q4), b0c (b0i (Q4)), b0q (Q4) hw_wp983, b0c (b0q (Q4) hw_wp983), b0h Q5, b0i (Q5), b0c (b0i (Q5)), b0q (Q5) hw_wp983, b0c (b0q (Q5) hw_wp983), b1d Qn, b1o Qn hw_wp983, b0h Qs, b0i (Qs), b0c (b0i (Qs)), b0q (Qs) hw_wp983, b0c (b0q (Qs) hw_wp983), Qb, Qd, Qe, Q13, Q6, b0c Q6, Q7, b0c Q7, Qj, Qp, b0c Qp, Q9, b0c Q9, Qk, Qr, b0c Qr, Ql, Qq, b0c Qq, Q14, Q1f, Q1d, b2e Q8 hw_wp983, b0c (b2e Q8 hw_wp983), lA9, mA9]) (by simp only [go_sem, b07 Q8, b0t Qc, Qf, Q0, Qh, Q2, Qi, Q1, b0t Qa, Q15, Qm, b1d Qg, b1o Qg hw_wp983, b0h Q3, b0i (Q3), b0c (b0i (Q3)), b0q (Q3) hw_wp983, b0c (b0q (Q3) hw_wp983), b0h Q4, b0i (Q4), b0c (b0i (Q4)), b0q (Q4) hw_wp983, b0c (b0q (Q4) hw_wp983), b0h Q5, b0i (Q5), b0c (b0i (Q5)), b0q (Q5) hw_wp983, b0c (b0q (Q5) hw_wp983), b1d Qn, b1o Qn hw_wp983, b0h Qs, b0i (Qs), b0c (b0i (Qs)), b0q (Qs) hw_wp983, b0c (b0q (Qs) hw_wp983), Qb, Qd, Qe, Q13, Q6, b0c Q6, Q7, b0c Q7, Qj, Qp, b0c Qp, Q9, b0c Q9, Qk, Qr, b0c Qr, Ql, Qq, b0c Qq, Q14, Q1f, Q1d, b2e Q8 hw_wp983, b0c (b2e Q8 hw_wp983), lA9, mA9]))
       ·exact (b24 (by first | exact b1j | exact b1k (by first | omega | (simp only [nxs] <;> omega)) | assumption | exact b01 (by assumption) (by first | omega | (simp only [go_sem, nxs] <;> omega))))
       ·exact (fun _ => by simp)
       simp only [go_sem, s1, b3j Q8, s6, s7, s8, Q1f, Q1d, Qf, Q0, Qh, Q2, Qi, Q1, Qm, b1d Qg, b1o Qg hw_wp983, b0i (Q3), b0c (b0i (Q3)), b0q (Q3) hw_wp983, b0c (b0q (Q3) hw_wp983), b0i (Q4), b0c (b0i (Q4)), b0q (Q4) hw_wp983, b0c (b0q (Q4) hw_wp983), b0i (Q5), b0c (b0i (Q5)), b0q (Q5) hw_wp983, b0c (b0q (Q5) hw_wp983), b1d Qn, b1o Qn hw_wp983, b0i (Qs), b0c (b0i (Qs)), b0q (Qs) hw_wp983, b0c (b0q (Qs) hw_wp983), Qb, Qd, Qe, Q6, b0c Q6, Q7, b0c Q7, Qj, Qp, b0c Qp, Q9, b0c Q9, Qk, Qr, b0c Qr, Ql, Qq, b0c Qq, b0u h_x62, b0v h_x62, h_x620, h_x621, b0u h_x63, b0v h_x63, h_x630, h_x631, b0u hw_wp983, b0v hw_wp983, b4l os_wp983, b0u h_x64, b0v h_x64, h_x640, h_x641, obr_irp984, ltr_irp984, b0b v1, b0b v5, b0b v5_1, b0b v7, b0b v5_2]
       exact hK _ _ ⟨(.rs iqp982 0 (List.length open_)), (nxs (nxs (nxs h.nx))), (nxs h.nx), (by first | (simp only [go_sem, s1, lA9, mA9]; done) | rfl), s2, s5, s6, s7, s18, s19, s27, s28, (b3i Q8 (by intro j hj  hl; first | rfl | simp only [go_sem, hl, b3t hj Q3, b3t hj Q4, b5q Qn j hj, b3t hj Qs, Q0, Q2, Qm]) (by first | omega | exact Nat.le_refl _ | (simp only [go_sem, nxs] <;> omega))), (b1g Qc (by intro j hj hl; first | rfl | simp only [go_sem, hl, Q0, Q2, Qm, b1h hj Qb, b1h hj Qd, Qy j hj, b1h hj Q13]) (by first | omega | exact Nat.le_refl _ | (simp only [go_sem, nxs] <;> omega))), (by simp only [go_sem, Qf, Q0, Q2, b0t Qa, Qm, Q6, b0c Q6, Qj, Qp, b0c Qp, lA9, mA9]), (by simp only [go_sem, Q0]), (by simp only [go_sem, Q0, Q2, b0t Qa, Qm, lA9, mA9]), (by simp only [go_sem]), (by simp only [go_sem, Q0, Q2, Qi, Q1, b0t Qa, Qm, Q7, b0c Q7, Q9, b0c Q9, Ql, Qq, b0c Qq, lA9, mA9]), (by simp only [go_sem, Q1]), (by simp only [go_sem, Q0, Q2, b0t Qa, Qm, lA9, mA9]), (by simp only [go_sem]), Qg, Q3, (by first | assumption | exact b2l Q8 (by first | assumption | omega | (simp only [nxs] <;> omega))), Q5, (by first | assumption | exact b2l Q8 (by first | assumption | omega | (simp only [nxs] <;> omega))), Qb, (by first | exact b1j | exact b1k (by first | assumption | omega | (simp only [nxs] <;> omega)) | assumption | exact b01 (by assumption) (by first | assumption | omega | (simp only [nxs] <;> omega))), Qe, (by first | exact b1j | exact b1k (by first | assumption | omega | (simp only [nxs] <;> omega)) | assumption | exact b01 (by assumption) (by first | assumption | omega | (simp only [nxs] <;> omega))), (by first | first | assumption | omega | (simp only [nxs] <;> omega)), Q7, (by first | first | assumption | omega | (simp only [nxs] <;> omega)), (by first | first | assumption | omega | (simp only [nxs] <;> omega)), (by first | first | assumption | omega | (simp only [nxs] <;> omega)), (by first | first | assumption | omega | (simp only [nxs] <;> omega)), (by intro j hj; first | exact fr j hj | (refine Eq.trans ?_ (fr j hj); first | rfl | simp only [go_sem, Nat.lt_of_lt_of_le hj fx, b6n Qt hj, b6n Qv hj, b5n Qu hj, b6n Q1b hj])), (by first | exact fx | omega | (simp only [go_sem, nxs] <;> omega)), Qo, Qt, (by first | assumption | omega | (simp only [nxs] <;> omega)), Qw, (by first | assumption | omega | (simp only [nxs] <;> omega))⟩
      ·try clear s1 s2 s5 s6 s7 s8 s9 s18 s19 s27 s28 Q8 Qc Qf Q0 Qh Q2 Qi Q1 Qa Q15 Qm Qg Q3 Q4 Q5 Qn Qs Qb Qd Qe Qy Q13 Q6 Q7 Qj Qp Q9 Qk Qr Ql Qq Q14 fr fx Qo Qt Qv Qw Qu Q1b Q1f Q1d
       rintro t h ⟨v1_2, i7_3, i7_4, s1, s2, s5, s6, s7, s18, s19, s27, s28, Q8, Qc, Qf, Q0, Qh, Q2, Qi, Q1, Q1i, Q1h, Qg, Q3, Q4, Q5, Q1j, Qb, Qd, Qe, Q1l, Q6, Q7, Q1m, Q9, Q1n, Q1o, fr, fx, Qo, Qt, Qv, Qw, Qu⟩
       simp only [b0m, b0n]
       exact J51 l65 l57 v1_2 v5_2 i7_3 i7_4 _ _ s1 s2 s5 s6 s7 s18 s19 s27 s28 Q8 Qc Qf Q0 Qh Q2 Qi Q1 Q1i Q1h Qg Q3 Q4 Q5 Q1j Qb Qd Qe Q1l Q6 Q7 Q1m Q9 Q1n Q1o fr fx Qo Qt Qv Qw Qu hm2
     simp only [b1e]
     obtain ⟨b66, hl66, hm2⟩ := b0k hm2
     refine b2c hl66 (fun | (row_9, t_10), t, h => ∃ v5_2 : AV, ∃ i9 : Nat, t 1 = v1_1 ∧ t 2 = .fp [.fs 5 (List.map b0r h_.Combs), .fs 3 (List.map b0o h_.Trains), .fs 3 (List.map b0s h_.Shifts), I h_.Until] 0 ∧ t 5 = v5_2 ∧ t 6 = I x_19 ∧ t 7 = .rp i7 0 0 ∧ t 8 = I x_28 ∧ t 9 = .rs i9 0 (List.length row_9) ∧ t 10 = I t_10 ∧ t 18 = I (List.length h_.Combs : Int) ∧ t 19 = I x_19 ∧ t 27 = I h_.Until ∧ t 28 = I x_28 ∧ RR h v1_1 hs_1 1 eI open_ ∧ b0l h v5_2 1 (List.map b2v all_5) ∧ h.ob i7 = some (4, [[.rs i7_1 0 (List.length b_7_0), .rs i7_2 0 (List.length ([0])), .v (.slice none 0 0), v7]]) ∧ i7 < h.nx ∧ h.ob i7_1 = some (1, List.map eI b_7_0) ∧ i7_1 < h.nx ∧ h.ob i7_2 = some (1, List.map eI ([0])) ∧ i7_2 < h.nx ∧ b0l h v7 1 (List.map b0z b_7_3) ∧ h.ob i9 = some (1, List.map eI row_9) ∧ i9 < h.nx ∧ (∀ j, ¬b0a v5_2 j → b0d v1_1 hs_1 j) ∧ b0d v1_1 hs_1 i7 ∧ b0d v1_1 hs_1 i7_1 ∧ b0d v1_1 hs_1 i7_2 ∧ (∀ j, ¬b0a v7 j → b0d v1_1 hs_1 j) ∧ b0d v1_1 hs_1 i9 ∧ b0a v5_2 i7 ∧ b0a v5_2 i7_1 ∧ b0a v5_2 i7_2 ∧ (∀ j, ¬b0a v5_2 j → b0a v7 j) ∧ b0a v5_2 i9 ∧ ¬i7 = i7_1 ∧ ¬i7 = i7_2 ∧ b0a v7 i7 ∧ ¬i7 = i9 ∧ ¬i7_1 = i7_2 ∧ b0a v7 i7_1 ∧ ¬i7_1 = i9 ∧ b0a v7 i7_2 ∧ ¬i7_2 = i9 ∧ b0a v7 i9 ∧ (∀ j, j < h0.nx → h.ob j = h0.ob j) ∧ h0.nx ≤ h.nx ∧ (∀ j, ¬b0a v5_2 j → h0.nx ≤ j) ∧ h0.nx ≤ i7 ∧ h0.nx ≤ i7_1 ∧ h0.nx ≤ i7_2 ∧ (∀ j, ¬b0a v7 j → h0.nx ≤ j) ∧ h0.nx ≤ i9) ?_ ?_
     ·exact ⟨v5_1, h.nx, s1, s2, s5, s6, s7, (by first | (simp only [go_sem, lA9, mA9]; done) | rfl), (by first | (simp only [go_sem, lA9, mA9]; done) | rfl), (by first | (simp only [go_sem, lA9, mA9]; done) | rfl), s18, s19, s27, s28, (b3i Q8 (by intro j hj  hl; first | rfl | simp only [go_sem, hl]) (by first | omega | exact Nat.le_refl _ | (simp only [go_sem, nxs] <;> omega))), (b1g Qc (by intro j hj hl; first | rfl | simp only [go_sem, hl]) (by first | omega | exact Nat.le_refl _ | (simp only [go_sem, nxs] <;> omega))), (by simp only [go_sem, Qf, Q0, lA9, mA9]), (by simp only [go_sem, Q0]), (by simp only [go_sem, Qh, Q2, lA9, mA9]), (by simp only [go_sem, Q2]), (by simp only [go_sem, Qi, Q1, lA9, mA9]), (by simp only [go_sem, Q1]), (b1g Qa (by intro j hj hl; first | rfl | simp only [go_sem, hl]) (by first | omega | exact Nat.le_refl _ | (simp only [go_sem, nxs] <;> omega))), (by simp only [go_sem, lA9, mA9]), (by simp only [go_sem]), Qg, Q3, Q4, Q5, Qn, (by first | assumption | exact b2l Q8 (by first | assumption | omega | (simp only [nxs] <;> omega))), Qb, Qd, Qe, Qy, (by first | exact b1j | exact b1k (by first | assumption | omega | (simp only [nxs] <;> omega)) | assumption | exact b01 (by assumption) (by first | assumption | omega | (simp only [nxs] <;> omega))), Q6, Q7, Qj, (by first | first | assumption | omega | (simp only [nxs] <;> omega)), Q9, Qk, (by first | first | assumption | omega | (simp only [nxs] <;> omega)), Ql, (by first | first | assumption | omega | (simp only [nxs] <;> omega)), (by first | exact b1j | exact b1k (by first | assumption | omega | (simp only [nxs] <;> omega)) | assumption | exact b01 (by assumption) (by first | assumption | omega | (simp only [nxs] <;> omega))), (by intro j hj; first | exact fr j hj | (refine Eq.trans ?_ (fr j hj); first | rfl | simp only [go_sem, Nat.lt_of_lt_of_le hj fx])), (by first | exact fx | omega | (simp only [go_sem, nxs] <;> omega)), Qo, Qt, Qv, Qw, Qu, (by first | assumption | omega | (simp only [nxs] <;> omega))⟩
     ·try clear s1 s2 s5 s6 s7 s18 s19 s27 s28 Q8 Qc Qf Q0 Qh Q2 Qi Q1 Qa Qg Q3 Q4 Q5 Qn Qb Qd Qe Qy Q6 Q7 Qj Q9 Qk Ql fr fx Qo Qt Qv Qw Qu
      rintro ⟨row_9, t_10⟩ o t h ⟨v5_2, i9, s1, s2, s5, s6, s7, s8, s9, s10, s18, s19, s27, s28, Q8, Qc, Qf, Q0, Qh, Q2, Qi, Q1, Qa, Q15, Qm, Qg, Q3, Q4, Q5, Qn, Qs, Qb, Qd, Qe, Qy, Q13, Q6, Q7, Qj, Qp, Q9, Qk, Qr, Ql, Qq, Q14, fr, fx, Qo, Qt, Qv, Qw, Qu, Q1b⟩ hm3 hb66
      simp only [b7l] at hm3
      rw [g0b]
      refine b05 ?_
      refine b0f fun K hK => ?_
      simp only [go_sem, s2, s10, Q0, Q2, Q1, Qm, b0b v1, b0b v5, b0b v1_1, b0b v5_1, b0b v7, b0b v5_2]
      refine hK _ _ ?_
      clear hK K
      refine b0x fun K67 hK67 => ?_
      simp only [go_sem]
      refine b0w (fun hc68 => ?_) (fun hc68 => ?_)
      ·rw [b1b hc68] at hm3
       simp only [b08, b0m, b0n]
       refine hK67 _ _ ?_
       refine b0x fun K69 hK69 => ?_
       have J70 : ∀ (row_9_1 : List Int) (v5_3 : AV) (t : Slots) (h : Heap), t 1 = v1_1 → t 2 = .fp [.fs 5 (List.map b0r h_.Combs), .fs 3 (List.map b0o h_.Trains), .fs 3 (List.map b0s h_.Shifts), I h_.Until] 0 → t 5 = v5_3 → t 6 = I x_19 → t 7 = .rp i7 0 0 → t 8 = I x_28 → t 9 = .rs i9 0 (List.length row_9_1) → t 10 = I t_10 → t 18 = I (List.length h_.Combs : Int) → t 19 = I x_19 → t 27 = I h_.Until → t 28 = I x_28 → RR h v1_1 hs_1 1 eI open_ → b0l h v5_3 1 (List.map b2v all_5) → h.ob i7 = some (4, [[.rs i7_1 0 (List.length b_7_0), .rs i7_2 0 (List.length ([0])), .v (.slice none 0 0), v7]]) → i7 < h.nx → h.ob i7_1 = some (1, List.map eI b_7_0) → i7_1 < h.nx → h.ob i7_2 = some (1, List.map eI ([0])) → i7_2 < h.nx → b0l h v7 1 (List.map b0z b_7_3) → h.ob i9 = some (1, List.map eI row_9_1) → i9 < h.nx → (∀ j, ¬b0a v5_3 j → b0d v1_1 hs_1 j) → b0d v1_1 hs_1 i7 → b0d v1_1 hs_1 i7_1 → b0d v1_1 hs_1 i7_2 → (∀ j, ¬b0a v7 j → b0d v1_1 hs_1 j) → b0d v1_1 hs_1 i9 → b0a v5_3 i7 → b0a v5_3 i7_1 → b0a v5_3 i7_2 → (∀ j, ¬b0a v5_3 j → b0a v7 j) → b0a v5_3 i9 → ¬i7 = i7_1 → ¬i7 = i7_2 → b0a v7 i7 → ¬i7 = i9 → ¬i7_1 = i7_2 → b0a v7 i7_1 → ¬i7_1 = i9 → b0a v7 i7_2 → ¬i7_2 = i9 → b0a v7 i9 → (∀ j, j < h0.nx → h.ob j = h0.ob j) → h0.nx ≤ h.nx → (∀ j, ¬b0a v5_3 j → h0.nx ≤ j) → h0.nx ≤ i7 → h0.nx ≤ i7_1 → h0.nx ≤ i7_2 → (∀ j, ¬b0a v7 j → h0.nx ≤ j) → h0.nx ≤ i9 → c0x t_10 row_9_1 = some o → K69 t h := by
        try clear s1 s2 s5 s6 s7 s8 s9 s10 s18 s19 s27 s28 Q8 Qc Qf Q0 Qh Q2 Qi Q1 Qa Q15 Qm Qg Q3 Q4 Q5 Qn Qs Qb Qd Qe Qy Q13 Q6 Q7 Qj Qp Q9 Qk Qr Ql Qq Q14 fr fx Qo Qt Qv Qw Qu Q1b
        intro row_9_1 v5_3 t h s1 s2 s5 s6 s7 s8 s9 s10 s18 s19 s27 s28 Q8 Qc Qf Q0 Qh Q2 Qi Q1 Qa Q15 Qm Qg Q3 Q4 Q5 Qn Qs Qb Qd Qe Qy Q13 Q6 Q7 Qj Qp Q9 Qk Qr Ql Qq Q14 fr fx Qo Qt Qv Qw Qu Q1b hm3
        refine hK69 _ _ ?_
        unfold c0x at hm3
        refine b1t fun K hK => ?_
        simp only [go_sem, s10, Q0, Q2, Q1, Qm, b0b v1, b0b v5, b0b v1_1, b0b v5_1, b0b v7, b0b v5_2, b0b v5_3]
        refine hK _ _ ?_
        clear hK K
        simp only [b0m, b0n]
        obtain rfl := sI9 hm3
        refine ⟨_, rfl, ?_⟩
        exact ⟨v5_3, i9, s1, s2, s5, s6, s7, s8, (by first | exact s9 | simp only [go_sem, s9, lA9, mA9]), (by first | (simp only [go_sem, s10, lA9, mA9]; done) | rfl), s18, s19, s27, s28, Q8, Qc, Qf, Q0, Qh, Q2, Qi, Q1, Qa, Q15, Qm, Qg, Q3, Q4, Q5, Qn, Qs, Qb, Qd, Qe, Qy, Q13, Q6, Q7, Qj, Qp, Q9, Qk, Qr, Ql, Qq, Q14, fr, fx, Qo, Qt, Qv, Qw, Qu, Q1b⟩
       simp only [b1e]
       obtain ⟨y73, h_y73, hm3⟩ := b0k hm3
       obtain ⟨x74, h_x74, hm3⟩ := b0k hm3
       have h_x740 := b06 h_x74
       have h_x741 := b09 h_x74
       refine b0f fun K hK => ?_
       simp only [go_sem, s2, s6, s8, s9, s10, Q15, Qm, Q0, Q2, Q1, Q13, Qp, b0c Qp, Qr, b0c Qr, Qq, b0c Qq, Q14, b0u h_x74, b0v h_x74, h_x740, h_x741, b0b v1, b0b v5, b0b v1_1, b0b v5_1, b0b v7, b0b v5_2]
       refine b1p (d0r h_ x_19 x_28 t_10 _ h_y73) ?_
       simp only [go_sem, s2, s6, s8, s9, s10, Q15, Qm, Q0, Q2, Q1, Q13, Qp, b0c Qp, Qr, b0c Qr, Qq, b0c Qq, Q14, b0u h_x74, b0v h_x74, h_x740, h_x741, b0b v1, b0b v5, b0b v1_1, b0b v5_1, b0b v7, b0b v5_2]
       refine hK _ _ ?_
       clear hK K
       obtain ⟨l76, h_l76, hm3⟩ := b0k hm3
       refine b0f fun K hK => ?_
       simp only [go_sem, s2, s6, Q0, Q2, Q1, Qm, b0b v1, b0b v5, b0b v1_1, b0b v5_1, b0b v7, b0b v5_2]
       refine j0i (f := b0r) (l := h_.Combs) (lo := none) (hi := some x_19) h_l76 ?_
       simp only [go_sem, s2, s6, Q0, Q2, Q1, Qm, b0b v1, b0b v5, b0b v1_1, b0b v5_1, b0b v7, b0b v5_2]
       refine hK _ _ ?_
       clear hK K
       simp only [b1e]
       obtain ⟨b77, hl77, hm3⟩ := b0k hm3
       refine b2c hl77 (fun | (row_9_1, x_54), t, h => ∃ v5_3 : AV, t 1 = v1_1 ∧ t 2 = .fp [.fs 5 (List.map b0r h_.Combs), .fs 3 (List.map b0o h_.Trains), .fs 3 (List.map b0s h_.Shifts), I h_.Until] 0 ∧ t 5 = v5_3 ∧ t 6 = I x_19 ∧ t 7 = .rp i7 0 0 ∧ t 8 = I x_28 ∧ t 9 = .rs i9 0 (List.length row_9_1) ∧ t 10 = I t_10 ∧ t 18 = I (List.length h_.Combs : Int) ∧ t 19 = I x_19 ∧ t 27 = I h_.Until ∧ t 28 = I x_28 ∧ t 52 = .fs 5 (List.map b0r l76) ∧ t 53 = I (List.length l76 : Int) ∧ t 54 = I x_54 ∧ RR h v1_1 hs_1 1 eI open_ ∧ b0l h v5_3 1 (List.map b2v all_5) ∧ h.ob i7 = some (4, [[.rs i7_1 0 (List.length b_7_0), .rs i7_2 0 (List.length ([0])), .v (.slice none 0 0), v7]]) ∧ i7 < h.nx ∧ h.ob i7_1 = some (1, List.map eI b_7_0) ∧ i7_1 < h.nx ∧ h.ob i7_2 = some (1, List.map eI ([0])) ∧ i7_2 < h.nx ∧ b0l h v7 1 (List.map b0z b_7_3) ∧ h.ob i9 = some (1, List.map eI row_9_1) ∧ i9 < h.nx ∧ (∀ j, ¬b0a v5_3 j → b0d v1_1 hs_1 j) ∧ b0d v1_1 hs_1 i7 ∧ b0d v1_1 hs_1 i7_1 ∧ b0d v1_1 hs_1 i7_2 ∧ (∀ j, ¬b0a v7 j → b0d v1_1 hs_1 j) ∧ b0d v1_1 hs_1 i9 ∧ b0a v5_3 i7 ∧ b0a v5_3 i7_1 ∧ b0a v5_3 i7_2 ∧ (∀ j, ¬b0a v5_3 j → b0a v7 j) ∧ b0a v5_3 i9 ∧ ¬i7 = i7_1 ∧ ¬i7 = i7_2 ∧ b0a v7 i7 ∧ ¬i7 = i9 ∧ ¬i7_1 = i7_2 ∧ b0a v7 i7_1 ∧ ¬i7_1 = i9 ∧ b0a v7 i7_2 ∧ ¬i7_2 = i9 ∧ b0a v7 i9 ∧ (∀ j, j < h0.nx → h.ob j = h0.ob j) ∧ h0.nx ≤ h.nx ∧ (∀ j, ¬b0a v5_3 j → h0.nx ≤ j) ∧ h0.nx ≤ i7 ∧ h0.nx ≤ i7_1 ∧ h0.nx ≤ i7_2 ∧ (∀ j, ¬b0a v7 j → h0.nx ≤ j) ∧ h0.nx ≤ i9) ?_ ?_
       ·exact ⟨v5_2, s1, s2, s5, s6, s7, s8, (by first | exact s9 | simp only [go_sem, s9, lA9, mA9]), s10, s18, s19, s27, s28, (by first | (simp only [go_sem, lA9, mA9]; done) | rfl), (by first | (simp only [go_sem, lA9, mA9]; done) | rfl), (by first | (simp only [go_sem, lA9, mA9]; done) | rfl), (b3i Q8 (by intro j hj  hl; first | rfl | simp only [go_sem, hl, b3t hj Qs, Qm]) (by first | omega | exact Nat.le_refl _ | (simp only [go_sem, nxs] <;> omega))), (b1g Qc (by intro j hj hl; first | rfl | simp only [go_sem, hl, Qm, b1h hj Q13]) (by first | omega | exact Nat.le_refl _ | (simp only [go_sem, nxs] <;> omega))), (by simp only [go_sem, Qf, Q0, Qm, Qp, b0c Qp, lA9, mA9]), (by simp only [go_sem, Q0]), (by simp only [go_sem, Qh, Q2, Qm, Qr, b0c Qr, lA9, mA9]), (by simp only [go_sem, Q2]), (by simp only [go_sem, Qi, Q1, Qm, Qq, b0c Qq, lA9, mA9]), (by simp only [go_sem, Q1]), (b1g Qa (by intro j hj hl; first | rfl | simp only [go_sem, hl, Qm, b1h hj Q14]) (by first | omega | exact Nat.le_refl _ | (simp only [go_sem, nxs] <;> omega))), (by simp only [go_sem, Q15, Qm, lA9, mA9]), (by simp only [go_sem, Qm]), Qg, Q3, Q4, Q5, Qn, Qs, Qb, Qd, Qe, Qy, Q13, Q6, Q7, Qj, Qp, Q9, Qk, Qr, Ql, Qq, Q14, (by intro j hj; first | exact fr j hj | (refine Eq.trans ?_ (fr j hj); first | rfl | simp only [go_sem, Nat.lt_of_lt_of_le hj fx, b6n Q1b hj])), (by first | exact fx | omega | (simp only [go_sem, nxs] <;> omega)), Qo, Qt, Qv, Qw, Qu, Q1b⟩
       ·try clear s1 s2 s5 s6 s7 s8 s9 s10 s18 s19 s27 s28 Q8 Qc Qf Q0 Qh Q2 Qi Q1 Qa Q15 Qm Qg Q3 Q4 Q5 Qn Qs Qb Qd Qe Qy Q13 Q6 Q7 Qj Qp Q9 Qk Qr Ql Qq Q14 fr fx Qo Qt Qv Qw Qu Q1b
        rintro ⟨row_9_1, x_54⟩ o t h ⟨v5_3, s1, s2, s5, s6, s7, s8, s9, s10, s18, s19, s27, s28, s52, s53, s54, Q8, Qc, Qf, Q0, Qh, Q2, Qi, Q1, Qa, Q15, Qm, Qg, Q3, Q4, Q5, Qn, Qs, Qb, Qd, Qe, Qy, Q13, Q6, Q7, Qj, Qp, Q9, Qk, Qr, Ql, Qq, Q14, fr, fx, Qo, Qt, Qv, Qw, Qu, Q1b⟩ hm4 hb77
        simp only [b8t] at hm4
        rw [g0a]
        refine b0f fun K hK => ?_
        simp only [go_sem, s53, s54, Q0, Q2, Q1, Qm, b0b v1, b0b v5, b0b v1_1, b0b v5_1, b0b v7, b0b v5_2, b0b v5_3]
        refine hK _ _ ?_
        clear hK K
        refine b0x fun K78 hK78 => ?_
        simp only [go_sem]
        refine b0w (fun hc79 => ?_) (fun hc79 => ?_)
        ·rw [b1b hc79] at hm4
         simp only [b08, b0m, b0n]
         refine hK78 _ _ ?_
         refine b0x fun K80 hK80 => ?_
         have J81 : ∀ (row_9_2 : List Int) (v5_4 : AV) (t : Slots) (h : Heap), t 1 = v1_1 → t 2 = .fp [.fs 5 (List.map b0r h_.Combs), .fs 3 (List.map b0o h_.Trains), .fs 3 (List.map b0s h_.Shifts), I h_.Until] 0 → t 5 = v5_4 → t 6 = I x_19 → t 7 = .rp i7 0 0 → t 8 = I x_28 → t 9 = .rs i9 0 (List.length row_9_2) → t 10 = I t_10 → t 18 = I (List.length h_.Combs : Int) → t 19 = I x_19 → t 27 = I h_.Until → t 28 = I x_28 → t 52 = .fs 5 (List.map b0r l76) → t 53 = I (List.length l76 : Int) → t 54 = I x_54 → RR h v1_1 hs_1 1 eI open_ → b0l h v5_4 1 (List.map b2v all_5) → h.ob i7 = some (4, [[.rs i7_1 0 (List.length b_7_0), .rs i7_2 0 (List.length ([0])), .v (.slice none 0 0), v7]]) → i7 < h.nx → h.ob i7_1 = some (1, List.map eI b_7_0) → i7_1 < h.nx → h.ob i7_2 = some (1, List.map eI ([0])) → i7_2 < h.nx → b0l h v7 1 (List.map b0z b_7_3) → h.ob i9 = some (1, List.map eI row_9_2) → i9 < h.nx → (∀ j, ¬b0a v5_4 j → b0d v1_1 hs_1 j) → b0d v1_1 hs_1 i7 → b0d v1_1 hs_1 i7_1 → b0d v1_1 hs_1 i7_2 → (∀ j, ¬b0a v7 j → b0d v1_1 hs_1 j) → b0d v1_1 hs_1 i9 → b0a v5_4 i7 → b0a v5_4 i7_1 → b0a v5_4 i7_2 → (∀ j, ¬b0a v5_4 j → b0a v7 j) → b0a v5_4 i9 → ¬i7 = i7_1 → ¬i7 = i7_2 → b0a v7 i7 → ¬i7 = i9 → ¬i7_1 = i7_2 → b0a v7 i7_1 → ¬i7_1 = i9 → b0a v7 i7_2 → ¬i7_2 = i9 → b0a v7 i9 → (∀ j, j < h0.nx → h.ob j = h0.ob j) → h0.nx ≤ h.nx → (∀ j, ¬b0a v5_4 j → h0.nx ≤ j) → h0.nx ≤ i7 → h0.nx ≤ i7_1 → h0.nx ≤ i7_2 → (∀ j, ¬b0a v7 j → h0.nx ≤ j) → h0.nx ≤ i9 → b7p x_54 row_9_2 = some o → K80 t h := by
          try clear s1 s2 s5 s6 s7 s8 s9 s10 s18 s19 s27 s28 s52 s53 s54 Q8 Qc Qf Q0 Qh Q2 Qi Q1 Qa Q15 Qm Qg Q3 Q4 Q5 Qn Qs Qb Qd Qe Qy Q13 Q6 Q7 Qj Qp Q9 Qk Qr Ql Qq Q14 fr fx Qo Qt Qv Qw Qu Q1b
          intro row_9_2 v5_4 t h s1 s2 s5 s6 s7 s8 s9 s10 s18 s19 s27 s28 s52 s53 s54 Q8 Qc Qf Q0 Qh Q2 Qi Q1 Qa Q15 Qm Qg Q3 Q4 Q5 Qn Qs Qb Qd Qe Qy Q13 Q6 Q7 Qj Qp Q9 Qk Qr Ql Qq Q14 fr fx Qo Qt Qv Qw Qu Q1b hm4
          refine hK80 _ _ ?_
          unfold b7p at hm4
          refine b1t fun K hK => ?_
          simp only [go_sem, s54, Q0, Q2, Q1, Qm, b0b v1, b0b v5, b0b v1_1, b0b v5_1, b0b v7, b0b v5_2, b0b v5_3, b0b v5_4]
          refine hK _ _ ?_
          clear hK K
          simp only [b0m, b0n]
          obtain rfl := sI9 hm4
          refine ⟨_, rfl, ?_⟩
          exact ⟨v5_4, s1, s2, s5, s6, s7, s8, (by first | exact s9 | simp only [go_sem, s9, lA9, mA9]), s10, s18, s19, s27, s28, s52, s53, (by first | (simp only [go_sem, s54, lA9, mA9]; done) | rfl), Q8, Qc, Qf, Q0, Qh, Q2, Qi, Q1, Qa, Q15, Qm, Qg, Q3, Q4, Q5, Qn, Qs, Qb, Qd, Qe, Qy, Q13, Q6, Q7, Qj, Qp, Q9, Qk, Qr, Ql, Qq, Q14, fr, fx, Qo, Qt, Qv, Qw, Qu, Q1b⟩
         simp only [b1e]
         obtain ⟨x83, h_x83, hm4⟩ := b0k hm4
         have h_x830 := b06 h_x83
         have h_x831 := b09 h_x83
         refine b0f fun K hK => ?_
         simp only [go_sem, s52, s54, Q0, Q2, Q1, Qm, b0u h_x83, b0v h_x83, h_x830, h_x831, b0b v1, b0b v5, b0b v1_1, b0b v5_1, b0b v7, b0b v5_2, b0b v5_3]
         refine hK _ _ ?_
         clear hK K
         refine b0f fun K hK => ?_
         simp only [go_sem, s6, Q0, Q2, Q1, Qm, b0b v1, b0b v5, b0b v1_1, b0b v5_1, b0b v7, b0b v5_2, b0b v5_3]
         refine hK _ _ ?_
         clear hK K
         simp only [go_sem]
         refine b0w (fun hc84 => ?_) (fun hc84 => ?_)
         ·rw [b1b hc84] at hm4
          obtain ⟨x89, h_x89, hm4⟩ := b0k hm4
          have h_x890 := b06 h_x89
          have h_x891 := b09 h_x89
          obtain ⟨x90, h_x90, hm4⟩ := b0k hm4
          have h_x900 := b06 h_x90
          have h_x901 := b09 h_x90
          obtain ⟨iq91, rfl, Q17, Qz⟩ := b6b Qc h_x90
          obtain ⟨y92, h_y92, hm4⟩ := b0k hm4
          refine b1t fun K hK => ?_
          simp only [go_sem, s5, s8, s9, s10, Q17, Qz, Q15, Qm, Q0, Q2, Q1, Qb, Qd, Qe, Q13, Qp, b0c Qp, Qr, b0c Qr, Qq, b0c Qq, Q14, b0u h_x89, b0v h_x89, h_x890, h_x891, b0u h_x90, b0v h_x90, h_x900, h_x901, b0b v1, b0b v5, b0b v1_1, b0b v5_1, b0b v7, b0b v5_2]
          refine b1p (d0k x90 (wr (x_28 - x83.Walk.High)) (wr (t_10 - x83.Walk.Low)) _ h_y92) ?_
          simp only [go_sem, s5, s8, s9, s10, Q17, Qz, Q15, Qm, Q0, Q2, Q1, Qb, Qd, Qe, Q13, Qp, b0c Qp, Qr, b0c Qr, Qq, b0c Qq, Q14, b0u h_x89, b0v h_x89, h_x890, h_x891, b0u h_x90, b0v h_x90, h_x900, h_x901, b0b v1, b0b v5, b0b v1_1, b0b v5_1, b0b v7, b0b v5_2]
          refine hK _ _ ?_
          clear hK K
          simp only [b0m, b0n]
          exact J81 (List.set row_9_1 (Int.toNat t_10) (wr (x89 + y92))) (.rs iq91 0 (List.length all_5)) _ _ s1 s2 (by first | (simp only [go_sem, s5, lA9, mA9]; done) | rfl) s6 s7 s8 (by first | exact s9 | simp only [go_sem, s9, lA9, mA9]) s10 s18 s19 s27 s28 s52 s53 s54 (b3i Q8 (by intro j hj  hl; first | rfl | simp only [go_sem, hl, b3t hj Qs, Qm]) (by first | omega | exact Nat.le_refl _ | (simp only [go_sem, nxs] <;> omega))) (b3v (by simp only [go_sem, Qm, Q13, d8g Q13, b0c (d8g Q13), Q17, Qz, lA9, mA9]) (by first | rfl | simp only [go_sem, lA9, mA9]) (by simp only [go_sem, Qz])) (by simp only [go_sem, Qf, Q0, Qm, Qp, b0c Qp, lA9, mA9]) (by simp only [go_sem, Q0]) (by simp only [go_sem, Qh, Q2, Qm, Qr, b0c Qr, lA9, mA9]) (by simp only [go_sem, Q2]) (by simp only [go_sem, Qi, Q1, Qm, Qq, b0c Qq, lA9, mA9]) (by simp only [go_sem, Q1]) (b1g Qa (by intro j hj hl; first | rfl | simp only [go_sem, hl, Qm, b1h hj Q14]) (by first | omega | exact Nat.le_refl _ | (simp only [go_sem, nxs] <;> omega))) (by simp only [go_sem, Q15, Qm, lA9, mA9]) (by simp only [go_sem, Qm]) Qg Q3 Q4 Q5 Qn Qs Qb Qd Qe Qy Q13 Q6 Q7 Qj Qp Q9 Qk Qr Ql Qq Q14 (by intro j hj; first | exact fr j hj | (refine Eq.trans ?_ (fr j hj); first | rfl | simp only [go_sem, Nat.lt_of_lt_of_le hj fx, b6n Q1b hj])) (by first | exact fx | omega | (simp only [go_sem, nxs] <;> omega)) Qo Qt Qv Qw Qu Q1b hm4
         ·rw [b1a hc84] at hm4
          simp only [b08, b0m, b0n]
          exact J81 row_9_1 v5_3 _ _ s1 s2 s5 s6 s7 s8 (by first | exact s9 | simp only [go_sem, s9, lA9, mA9]) s10 s18 s19 s27 s28 s52 s53 s54 (b3i Q8 (by intro j hj  hl; first | rfl | simp only [go_sem, hl]) (by first | omega | exact Nat.le_refl _ | (simp only [go_sem, nxs] <;> omega))) (b1g Qc (by intro j hj hl; first | rfl | simp only [go_sem, hl]) (by first | omega | exact Nat.le_refl _ | (simp only [go_sem, nxs] <;> omega))) (by simp only [go_sem, Qf, Q0, lA9, mA9]) (by simp only [go_sem, Q0]) (by simp only [go_sem, Qh, Q2, lA9, mA9]) (by simp only [go_sem, Q2]) (by simp only [go_sem, Qi, Q1, lA9, mA9]) (by simp only [go_sem, Q1]) (b1g Qa (by intro j hj hl; first | rfl | simp only [go_sem, hl]) (by first | omega | exact Nat.le_refl _ | (simp only [go_sem, nxs] <;> omega))) (by simp only [go_sem, Q15, Qm, lA9, mA9]) (by simp only [go_sem, Qm]) Qg Q3 Q4 Q5 Qn Qs Qb Qd Qe Qy Q13 Q6 Q7 Qj Qp Q9 Qk Qr Ql Qq Q14 (by intro j hj; first | exact fr j hj | (refine Eq.trans ?_ (fr j hj); first | rfl | simp only [go_sem, Nat.lt_of_lt_of_le hj fx])) (by first | exact fx | omega | (simp only [go_sem, nxs] <;> omega)) Qo Qt Qv Qw Qu Q1b hm4
        ·rw [b1a hc79] at hm4
         simp only [b17, b2b, b2a, b19, b0m, b0n, Nat.reduceEqDiff, nF9]
         obtain rfl := sI9 hm4
         obtain rfl := hb77 _ rfl
         try dsimp only at hm3
         exact J70 row_9_1 v5_3 _ _ s1 s2 s5 s6 s7 s8 (by first | exact s9 | simp only [go_sem, s9, lA9, mA9]) s10 s18 s19 s27 s28 Q8 Qc Qf Q0 Qh Q2 Qi Q1 Qa Q15 Qm Qg Q3 Q4 Q5 Qn Qs Qb Qd Qe Qy Q13 Q6 Q7 Qj Qp Q9 Qk Qr Ql Qq Q14 fr fx Qo Qt Qv Qw Qu Q1b hm3
      ·rw [b1a hc68] at hm3
       simp only [b17, b2b, b2a, b19, b0m, b0n, Nat.reduceEqDiff, nF9]
       obtain rfl := sI9 hm3
       obtain rfl := hb66 _ rfl
       try dsimp only at hm2
       exact J55 row_9 v5_2 i9 _ _ s1 s2 s5 s6 s7 s8 (by first | exact s9 | simp only [go_sem, s9, lA9, mA9]) s18 s19 s27 s28 Q8 Qc Qf Q0 Qh Q2 Qi Q1 Qa Q15 Qm Qg Q3 Q4 Q5 Qn Qs Qb Qd Qe Qy Q13 Q6 Q7 Qj Qp Q9 Qk Qr Ql Qq Q14 fr fx Qo Qt Qv Qw Qu Q1b hm2
    ·rw [b1a hc49] at hm2
     simp only [b17, b2b, b2a, b19, b0m, b0n, Nat.reduceEqDiff, nF9]
     obtain rfl := sI9 hm2
     obtain rfl := hb47 _ rfl
     try dsimp only at hm1
     exact J9 b_7_0 b_7_3 v1_1 v5_1 i7 i7_1 i7_2 v7 _ _ s1 s2 s5 s6 s7 s18 s19 Q8 Qc Qf Q0 Qh Q2 Qi Q1 Qa Qg Q3 Q4 Q5 Qn Qb Qd Qe Qy Q6 Q7 Qj Q9 Qk Ql fr fx Qo Qt Qv Qw Qu hm1
  ·rw [b1a hc5] at hm1
   simp only [b17, b2b, b2a, b19, b0m, b0n, Nat.reduceEqDiff, nF9]
   obtain rfl := sI9 hm1
   obtain rfl := hb3 _ rfl
   try dsimp only at hm0
   exact J2 all_5 v5 _ _ s5 Qc fr fx Qo hm0
theorem d0r (hf : Has O "newel/halls.brought" x_halls_brought) : c7s O := by
 intro h_ comb from_ to_ r hm0
 unfold b8v at hm0
 refine b2n hf rfl (b0e (.agg _ (b0e (b0y fun a _ => b2p a) (b0e (b0y fun a _ => b2o a) (b0e (b0y fun a _ => b2r a) (b0e (b0j _) b02))))) (b0e (b0j _) (b0e (b0j _) (b0e (b0j _) b02)))) (b0j _) ?_
 refine b2g (fun t h => t 0 = .agg [.fs 5 (List.map b0r h_.Combs), .fs 3 (List.map b0o h_.Trains), .fs 3 (List.map b0s h_.Shifts), I h_.Until] ∧ t 1 = I comb ∧ t 2 = I from_ ∧ t 3 = I to_) ⟨rfl, rfl, rfl, rfl⟩ fun t h ⟨s0, s1, s2, s3⟩ => ?_
 simp only [x_halls_brought]
 refine b0f fun K hK => ?_
 simp only [go_sem, s0]
 refine hK _ _ ?_
 clear hK K
 refine b05 ?_
 refine b0f fun K hK => ?_
 simp only [go_sem]
 refine hK _ _ ?_
 clear hK K
 refine b0x fun K1 hK1 => ?_
 have J2 : ∀ (sum_8 : Int) (t : Slots) (h : Heap), t 8 = I sum_8 → c25 sum_8 = some r → K1 t h := by
  intro sum_8 t h s8 hm0
  refine hK1 _ _ ?_
  unfold c25 at hm0
  refine b0f fun K hK => ?_
  simp only [go_sem, s8]
  refine hK _ _ ?_
  clear hK K
  simp only [b1i, b1m, b1l, b1n]
  obtain rfl := sI9 hm0
  exact b1z (by simp only [go_sem, s8, lA9, mA9]) (b0j _)
 simp only [b1e]
 obtain ⟨b3, hl3, hm0⟩ := b0k hm0
 refine b2c hl3 (fun | (sum_8, x_16), t, h => t 1 = I comb ∧ t 2 = I from_ ∧ t 3 = I to_ ∧ t 8 = I sum_8 ∧ t 14 = .fs 3 (List.map b0o h_.Trains) ∧ t 15 = I (List.length h_.Trains : Int) ∧ t 16 = I x_16) ?_ ?_
 ·exact ⟨s1, s2, s3, (by first | (simp only [go_sem, lA9, mA9]; done) | rfl), (by first | (simp only [go_sem, lA9, mA9]; done) | rfl), (by first | (simp only [go_sem, lA9, mA9]; done) | rfl), (by first | (simp only [go_sem, lA9, mA9]; done) | rfl)⟩
 ·rintro ⟨sum_8, x_16⟩ o t h ⟨s1, s2, s3, s8, s14, s15, s16⟩ hm1 hb3
  simp only [b8x] at hm1
  rw [g0h]
  refine b0f fun K hK => ?_
  simp only [go_sem, s15, s16]
  refine hK _ _ ?_
  clear hK K
  refine b0x fun K4 hK4 => ?_
  simp only [go_sem]
  refine b0w (fun hc5 => ?_) (fun hc5 => ?_)
  ·rw [b1b hc5] at hm1
   simp only [b08, b0m, b0n]
   refine hK4 _ _ ?_
   refine b0x fun K6 hK6 => ?_
   have J7 : ∀ (sum_8_1 : Int) (t : Slots) (h : Heap), t 1 = I comb → t 2 = I from_ → t 3 = I to_ → t 8 = I sum_8_1 → t 14 = .fs 3 (List.map b0o h_.Trains) → t 15 = I (List.length h_.Trains : Int) → t 16 = I x_16 → b7r x_16 sum_8_1 = some o → K6 t h := by
    intro sum_8_1 t h s1 s2 s3 s8 s14 s15 s16 hm1
    refine hK6 _ _ ?_
    unfold b7r at hm1
    refine b1t fun K hK => ?_
    simp only [go_sem, s16]
    refine hK _ _ ?_
    clear hK K
    simp only [b0m, b0n]
    obtain rfl := sI9 hm1
    refine ⟨_, rfl, ?_⟩
    exact ⟨s1, s2, s3, s8, s14, s15, (by first | (simp only [go_sem, s16, lA9, mA9]; done) | rfl)⟩
   simp only [b1e]
   obtain ⟨x9, h_x9, hm1⟩ := b0k hm1
   have h_x90 := b06 h_x9
   have h_x91 := b09 h_x9
   refine b0f fun K hK => ?_
   simp only [go_sem, s14, s16, b0u h_x9, b0v h_x9, h_x90, h_x91]
   refine hK _ _ ?_
   clear hK K
   refine b05 ?_
   refine b2j (fun t h => ∃ i10 : Nat, t 1 = I comb ∧ t 2 = I from_ ∧ t 3 = I to_ ∧ t 8 = I sum_8 ∧ t 10 = .rp i10 0 0 ∧ t 14 = .fs 3 (List.map b0o h_.Trains) ∧ t 15 = I (List.length h_.Trains : Int) ∧ t 16 = I x_16 ∧ t 31 = B ((decide (x9.At.High < from_)) || (decide (to_ < x9.At.Low))) ∧ h.ob i10 = some (3, [[I x9.At.Low, I x9.At.High, .fs 3 (List.map b20 x9.Crowds)]]) ∧ i10 < h.nx) (fun K hK => ?_) ?_
   ·simp only [go_sem, s2, s3]
    refine b0w (fun hg10 => ?_) (fun hg10 => ?_)
    ·simp only [go_sem, s2, s3, hg10]
     exact hK _ _ ⟨h.nx, s1, s2, s3, s8, (by first | (simp only [go_sem, hg10, lA9, mA9]; done) | rfl), s14, s15, s16, (by first | (simp only [go_sem, hg10, lA9, mA9]; done) | rfl), (by simp only [go_sem, hg10, lA9, mA9]), (by simp only [go_sem])⟩
    ·simp only [go_sem, s2, s3, hg10]
     exact hK _ _ ⟨h.nx, s1, s2, s3, s8, (by first | (simp only [go_sem, hg10, lA9, mA9]; done) | rfl), s14, s15, s16, (by first | (simp only [go_sem, hg10, lA9, mA9]; done) | rfl), (by simp only [go_sem, hg10, lA9, mA9]), (by simp only [go_sem])⟩
   ·rintro t h ⟨i10, s1, s2, s3, s8, s10, s14, s15, s16, s31, Q1s, Q1t⟩
    refine b0x fun K11 hK11 => ?_
    simp only [go_sem, s31]
    refine b0w (fun hc12 => ?_) (fun hc12 => ?_)
    ·rw [b1b hc12] at hm1
     simp only [b17, b2b, b2a, b19, b0m, b0n, Nat.reduceEqDiff, nF9]
     exact J7 sum_8 _ _ s1 s2 s3 s8 s14 s15 s16 hm1
    ·rw [b1a hc12] at hm1
     simp only [b08, b0m, b0n]
     refine hK11 _ _ ?_
     refine b0f fun K hK => ?_
     simp only [go_sem, s10, Q1s, Q1t]
     refine hK _ _ ?_
     clear hK K
     simp only [b1e]
     obtain ⟨b13, hl13, hm1⟩ := b0k hm1
     refine b2c hl13 (fun | (sum_8_1, x_35), t, h => t 1 = I comb ∧ t 2 = I from_ ∧ t 3 = I to_ ∧ t 8 = I sum_8_1 ∧ t 14 = .fs 3 (List.map b0o h_.Trains) ∧ t 15 = I (List.length h_.Trains : Int) ∧ t 16 = I x_16 ∧ t 33 = .fs 3 (List.map b20 x9.Crowds) ∧ t 34 = I (List.length x9.Crowds : Int) ∧ t 35 = I x_35) ?_ ?_
     ·exact ⟨s1, s2, s3, s8, s14, s15, s16, (by first | (simp only [go_sem, lA9, mA9]; done) | rfl), (by first | (simp only [go_sem, lA9, mA9]; done) | rfl), (by first | (simp only [go_sem, lA9, mA9]; done) | rfl)⟩
     ·try clear s1 s2 s3 s8 s10 s14 s15 s16 s31 Q1s Q1t
      rintro ⟨sum_8_1, x_35⟩ o t h ⟨s1, s2, s3, s8, s14, s15, s16, s33, s34, s35⟩ hm2 hb13
      simp only [b8w] at hm2
      rw [g0g]
      refine b0f fun K hK => ?_
      simp only [go_sem, s34, s35]
      refine hK _ _ ?_
      clear hK K
      refine b0x fun K14 hK14 => ?_
      simp only [go_sem]
      refine b0w (fun hc15 => ?_) (fun hc15 => ?_)
      ·rw [b1b hc15] at hm2
       simp only [b08, b0m, b0n]
       refine hK14 _ _ ?_
       refine b0x fun K16 hK16 => ?_
       have J17 : ∀ (sum_8_2 : Int) (t : Slots) (h : Heap), t 1 = I comb → t 2 = I from_ → t 3 = I to_ → t 8 = I sum_8_2 → t 14 = .fs 3 (List.map b0o h_.Trains) → t 15 = I (List.length h_.Trains : Int) → t 16 = I x_16 → t 33 = .fs 3 (List.map b20 x9.Crowds) → t 34 = I (List.length x9.Crowds : Int) → t 35 = I x_35 → b7q x_35 sum_8_2 = some o → K16 t h := by
        try clear s1 s2 s3 s8 s14 s15 s16 s33 s34 s35
        intro sum_8_2 t h s1 s2 s3 s8 s14 s15 s16 s33 s34 s35 hm2
        refine hK16 _ _ ?_
        unfold b7q at hm2
        refine b1t fun K hK => ?_
        simp only [go_sem, s35]
        refine hK _ _ ?_
        clear hK K
        simp only [b0m, b0n]
        obtain rfl := sI9 hm2
        refine ⟨_, rfl, ?_⟩
        exact ⟨s1, s2, s3, s8, s14, s15, s16, s33, s34, (by first | (simp only [go_sem, s35, lA9, mA9]; done) | rfl)⟩
       simp only [b1e]
       obtain ⟨x19, h_x19, hm2⟩ := b0k hm2
       have h_x190 := b06 h_x19
       have h_x191 := b09 h_x19
       refine b0f fun K hK => ?_
       simp only [go_sem, s33, s35, b0u h_x19, b0v h_x19, h_x190, h_x191]
       refine hK _ _ ?_
       clear hK K
       refine b0f fun K hK => ?_
       simp only [go_sem, s1]
       refine hK _ _ ?_
       clear hK K
       simp only [go_sem]
       refine b0w (fun hc20 => ?_) (fun hc20 => ?_)
       ·rw [b1b hc20] at hm2
        refine b1t fun K hK => ?_
        simp only [go_sem, s8]
        refine hK _ _ ?_
        clear hK K
        simp only [b0m, b0n]
        exact J17 (wr (sum_8_1 + x19.People.High)) _ _ s1 s2 s3 (by first | (simp only [go_sem, s8, lA9, mA9]; done) | rfl) s14 s15 s16 s33 s34 s35 hm2
       ·rw [b1a hc20] at hm2
        simp only [b08, b0m, b0n]
        exact J17 sum_8_1 _ _ s1 s2 s3 s8 s14 s15 s16 s33 s34 s35 hm2
      ·rw [b1a hc15] at hm2
       simp only [b17, b2b, b2a, b19, b0m, b0n, Nat.reduceEqDiff, nF9]
       obtain rfl := sI9 hm2
       obtain rfl := hb13 _ rfl
       try dsimp only at hm1
       exact J7 sum_8_1 _ _ s1 s2 s3 s8 s14 s15 s16 hm1
  ·rw [b1a hc5] at hm1
   simp only [b17, b2b, b2a, b19, b0m, b0n, Nat.reduceEqDiff, nF9]
   obtain rfl := sI9 hm1
   obtain rfl := hb3 _ rfl
   try dsimp only at hm0
   exact J2 sum_8 _ _ s8 hm0
theorem b86 (hf : Has O "newel/halls.check" x_halls_check) (b85 : c15 O) (d06 : c8a O) (d0s : c7t O) : c16 O := by
 intro h_ comb ticks r hm0
 unfold b5p at hm0
 refine b2n hf rfl (b0e (.agg _ (b0e (b0y fun a _ => b2p a) (b0e (b0y fun a _ => b2o a) (b0e (b0y fun a _ => b2r a) (b0e (b0j _) b02))))) (b0e (b0j _) (b0e (b0y fun a _ => b21 a) b02))) (b0j _) ?_
 refine b2g (fun t h => t 0 = .agg [.fs 5 (List.map b0r h_.Combs), .fs 3 (List.map b0o h_.Trains), .fs 3 (List.map b0s h_.Shifts), I h_.Until] ∧ t 1 = I comb ∧ t 2 = .fs 1 (List.map eI ticks)) ⟨rfl, rfl, rfl⟩ fun t h ⟨s0, s1, s2⟩ => ?_
 simp only [x_halls_check]
 refine b0f fun K hK => ?_
 simp only [go_sem, s0]
 refine hK _ _ ?_
 clear hK K
 refine b05 ?_
 obtain ⟨y2, h_y2, hm0⟩ := b0k hm0
 refine b0f fun K hK => ?_
 simp only [go_sem]
 refine b1p (b85 h_ _ h_y2) ?_
 simp only [go_sem]
 refine hK _ _ ?_
 clear hK K
 refine b05 ?_
 refine b0f fun K hK => ?_
 simp only [go_sem]
 refine hK _ _ ?_
 clear hK K
 refine b0x fun K3 hK3 => ?_
 simp only [go_sem]
 refine b0w (fun hc4 => ?_) (fun hc4 => ?_)
 ·rw [b1b hc4] at hm0
  refine b0f fun K hK => ?_
  simp only [go_sem]
  refine hK _ _ ?_
  clear hK K
  simp only [b1i, b1m, b1l, b1n]
  obtain rfl := sI9 hm0
  exact b1z (by simp only [go_sem, lA9, mA9]) (b0j _)
 ·rw [b1a hc4] at hm0
  simp only [b08, b0m, b0n]
  refine hK3 _ _ ?_
  refine b05 ?_
  obtain ⟨c10, h_c10, hm0⟩ := b0k hm0
  refine b2j (fun t h => t 26 = B c10) (fun K hK => ?_) ?_
  ·simp only [go_sem, s1, s2]
   refine b0w (fun hg11 => ?_) (fun hg11 => ?_)
   ·simp only [hg11, Bool.not_true, Bool.not_false, eq_self, if_true, if_false, Bool.true_or, Bool.or_true, Bool.false_or, Bool.or_false, Bool.true_and, Bool.and_true, Bool.false_and, Bool.and_false, Bool.false_eq_true] at h_c10
    obtain rfl := sI9 h_c10
    simp only [go_sem, s1, s2, hg11]
    exact hK _ _ (by first | (simp only [go_sem, hg11, lA9, mA9]; done) | rfl)
   ·simp only [go_sem, s1, s2, hg11]
    refine b0w (fun hg12 => ?_) (fun hg12 => ?_)
    ·simp only [hg11, hg12, Bool.not_true, Bool.not_false, eq_self, if_true, if_false, Bool.true_or, Bool.or_true, Bool.false_or, Bool.or_false, Bool.true_and, Bool.and_true, Bool.false_and, Bool.and_false, Bool.false_eq_true] at h_c10
     obtain rfl := sI9 h_c10
     simp only [go_sem, s1, s2, hg11, hg12]
     exact hK _ _ (by first | (simp only [go_sem, hg11, hg12, lA9, mA9]; done) | rfl)
    ·simp only [hg11, hg12, Bool.not_true, Bool.not_false, eq_self, if_true, if_false, Bool.true_or, Bool.or_true, Bool.false_or, Bool.or_false, Bool.true_and, Bool.and_true, Bool.false_and, Bool.and_false, Bool.false_eq_true] at h_c10
     obtain ⟨y9, h_y9, h_c10⟩ := b0k h_c10
     obtain rfl := sI9 h_c10
     simp only [go_sem, s1, s2, hg11, hg12]
     refine b1p (d06 ticks "newel/halls.check$1" [] [.fp [.fs 5 (List.map b0r h_.Combs), .fs 3 (List.map b0o h_.Trains), .fs 3 (List.map b0s h_.Shifts), I h_.Until] 0] (fun z8 => some (b6z z8 h_)) (.fn _ _ _ b02 (b0e (.fp _ _ (b0e (b0y fun a _ => b2p a) (b0e (b0y fun a _ => b2o a) (b0e (b0y fun a _ => b2r a) (b0e (b0j _) b02))))) b02)) (fun z0 y hz => by cases hz; exact d0s z0 h_) _ h_y9) ?_
     simp only [go_sem, s1, s2, hg11, hg12]
     exact hK _ _ (by first | (simp only [go_sem, hg11, hg12, lA9, mA9]; done) | rfl)
  ·rintro t h s26
   refine b0x fun K13 hK13 => ?_
   simp only [go_sem, s26]
   refine b0w (fun hc14 => ?_) (fun hc14 => ?_)
   ·rw [b1b hc14] at hm0
    refine b0f fun K hK => ?_
    simp only [go_sem]
    refine hK _ _ ?_
    clear hK K
    simp only [b1i, b1m, b1l, b1n]
    obtain rfl := sI9 hm0
    exact b1z (by simp only [go_sem, lA9, mA9]) (b0j _)
   ·rw [b1a hc14] at hm0
    simp only [b08, b0m, b0n]
    refine hK13 _ _ ?_
    refine b0f fun K hK => ?_
    simp only [go_sem]
    refine hK _ _ ?_
    clear hK K
    simp only [b1i, b1m, b1l, b1n]
    obtain rfl := sI9 hm0
    exact b1z (by simp only [go_sem, lA9, mA9]) (b0j _)
theorem d0s (hf : Has O "newel/halls.check$1" x_halls_checkD1) : c7t O := by
 intro t_ c0
 generalize hm0 : b6z t_ c0 = r
 unfold b6z at hm0
 refine b2n hf rfl (b0e (b0j _) (b0e (.fp _ _ (b0e (b0y fun a _ => b2p a) (b0e (b0y fun a _ => b2o a) (b0e (b0y fun a _ => b2r a) (b0e (b0j _) b02))))) b02)) (b0j _) ?_
 refine b2g (fun t h => t 0 = I t_ ∧ t 1 = .fp [.fs 5 (List.map b0r c0.Combs), .fs 3 (List.map b0o c0.Trains), .fs 3 (List.map b0s c0.Shifts), I c0.Until] 0) ⟨rfl, rfl⟩ fun t h ⟨s0, s1⟩ => ?_
 simp only [x_halls_checkD1]
 refine b0f fun K hK => ?_
 simp only [go_sem]
 refine hK _ _ ?_
 clear hK K
 refine b2j (fun t h => t 3 = B ((decide (t_ < 0)) || (decide (c0.Until ≤ t_)))) (fun K hK => ?_) ?_
 ·simp only [go_sem, s0, s1]
  refine b0w (fun hg1 => ?_) (fun hg1 => ?_)
  ·simp only [go_sem, s0, s1, hg1]
   exact hK _ _ (by first | (simp only [go_sem, hg1, lA9, mA9]; done) | rfl)
  ·simp only [go_sem, s0, s1, hg1]
   exact hK _ _ (by first | (simp only [go_sem, hg1, lA9, mA9]; done) | rfl)
 ·rintro t h s3
  simp only [b1i, b1m, b1l, b1n]
  obtain rfl := hm0
  exact b1z (by simp only [go_sem, s3, lA9, mA9]) (b0j _)
theorem b88 (hf : Has O "newel/halls.in" x_halls_in) : c4k O := by
 intro n s
 generalize hm0 : b4h n s = r
 unfold b4h at hm0
 refine b2n hf rfl (b0e (b0j _) (b0e (.agg _ (b0e (b0j _) (b0e (b0j _) b02))) b02)) (b0j _) ?_
 refine b2g (fun t h => t 0 = I n ∧ t 1 = .agg [I s.Low, I s.High]) ⟨rfl, rfl⟩ fun t h ⟨s0, s1⟩ => ?_
 simp only [x_halls_in]
 refine b0f fun K hK => ?_
 simp only [go_sem, s1]
 refine hK _ _ ?_
 clear hK K
 refine b2j (fun t h => t 4 = B ((decide (s.Low ≤ n)) && (decide (n ≤ s.High)))) (fun K hK => ?_) ?_
 ·simp only [go_sem, s0]
  refine b0w (fun hg1 => ?_) (fun hg1 => ?_)
  ·simp only [go_sem, s0, hg1]
   exact hK _ _ (by first | (simp only [go_sem, hg1, lA9, mA9]; done) | rfl)
  ·simp only [go_sem, s0, hg1]
   exact hK _ _ (by first | (simp only [go_sem, hg1, lA9, mA9]; done) | rfl)
 ·rintro t h s4
  simp only [b1i, b1m, b1l, b1n]
  obtain rfl := hm0
  exact b1z (by simp only [go_sem, s4, lA9, mA9]) (b0j _)
theorem d0t (hf : Has O "newel/halls.isComb" x_halls_isComb) (b88 : c4k O) (b89 : c4m O) : c7u O := by
 intro h_ i r hm0
 unfold b8y at hm0
 refine b2n hf rfl (b0e (.agg _ (b0e (b0y fun a _ => b2p a) (b0e (b0y fun a _ => b2o a) (b0e (b0y fun a _ => b2r a) (b0e (b0j _) b02))))) (b0e (b0j _) b02)) (b0j _) ?_
 refine b2g (fun t h => t 0 = .agg [.fs 5 (List.map b0r h_.Combs), .fs 3 (List.map b0o h_.Trains), .fs 3 (List.map b0s h_.Shifts), I h_.Until] ∧ t 1 = I i) ⟨rfl, rfl⟩ fun t h ⟨s0, s1⟩ => ?_
 simp only [x_halls_isComb]
 refine b0f fun K hK => ?_
 simp only [go_sem, s0]
 refine hK _ _ ?_
 clear hK K
 obtain ⟨x2, h_x2, hm0⟩ := b0k hm0
 have h_x20 := b06 h_x2
 have h_x21 := b09 h_x2
 refine b0f fun K hK => ?_
 simp only [go_sem, s1, b0u h_x2, b0v h_x2, h_x20, h_x21]
 refine hK _ _ ?_
 clear hK K
 refine b2j (fun t h => t 4 = B ((((b4h x2.Rate (Span.mk 0 1000)) && (b4h x2.Limit (Span.mk 0 100000))) && ((decide (x2.Next = (-1))) || ((decide (i < x2.Next)) && (decide (x2.Next < (List.length h_.Combs : Int)))))) && (b4r x2.Walk 1 20))) (fun K hK => ?_) ?_
 ·simp only [go_sem, s1]
  refine b1p (b88 x2.Rate (Span.mk 0 1000)) ?_
  simp only [go_sem, s1]
  refine b0w (fun hg3 => ?_) (fun hg3 => ?_)
  ·simp only [go_sem, s1, hg3]
   refine b1p (b88 x2.Limit (Span.mk 0 100000)) ?_
   simp only [go_sem, s1, hg3]
   refine b0w (fun hg4 => ?_) (fun hg4 => ?_)
   ·simp only [go_sem, s1, hg3, hg4]
    refine b0w (fun hg5 => ?_) (fun hg5 => ?_)
    ·simp only [go_sem, s1, hg3, hg4, hg5]
     refine b1p (b89 x2.Walk 1 20) ?_
     simp only [go_sem, s1, hg3, hg4, hg5]
     exact hK _ _ (by first | (simp only [go_sem, hg3, hg4, hg5, lA9, mA9]; done) | rfl)
    ·simp only [go_sem, s1, hg3, hg4, hg5]
     refine b0w (fun hg6 => ?_) (fun hg6 => ?_)
     ·simp only [go_sem, s1, hg3, hg4, hg5, hg6]
      refine b0w (fun hg7 => ?_) (fun hg7 => ?_)
      ·simp only [go_sem, s1, hg3, hg4, hg5, hg6, hg7]
       refine b1p (b89 x2.Walk 1 20) ?_
       simp only [go_sem, s1, hg3, hg4, hg5, hg6, hg7]
       exact hK _ _ (by first | (simp only [go_sem, hg3, hg4, hg5, hg6, hg7, lA9, mA9]; done) | rfl)
      ·simp only [go_sem, s1, hg3, hg4, hg5, hg6, hg7]
       exact hK _ _ (by first | (simp only [go_sem, hg3, hg4, hg5, hg6, hg7, lA9, mA9]; done) | rfl)
     ·simp only [go_sem, s1, hg3, hg4, hg5, hg6]
      exact hK _ _ (by first | (simp only [go_sem, hg3, hg4, hg5, hg6, lA9, mA9]; done) | rfl)
   ·simp only [go_sem, s1, hg3, hg4]
    exact hK _ _ (by first | (simp only [go_sem, hg3, hg4, lA9, mA9]; done) | rfl)
  ·simp only [go_sem, s1, hg3]
   exact hK _ _ (by first | (simp only [go_sem, hg3, lA9, mA9]; done) | rfl)
 ·rintro t h s4
  simp only [b1i, b1m, b1l, b1n]
  obtain rfl := sI9 hm0
  exact b1z (by simp only [go_sem, s4, lA9, mA9]) (b0j _)
theorem d0u (hf : Has O "newel/halls.isTrain" x_halls_isTrain) (b89 : c4m O) : c7v O := by
 intro h_ t_ r hm0
 unfold b8z at hm0
 refine b2n hf rfl (b0e (.agg _ (b0e (b0y fun a _ => b2p a) (b0e (b0y fun a _ => b2o a) (b0e (b0y fun a _ => b2r a) (b0e (b0j _) b02))))) (b0e (.agg _ (b0e (b0j _) (b0e (b0j _) (b0e (b0y fun a _ => c2x a) b02)))) b02)) (b0j _) ?_
 refine b2g (fun t h => t 0 = .agg [.fs 5 (List.map b0r h_.Combs), .fs 3 (List.map b0o h_.Trains), .fs 3 (List.map b0s h_.Shifts), I h_.Until] ∧ t 1 = .agg [I t_.At.Low, I t_.At.High, .fs 3 (List.map b20 t_.Crowds)]) ⟨rfl, rfl⟩ fun t h ⟨s0, s1⟩ => ?_
 simp only [x_halls_isTrain]
 refine b0f fun K hK => ?_
 simp only [go_sem, s0, s1]
 refine hK _ _ ?_
 clear hK K
 refine b0f fun K hK => ?_
 simp only [go_sem]
 refine hK _ _ ?_
 clear hK K
 refine b05 ?_
 refine b0f fun K hK => ?_
 simp only [go_sem]
 refine hK _ _ ?_
 clear hK K
 refine b0x fun K1 hK1 => ?_
 have J2 : ∀ (t : Slots) (h : Heap), t 2 = .fp [.fs 5 (List.map b0r h_.Combs), .fs 3 (List.map b0o h_.Trains), .fs 3 (List.map b0s h_.Shifts), I h_.Until] 0 → t 3 = .fp [I t_.At.Low, I t_.At.High, .fs 3 (List.map b20 t_.Crowds)] 0 → c0z h_ t_ = some r → K1 t h := by
  intro t h s2 s3 hm0
  refine hK1 _ _ ?_
  unfold c0z at hm0
  refine b2j (fun t h => t 4 = B ((b4r t_.At 0 (wr (h_.Until - 1))) && (decide ((List.length t_.Crowds : Int) ≤ 4)))) (fun K hK => ?_) ?_
  ·simp only [go_sem, s2, s3]
   refine b1p (b89 t_.At 0 (wr (h_.Until - 1))) ?_
   simp only [go_sem, s2, s3]
   refine b0w (fun hg3 => ?_) (fun hg3 => ?_)
   ·simp only [go_sem, s2, s3, hg3]
    exact hK _ _ (by first | (simp only [go_sem, hg3, lA9, mA9]; done) | rfl)
   ·simp only [go_sem, s2, s3, hg3]
    exact hK _ _ (by first | (simp only [go_sem, hg3, lA9, mA9]; done) | rfl)
  ·rintro t h s4
   simp only [b1i, b1m, b1l, b1n]
   obtain rfl := sI9 hm0
   exact b1z (by simp only [go_sem, s4, lA9, mA9]) (b0j _)
 simp only [b1e]
 obtain ⟨b4, hl4, hm0⟩ := b0k hm0
 refine b2c hl4 (fun | (last_5, x_11), t, h => t 2 = .fp [.fs 5 (List.map b0r h_.Combs), .fs 3 (List.map b0o h_.Trains), .fs 3 (List.map b0s h_.Shifts), I h_.Until] 0 ∧ t 3 = .fp [I t_.At.Low, I t_.At.High, .fs 3 (List.map b20 t_.Crowds)] 0 ∧ t 5 = I last_5 ∧ t 9 = .fs 3 (List.map b20 t_.Crowds) ∧ t 10 = I (List.length t_.Crowds : Int) ∧ t 11 = I x_11) ?_ ?_
 ·exact ⟨(by first | (simp only [go_sem, lA9, mA9]; done) | rfl), (by first | (simp only [go_sem, lA9, mA9]; done) | rfl), (by first | (simp only [go_sem, lA9, mA9]; done) | rfl), (by first | (simp only [go_sem, lA9, mA9]; done) | rfl), (by first | (simp only [go_sem, lA9, mA9]; done) | rfl), (by first | (simp only [go_sem, lA9, mA9]; done) | rfl)⟩
 ·rintro ⟨last_5, x_11⟩ o t h ⟨s2, s3, s5, s9, s10, s11⟩ hm1 hb4
  simp only [b6p] at hm1
  rw [g0i]
  refine b0f fun K hK => ?_
  simp only [go_sem, s10, s11]
  refine hK _ _ ?_
  clear hK K
  refine b0x fun K5 hK5 => ?_
  simp only [go_sem]
  refine b0w (fun hc6 => ?_) (fun hc6 => ?_)
  ·rw [b1b hc6] at hm1
   simp only [b08, b0m, b0n]
   refine hK5 _ _ ?_
   refine b0x fun K7 hK7 => ?_
   simp only [b1e]
   obtain ⟨x9, h_x9, hm1⟩ := b0k hm1
   have h_x90 := b06 h_x9
   have h_x91 := b09 h_x9
   refine b0f fun K hK => ?_
   simp only [go_sem, s9, s11, b0u h_x9, b0v h_x9, h_x90, h_x91]
   refine hK _ _ ?_
   clear hK K
   refine b05 ?_
   refine b2j (fun t h => ∃ i7 : Nat, t 2 = .fp [.fs 5 (List.map b0r h_.Combs), .fs 3 (List.map b0o h_.Trains), .fs 3 (List.map b0s h_.Shifts), I h_.Until] 0 ∧ t 3 = .fp [I t_.At.Low, I t_.At.High, .fs 3 (List.map b20 t_.Crowds)] 0 ∧ t 7 = .rp i7 0 0 ∧ t 9 = .fs 3 (List.map b20 t_.Crowds) ∧ t 10 = I (List.length t_.Crowds : Int) ∧ t 11 = I x_11 ∧ t 32 = B (((decide (x9.Comb ≤ last_5)) || (decide ((List.length h_.Combs : Int) ≤ x9.Comb))) || (!(b4r x9.People 0 1000))) ∧ h.ob i7 = some (3, [[I x9.Comb, I x9.People.Low, I x9.People.High]]) ∧ i7 < h.nx) (fun K hK => ?_) ?_
   ·simp only [go_sem, s2, s5]
    refine b0w (fun hg10 => ?_) (fun hg10 => ?_)
    ·simp only [go_sem, s2, s5, hg10]
     exact hK _ _ ⟨h.nx, s2, s3, (by first | (simp only [go_sem, hg10, lA9, mA9]; done) | rfl), s9, s10, s11, (by first | (simp only [go_sem, hg10, lA9, mA9]; done) | rfl), (by simp only [go_sem, hg10, lA9, mA9]), (by simp only [go_sem])⟩
    ·simp only [go_sem, s2, s5, hg10]
     refine b0w (fun hg11 => ?_) (fun hg11 => ?_)
     ·simp only [go_sem, s2, s5, hg10, hg11]
      exact hK _ _ ⟨h.nx, s2, s3, (by first | (simp only [go_sem, hg10, hg11, lA9, mA9]; done) | rfl), s9, s10, s11, (by first | (simp only [go_sem, hg10, hg11, lA9, mA9]; done) | rfl), (by simp only [go_sem, hg10, hg11, lA9, mA9]), (by simp only [go_sem])⟩
     ·simp only [go_sem, s2, s5, hg10, hg11]
      refine b1p (b89 x9.People 0 1000) ?_
      simp only [go_sem, s2, s5, hg10, hg11]
      exact hK _ _ ⟨h.nx, s2, s3, (by first | (simp only [go_sem, hg10, hg11, lA9, mA9]; done) | rfl), s9, s10, s11, (by first | (simp only [go_sem, hg10, hg11, lA9, mA9]; done) | rfl), (by simp only [go_sem, hg10, hg11, lA9, mA9]), (by simp only [go_sem])⟩
   ·rintro t h ⟨i7, s2, s3, s7, s9, s10, s11, s32, Qf, Q0⟩
    refine b0x fun K12 hK12 => ?_
    simp only [go_sem, s32]
    refine b0w (fun hc13 => ?_) (fun hc13 => ?_)
    ·rw [b1b hc13] at hm1
     refine b0f fun K hK => ?_
     simp only [go_sem, Q0]
     refine hK _ _ ?_
     clear hK K
     simp only [b1i, b1m, b1l, b1n]
     obtain rfl := sI9 hm1
     obtain rfl := hb4 _ rfl
     try dsimp only at hm0
     obtain rfl := sI9 hm0
     exact b1z (by simp only [go_sem, Qf, Q0, lA9, mA9]) (b0j _)
    ·rw [b1a hc13] at hm1
     simp only [b08, b0m, b0n]
     refine hK12 _ _ ?_
     refine b1t fun K hK => ?_
     simp only [go_sem, s7, Qf, Q0]
     refine hK _ _ ?_
     clear hK K
     simp only [b0m, b0n]
     refine hK7 _ _ ?_
     refine b1t fun K hK => ?_
     simp only [go_sem, s11, Q0]
     refine hK _ _ ?_
     clear hK K
     simp only [b0m, b0n]
     obtain rfl := sI9 hm1
     refine ⟨_, rfl, ?_⟩
     exact ⟨s2, s3, (by first | (simp only [go_sem, lA9, mA9]; done) | rfl), s9, s10, (by first | (simp only [go_sem, s11, lA9, mA9]; done) | rfl)⟩
  ·rw [b1a hc6] at hm1
   simp only [b17, b2b, b2a, b19, b0m, b0n, Nat.reduceEqDiff, nF9]
   obtain rfl := sI9 hm1
   obtain rfl := hb4 _ rfl
   try dsimp only at hm0
   exact J2  _ _ s2 s3 hm0
theorem b58 (hf : Has O "newel/halls.open" x_halls_open) (d0w : c7x O) : b8b O := by
 intro h_ h0 r hm0
 unfold b42 at hm0
 refine d5k hf rfl ?_
 refine b2g (fun t h => t 0 = .agg [.fs 5 (List.map b0r h_.Combs), .fs 3 (List.map b0o h_.Trains), .fs 3 (List.map b0s h_.Shifts), I h_.Until] ∧ (∀ j, j < h0.nx → h.ob j = h0.ob j) ∧ h0.nx ≤ h.nx) ⟨rfl, fun _ _ => rfl, Nat.le_refl _⟩ fun t h ⟨s0, fr, fx⟩ => ?_
 simp only [x_halls_open]
 refine b0f fun K hK => ?_
 simp only [go_sem, s0]
 refine hK _ _ ?_
 clear hK K
 refine b05 ?_
 refine b0f fun K hK => ?_
 simp only [go_sem]
 refine hK _ _ ?_
 clear hK K
 refine b0x fun K1 hK1 => ?_
 have J2 : ∀ (out_2 : List (List Int)) (v2 : AV) (hs2 : List AV) (t : Slots) (h : Heap), t 2 = v2 → RR h v2 hs2 1 eI out_2 → (∀ j, j < h0.nx → h.ob j = h0.ob j) → h0.nx ≤ h.nx → (∀ j, ¬b0d v2 hs2 j → h0.nx ≤ j) → c27 out_2 = some r → K1 t h := by
  intro out_2 v2 hs2 t h s2 Q1c fr fx Q1k hm0
  refine hK1 _ _ ?_
  unfold c27 at hm0
  refine b0f fun K hK => ?_
  simp only [go_sem, s2, b3j Q1c, b0b v2]
  refine hK _ _ ?_
  clear hK K
  simp only [b1i, b1m, b1l, b1n]
  obtain rfl := sI9 hm0
  exact d85 (Post := fun v h => ∃ hs, RR h v hs 1 eI out_2 ∧ (∀ j, j < h0.nx → h.ob j = h0.ob j) ∧ h0.nx ≤ h.nx ∧ ∀ j, ¬b0d v hs j → h0.nx ≤ j) (v := v2) (by simp only [go_sem, s2, b07 Q1c, lA9, mA9]) ⟨hs2, Q1c, fr, fx, Q1k⟩
 simp only [b1e]
 obtain ⟨b3, hl3, hm0⟩ := b0k hm0
 refine b2c hl3 (fun | (out_2, x_7), t, h => ∃ v2 : AV, ∃ hs2 : List AV, t 1 = .fp [.fs 5 (List.map b0r h_.Combs), .fs 3 (List.map b0o h_.Trains), .fs 3 (List.map b0s h_.Shifts), I h_.Until] 0 ∧ t 2 = v2 ∧ t 6 = I (List.length h_.Combs : Int) ∧ t 7 = I x_7 ∧ RR h v2 hs2 1 eI out_2 ∧ (∀ j, j < h0.nx → h.ob j = h0.ob j) ∧ h0.nx ≤ h.nx ∧ (∀ j, ¬b0d v2 hs2 j → h0.nx ≤ j)) ?_ ?_
 ·exact ⟨nilS, [], (by first | (simp only [go_sem, lA9, mA9]; done) | rfl), (by first | (simp only [go_sem, lA9, mA9]; done) | rfl), (by first | (simp only [go_sem, lA9, mA9]; done) | rfl), (by first | (simp only [go_sem, lA9, mA9]; done) | rfl), j7k, fr, fx, (fun _ hj => absurd j63 hj)⟩
 ·rintro ⟨out_2, x_7⟩ o t h ⟨v2, hs2, s1, s2, s6, s7, Q1c, fr, fx, Q1k⟩ hm1 hb3
  simp only [b80] at hm1
  rw [g0j]
  refine b0f fun K hK => ?_
  simp only [go_sem, s6, s7, b0b v2]
  refine hK _ _ ?_
  clear hK K
  refine b0x fun K4 hK4 => ?_
  simp only [go_sem]
  refine b0w (fun hc5 => ?_) (fun hc5 => ?_)
  ·rw [b1b hc5] at hm1
   simp only [b08, b0m, b0n]
   refine hK4 _ _ ?_
   refine b0x fun K6 hK6 => ?_
   simp only [b1e]
   refine b0f fun K hK => ?_
   simp only [go_sem, s7, b0b v2]
   refine hK _ _ ?_
   clear hK K
   obtain ⟨y9, h_y9, hm1⟩ := b0k hm1
   obtain ⟨l10, h_l10, hm1⟩ := b0k hm1
   refine b2j (fun t h => ∃ v2_1 : AV, ∃ hs2_1 : List AV, t 1 = .fp [.fs 5 (List.map b0r h_.Combs), .fs 3 (List.map b0o h_.Trains), .fs 3 (List.map b0s h_.Shifts), I h_.Until] 0 ∧ t 2 = v2_1 ∧ t 6 = I (List.length h_.Combs : Int) ∧ t 7 = I x_7 ∧ RR h v2_1 hs2_1 1 eI l10 ∧ (∀ j, j < h0.nx → h.ob j = h0.ob j) ∧ h0.nx ≤ h.nx ∧ (∀ j, ¬b0d v2_1 hs2_1 j → h0.nx ≤ j)) (fun K hK => ?_) ?_
   ·simp only [go_sem, s1, s2, b3j Q1c, b0b v2]
    refine g8w (e := eI) (l := y9) ?_ (d0w h_ x_7 _ h_y9) ?_
    ·exact .cons (.refl _ (.agg _ (b0e (b0y fun a _ => b2p a) (b0e (b0y fun a _ => b2o a) (b0e (b0y fun a _ => b2r a) (b0e (b0j _) b02)))))) (.cons (.refl _ (b0j _)) (.nil))
    simp only [go_sem, s1, s2, b3j Q1c, b0b v2]
    refine g72 (f := eI) (sz := 1) (rows := out_2) (hs := hs2) (u := .rs h.nx 0 (List.length y9)) ?_ ?_ ?_ h_l10 ?_
    ·exact (b3i Q1c (by intro j hj  hl; first | rfl | simp only [go_sem, hl]) (by first | omega | exact Nat.le_refl _ | (simp only [go_sem, nxs] <;> omega)))
    ·exact (by simp only [go_sem, b07 Q1c, lA9, mA9])
    ·exact (b2l Q1c (by first | assumption | omega | (simp only [nxs] <;> omega)))
    simp only [go_sem, s1, s2, b3j Q1c, b0b v2]
    exact hK _ _ ⟨(.rs (nxs (nxs h.nx)) 0 (List.length l10)), (hs2 ++ [.rs h.nx 0 (List.length y9)]), s1, (by first | (simp only [go_sem, s2, lA9, mA9]; done) | rfl), s6, s7, (j7i (h := h) Q1c h_l10 (by simp only [go_sem, b07 Q1c, lA9, mA9]) rfl (by simp only [go_sem]) (b3v (by simp only [go_sem, b07 Q1c, lA9, mA9]) (by simp only [go_sem, b07 Q1c, lA9, mA9]) (by simp only [go_sem])) (c0h (by first | assumption | exact b2l Q1c (by first | omega | (simp only [nxs] <;> omega)))) (by first | omega | exact Nat.le_refl _ | (simp only [go_sem, nxs] <;> omega)) (by first | exact b1j | exact b1k (by first | assumption | omega | (simp only [nxs] <;> omega))) (by intro j hj h2 hl; first | rfl | simp only [go_sem, h2, hl]) (by first | omega | exact Nat.le_refl _ | (simp only [go_sem, nxs] <;> omega))), (by intro j hj; first | exact fr j hj | (refine Eq.trans ?_ (fr j hj); first | rfl | simp only [go_sem, Nat.lt_of_lt_of_le hj fx, b0h (g6l Q1k hj)])), (by first | exact fx | omega | (simp only [go_sem, nxs] <;> omega)), (g6k Q1k (by first | assumption | omega | (simp only [nxs] <;> omega)) (c5f (by first | assumption | omega | (simp only [nxs] <;> omega))))⟩
   ·rintro t h ⟨v2_1, hs2_1, s1, s2, s6, s7, Q1c, fr, fx, Q1k⟩
    refine g43 ?_
    refine g42 ?_
    simp only [b08, b0m, b0n]
    refine hK6 _ _ ?_
    refine b1t fun K hK => ?_
    simp only [go_sem, s7, b0b v2, b0b v2_1]
    refine hK _ _ ?_
    clear hK K
    simp only [b0m, b0n]
    obtain rfl := sI9 hm1
    refine ⟨_, rfl, ?_⟩
    exact ⟨v2_1, hs2_1, s1, s2, s6, (by first | (simp only [go_sem, s7, lA9, mA9]; done) | rfl), (b3i Q1c (by intro j hj  hl; first | rfl | simp only [go_sem, hl]) (by first | omega | exact Nat.le_refl _ | (simp only [go_sem, nxs] <;> omega))), (by intro j hj; first | exact fr j hj | (refine Eq.trans ?_ (fr j hj); first | rfl | simp only [go_sem, Nat.lt_of_lt_of_le hj fx])), (by first | exact fx | omega | (simp only [go_sem, nxs] <;> omega)), Q1k⟩
  ·rw [b1a hc5] at hm1
   simp only [b17, b2b, b2a, b19, b0m, b0n, Nat.reduceEqDiff, nF9]
   obtain rfl := sI9 hm1
   obtain rfl := hb3 _ rfl
   try dsimp only at hm0
   exact J2 out_2 v2 hs2 _ _ s2 Q1c fr fx Q1k hm0
theorem c3j (hf : Has O "newel/halls.over" x_halls_over) (c3l : c4o O) (d0v : c7w O) : c4l O := by
 intro h_ all r hm0
 unfold b7s at hm0
 refine b2n hf rfl (b0e (.agg _ (b0e (b0y fun a _ => b2p a) (b0e (b0y fun a _ => b2o a) (b0e (b0y fun a _ => b2r a) (b0e (b0j _) b02))))) (b0e (b0y fun a _ => d3z a) b02)) (b0y fun a _ => b7g a) ?_
 refine b2g (fun t h => t 0 = .agg [.fs 5 (List.map b0r h_.Combs), .fs 3 (List.map b0o h_.Trains), .fs 3 (List.map b0s h_.Shifts), I h_.Until] ∧ t 1 = .fs 1 (List.map b2v all)) ⟨rfl, rfl⟩ fun t h ⟨s0, s1⟩ => ?_
 simp only [x_halls_over]
 refine b0f fun K hK => ?_
 simp only [go_sem, s0]
 refine hK _ _ ?_
 clear hK K
 refine b05 ?_
 refine b0f fun K hK => ?_
 simp only [go_sem, s1]
 refine hK _ _ ?_
 clear hK K
 refine b0x fun K1 hK1 => ?_
 have J2 : ∀ (out_4 : List (Int × Int)) (v4 : AV) (t : Slots) (h : Heap), t 4 = v4 → b0l h v4 2 (List.map b3c out_4) → c3a out_4 = some r → K1 t h := by
  intro out_4 v4 t h s4 Q1g hm0
  refine hK1 _ _ ?_
  unfold c3a at hm0
  refine b0f fun K hK => ?_
  simp only [go_sem, s4, b0b v4]
  refine hK _ _ ?_
  clear hK K
  simp only [b1i, b1m, b1l, b1n]
  obtain rfl := sI9 hm0
  exact c8r (v := v4) (by simp only [go_sem, s4, b0t Q1g, lA9, mA9]) (b5f (f := b3c) (l := out_4) (b1g Q1g (by intro j hj hl; first | rfl | simp only [go_sem, hl]) (by first | omega | exact Nat.le_refl _ | (simp only [go_sem, nxs] <;> omega))) b7g d71)
 simp only [b1e]
 obtain ⟨b3, hl3, hm0⟩ := b0k hm0
 refine b2c hl3 (fun | (out_4, x_10), t, h => ∃ v4 : AV, t 2 = .fp [.fs 5 (List.map b0r h_.Combs), .fs 3 (List.map b0o h_.Trains), .fs 3 (List.map b0s h_.Shifts), I h_.Until] 0 ∧ t 4 = v4 ∧ t 8 = .fs 1 (List.map b2v all) ∧ t 9 = I (List.length all : Int) ∧ t 10 = I x_10 ∧ b0l h v4 2 (List.map b3c out_4)) ?_ ?_
 ·exact ⟨(.v (.slice none 0 0)), (by first | (simp only [go_sem, lA9, mA9]; done) | rfl), (by first | (simp only [go_sem, lA9, mA9]; done) | rfl), (by first | (simp only [go_sem, lA9, mA9]; done) | rfl), (by first | (simp only [go_sem, lA9, mA9]; done) | rfl), (by first | (simp only [go_sem, lA9, mA9]; done) | rfl), b68⟩
 ·rintro ⟨out_4, x_10⟩ o t h ⟨v4, s2, s4, s8, s9, s10, Q1g⟩ hm1 hb3
  simp only [b81] at hm1
  rw [g0k]
  refine b0f fun K hK => ?_
  simp only [go_sem, s9, s10, b0b v4]
  refine hK _ _ ?_
  clear hK K
  refine b0x fun K4 hK4 => ?_
  simp only [go_sem]
  refine b0w (fun hc5 => ?_) (fun hc5 => ?_)
  ·rw [b1b hc5] at hm1
   simp only [b08, b0m, b0n]
   refine hK4 _ _ ?_
   refine b0x fun K6 hK6 => ?_
   have J7 : ∀ (out_4_1 : List (Int × Int)) (v4_1 : AV) (t : Slots) (h : Heap), t 2 = .fp [.fs 5 (List.map b0r h_.Combs), .fs 3 (List.map b0o h_.Trains), .fs 3 (List.map b0s h_.Shifts), I h_.Until] 0 → t 4 = v4_1 → t 8 = .fs 1 (List.map b2v all) → t 9 = I (List.length all : Int) → t 10 = I x_10 → b0l h v4_1 2 (List.map b3c out_4_1) → b7t x_10 out_4_1 = some o → K6 t h := by
    intro out_4_1 v4_1 t h s2 s4 s8 s9 s10 Q1g hm1
    refine hK6 _ _ ?_
    unfold b7t at hm1
    refine b1t fun K hK => ?_
    simp only [go_sem, s10, b0b v4, b0b v4_1]
    refine hK _ _ ?_
    clear hK K
    simp only [b0m, b0n]
    obtain rfl := sI9 hm1
    refine ⟨_, rfl, ?_⟩
    exact ⟨v4_1, s2, s4, s8, s9, (by first | (simp only [go_sem, s10, lA9, mA9]; done) | rfl), Q1g⟩
   simp only [b1e]
   obtain ⟨x9, h_x9, hm1⟩ := b0k hm1
   have h_x90 := b06 h_x9
   have h_x91 := b09 h_x9
   refine b0f fun K hK => ?_
   simp only [go_sem, s8, s10, b0u h_x9, b0v h_x9, h_x90, h_x91, b0b v4]
   refine hK _ _ ?_
   clear hK K
   obtain ⟨y13, h_y13, hm1⟩ := b0k hm1
   refine b0f fun K hK => ?_
   simp only [go_sem, s2, b0b v4]
   refine c5x ?_ (c3l x9.most "newel/halls.over$1" [] [.fp [.fs 5 (List.map b0r h_.Combs), .fs 3 (List.map b0o h_.Trains), .fs 3 (List.map b0s h_.Shifts), I h_.Until] 0, .fp [I x_10] 0] (fun z12 => b60 z12 h_ x_10) (.fn _ _ _ b02 (b0e (.fp _ _ (b0e (b0y fun a _ => b2p a) (b0e (b0y fun a _ => b2o a) (b0e (b0y fun a _ => b2r a) (b0e (b0j _) b02))))) (b0e (.fp _ _ (b0e (b0j _) b02)) b02))) (fun z0 y hz => d0v z0 h_ x_10 y hz) _ h_y13) (.v _) ?_
   ·exact .cons (.refl _ (b0y fun a _ => b21 a)) (.cons (g50 (.nil) (.cons (.refl _ (.fp _ _ (b0e (b0y fun a _ => b2p a) (b0e (b0y fun a _ => b2o a) (b0e (b0y fun a _ => b2r a) (b0e (b0j _) b02)))))) (.cons (d30 (id := h.nx) (sz := 1) (xs := [I x_10]) (by simp only [go_sem, b0t Q1g]) (.cons (.refl _ (b0j _)) (.nil))) (.nil)))) (.nil))
   simp only [go_sem, s2, b0b v4]
   refine hK _ _ ?_
   clear hK K
   refine b0f fun K hK => ?_
   simp only [go_sem, b0b v4]
   refine hK _ _ ?_
   clear hK K
   simp only [go_sem]
   refine b0w (fun hc14 => ?_) (fun hc14 => ?_)
   ·rw [b1b hc14] at hm1
    obtain ⟨l16, h_l16, hm1⟩ := b0k hm1
    refine b1t fun K hK => ?_
    simp only [go_sem, s4, b0b v4]
    refine b55 (f := b3c) (l := out_4) (m := ([(x_10, y13)])) ?_ ?_ ?_ ?_ h_l16 ?_
    ·exact (b1g Q1g (by intro j hj hl; first | rfl | simp only [go_sem, hl]) (by first | omega | exact Nat.le_refl _ | (simp only [go_sem, nxs] <;> omega)))
    ·exact (b6c (by simp only [go_sem, b0t Q1g, lA9, mA9]) (by simp only [go_sem, b0t Q1g, lA9, mA9]))
    ·exact (b24 (by first | exact b1j | exact b1k (by first | omega | (simp only [nxs] <;> omega)) | assumption | exact b01 (by assumption) (by first | omega | (simp only [go_sem, nxs] <;> omega))))
    ·exact (fun _ => by simp)
    simp only [go_sem, s4, b0b v4]
    refine hK _ _ ?_
    clear hK K
    simp only [b0m, b0n]
    exact J7 l16 (.rs (nxs (nxs h.nx)) 0 (List.length l16)) _ _ s2 (by first | (simp only [go_sem, s4, lA9, mA9]; done) | rfl) s8 s9 s10 (b3v (by simp only [go_sem, b0t Q1g, lA9, mA9]) (by first | rfl | simp only [go_sem, lA9, mA9]) (by simp only [go_sem])) hm1
   ·rw [b1a hc14] at hm1
    simp only [b08, b0m, b0n]
    exact J7 out_4 v4 _ _ s2 s4 s8 s9 s10 (b1g Q1g (by intro j hj hl; first | rfl | simp only [go_sem, hl]) (by first | omega | exact Nat.le_refl _ | (simp only [go_sem, nxs] <;> omega))) hm1
  ·rw [b1a hc5] at hm1
   simp only [b17, b2b, b2a, b19, b0m, b0n, Nat.reduceEqDiff, nF9]
   obtain rfl := sI9 hm1
   obtain rfl := hb3 _ rfl
   try dsimp only at hm0
   exact J2 out_4 v4 _ _ s4 Q1g hm0
theorem d0v (hf : Has O "newel/halls.over$1" x_halls_overD1) : c7w O := by
 intro n c0 c1 r hm0
 unfold b60 at hm0
 refine b2n hf rfl (b0e (b0j _) (b0e (.fp _ _ (b0e (b0y fun a _ => b2p a) (b0e (b0y fun a _ => b2o a) (b0e (b0y fun a _ => b2r a) (b0e (b0j _) b02))))) (b0e (.fp _ _ (b0e (b0j _) b02)) b02))) (b0j _) ?_
 refine b2g (fun t h => t 0 = I n ∧ t 1 = .fp [.fs 5 (List.map b0r c0.Combs), .fs 3 (List.map b0o c0.Trains), .fs 3 (List.map b0s c0.Shifts), I c0.Until] 0 ∧ t 2 = .fp [I c1] 0) ⟨rfl, rfl, rfl⟩ fun t h ⟨s0, s1, s2⟩ => ?_
 simp only [x_halls_overD1]
 refine b0f fun K hK => ?_
 simp only [go_sem]
 refine hK _ _ ?_
 clear hK K
 obtain ⟨x2, h_x2, hm0⟩ := b0k hm0
 have h_x20 := b06 h_x2
 have h_x21 := b09 h_x2
 refine b0f fun K hK => ?_
 simp only [go_sem, s0, s1, s2, b0u h_x2, b0v h_x2, h_x20, h_x21]
 refine hK _ _ ?_
 clear hK K
 simp only [b1i, b1m, b1l, b1n]
 obtain rfl := sI9 hm0
 exact b1z (by simp only [go_sem, lA9, mA9]) (b0j _)
theorem d0w (hf : Has O "newel/halls.rates" x_halls_rates) : c7x O := by
 intro h_ comb r hm0
 unfold b82 at hm0
 refine g5u hf rfl (b0e (.agg _ (b0e (b0y fun a _ => b2p a) (b0e (b0y fun a _ => b2o a) (b0e (b0y fun a _ => b2r a) (b0e (b0j _) b02))))) (b0e (b0j _) b02)) (by first | exact d8w | exact d8v) ?_
 refine b2g (fun t h => t 0 = .agg [.fs 5 (List.map b0r h_.Combs), .fs 3 (List.map b0o h_.Trains), .fs 3 (List.map b0s h_.Shifts), I h_.Until] ∧ t 1 = I comb) ⟨rfl, rfl⟩ fun t h ⟨s0, s1⟩ => ?_
 simp only [x_halls_rates]
 refine b0f fun K hK => ?_
 simp only [go_sem, s0]
 refine hK _ _ ?_
 clear hK K
 obtain ⟨l2, h_l2, hm0⟩ := b0k hm0
 refine b0f fun K hK => ?_
 simp only [go_sem]
 refine b7w (f := eI) (z := 0) rfl h_l2 ?_
 simp only [go_sem]
 refine hK _ _ ?_
 clear hK K
 obtain ⟨x4, h_x4, hm0⟩ := b0k hm0
 have h_x40 := b06 h_x4
 have h_x41 := b09 h_x4
 refine b0f fun K hK => ?_
 simp only [go_sem, s1, b0u h_x4, b0v h_x4, h_x40, h_x41]
 refine hK _ _ ?_
 clear hK K
 refine b05 ?_
 refine b0f fun K hK => ?_
 simp only [go_sem]
 refine hK _ _ ?_
 clear hK K
 refine b0x fun K5 hK5 => ?_
 have J6 : ∀ (out_5 : List Int) (i5 : Nat) (t : Slots) (h : Heap), t 5 = .rs i5 0 (List.length out_5) → h.ob i5 = some (1, List.map eI out_5) → i5 < h.nx → c3b out_5 = some r → K5 t h := by
  intro out_5 i5 t h s5 Q17 Qz hm0
  refine hK5 _ _ ?_
  unfold c3b at hm0
  refine b0f fun K hK => ?_
  simp only [go_sem, s5, Q17, Qz]
  refine hK _ _ ?_
  clear hK K
  simp only [b1i, b1m, b1l, b1n]
  obtain rfl := sI9 hm0
  exact g5b (id := i5) (by simp only [go_sem, lA9, mA9]) (by simp only [go_sem, Q17, Qz, lA9, mA9]) (by first | exact d8w | exact d8v)
 simp only [b1e]
 obtain ⟨b7, hl7, hm0⟩ := b0k hm0
 refine b2c hl7 (fun | (out_5, now_6, at_7, x_20), t, h => ∃ i5 : Nat, t 1 = I comb ∧ t 2 = .fp [.fs 5 (List.map b0r h_.Combs), .fs 3 (List.map b0o h_.Trains), .fs 3 (List.map b0s h_.Shifts), I h_.Until] 0 ∧ t 5 = .rs i5 0 (List.length out_5) ∧ t 6 = I now_6 ∧ t 7 = I at_7 ∧ t 19 = I ((List.length l2 : Nat) : Int) ∧ t 20 = I x_20 ∧ h.ob i5 = some (1, List.map eI out_5) ∧ i5 < h.nx) ?_ ?_
 ·exact ⟨h.nx, s1, (by first | (simp only [go_sem, lA9, mA9]; done) | rfl), (by first | (simp only [go_sem, lA9, mA9]; done) | rfl), (by first | (simp only [go_sem, lA9, mA9]; done) | rfl), (by first | (simp only [go_sem, lA9, mA9]; done) | rfl), (by first | (simp only [go_sem, lA9, mA9]; done) | rfl), (by first | (simp only [go_sem, lA9, mA9]; done) | rfl), (by simp only [go_sem, lA9, mA9]), (by simp only [go_sem])⟩
 ·rintro ⟨out_5, now_6, at_7, x_20⟩ o t h ⟨i5, s1, s2, s5, s6, s7, s19, s20, Q17, Qz⟩ hm1 hb7
  simp only [b83] at hm1
  rw [g0m]
  refine b0f fun K hK => ?_
  simp only [go_sem, s19, s20, Qz]
  refine hK _ _ ?_
  clear hK K
  refine b0x fun K8 hK8 => ?_
  simp only [go_sem]
  refine b0w (fun hc9 => ?_) (fun hc9 => ?_)
  ·rw [b1b hc9] at hm1
   simp only [b08, b0m, b0n]
   refine hK8 _ _ ?_
   refine b0x fun K10 hK10 => ?_
   have J11 : ∀ (out_5_1 : List Int) (now_6_1 : Int) (at_7_1 : Int) (t : Slots) (h : Heap), t 1 = I comb → t 2 = .fp [.fs 5 (List.map b0r h_.Combs), .fs 3 (List.map b0o h_.Trains), .fs 3 (List.map b0s h_.Shifts), I h_.Until] 0 → t 5 = .rs i5 0 (List.length out_5_1) → t 6 = I now_6_1 → t 7 = I at_7_1 → t 19 = I ((List.length l2 : Nat) : Int) → t 20 = I x_20 → h.ob i5 = some (1, List.map eI out_5_1) → i5 < h.nx → c00 x_20 out_5_1 now_6_1 at_7_1 = some o → K10 t h := by
    try clear s1 s2 s5 s6 s7 s19 s20 Q17 Qz
    intro out_5_1 now_6_1 at_7_1 t h s1 s2 s5 s6 s7 s19 s20 Q17 Qz hm1
    refine hK10 _ _ ?_
    unfold c00 at hm1
    refine b1t fun K hK => ?_
    simp only [go_sem, s20, Qz]
    refine hK _ _ ?_
    clear hK K
    simp only [b0m, b0n]
    obtain rfl := sI9 hm1
    refine ⟨_, rfl, ?_⟩
    exact ⟨i5, s1, s2, (by first | exact s5 | simp only [go_sem, s5, lA9, mA9]), s6, s7, s19, (by first | (simp only [go_sem, s20, lA9, mA9]; done) | rfl), Q17, Qz⟩
   simp only [b1e]
   refine b0f fun K hK => ?_
   simp only [go_sem, s20, Qz]
   refine hK _ _ ?_
   clear hK K
   refine b0x fun K12 hK12 => ?_
   have J13 : ∀ (now_6_1 : Int) (at_7_1 : Int) (t : Slots) (h : Heap), t 1 = I comb → t 2 = .fp [.fs 5 (List.map b0r h_.Combs), .fs 3 (List.map b0o h_.Trains), .fs 3 (List.map b0s h_.Shifts), I h_.Until] 0 → t 5 = .rs i5 0 (List.length out_5) → t 6 = I now_6_1 → t 7 = I at_7_1 → t 8 = I x_20 → t 19 = I ((List.length l2 : Nat) : Int) → t 20 = I x_20 → h.ob i5 = some (1, List.map eI out_5) → i5 < h.nx → c01 out_5 x_20 now_6_1 at_7_1 = some o → K12 t h := by
    try clear s1 s2 s5 s6 s7 s19 s20 Q17 Qz
    intro now_6_1 at_7_1 t h s1 s2 s5 s6 s7 s8 s19 s20 Q17 Qz hm1
    refine hK12 _ _ ?_
    unfold c01 at hm1
    obtain ⟨x15, h_x15, hm1⟩ := b0k hm1
    have h_x150 := b06 h_x15
    have h_x151 := b09 h_x15
    refine b1t fun K hK => ?_
    simp only [go_sem, s5, s6, s8, Q17, Qz, b0u h_x15, b0v h_x15, h_x150, h_x151]
    refine hK _ _ ?_
    clear hK K
    simp only [b0m, b0n]
    exact J11 (List.set out_5 (Int.toNat x_20) now_6_1) now_6_1 at_7_1 _ _ s1 s2 (by first | exact s5 | simp only [go_sem, s5, lA9, mA9]) s6 s7 s19 s20 (by simp only [go_sem, Q17, Qz, lA9, mA9]) (by simp only [go_sem, Qz]) hm1
   simp only [b1e]
   obtain ⟨b16, hl16, hm1⟩ := b0k hm1
   refine b2c hl16 (fun | (now_6_1, at_7_1), t, h => t 1 = I comb ∧ t 2 = .fp [.fs 5 (List.map b0r h_.Combs), .fs 3 (List.map b0o h_.Trains), .fs 3 (List.map b0s h_.Shifts), I h_.Until] 0 ∧ t 5 = .rs i5 0 (List.length out_5) ∧ t 6 = I now_6_1 ∧ t 7 = I at_7_1 ∧ t 8 = I x_20 ∧ t 19 = I ((List.length l2 : Nat) : Int) ∧ t 20 = I x_20 ∧ h.ob i5 = some (1, List.map eI out_5) ∧ i5 < h.nx) ?_ ?_
   ·exact ⟨s1, s2, (by first | exact s5 | simp only [go_sem, s5, lA9, mA9]), s6, s7, (by first | (simp only [go_sem, lA9, mA9]; done) | rfl), s19, s20, Q17, Qz⟩
   ·try clear s1 s2 s5 s6 s7 s19 s20 Q17 Qz
    rintro ⟨now_6_1, at_7_1⟩ o t h ⟨s1, s2, s5, s6, s7, s8, s19, s20, Q17, Qz⟩ hm2 hb16
    simp only [b7u] at hm2
    rw [g0l]
    refine b05 ?_
    obtain ⟨c20, h_c20, hm2⟩ := b0k hm2
    refine b2j (fun t h => t 1 = I comb ∧ t 2 = .fp [.fs 5 (List.map b0r h_.Combs), .fs 3 (List.map b0o h_.Trains), .fs 3 (List.map b0s h_.Shifts), I h_.Until] 0 ∧ t 5 = .rs i5 0 (List.length out_5) ∧ t 6 = I now_6_1 ∧ t 7 = I at_7_1 ∧ t 8 = I x_20 ∧ t 19 = I ((List.length l2 : Nat) : Int) ∧ t 20 = I x_20 ∧ t 37 = B c20 ∧ h.ob i5 = some (1, List.map eI out_5) ∧ i5 < h.nx) (fun K hK => ?_) ?_
    ·simp only [go_sem, s2, s7, s8, Qz]
     refine b0w (fun hg21 => ?_) (fun hg21 => ?_)
     ·simp only [hg21, Bool.not_true, Bool.not_false, eq_self, if_true, if_false, Bool.true_or, Bool.or_true, Bool.false_or, Bool.or_false, Bool.true_and, Bool.and_true, Bool.false_and, Bool.and_false, Bool.false_eq_true] at h_c20
      obtain ⟨x19, h_x19, h_c20⟩ := b0k h_c20
      have h_x190 := b06 h_x19
      have h_x191 := b09 h_x19
      obtain rfl := sI9 h_c20
      simp only [go_sem, s2, s7, s8, Qz, b0u h_x19, b0v h_x19, h_x190, h_x191, hg21]
      exact hK _ _ ⟨s1, s2, (by first | exact s5 | simp only [go_sem, s5, lA9, mA9]), s6, s7, s8, s19, s20, (by first | (simp only [go_sem, hg21, lA9, mA9]; done) | rfl), Q17, Qz⟩
     ·simp only [hg21, Bool.not_true, Bool.not_false, eq_self, if_true, if_false, Bool.true_or, Bool.or_true, Bool.false_or, Bool.or_false, Bool.true_and, Bool.and_true, Bool.false_and, Bool.and_false, Bool.false_eq_true] at h_c20
      obtain rfl := sI9 h_c20
      simp only [go_sem, s2, s7, s8, Qz, hg21]
      exact hK _ _ ⟨s1, s2, (by first | exact s5 | simp only [go_sem, s5, lA9, mA9]), s6, s7, s8, s19, s20, (by first | (simp only [go_sem, hg21, lA9, mA9]; done) | rfl), Q17, Qz⟩
    ·try clear s1 s2 s5 s6 s7 s8 s19 s20 Q17 Qz
     rintro t h ⟨s1, s2, s5, s6, s7, s8, s19, s20, s37, Q17, Qz⟩
     refine b0x fun K22 hK22 => ?_
     simp only [go_sem, s37]
     refine b0w (fun hc23 => ?_) (fun hc23 => ?_)
     ·rw [b1b hc23] at hm2
      simp only [b08, b0m, b0n]
      refine hK22 _ _ ?_
      refine b0x fun K24 hK24 => ?_
      have J25 : ∀ (now_6_2 : Int) (t : Slots) (h : Heap), t 1 = I comb → t 2 = .fp [.fs 5 (List.map b0r h_.Combs), .fs 3 (List.map b0o h_.Trains), .fs 3 (List.map b0s h_.Shifts), I h_.Until] 0 → t 5 = .rs i5 0 (List.length out_5) → t 6 = I now_6_2 → t 7 = I at_7_1 → t 8 = I x_20 → t 19 = I ((List.length l2 : Nat) : Int) → t 20 = I x_20 → h.ob i5 = some (1, List.map eI out_5) → i5 < h.nx → b84 at_7_1 now_6_2 = some o → K24 t h := by
       try clear s1 s2 s5 s6 s7 s8 s19 s20 s37 Q17 Qz
       intro now_6_2 t h s1 s2 s5 s6 s7 s8 s19 s20 Q17 Qz hm2
       refine hK24 _ _ ?_
       unfold b84 at hm2
       refine b1t fun K hK => ?_
       simp only [go_sem, s7, Qz]
       refine hK _ _ ?_
       clear hK K
       simp only [b0m, b0n]
       obtain rfl := sI9 hm2
       refine ⟨_, rfl, ?_⟩
       exact ⟨s1, s2, (by first | exact s5 | simp only [go_sem, s5, lA9, mA9]), s6, (by first | (simp only [go_sem, s7, lA9, mA9]; done) | rfl), s8, s19, s20, Q17, Qz⟩
      simp only [b1e]
      obtain ⟨x27, h_x27, hm2⟩ := b0k hm2
      have h_x270 := b06 h_x27
      have h_x271 := b09 h_x27
      refine b0f fun K hK => ?_
      simp only [go_sem, s1, s2, s7, Qz, b0u h_x27, b0v h_x27, h_x270, h_x271]
      refine hK _ _ ?_
      clear hK K
      simp only [go_sem]
      refine b0w (fun hc28 => ?_) (fun hc28 => ?_)
      ·rw [b1b hc28] at hm2
       refine b1t fun K hK => ?_
       simp only [go_sem, s2, s7, Qz, b0u h_x27, b0v h_x27, h_x270, h_x271]
       refine hK _ _ ?_
       clear hK K
       simp only [b0m, b0n]
       exact J25 x27.Rate _ _ s1 s2 (by first | exact s5 | simp only [go_sem, s5, lA9, mA9]) (by first | (simp only [go_sem, s6, lA9, mA9]; done) | rfl) s7 s8 s19 s20 Q17 Qz hm2
      ·rw [b1a hc28] at hm2
       simp only [b08, b0m, b0n]
       exact J25 now_6_1 _ _ s1 s2 (by first | exact s5 | simp only [go_sem, s5, lA9, mA9]) s6 s7 s8 s19 s20 Q17 Qz hm2
     ·rw [b1a hc23] at hm2
      simp only [b17, b2b, b2a, b19, b0m, b0n, Nat.reduceEqDiff, nF9]
      obtain rfl := sI9 hm2
      obtain rfl := hb16 _ rfl
      try dsimp only at hm1
      exact J13 now_6_1 at_7_1 _ _ s1 s2 (by first | exact s5 | simp only [go_sem, s5, lA9, mA9]) s6 s7 s8 s19 s20 Q17 Qz hm1
  ·rw [b1a hc9] at hm1
   simp only [b17, b2b, b2a, b19, b0m, b0n, Nat.reduceEqDiff, nF9]
   obtain rfl := sI9 hm1
   obtain rfl := hb7 _ rfl
   try dsimp only at hm0
   exact J6 out_5 i5 _ _ (by first | exact s5 | simp only [go_sem, s5, lA9, mA9]) Q17 Qz hm0
theorem b89 (hf : Has O "newel/halls.span" x_halls_span) : c4m O := by
 intro s low high
 generalize hm0 : b4r s low high = r
 unfold b4r at hm0
 refine b2n hf rfl (b0e (.agg _ (b0e (b0j _) (b0e (b0j _) b02))) (b0e (b0j _) (b0e (b0j _) b02))) (b0j _) ?_
 refine b2g (fun t h => t 0 = .agg [I s.Low, I s.High] ∧ t 1 = I low ∧ t 2 = I high) ⟨rfl, rfl, rfl⟩ fun t h ⟨s0, s1, s2⟩ => ?_
 simp only [x_halls_span]
 refine b0f fun K hK => ?_
 simp only [go_sem, s0]
 refine hK _ _ ?_
 clear hK K
 refine b2j (fun t h => t 6 = B (((decide (low ≤ s.Low)) && (decide (s.Low ≤ s.High))) && (decide (s.High ≤ high)))) (fun K hK => ?_) ?_
 ·simp only [go_sem, s1, s2]
  refine b0w (fun hg1 => ?_) (fun hg1 => ?_)
  ·simp only [go_sem, s1, s2, hg1]
   refine b0w (fun hg2 => ?_) (fun hg2 => ?_)
   ·simp only [go_sem, s1, s2, hg1, hg2]
    exact hK _ _ (by first | (simp only [go_sem, hg1, hg2, lA9, mA9]; done) | rfl)
   ·simp only [go_sem, s1, s2, hg1, hg2]
    exact hK _ _ (by first | (simp only [go_sem, hg1, hg2, lA9, mA9]; done) | rfl)
  ·simp only [go_sem, s1, s2, hg1]
   exact hK _ _ (by first | (simp only [go_sem, hg1, lA9, mA9]; done) | rfl)
 ·rintro t h s6
  simp only [b1i, b1m, b1l, b1n]
  obtain rfl := hm0
  exact b1z (by simp only [go_sem, s6, lA9, mA9]) (b0j _)
theorem c56 (hf : Has O "newel/newellaw06.Example" x_l06_Example) : c7y O := by
 intro _
 generalize hm0 : l06_Example = r
 unfold l06_Example at hm0
 refine b2n hf rfl b02 (.agg _ (b0e (b0y fun a _ => b2p a) (b0e (b0y fun a _ => b2o a) (b0e (b0y fun a _ => b2r a) (b0e (b0j _) b02))))) ?_
 refine b2g (fun t h => True) trivial fun t h _ => ?_
 simp only [x_l06_Example]
 refine b0f fun K hK => ?_
 simp only [go_sem]
 refine hK _ _ ?_
 clear hK K
 refine b0f fun K hK => ?_
 simp only [go_sem]
 refine hK _ _ ?_
 clear hK K
 simp only [b1i, b1m, b1l, b1n]
 obtain rfl := hm0
 exact d3p (id := h.nx) (m := 4) (cs := [.rs (nxs h.nx) 0 (2), .rs (nxs (nxs (nxs (nxs h.nx)))) 0 2, .v (.slice none 0 0), I 20]) (by simp only [go_sem, lA9, mA9]) (by simp only [go_sem, lA9, mA9]) rfl (c80 (.cons (b6x (f := b0r) (l := ([(Comb.mk 3 12 1 (Span.mk 2 3)), (Comb.mk 2 10 (-1) (Span.mk 1 1))])) (id := (nxs h.nx)) (by simp only [go_sem, lA9, mA9]) (by first | rfl | simp only [go_sem, lA9, mA9]) b2p j05) (.cons (g51 (id := (nxs (nxs (nxs (nxs h.nx))))) (sz := 3) (rows := [[I 2, I 4, .rs (nxs (nxs h.nx)) 0 (1)], [I 5, I 5, .rs (nxs (nxs (nxs h.nx))) 0 (2)]]) (by simp only [go_sem]) rfl (.cons (.cons (.refl _ (b0j _)) (.cons (.refl _ (b0j _)) (.cons (b6x (f := b20) (l := ([(Crowd.mk 0 (Span.mk 6 10))])) (id := (nxs (nxs h.nx))) (by simp only [go_sem, lA9, mA9]) (by first | rfl | simp only [go_sem, lA9, mA9]) c2x d72) (.nil)))) (.cons (.cons (.refl _ (b0j _)) (.cons (.refl _ (b0j _)) (.cons (b6x (f := b20) (l := ([(Crowd.mk 0 (Span.mk 0 4)), (Crowd.mk 1 (Span.mk 3 3))])) (id := (nxs (nxs (nxs h.nx)))) (by simp only [go_sem, lA9, mA9]) (by first | rfl | simp only [go_sem, lA9, mA9]) c2x d72) (.nil)))) (.nil))) (by intro d hd; obtain ⟨x, _, rfl⟩ := List.mem_map.1 hd; exact j07 x)) (.cons (.nil _) (.cons (.refl _ (b0j _)) (.nil))))))
theorem d00 (hf : Has O "newel/newelref06.Most" x_r06_Most) (b63 : b91 O) (c3k : c4n O) (b62 : b90 O) : c73 O := by
 intro h_ c r hm0
 unfold b9l at hm0
 refine b2n hf rfl (b0e (.agg _ (b0e (b0y fun a _ => b2p a) (b0e (b0y fun a _ => b2o a) (b0e (b0y fun a _ => b2r a) (b0e (b0j _) b02))))) (b0e (b0j _) b02)) (.tup _ (b0e (b0y fun a _ => b21 a) (b0e (b0j _) b02))) ?_
 refine b2g (fun t h => t 0 = .agg [.fs 5 (List.map b0r h_.Combs), .fs 3 (List.map b0o h_.Trains), .fs 3 (List.map b0s h_.Shifts), I h_.Until] ∧ t 1 = I c) ⟨rfl, rfl⟩ fun t h ⟨s0, s1⟩ => ?_
 simp only [x_r06_Most]
 refine b0f fun K hK => ?_
 simp only [go_sem, s0]
 refine hK _ _ ?_
 clear hK K
 refine b05 ?_
 obtain ⟨y2, h_y2, hm0⟩ := b0k hm0
 refine b0f fun K hK => ?_
 simp only [go_sem]
 refine b1p (b63 h_ _ h_y2) ?_
 simp only [go_sem]
 refine hK _ _ ?_
 clear hK K
 refine b0x fun K3 hK3 => ?_
 simp only [go_sem]
 refine b0w (fun hc4 => ?_) (fun hc4 => ?_)
 ·rw [b1b hc4] at hm0
  refine b0f fun K hK => ?_
  simp only [go_sem]
  refine hK _ _ ?_
  clear hK K
  simp only [b1i, b1m, b1l, b1n]
  obtain rfl := sI9 hm0
  exact c2r (v := .v (.slice none 0 0)) (u := I 60) (by simp only [go_sem, lA9, mA9]) (by simp only [go_sem, lA9, mA9]) (.nil _) (.refl _ (b0j _))
 ·rw [b1a hc4] at hm0
  simp only [b08, b0m, b0n]
  refine hK3 _ _ ?_
  refine b05 ?_
  refine b0f fun K hK => ?_
  simp only [go_sem, s1]
  refine b1p (c3k h_ c) ?_
  simp only [go_sem, s1]
  refine hK _ _ ?_
  clear hK K
  refine b0x fun K5 hK5 => ?_
  simp only [go_sem]
  refine b0w (fun hc6 => ?_) (fun hc6 => ?_)
  ·rw [b1b hc6] at hm0
   refine b0f fun K hK => ?_
   simp only [go_sem]
   refine hK _ _ ?_
   clear hK K
   simp only [b1i, b1m, b1l, b1n]
   obtain rfl := sI9 hm0
   exact c2r (v := .v (.slice none 0 0)) (u := I 1) (by simp only [go_sem, lA9, mA9]) (by simp only [go_sem, lA9, mA9]) (.nil _) (.refl _ (b0j _))
  ·rw [b1a hc6] at hm0
   simp only [b08, b0m, b0n]
   refine hK5 _ _ ?_
   obtain ⟨y9, h_y9, hm0⟩ := b0k hm0
   obtain ⟨x10, h_x10, hm0⟩ := b0k hm0
   have h_x100 := b06 h_x10
   have h_x101 := b09 h_x10
   refine b0f fun K hK => ?_
   simp only [go_sem, s1, b0u h_x10, b0v h_x10, h_x100, h_x101]
   refine b1p (b62 h_ _ h_y9) ?_
   simp only [go_sem, s1, b0u h_x10, b0v h_x10, h_x100, h_x101]
   refine hK _ _ ?_
   clear hK K
   simp only [b1i, b1m, b1l, b1n]
   obtain rfl := sI9 hm0
   exact b33 (by simp only [go_sem, lA9, mA9]) (by simp only [go_sem, lA9, mA9]) (b0y fun a _ => b21 a) (b0j _)
end Go.Nw.HM
