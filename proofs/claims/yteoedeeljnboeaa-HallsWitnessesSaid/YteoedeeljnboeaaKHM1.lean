/- That the texts make what their models say: printed by a program. -/
import Derived.Test.YteoedeeljnboeaaHM
set_option linter.all false
set_option linter.unusedVariables false
set_option linter.unusedSimpArgs false
set_option linter.unusedSectionVars false
namespace Go.Nw.HM
open Go.Nw.Halls
set_option linter.unusedSimpArgs false
set_option linter.unusedVariables false
set_option maxHeartbeats 4000000
variable {O : Orac}
theorem d0s (hf : Has O "(*newel/halls.bound).passes" x___halls_bound__passes) : c7q O := by
 intro b from_ to_ r hm0
 unfold b8c at hm0
 refine b2q hf rfl (b0f (.fp _ _ (b0f (b01 fun a _ => b2r a) (b0f (b01 fun a _ => b2r a) (b0f (b01 fun a _ => b2r a) (b0f (b01 fun a _ => b21 a) b06))))) (b0f (b0o _) (b0f (b0o _) b06))) (b0o _) ?_
 refine b2k (fun t h => t 0 = .fp [.fs 1 (List.map eI b.rates), .fs 1 (List.map eI b.flow), .fs 1 (List.map eI b.most), .fs 1 (List.map b0s b.come)] 0 ∧ t 1 = I from_ ∧ t 2 = I to_) ⟨rfl, rfl, rfl⟩ fun t h ⟨s0, s1, s2⟩ => ?_
 simp only [x___halls_bound__passes]
 refine b0e fun K hK => ?_
 simp only [go_sem]
 refine hK _ _ ?_
 clear hK K
 refine b09 ?_
 refine b2p (fun t h => t 0 = .fp [.fs 1 (List.map eI b.rates), .fs 1 (List.map eI b.flow), .fs 1 (List.map eI b.most), .fs 1 (List.map b0s b.come)] 0 ∧ t 1 = I from_ ∧ t 2 = I to_ ∧ t 16 = B ((decide (to_ < from_)) || (decide (to_ < 0)))) (fun K hK => ?_) ?_
 ·simp only [go_sem, s1, s2]
  refine b0x (fun hg1 => ?_) (fun hg1 => ?_)
  ·simp only [go_sem, s1, s2, hg1]
   exact hK _ _ ⟨s0, s1, s2, (by first | (simp only [go_sem, hg1, lA9, mA9]; done) | rfl)⟩
  ·simp only [go_sem, s1, s2, hg1]
   exact hK _ _ ⟨s0, s1, s2, (by first | (simp only [go_sem, hg1, lA9, mA9]; done) | rfl)⟩
 ·rintro t h ⟨s0, s1, s2, s16⟩
  refine b0w fun K2 hK2 => ?_
  simp only [go_sem, s16]
  refine b0x (fun hc3 => ?_) (fun hc3 => ?_)
  ·rw [b1e hc3] at hm0
   refine b0e fun K hK => ?_
   simp only [go_sem]
   refine hK _ _ ?_
   clear hK K
   simp only [b1l, b1n, b1m, b1o]
   obtain rfl := sI9 hm0
   exact b1v (by simp only [go_sem, lA9, mA9]) (b0o _)
  ·rw [b1d hc3] at hm0
   simp only [b1b, b0m, b0n]
   refine hK2 _ _ ?_
   refine b0e fun K hK => ?_
   simp only [go_sem, s1]
   refine hK _ _ ?_
   clear hK K
   obtain ⟨x8, h_x8, hm0⟩ := b0l hm0
   have h_x80 := b07 h_x8
   have h_x81 := b1a h_x8
   obtain ⟨x9, h_x9, hm0⟩ := b0l hm0
   have h_x90 := b07 h_x9
   have h_x91 := b1a h_x9
   obtain ⟨x10, h_x10, hm0⟩ := b0l hm0
   have h_x100 := b07 h_x10
   have h_x101 := b1a h_x10
   obtain ⟨x11, h_x11, hm0⟩ := b0l hm0
   have h_x110 := b07 h_x11
   have h_x111 := b1a h_x11
   refine b0e fun K hK => ?_
   simp only [go_sem, s0, s1, s2, b0y h_x8, b0z h_x8, h_x80, h_x81, b0y h_x9, b0z h_x9, h_x90, h_x91, b0y h_x10, b0z h_x10, h_x100, h_x101, b0y h_x11, b0z h_x11, h_x110, h_x111]
   refine hK _ _ ?_
   clear hK K
   refine b09 ?_
   refine b0e fun K hK => ?_
   simp only [go_sem, s1]
   refine hK _ _ ?_
   clear hK K
   refine b0w fun K12 hK12 => ?_
   have J13 : ∀ (least_7 : Int) (t : Slots) (h : Heap), t 7 = I least_7 → b9t least_7 = some r → K12 t h := by
    intro least_7 t h s7 hm0
    refine hK12 _ _ ?_
    unfold b9t at hm0
    refine b0e fun K hK => ?_
    simp only [go_sem, s7]
    refine hK _ _ ?_
    clear hK K
    simp only [b1l, b1n, b1m, b1o]
    obtain rfl := sI9 hm0
    exact b1v (by simp only [go_sem, lA9, mA9]) (b0o _)
   simp only [b1f]
   obtain ⟨b14, hl14, hm0⟩ := b0l hm0
   refine b19 hl14 (fun | (least_7, k_8), t, h => t 0 = .fp [.fs 1 (List.map eI b.rates), .fs 1 (List.map eI b.flow), .fs 1 (List.map eI b.most), .fs 1 (List.map b0s b.come)] 0 ∧ t 1 = I (mx from_ 0) ∧ t 2 = I to_ ∧ t 7 = I least_7 ∧ t 8 = I k_8) ?_ ?_
   ·exact ⟨s0, (by first | (simp only [go_sem, s1, lA9, mA9]; done) | rfl), s2, (by first | (simp only [go_sem, lA9, mA9]; done) | rfl), (by first | (simp only [go_sem, lA9, mA9]; done) | rfl)⟩
   ·rintro ⟨least_7, k_8⟩ o t h ⟨s0, s1, s2, s7, s8⟩ hm1 hb14
    simp only [b8d] at hm1
    rw [g0h]
    refine b09 ?_
    refine b0e fun K hK => ?_
    simp only [go_sem, s2, s8]
    refine hK _ _ ?_
    clear hK K
    refine b0w fun K15 hK15 => ?_
    simp only [go_sem]
    refine b0x (fun hc16 => ?_) (fun hc16 => ?_)
    ·rw [b1e hc16] at hm1
     simp only [b1b, b0m, b0n]
     refine hK15 _ _ ?_
     refine b0w fun K17 hK17 => ?_
     simp only [b1f]
     refine b0e fun K hK => ?_
     simp only [go_sem]
     refine hK _ _ ?_
     clear hK K
     refine b09 ?_
     refine b0e fun K hK => ?_
     simp only [go_sem, s2, s8]
     refine hK _ _ ?_
     clear hK K
     refine b0w fun K18 hK18 => ?_
     have J19 : ∀ (behind_9 : Int) (t : Slots) (h : Heap), t 0 = .fp [.fs 1 (List.map eI b.rates), .fs 1 (List.map eI b.flow), .fs 1 (List.map eI b.most), .fs 1 (List.map b0s b.come)] 0 → t 1 = I (mx from_ 0) → t 2 = I to_ → t 7 = I least_7 → t 8 = I k_8 → t 9 = I behind_9 → b69 b from_ least_7 k_8 behind_9 = some o → K18 t h := by
      intro behind_9 t h s0 s1 s2 s7 s8 s9 hm1
      refine hK18 _ _ ?_
      unfold b69 at hm1
      obtain ⟨x23, h_x23, hm1⟩ := b0l hm1
      have h_x230 := b07 h_x23
      have h_x231 := b1a h_x23
      obtain ⟨x24, h_x24, hm1⟩ := b0l hm1
      have h_x240 := b07 h_x24
      have h_x241 := b1a h_x24
      obtain ⟨x25, h_x25, hm1⟩ := b0l hm1
      have h_x250 := b07 h_x25
      have h_x251 := b1a h_x25
      refine b1p fun K hK => ?_
      simp only [go_sem, s0, s1, s7, s8, s9, b0y h_x23, b0z h_x23, h_x230, h_x231, b0y h_x24, b0z h_x24, h_x240, h_x241, b0y h_x25, b0z h_x25, h_x250, h_x251]
      refine hK _ _ ?_
      clear hK K
      simp only [b0m, b0n]
      refine hK17 _ _ ?_
      refine b1p fun K hK => ?_
      simp only [go_sem, s8]
      refine hK _ _ ?_
      clear hK K
      simp only [b0m, b0n]
      obtain rfl := sI9 hm1
      refine ⟨_, rfl, ?_⟩
      exact ⟨s0, s1, s2, (by first | (simp only [go_sem, s7, lA9, mA9]; done) | rfl), (by first | (simp only [go_sem, s8, lA9, mA9]; done) | rfl)⟩
     simp only [go_sem]
     refine b0x (fun hc26 => ?_) (fun hc26 => ?_)
     ·rw [b1e hc26] at hm1
      obtain ⟨x29, h_x29, hm1⟩ := b0l hm1
      have h_x290 := b07 h_x29
      have h_x291 := b1a h_x29
      obtain ⟨x30, h_x30, hm1⟩ := b0l hm1
      have h_x300 := b07 h_x30
      have h_x301 := b1a h_x30
      refine b1p fun K hK => ?_
      simp only [go_sem, s0, s2, s8, b0y h_x29, b0z h_x29, h_x290, h_x291, b0y h_x30, b0z h_x30, h_x300, h_x301]
      refine hK _ _ ?_
      clear hK K
      simp only [b0m, b0n]
      exact J19 x30 _ _ s0 s1 s2 s7 s8 (by first | (simp only [go_sem, lA9, mA9]; done) | rfl) hm1
     ·rw [b1d hc26] at hm1
      simp only [b1b, b0m, b0n]
      exact J19 0 _ _ s0 s1 s2 s7 s8 (by first | (simp only [go_sem, lA9, mA9]; done) | rfl) hm1
    ·rw [b1d hc16] at hm1
     simp only [b1y, b11, b10, b1z, b0m, b0n, Nat.reduceEqDiff, nF9]
     obtain rfl := sI9 hm1
     obtain rfl := hb14 _ rfl
     try dsimp only at hm0
     exact J13 least_7 _ _ s7 hm0
theorem d0t (hf : Has O "(newel/newelref06.Bounds).pass" x__r06_Bounds__pass) : c7r O := by
 intro b c from_ to_ r hm0
 unfold b9u at hm0
 refine b2q hf rfl (b0f (.agg _ (b0f (b01 fun a _ => b21 a) (b0f (b01 fun a _ => b21 a) (b0f (b01 fun a _ => b7h a) (b0f (b01 fun a _ => b7h a) b06))))) (b0f (b0o _) (b0f (b0o _) (b0f (b0o _) b06)))) (b0o _) ?_
 refine b2k (fun t h => t 0 = .agg [.fs 1 (List.map b0s b.Most), .fs 1 (List.map b0s b.Flow), .fs 1 (List.map b1c b.Come), .fs 1 (List.map b1c b.Pass)] ∧ t 1 = I c ∧ t 2 = I from_ ∧ t 3 = I to_) ⟨rfl, rfl, rfl, rfl⟩ fun t h ⟨s0, s1, s2, s3⟩ => ?_
 simp only [x__r06_Bounds__pass]
 refine b0e fun K hK => ?_
 simp only [go_sem, s0]
 refine hK _ _ ?_
 clear hK K
 refine b0e fun K hK => ?_
 simp only [go_sem, s2]
 refine hK _ _ ?_
 clear hK K
 refine b09 ?_
 refine b0e fun K hK => ?_
 simp only [go_sem, s2, s3]
 refine hK _ _ ?_
 clear hK K
 refine b0w fun K1 hK1 => ?_
 simp only [go_sem]
 refine b0x (fun hc2 => ?_) (fun hc2 => ?_)
 ·rw [b1e hc2] at hm0
  refine b0e fun K hK => ?_
  simp only [go_sem]
  refine hK _ _ ?_
  clear hK K
  simp only [b1l, b1n, b1m, b1o]
  obtain rfl := sI9 hm0
  exact b1v (by simp only [go_sem, lA9, mA9]) (b0o _)
 ·rw [b1d hc2] at hm0
  simp only [b1b, b0m, b0n]
  refine hK1 _ _ ?_
  obtain ⟨x6, h_x6, hm0⟩ := b0l hm0
  have h_x60 := b07 h_x6
  have h_x61 := b1a h_x6
  obtain ⟨x7, h_x7, hm0⟩ := b0l hm0
  have h_x70 := b07 h_x7
  have h_x71 := b1a h_x7
  obtain ⟨x8, h_x8, hm0⟩ := b0l hm0
  have h_x80 := b07 h_x8
  have h_x81 := b1a h_x8
  refine b0e fun K hK => ?_
  simp only [go_sem, s1, s2, s3, b0y h_x6, b0z h_x6, h_x60, h_x61, b0y h_x7, b0z h_x7, h_x70, h_x71, b0y h_x8, b0z h_x8, h_x80, h_x81]
  refine hK _ _ ?_
  clear hK K
  simp only [b1l, b1n, b1m, b1o]
  obtain rfl := sI9 hm0
  exact b1v (by simp only [go_sem, lA9, mA9]) (b0o _)
theorem c3h (hf : Has O "newel/halls.Check" x_halls_Check) (d01 : c7z O) (d1d : c8f O) (d0u : c7s O) (b84 : c4p O) : c4n O := by
 intro h_ r hm0
 unfold b46 at hm0
 refine b2q hf rfl (b0f (.agg _ (b0f (b01 fun a _ => b20 a) (b0f (b01 fun a _ => b24 a) (b0f (b01 fun a _ => b28 a) (b0f (b0o _) b06))))) b06) (b0o _) ?_
 refine b2k (fun t h => t 0 = .agg [.fs 5 (List.map b0r h_.Combs), .fs 3 (List.map b0p h_.Trains), .fs 3 (List.map b0u h_.Shifts), I h_.Until]) rfl fun t h s0 => ?_
 simp only [x_halls_Check]
 refine b0e fun K hK => ?_
 simp only [go_sem, s0]
 refine hK _ _ ?_
 clear hK K
 refine b09 ?_
 refine b2p (fun t h => t 1 = .fp [.fs 5 (List.map b0r h_.Combs), .fs 3 (List.map b0p h_.Trains), .fs 3 (List.map b0u h_.Shifts), I h_.Until] 0 ∧ t 37 = B ((((((decide (h_.Until < 1)) || (decide (100 < h_.Until))) || (decide ((List.length h_.Combs : Int) < 1))) || (decide (8 < (List.length h_.Combs : Int)))) || (decide (12 < (List.length h_.Trains : Int)))) || (decide (20 < (List.length h_.Shifts : Int))))) (fun K hK => ?_) ?_
 ·simp only [go_sem]
  refine b0x (fun hg1 => ?_) (fun hg1 => ?_)
  ·simp only [go_sem, hg1]
   exact hK _ _ ⟨(by first | (simp only [go_sem, hg1, lA9, mA9]; done) | rfl), (by first | (simp only [go_sem, hg1, lA9, mA9]; done) | rfl)⟩
  ·simp only [go_sem, hg1]
   refine b0x (fun hg2 => ?_) (fun hg2 => ?_)
   ·simp only [go_sem, hg1, hg2]
    exact hK _ _ ⟨(by first | (simp only [go_sem, hg1, hg2, lA9, mA9]; done) | rfl), (by first | (simp only [go_sem, hg1, hg2, lA9, mA9]; done) | rfl)⟩
   ·simp only [go_sem, hg1, hg2]
    refine b0x (fun hg3 => ?_) (fun hg3 => ?_)
    ·simp only [go_sem, hg1, hg2, hg3]
     exact hK _ _ ⟨(by first | (simp only [go_sem, hg1, hg2, hg3, lA9, mA9]; done) | rfl), (by first | (simp only [go_sem, hg1, hg2, hg3, lA9, mA9]; done) | rfl)⟩
    ·simp only [go_sem, hg1, hg2, hg3]
     refine b0x (fun hg4 => ?_) (fun hg4 => ?_)
     ·simp only [go_sem, hg1, hg2, hg3, hg4]
      exact hK _ _ ⟨(by first | (simp only [go_sem, hg1, hg2, hg3, hg4, lA9, mA9]; done) | rfl), (by first | (simp only [go_sem, hg1, hg2, hg3, hg4, lA9, mA9]; done) | rfl)⟩
     ·simp only [go_sem, hg1, hg2, hg3, hg4]
      refine b0x (fun hg5 => ?_) (fun hg5 => ?_)
      ·simp only [go_sem, hg1, hg2, hg3, hg4, hg5]
       exact hK _ _ ⟨(by first | (simp only [go_sem, hg1, hg2, hg3, hg4, hg5, lA9, mA9]; done) | rfl), (by first | (simp only [go_sem, hg1, hg2, hg3, hg4, hg5, lA9, mA9]; done) | rfl)⟩
      ·simp only [go_sem, hg1, hg2, hg3, hg4, hg5]
       exact hK _ _ ⟨(by first | (simp only [go_sem, hg1, hg2, hg3, hg4, hg5, lA9, mA9]; done) | rfl), (by first | (simp only [go_sem, hg1, hg2, hg3, hg4, hg5, lA9, mA9]; done) | rfl)⟩
 ·rintro t h ⟨s1, s37⟩
  refine b0w fun K6 hK6 => ?_
  simp only [go_sem, s37]
  refine b0x (fun hc7 => ?_) (fun hc7 => ?_)
  ·rw [b1e hc7] at hm0
   refine b0e fun K hK => ?_
   simp only [go_sem]
   refine hK _ _ ?_
   clear hK K
   simp only [b1l, b1n, b1m, b1o]
   obtain rfl := sI9 hm0
   exact b1v (by simp only [go_sem, lA9, mA9]) (b0o _)
  ·rw [b1d hc7] at hm0
   simp only [b1b, b0m, b0n]
   refine hK6 _ _ ?_
   refine b09 ?_
   refine b0e fun K hK => ?_
   simp only [go_sem, s1]
   refine hK _ _ ?_
   clear hK K
   refine b0w fun K8 hK8 => ?_
   have J9 : ∀ (t : Slots) (h : Heap), t 1 = .fp [.fs 5 (List.map b0r h_.Combs), .fs 3 (List.map b0p h_.Trains), .fs 3 (List.map b0u h_.Shifts), I h_.Until] 0 → b98 h_ = some r → K8 t h := by
    intro t h s1 hm0
    refine hK8 _ _ ?_
    unfold b98 at hm0
    refine b09 ?_
    obtain ⟨y13, h_y13, hm0⟩ := b0l hm0
    refine b0e fun K hK => ?_
    simp only [go_sem, s1]
    refine b1u (d1d h_.Trains "newel/halls.Check$1" [] [.fp [.fs 5 (List.map b0r h_.Combs), .fs 3 (List.map b0p h_.Trains), .fs 3 (List.map b0u h_.Shifts), I h_.Until] 0] (fun z12 => b7i z12 h_) (.fn _ _ _ b06 (b0f (.fp _ _ (b0f (b01 fun a _ => b20 a) (b0f (b01 fun a _ => b24 a) (b0f (b01 fun a _ => b28 a) (b0f (b0o _) b06))))) b06)) (fun z0 y hz => d0u z0 h_ y hz) _ h_y13) ?_
    simp only [go_sem, s1]
    refine hK _ _ ?_
    clear hK K
    refine b0w fun K14 hK14 => ?_
    simp only [go_sem]
    refine b0x (fun hc15 => ?_) (fun hc15 => ?_)
    ·rw [b1e hc15] at hm0
     refine b0e fun K hK => ?_
     simp only [go_sem]
     refine hK _ _ ?_
     clear hK K
     simp only [b1l, b1n, b1m, b1o]
     obtain rfl := sI9 hm0
     exact b1v (by simp only [go_sem, lA9, mA9]) (b0o _)
    ·rw [b1d hc15] at hm0
     simp only [b1b, b0m, b0n]
     refine hK14 _ _ ?_
     refine b09 ?_
     refine b0e fun K hK => ?_
     simp only [go_sem, s1]
     refine hK _ _ ?_
     clear hK K
     refine b0w fun K16 hK16 => ?_
     have J17 : ∀ (t : Slots) (h : Heap), c2w = some r → K16 t h := by
      intro t h hm0
      refine hK16 _ _ ?_
      unfold c2w at hm0
      refine b0e fun K hK => ?_
      simp only [go_sem]
      refine hK _ _ ?_
      clear hK K
      simp only [b1l, b1n, b1m, b1o]
      obtain rfl := sI9 hm0
      exact b1v (by simp only [go_sem, lA9, mA9]) (b0o _)
     simp only [b1f]
     obtain ⟨b18, hl18, hm0⟩ := b0l hm0
     refine b19 hl18 (fun | x_56, t, h => t 1 = .fp [.fs 5 (List.map b0r h_.Combs), .fs 3 (List.map b0p h_.Trains), .fs 3 (List.map b0u h_.Shifts), I h_.Until] 0 ∧ t 54 = .fs 3 (List.map b0u h_.Shifts) ∧ t 55 = I (List.length h_.Shifts : Int) ∧ t 56 = I x_56) ?_ ?_
     ·exact ⟨s1, (by first | (simp only [go_sem, lA9, mA9]; done) | rfl), (by first | (simp only [go_sem, lA9, mA9]; done) | rfl), (by first | (simp only [go_sem, lA9, mA9]; done) | rfl)⟩
     ·rintro x_56 o t h ⟨s1, s54, s55, s56⟩ hm1 hb18
      simp only [b7j] at hm1
      rw [g0i]
      refine b0e fun K hK => ?_
      simp only [go_sem, s55, s56]
      refine hK _ _ ?_
      clear hK K
      refine b0w fun K19 hK19 => ?_
      simp only [go_sem]
      refine b0x (fun hc20 => ?_) (fun hc20 => ?_)
      ·rw [b1e hc20] at hm1
       simp only [b1b, b0m, b0n]
       refine hK19 _ _ ?_
       refine b0w fun K21 hK21 => ?_
       simp only [b1f]
       obtain ⟨x23, h_x23, hm1⟩ := b0l hm1
       have h_x230 := b07 h_x23
       have h_x231 := b1a h_x23
       refine b0e fun K hK => ?_
       simp only [go_sem, s54, s56, b0y h_x23, b0z h_x23, h_x230, h_x231]
       refine hK _ _ ?_
       clear hK K
       obtain ⟨c29, h_c29, hm1⟩ := b0l hm1
       refine b2p (fun t h => t 1 = .fp [.fs 5 (List.map b0r h_.Combs), .fs 3 (List.map b0p h_.Trains), .fs 3 (List.map b0u h_.Shifts), I h_.Until] 0 ∧ t 54 = .fs 3 (List.map b0u h_.Shifts) ∧ t 55 = I (List.length h_.Shifts : Int) ∧ t 56 = I x_56 ∧ t 106 = B (((c29 || (decide (x23.Comb < 0))) || (decide ((List.length h_.Combs : Int) ≤ x23.Comb))) || (!(b4l x23.Rate (Span.mk 0 1000))))) (fun K hK => ?_) ?_
       ·simp only [go_sem, s1]
        refine b0x (fun hg30 => ?_) (fun hg30 => ?_)
        ·simp only [hg30, Bool.not_true, Bool.not_false, eq_self, if_true, if_false, Bool.true_or, Bool.or_true, Bool.false_or, Bool.or_false, Bool.true_and, Bool.and_true, Bool.false_and, Bool.and_false, Bool.false_eq_true] at h_c29
         obtain rfl := sI9 h_c29
         simp only [go_sem, s1, hg30]
         exact hK _ _ ⟨s1, s54, s55, s56, (by first | (simp only [go_sem, hg30, lA9, mA9]; done) | rfl)⟩
        ·simp only [go_sem, s1, hg30]
         refine b0x (fun hg31 => ?_) (fun hg31 => ?_)
         ·simp only [hg30, hg31, Bool.not_true, Bool.not_false, eq_self, if_true, if_false, Bool.true_or, Bool.or_true, Bool.false_or, Bool.or_false, Bool.true_and, Bool.and_true, Bool.false_and, Bool.and_false, Bool.false_eq_true] at h_c29
          obtain rfl := sI9 h_c29
          simp only [go_sem, s1, hg30, hg31]
          exact hK _ _ ⟨s1, s54, s55, s56, (by first | (simp only [go_sem, hg30, hg31, lA9, mA9]; done) | rfl)⟩
         ·simp only [hg30, hg31, Bool.not_true, Bool.not_false, eq_self, if_true, if_false, Bool.true_or, Bool.or_true, Bool.false_or, Bool.or_false, Bool.true_and, Bool.and_true, Bool.false_and, Bool.and_false, Bool.false_eq_true] at h_c29
          obtain ⟨c28, h_c28, h_c29⟩ := b0l h_c29
          obtain rfl := sI9 h_c29
          simp only [go_sem, s1, hg30, hg31]
          refine b0x (fun hg32 => ?_) (fun hg32 => ?_)
          ·simp only [hg30, hg31, hg32, Bool.not_true, Bool.not_false, eq_self, if_true, if_false, Bool.true_or, Bool.or_true, Bool.false_or, Bool.or_false, Bool.true_and, Bool.and_true, Bool.false_and, Bool.and_false, Bool.false_eq_true] at h_c28
           obtain ⟨x27, h_x27, h_c28⟩ := b0l h_c28
           have h_x270 := b07 h_x27
           have h_x271 := b1a h_x27
           obtain rfl := sI9 h_c28
           simp only [go_sem, s1, b0y h_x27, b0z h_x27, h_x270, h_x271, hg30, hg31, hg32]
           refine b0x (fun hg33 => ?_) (fun hg33 => ?_)
           ·simp only [go_sem, s1, b0y h_x27, b0z h_x27, h_x270, h_x271, hg30, hg31, hg32, hg33]
            exact hK _ _ ⟨s1, s54, s55, s56, (by first | (simp only [go_sem, hg30, hg31, hg32, hg33, lA9, mA9]; done) | rfl)⟩
           ·simp only [go_sem, s1, b0y h_x27, b0z h_x27, h_x270, h_x271, hg30, hg31, hg32, hg33]
            refine b0x (fun hg34 => ?_) (fun hg34 => ?_)
            ·simp only [go_sem, s1, b0y h_x27, b0z h_x27, h_x270, h_x271, hg30, hg31, hg32, hg33, hg34]
             exact hK _ _ ⟨s1, s54, s55, s56, (by first | (simp only [go_sem, hg30, hg31, hg32, hg33, hg34, lA9, mA9]; done) | rfl)⟩
            ·simp only [go_sem, s1, b0y h_x27, b0z h_x27, h_x270, h_x271, hg30, hg31, hg32, hg33, hg34]
             refine b0x (fun hg35 => ?_) (fun hg35 => ?_)
             ·simp only [go_sem, s1, b0y h_x27, b0z h_x27, h_x270, h_x271, hg30, hg31, hg32, hg33, hg34, hg35]
              exact hK _ _ ⟨s1, s54, s55, s56, (by first | (simp only [go_sem, hg30, hg31, hg32, hg33, hg34, hg35, lA9, mA9]; done) | rfl)⟩
             ·simp only [go_sem, s1, b0y h_x27, b0z h_x27, h_x270, h_x271, hg30, hg31, hg32, hg33, hg34, hg35]
              refine b1u (b84 x23.Rate (Span.mk 0 1000)) ?_
              simp only [go_sem, s1, b0y h_x27, b0z h_x27, h_x270, h_x271, hg30, hg31, hg32, hg33, hg34, hg35]
              exact hK _ _ ⟨s1, s54, s55, s56, (by first | (simp only [go_sem, hg30, hg31, hg32, hg33, hg34, hg35, lA9, mA9]; done) | rfl)⟩
          ·simp only [hg30, hg31, hg32, Bool.not_true, Bool.not_false, eq_self, if_true, if_false, Bool.true_or, Bool.or_true, Bool.false_or, Bool.or_false, Bool.true_and, Bool.and_true, Bool.false_and, Bool.and_false, Bool.false_eq_true] at h_c28
           obtain rfl := sI9 h_c28
           simp only [go_sem, s1, hg30, hg31, hg32]
           refine b0x (fun hg36 => ?_) (fun hg36 => ?_)
           ·simp only [go_sem, s1, hg30, hg31, hg32, hg36]
            exact hK _ _ ⟨s1, s54, s55, s56, (by first | (simp only [go_sem, hg30, hg31, hg32, hg36, lA9, mA9]; done) | rfl)⟩
           ·simp only [go_sem, s1, hg30, hg31, hg32, hg36]
            refine b0x (fun hg37 => ?_) (fun hg37 => ?_)
            ·simp only [go_sem, s1, hg30, hg31, hg32, hg36, hg37]
             exact hK _ _ ⟨s1, s54, s55, s56, (by first | (simp only [go_sem, hg30, hg31, hg32, hg36, hg37, lA9, mA9]; done) | rfl)⟩
            ·simp only [go_sem, s1, hg30, hg31, hg32, hg36, hg37]
             refine b1u (b84 x23.Rate (Span.mk 0 1000)) ?_
             simp only [go_sem, s1, hg30, hg31, hg32, hg36, hg37]
             exact hK _ _ ⟨s1, s54, s55, s56, (by first | (simp only [go_sem, hg30, hg31, hg32, hg36, hg37, lA9, mA9]; done) | rfl)⟩
       ·rintro t h ⟨s1, s54, s55, s56, s106⟩
        simp only [go_sem, s106]
        refine b0x (fun hc38 => ?_) (fun hc38 => ?_)
        ·rw [b1e hc38] at hm1
         refine b0e fun K hK => ?_
         simp only [go_sem]
         refine hK _ _ ?_
         clear hK K
         simp only [b1l, b1n, b1m, b1o]
         obtain rfl := sI9 hm1
         obtain rfl := hb18 _ rfl
         try dsimp only at hm0
         obtain rfl := sI9 hm0
         exact b1v (by simp only [go_sem, lA9, mA9]) (b0o _)
        ·rw [b1d hc38] at hm1
         simp only [b1b, b0m, b0n]
         refine hK21 _ _ ?_
         refine b1p fun K hK => ?_
         simp only [go_sem, s56]
         refine hK _ _ ?_
         clear hK K
         simp only [b0m, b0n]
         obtain rfl := sI9 hm1
         refine ⟨_, rfl, ?_⟩
         exact ⟨s1, s54, s55, (by first | (simp only [go_sem, s56, lA9, mA9]; done) | rfl)⟩
      ·rw [b1d hc20] at hm1
       simp only [b1y, b11, b10, b1z, b0m, b0n, Nat.reduceEqDiff, nF9]
       obtain rfl := sI9 hm1
       obtain rfl := hb18 _ rfl
       try dsimp only at hm0
       exact J17  _ _  hm0
   simp only [b1f]
   obtain ⟨b40, hl40, hm0⟩ := b0l hm0
   refine b19 hl40 (fun | x_41, t, h => t 1 = .fp [.fs 5 (List.map b0r h_.Combs), .fs 3 (List.map b0p h_.Trains), .fs 3 (List.map b0u h_.Shifts), I h_.Until] 0 ∧ t 40 = I (List.length h_.Combs : Int) ∧ t 41 = I x_41) ?_ ?_
   ·exact ⟨s1, (by first | (simp only [go_sem, lA9, mA9]; done) | rfl), (by first | (simp only [go_sem, lA9, mA9]; done) | rfl)⟩
   ·rintro x_41 o t h ⟨s1, s40, s41⟩ hm1 hb40
    simp only [b7k] at hm1
    rw [g0j]
    refine b0e fun K hK => ?_
    simp only [go_sem, s40, s41]
    refine hK _ _ ?_
    clear hK K
    refine b0w fun K41 hK41 => ?_
    simp only [go_sem]
    refine b0x (fun hc42 => ?_) (fun hc42 => ?_)
    ·rw [b1e hc42] at hm1
     simp only [b1b, b0m, b0n]
     refine hK41 _ _ ?_
     refine b0w fun K43 hK43 => ?_
     simp only [b1f]
     refine b0e fun K hK => ?_
     simp only [go_sem, s41]
     refine hK _ _ ?_
     clear hK K
     obtain ⟨y45, h_y45, hm1⟩ := b0l hm1
     refine b0e fun K hK => ?_
     simp only [go_sem, s1]
     refine b1u (d01 h_ x_41 _ h_y45) ?_
     simp only [go_sem, s1]
     refine hK _ _ ?_
     clear hK K
     simp only [go_sem]
     refine b0x (fun hc46 => ?_) (fun hc46 => ?_)
     ·rw [b1e hc46] at hm1
      refine b0e fun K hK => ?_
      simp only [go_sem]
      refine hK _ _ ?_
      clear hK K
      simp only [b1l, b1n, b1m, b1o]
      obtain rfl := sI9 hm1
      obtain rfl := hb40 _ rfl
      try dsimp only at hm0
      obtain rfl := sI9 hm0
      exact b1v (by simp only [go_sem, lA9, mA9]) (b0o _)
     ·rw [b1d hc46] at hm1
      simp only [b1b, b0m, b0n]
      refine hK43 _ _ ?_
      refine b1p fun K hK => ?_
      simp only [go_sem, s41]
      refine hK _ _ ?_
      clear hK K
      simp only [b0m, b0n]
      obtain rfl := sI9 hm1
      refine ⟨_, rfl, ?_⟩
      exact ⟨s1, s40, (by first | (simp only [go_sem, s41, lA9, mA9]; done) | rfl)⟩
    ·rw [b1d hc42] at hm1
     simp only [b1y, b11, b10, b1z, b0m, b0n, Nat.reduceEqDiff, nF9]
     obtain rfl := sI9 hm1
     obtain rfl := hb40 _ rfl
     try dsimp only at hm0
     exact J9  _ _ s1 hm0
theorem d0u (hf : Has O "newel/halls.Check$1" x_halls_CheckD1) (d02 : c70 O) : c7s O := by
 intro t_ c0 r hm0
 unfold b7i at hm0
 refine b2q hf rfl (b0f (.agg _ (b0f (b0o _) (b0f (b0o _) (b0f (b01 fun a _ => c2u a) b06)))) (b0f (.fp _ _ (b0f (b01 fun a _ => b20 a) (b0f (b01 fun a _ => b24 a) (b0f (b01 fun a _ => b28 a) (b0f (b0o _) b06))))) b06)) (b0o _) ?_
 refine b2k (fun t h => t 0 = .agg [I t_.At.Low, I t_.At.High, .fs 3 (List.map b2m t_.Crowds)] ∧ t 1 = .fp [.fs 5 (List.map b0r c0.Combs), .fs 3 (List.map b0p c0.Trains), .fs 3 (List.map b0u c0.Shifts), I c0.Until] 0) ⟨rfl, rfl⟩ fun t h ⟨s0, s1⟩ => ?_
 simp only [x_halls_CheckD1]
 refine b0e fun K hK => ?_
 simp only [go_sem, s0]
 refine hK _ _ ?_
 clear hK K
 obtain ⟨y2, h_y2, hm0⟩ := b0l hm0
 refine b0e fun K hK => ?_
 simp only [go_sem, s1]
 refine b1u (d02 c0 t_ _ h_y2) ?_
 simp only [go_sem, s1]
 refine hK _ _ ?_
 clear hK K
 simp only [b1l, b1n, b1m, b1o]
 obtain rfl := sI9 hm0
 exact b1v (by simp only [go_sem, lA9, mA9]) (b0o _)
theorem d0v (hf : Has O "newel/halls.Guard" x_halls_Guard) (c3i : c4o O) (b85 : c13 O) (b83 : c12 O) (c3j : c4q O) : c7t O := by
 intro h_ comb from_ r hm0
 unfold c2x at hm0
 refine b2q hf rfl (b0f (.agg _ (b0f (b01 fun a _ => b20 a) (b0f (b01 fun a _ => b24 a) (b0f (b01 fun a _ => b28 a) (b0f (b0o _) b06))))) (b0f (b0o _) (b0f (b0o _) b06))) (.tup _ (b0f (b0o _) (b0f (b0o _) b06))) ?_
 refine b2k (fun t h => t 0 = .agg [.fs 5 (List.map b0r h_.Combs), .fs 3 (List.map b0p h_.Trains), .fs 3 (List.map b0u h_.Shifts), I h_.Until] ∧ t 1 = I comb ∧ t 2 = I from_) ⟨rfl, rfl, rfl⟩ fun t h ⟨s0, s1, s2⟩ => ?_
 simp only [x_halls_Guard]
 refine b0e fun K hK => ?_
 simp only [go_sem, s0]
 refine hK _ _ ?_
 clear hK K
 refine b09 ?_
 obtain ⟨y2, h_y2, hm0⟩ := b0l hm0
 refine b0e fun K hK => ?_
 simp only [go_sem, s1, s2]
 refine c51 ?_ (c3i h_ comb ([from_]) _ h_y2) (.v _) ?_
 ·exact .cons (.refl _ (.agg _ (b0f (b01 fun a _ => b20 a) (b0f (b01 fun a _ => b24 a) (b0f (b01 fun a _ => b28 a) (b0f (b0o _) b06)))))) (.cons (.refl _ (b0o _)) (.cons (b53 (f := eI) (l := ([from_])) (id := h.nx) (by simp only [go_sem, lA9, mA9]) (by first | rfl | simp only [go_sem, lA9, mA9]) b2r b4d) (.nil)))
 simp only [go_sem, s1, s2]
 refine hK _ _ ?_
 clear hK K
 refine b09 ?_
 refine b0e fun K hK => ?_
 simp only [go_sem]
 refine hK _ _ ?_
 clear hK K
 refine b0w fun K3 hK3 => ?_
 simp only [go_sem]
 refine b0x (fun hc4 => ?_) (fun hc4 => ?_)
 ·rw [b1e hc4] at hm0
  refine b0e fun K hK => ?_
  simp only [go_sem]
  refine hK _ _ ?_
  clear hK K
  simp only [b1l, b1n, b1m, b1o]
  obtain rfl := sI9 hm0
  exact c48 (by simp only [go_sem, lA9, mA9]) (by simp only [go_sem, lA9, mA9]) (b0o _) (b0o _)
 ·rw [b1d hc4] at hm0
  simp only [b1b, b0m, b0n]
  refine hK3 _ _ ?_
  obtain ⟨y6, h_y6, hm0⟩ := b0l hm0
  refine b2p (fun t h => ∃ v9 : AV, ∃ hs9 : List AV, t 1 = I comb ∧ t 2 = I from_ ∧ t 3 = .fp [.fs 5 (List.map b0r h_.Combs), .fs 3 (List.map b0p h_.Trains), .fs 3 (List.map b0u h_.Shifts), I h_.Until] 0 ∧ t 9 = v9 ∧ RR h v9 hs9 1 eI y6) (fun K hK => ?_) ?_
  ·simp only [go_sem]
   refine c0r (b85 h_ _  _ h_y6) ?_
   rintro rv_y6 hq_y6 ⟨rh_y6, rw_y6, fr_y6, fx_y6, ge_y6⟩
   have lw_y60 : h.nx < hq_y6.nx := Nat.lt_of_lt_of_le (by first | omega | simp only [go_sem]) fx_y6
   simp only [go_sem]
   exact hK _ _ ⟨rv_y6, rh_y6, s1, s2, (by first | (simp only [go_sem, lA9, mA9]; done) | rfl), (by first | (simp only [go_sem, lA9, mA9]; done) | rfl), rw_y6⟩
  ·rintro t h ⟨v9, hs9, s1, s2, s3, s9, Q1m⟩
   refine b0e fun K hK => ?_
   simp only [go_sem, b0b v9]
   refine hK _ _ ?_
   clear hK K
   simp only [b1f]
   obtain ⟨b7, hl7, hm0⟩ := b0l hm0
   refine b19 hl7 (fun | (all_9, n_10), t, h => ∃ v9_1 : AV, t 1 = I comb ∧ t 2 = I from_ ∧ t 3 = .fp [.fs 5 (List.map b0r h_.Combs), .fs 3 (List.map b0p h_.Trains), .fs 3 (List.map b0u h_.Shifts), I h_.Until] 0 ∧ t 9 = v9_1 ∧ t 10 = I n_10 ∧ RR h v9_1 hs9 1 eI all_9) ?_ ?_
   ·exact ⟨v9, s1, s2, s3, s9, (by first | (simp only [go_sem, lA9, mA9]; done) | rfl), Q1m⟩
   ·rintro ⟨all_9, n_10⟩ o t h ⟨v9_1, s1, s2, s3, s9, s10, Q1m⟩ hm1 hb7
    simp only [c5j] at hm1
    rw [g0k]
    refine b0w fun K8 hK8 => ?_
    simp only [b1f]
    refine b09 ?_
    obtain ⟨y11, h_y11, hm1⟩ := b0l hm1
    obtain ⟨y12, h_y12, hm1⟩ := b0l hm1
    refine b2p (fun t h => t 1 = I comb ∧ t 2 = I from_ ∧ t 3 = .fp [.fs 5 (List.map b0r h_.Combs), .fs 3 (List.map b0p h_.Trains), .fs 3 (List.map b0u h_.Shifts), I h_.Until] 0 ∧ t 9 = v9_1 ∧ t 10 = I n_10 ∧ t 29 = B (decide ((List.length y12 : Int) = 0)) ∧ RR h v9_1 hs9 1 eI all_9) (fun K hK => ?_) ?_
    ·simp only [go_sem, s3, s9, b3o Q1m, b0b v9, b0b v9_1]
     refine c0r (b83 h_ all_9 v9_1 hs9 _ Q1m _ h_y11) ?_
     rintro _ hq_y11 ⟨rfl, fr_y11, fx_y11⟩
     simp only [go_sem, s3, s9, b3o Q1m, b0b v9, b0b v9_1]
     refine b1u (c3j h_ y11 _ h_y12) ?_
     simp only [go_sem, s3, s9, b3o Q1m, b0b v9, b0b v9_1]
     exact hK _ _ ⟨s1, s2, s3, s9, s10, (by first | (simp only [go_sem, lA9, mA9]; done) | rfl), (b3n Q1m (by intro j hj  hl; first | rfl | simp only [go_sem, hl, fr_y11]) (by first | omega | exact Nat.le_refl _ | (simp only [go_sem, nxs] <;> omega)))⟩
    ·rintro t h ⟨s1, s2, s3, s9, s10, s29, Q1m⟩
     refine b0w fun K13 hK13 => ?_
     simp only [go_sem, s29]
     refine b0x (fun hc14 => ?_) (fun hc14 => ?_)
     ·rw [b1e hc14] at hm1
      refine b0e fun K hK => ?_
      simp only [go_sem, s10, b0b v9, b0b v9_1]
      refine hK _ _ ?_
      clear hK K
      simp only [b1l, b1n, b1m, b1o]
      obtain rfl := sI9 hm1
      obtain rfl := hb7 _ rfl
      try dsimp only at hm0
      obtain rfl := sI9 hm0
      exact c48 (by simp only [go_sem, b1g Q1m, lA9, mA9]) (by simp only [go_sem, b1g Q1m, lA9, mA9]) (b0o _) (b0o _)
     ·rw [b1d hc14] at hm1
      simp only [b1b, b0m, b0n]
      refine hK13 _ _ ?_
      refine b09 ?_
      refine b0e fun K hK => ?_
      simp only [go_sem, s2, s3, s10, b0b v9, b0b v9_1]
      refine hK _ _ ?_
      clear hK K
      refine b0w fun K15 hK15 => ?_
      simp only [go_sem]
      refine b0x (fun hc16 => ?_) (fun hc16 => ?_)
      ·rw [b1e hc16] at hm1
       refine b0e fun K hK => ?_
       simp only [go_sem, b0b v9, b0b v9_1]
       refine hK _ _ ?_
       clear hK K
       simp only [b1l, b1n, b1m, b1o]
       obtain rfl := sI9 hm1
       obtain rfl := hb7 _ rfl
       try dsimp only at hm0
       obtain rfl := sI9 hm0
       exact c48 (by simp only [go_sem, b1g Q1m, lA9, mA9]) (by simp only [go_sem, b1g Q1m, lA9, mA9]) (b0o _) (b0o _)
      ·rw [b1d hc16] at hm1
       simp only [b1b, b0m, b0n]
       refine hK15 _ _ ?_
       obtain ⟨x19, h_x19, hm1⟩ := b0l hm1
       have h_x190 := b07 h_x19
       have h_x191 := b1a h_x19
       obtain ⟨iqp34, rfl, Q1i, Qp⟩ := b6e Q1m h_x19
       obtain ⟨wp35, hw_wp35, os_wp35⟩ := b6d Q1m h_x19
       obtain ⟨x20, h_x20, hm1⟩ := b0l hm1
       have h_x200 := b07 h_x20
       have h_x201 := b1a h_x20
       obtain ⟨irp36, rfl, obr_irp36, ltr_irp36⟩ := b6a os_wp35 h_x20
       refine b8j (fun t h => ∃ v9_2 : AV, t 1 = I comb ∧ t 2 = I from_ ∧ t 3 = .fp [.fs 5 (List.map b0r h_.Combs), .fs 3 (List.map b0p h_.Trains), .fs 3 (List.map b0u h_.Shifts), I h_.Until] 0 ∧ t 9 = v9_2 ∧ t 10 = I n_10 ∧ RR h v9_2 hs9 1 eI (List.set all_9 (Int.toNat comb) (List.set x19 (Int.toNat (wr (from_ + n_10))) 0))) (fun K hK => ?_) ?_
       ·simp only [go_sem, s1, s2, s9, b3o Q1m, s10, Q1i, Qp, b0y h_x19, b0z h_x19, h_x190, h_x191, b0y hw_wp35, b0z hw_wp35, b4o os_wp35, b0y h_x20, b0z h_x20, h_x200, h_x201, obr_irp36, ltr_irp36, b0b v9]
        exact hK _ _ ⟨(.rs iqp34 0 (List.length all_9)), s1, s2, s3, (by first | (simp only [go_sem, s9, lA9, mA9]; done) | rfl), s10, (c7b Q1m h_x19 hw_wp35 (by simp only [go_sem, b1g Q1m, Q1i, Qp, b2i Q1m hw_wp35, b0c (b2i Q1m hw_wp35), lA9, mA9]) (by simp only [List.length_set]) (by intro j hj hne hl; first | rfl | simp only [go_sem, hne, hl, Qp]) (by first | omega | exact Nat.le_refl _ | (simp only [go_sem, nxs] <;> omega)))⟩
       ·try clear s1 s2 s3 s9 s10 s29 Q1m Q1i Qp
        rintro t h ⟨v9_2, s1, s2, s3, s9, s10, Q1m⟩
        simp only [b0m, b0n]
        refine hK8 _ _ ?_
        refine b1p fun K hK => ?_
        simp only [go_sem, s10, b0b v9, b0b v9_2]
        refine hK _ _ ?_
        clear hK K
        simp only [b0m, b0n]
        obtain rfl := sI9 hm1
        refine ⟨_, rfl, ?_⟩
        exact ⟨v9_2, s1, s2, s3, s9, (by first | (simp only [go_sem, s10, lA9, mA9]; done) | rfl), Q1m⟩
theorem d0w (hf : Has O "newel/halls.Over" x_halls_Over) (c3h : c4n O) (b85 : c13 O) (b83 : c12 O) (c3j : c4q O) : c7u O := by
 intro h_ r hm0
 unfold c2y at hm0
 refine b2q hf rfl (b0f (.agg _ (b0f (b01 fun a _ => b20 a) (b0f (b01 fun a _ => b24 a) (b0f (b01 fun a _ => b28 a) (b0f (b0o _) b06))))) b06) (.tup _ (b0f (b01 fun a _ => c5e a) (b0f (b0o _) b06))) ?_
 refine b2k (fun t h => t 0 = .agg [.fs 5 (List.map b0r h_.Combs), .fs 3 (List.map b0p h_.Trains), .fs 3 (List.map b0u h_.Shifts), I h_.Until]) rfl fun t h s0 => ?_
 simp only [x_halls_Over]
 refine b0e fun K hK => ?_
 simp only [go_sem, s0]
 refine hK _ _ ?_
 clear hK K
 refine b09 ?_
 obtain ⟨y2, h_y2, hm0⟩ := b0l hm0
 refine b0e fun K hK => ?_
 simp only [go_sem]
 refine b1u (c3h h_ _ h_y2) ?_
 simp only [go_sem]
 refine hK _ _ ?_
 clear hK K
 refine b09 ?_
 refine b0e fun K hK => ?_
 simp only [go_sem]
 refine hK _ _ ?_
 clear hK K
 refine b0w fun K3 hK3 => ?_
 simp only [go_sem]
 refine b0x (fun hc4 => ?_) (fun hc4 => ?_)
 ·rw [b1e hc4] at hm0
  refine b0e fun K hK => ?_
  simp only [go_sem]
  refine hK _ _ ?_
  clear hK K
  simp only [b1l, b1n, b1m, b1o]
  obtain rfl := sI9 hm0
  exact g5m (v := .v (.slice none 0 0)) (u := I y2) (by simp only [go_sem, lA9, mA9]) (by simp only [go_sem, lA9, mA9]) (.nil _) (.refl _ (b0o _))
 ·rw [b1d hc4] at hm0
  simp only [b1b, b0m, b0n]
  refine hK3 _ _ ?_
  obtain ⟨y8, h_y8, hm0⟩ := b0l hm0
  obtain ⟨y9, h_y9, hm0⟩ := b0l hm0
  obtain ⟨y10, h_y10, hm0⟩ := b0l hm0
  refine b2p (fun t h => t 2 = .fs 2 (List.map b5n y10) ∧ t 3 = I 0) (fun K hK => ?_) ?_
  ·simp only [go_sem]
   refine c0r (b85 h_ _  _ h_y8) ?_
   rintro rv_y8 hq_y8 ⟨rh_y8, rw_y8, fr_y8, fx_y8, ge_y8⟩
   simp only [go_sem]
   refine c0r (b83 h_ y8 rv_y8 rh_y8 _ rw_y8 _ h_y9) ?_
   rintro _ hq_y9 ⟨rfl, fr_y9, fx_y9⟩
   simp only [go_sem]
   refine b1u (c3j h_ y9 _ h_y10) ?_
   simp only [go_sem]
   exact hK _ _ ⟨(by first | (simp only [go_sem, lA9, mA9]; done) | rfl), (by first | (simp only [go_sem, lA9, mA9]; done) | rfl)⟩
  ·rintro t h ⟨s2, s3⟩
   simp only [b1l, b1n, b1m, b1o]
   obtain rfl := sI9 hm0
   exact c48 (by simp only [go_sem, s2, s3, lA9, mA9]) (by simp only [go_sem, s2, s3, lA9, mA9]) (b01 fun a _ => c5e a) (b0o _)
theorem d0x (hf : Has O "newel/halls.Witness" x_halls_Witness) (c3i : c4o O) (d1c : c8e O) (d0y : c7w O) (b85 : c13 O) (b83 : c12 O) : c7v O := by
 intro h_ comb tick r hm0
 unfold b6o at hm0
 refine b2q hf rfl (b0f (.agg _ (b0f (b01 fun a _ => b20 a) (b0f (b01 fun a _ => b24 a) (b0f (b01 fun a _ => b28 a) (b0f (b0o _) b06))))) (b0f (b0o _) (b0f (b0o _) b06))) (.tup _ (b0f (.agg _ (b0f (b01 fun a _ => b2r a) (b0f (b01 fun a _ => b21 a) (b0f (b01 fun a _ => b21 a) b06)))) (b0f (b0o _) b06))) ?_
 refine b2k (fun t h => t 0 = .agg [.fs 5 (List.map b0r h_.Combs), .fs 3 (List.map b0p h_.Trains), .fs 3 (List.map b0u h_.Shifts), I h_.Until] ∧ t 1 = I comb ∧ t 2 = I tick) ⟨rfl, rfl, rfl⟩ fun t h ⟨s0, s1, s2⟩ => ?_
 simp only [x_halls_Witness]
 refine b0e fun K hK => ?_
 simp only [go_sem, s0, s1]
 refine hK _ _ ?_
 clear hK K
 refine b09 ?_
 obtain ⟨y2, h_y2, hm0⟩ := b0l hm0
 refine b0e fun K hK => ?_
 simp only [go_sem, s2]
 refine c51 ?_ (c3i h_ comb ([tick]) _ h_y2) (.v _) ?_
 ·exact .cons (.refl _ (.agg _ (b0f (b01 fun a _ => b20 a) (b0f (b01 fun a _ => b24 a) (b0f (b01 fun a _ => b28 a) (b0f (b0o _) b06)))))) (.cons (.refl _ (b0o _)) (.cons (b53 (f := eI) (l := ([tick])) (id := (nxs h.nx)) (by simp only [go_sem, lA9, mA9]) (by first | rfl | simp only [go_sem, lA9, mA9]) b2r b4d) (.nil)))
 simp only [go_sem, s2]
 refine hK _ _ ?_
 clear hK K
 refine b09 ?_
 refine b0e fun K hK => ?_
 simp only [go_sem]
 refine hK _ _ ?_
 clear hK K
 refine b0w fun K3 hK3 => ?_
 simp only [go_sem]
 refine b0x (fun hc4 => ?_) (fun hc4 => ?_)
 ·rw [b1e hc4] at hm0
  refine b0e fun K hK => ?_
  simp only [go_sem]
  refine hK _ _ ?_
  clear hK K
  simp only [b1l, b1n, b1m, b1o]
  obtain rfl := sI9 hm0
  exact b8k (id := h.nx) (m := 3) (cs := [.v (.slice none 0 0), .v (.slice none 0 0), .v (.slice none 0 0)]) (u := I y2) (by simp only [go_sem, lA9, mA9]) (by simp only [go_sem, lA9, mA9]) rfl (by simp only [go_sem, lA9, mA9]) (b6m (.cons (.nil _) (.cons (.nil _) (.cons (.nil _) (.nil))))) (.refl _ (b0o _))
 ·rw [b1d hc4] at hm0
  simp only [b1b, b0m, b0n]
  refine hK3 _ _ ?_
  refine b09 ?_
  obtain ⟨y8, h_y8, hm0⟩ := b0l hm0
  refine b0e fun K hK => ?_
  simp only [go_sem]
  refine b1u (d1c h_.Combs "newel/halls.Witness$1" [] [.fp [I comb] 0] (fun z7 => some (b6v z7 comb)) (.fn _ _ _ b06 (b0f (.fp _ _ (b0f (b0o _) b06)) b06)) (fun z0 y hz => by cases hz; exact d0y z0 comb) _ h_y8) ?_
  simp only [go_sem]
  refine hK _ _ ?_
  clear hK K
  refine b0w fun K9 hK9 => ?_
  simp only [go_sem]
  refine b0x (fun hc10 => ?_) (fun hc10 => ?_)
  ·rw [b1e hc10] at hm0
   refine b0e fun K hK => ?_
   simp only [go_sem]
   refine hK _ _ ?_
   clear hK K
   simp only [b1l, b1n, b1m, b1o]
   obtain rfl := sI9 hm0
   exact b8k (id := h.nx) (m := 3) (cs := [.v (.slice none 0 0), .v (.slice none 0 0), .v (.slice none 0 0)]) (u := I 3) (by simp only [go_sem, lA9, mA9]) (by simp only [go_sem, lA9, mA9]) rfl (by simp only [go_sem, lA9, mA9]) (b6m (.cons (.nil _) (.cons (.nil _) (.cons (.nil _) (.nil))))) (.refl _ (b0o _))
  ·rw [b1d hc10] at hm0
   simp only [b1b, b0m, b0n]
   refine hK9 _ _ ?_
   obtain ⟨y14, h_y14, hm0⟩ := b0l hm0
   obtain ⟨y15, h_y15, hm0⟩ := b0l hm0
   obtain ⟨x16, h_x16, hm0⟩ := b0l hm0
   have h_x160 := b07 h_x16
   have h_x161 := b1a h_x16
   refine b2p (fun t h => ∃ i6 : Nat, t 2 = I tick ∧ t 3 = .fp [.fs 5 (List.map b0r h_.Combs), .fs 3 (List.map b0p h_.Trains), .fs 3 (List.map b0u h_.Shifts), I h_.Until] 0 ∧ t 6 = .rp i6 0 0 ∧ t 9 = .fp [.fs 1 (List.map eI x16.rates), .fs 1 (List.map eI x16.flow), .fs 1 (List.map eI x16.most), .fs 1 (List.map b0s x16.come)] 0 ∧ h.ob i6 = some (3, [[.v (.slice none 0 0), .v (.slice none 0 0), .v (.slice none 0 0)]]) ∧ i6 < h.nx) (fun K hK => ?_) ?_
   ·simp only [go_sem, b0y h_x16, b0z h_x16, h_x160, h_x161]
    refine c0r (b85 h_ _  _ h_y14) ?_
    rintro rv_y14 hq_y14 ⟨rh_y14, rw_y14, fr_y14, fx_y14, ge_y14⟩
    have lw_y140 : h.nx < hq_y14.nx := Nat.lt_of_lt_of_le (by first | omega | simp only [go_sem]) fx_y14
    have lw_y141 : (nxs h.nx) < hq_y14.nx := Nat.lt_of_lt_of_le (by first | omega | simp only [go_sem]) fx_y14
    simp only [go_sem, b0y h_x16, b0z h_x16, h_x160, h_x161]
    refine c0r (b83 h_ y14 rv_y14 rh_y14 _ rw_y14 _ h_y15) ?_
    rintro _ hq_y15 ⟨rfl, fr_y15, fx_y15⟩
    have lw_y150 : h.nx < hq_y15.nx := Nat.lt_of_lt_of_le (by first | omega | simp only [go_sem, lw_y140, lw_y141]) fx_y15
    have lw_y151 : (nxs h.nx) < hq_y15.nx := Nat.lt_of_lt_of_le (by first | omega | simp only [go_sem, lw_y140, lw_y141]) fx_y15
    simp only [go_sem, b0y h_x16, b0z h_x16, h_x160, h_x161]
    exact hK _ _ ⟨h.nx, s2, (by first | (simp only [go_sem, lA9, mA9]; done) | rfl), (by first | (simp only [go_sem, lA9, mA9]; done) | rfl), (by first | (simp only [go_sem, lA9, mA9]; done) | rfl), (by simp only [go_sem, fr_y14, fr_y15, lw_y140, lw_y141, lw_y150, lw_y151, lA9, mA9]), (by first | omega | simp only [go_sem])⟩
   ·rintro t h ⟨i6, s2, s3, s6, s9, Qu, Qa⟩
    refine b0e fun K hK => ?_
    simp only [go_sem, Qa]
    refine hK _ _ ?_
    clear hK K
    refine b09 ?_
    refine b0e fun K hK => ?_
    simp only [go_sem, s2, Qa]
    refine hK _ _ ?_
    clear hK K
    refine b0w fun K17 hK17 => ?_
    have J18 : ∀ (from_10 : Int) (t : Slots) (h : Heap), t 2 = I tick → t 3 = .fp [.fs 5 (List.map b0r h_.Combs), .fs 3 (List.map b0p h_.Trains), .fs 3 (List.map b0u h_.Shifts), I h_.Until] 0 → t 6 = .rp i6 0 0 → t 10 = I from_10 → h.ob i6 = some (3, [[.v (.slice none 0 0), .v (.slice none 0 0), .v (.slice none 0 0)]]) → i6 < h.nx → c24 h_ tick from_10 = some r → K17 t h := by
     intro from_10 t h s2 s3 s6 s10 Qu Qa hm0
     refine hK17 _ _ ?_
     unfold c24 at hm0
     refine b0e fun K hK => ?_
     simp only [go_sem, Qa]
     refine hK _ _ ?_
     clear hK K
     refine b09 ?_
     refine b0e fun K hK => ?_
     simp only [go_sem, s3, Qa]
     refine hK _ _ ?_
     clear hK K
     refine b0w fun K19 hK19 => ?_
     have J20 : ∀ (d_12_0 : List Int) (d_12_1 : List (List Int)) (i12 : Nat) (v12 : AV) (v12_1 : AV) (t : Slots) (h : Heap), t 3 = .fp [.fs 5 (List.map b0r h_.Combs), .fs 3 (List.map b0p h_.Trains), .fs 3 (List.map b0u h_.Shifts), I h_.Until] 0 → t 6 = .rp i6 0 0 → t 12 = .rp i12 0 0 → h.ob i6 = some (3, [[.v (.slice none 0 0), .v (.slice none 0 0), .v (.slice none 0 0)]]) → i6 < h.nx → h.ob i12 = some (3, [[v12, v12_1, .v (.slice none 0 0)]]) → i12 < h.nx → b0j h v12 1 (List.map eI d_12_0) → b0j h v12_1 1 (List.map b0s d_12_1) → ¬i6 = i12 → b0a v12 i6 → b0a v12_1 i6 → b0a v12 i12 → b0a v12_1 i12 → (∀ j, ¬b0a v12 j → b0a v12_1 j) → c5k h_ d_12_0 d_12_1 = some r → K19 t h := by
      intro d_12_0 d_12_1 i12 v12 v12_1 t h s3 s6 s12 Qu Qa Qy Qb Q14 Q15 Qj Q11 Qz Qv Qw Q1f hm0
      refine hK19 _ _ ?_
      unfold c5k at hm0
      refine b09 ?_
      refine b0e fun K hK => ?_
      simp only [go_sem, s3, Qa, Qb, b0b v12, b0b v12_1]
      refine hK _ _ ?_
      clear hK K
      refine b0w fun K21 hK21 => ?_
      have J22 : ∀ (d_12_2 : List (List Int)) (v12_2 : AV) (t : Slots) (h : Heap), t 6 = .rp i6 0 0 → t 12 = .rp i12 0 0 → h.ob i6 = some (3, [[.v (.slice none 0 0), .v (.slice none 0 0), .v (.slice none 0 0)]]) → i6 < h.nx → h.ob i12 = some (3, [[v12, v12_1, v12_2]]) → i12 < h.nx → b0j h v12 1 (List.map eI d_12_0) → b0j h v12_1 1 (List.map b0s d_12_1) → b0j h v12_2 1 (List.map b0s d_12_2) → ¬i6 = i12 → b0a v12 i6 → b0a v12_1 i6 → b0a v12_2 i6 → b0a v12 i12 → b0a v12_1 i12 → b0a v12_2 i12 → (∀ j, ¬b0a v12 j → b0a v12_1 j) → (∀ j, ¬b0a v12 j → b0a v12_2 j) → (∀ j, ¬b0a v12_1 j → b0a v12_2 j) → c9g d_12_0 d_12_1 d_12_2 = some r → K21 t h := by
       try clear s3 s6 s12 Qu Qa Qy Qb Q14 Q15 Qj Q11 Qz Qv Qw Q1f
       intro d_12_2 v12_2 t h s6 s12 Qu Qa Qy Qb Q14 Q15 Q1z Qj Q11 Qz Q1v Qv Qw Q1w Q1f Q28 Q29 hm0
       refine hK21 _ _ ?_
       unfold c9g at hm0
       refine b0e fun K hK => ?_
       simp only [go_sem, s6, s12, Qu, Qa, Qy, Qb, Qj, b0c Qj, Q11, Qz, Q1v, Qv, Qw, Q1w, b0b v12, b0b v12_1, b0b v12_2]
       refine hK _ _ ?_
       clear hK K
       simp only [b1l, b1n, b1m, b1o]
       obtain rfl := sI9 hm0
       exact b8k (id := i6) (m := 3) (cs := [v12, v12_1, v12_2]) (u := I 0) (by simp only [go_sem, s6, Qu, Qa, Qy, Qb, b0h Q14, b0h Q15, b0h Q1z, Qj, b0c Qj, Q11, Qz, Q1v, Qv, Qw, Q1w, lA9, mA9]) (by simp only [go_sem, s6, Qu, Qa, Qy, Qb, b0h Q14, b0h Q15, b0h Q1z, Qj, b0c Qj, Q11, Qz, Q1v, Qv, Qw, Q1w, lA9, mA9]) rfl (by simp only [go_sem, s6, Qu, Qa, Qy, Qb, b0h Q14, b0h Q15, b0h Q1z, Qj, b0c Qj, Q11, Qz, Q1v, Qv, Qw, Q1w, lA9, mA9]) (b6m (.cons (b35 (f := eI) (l := d_12_0) (b05 Q14 (by intro j hj hl; first | rfl | simp only [go_sem, hl, b04 hj Q11, b04 hj Qv, Q1f j hj, Q28 j hj]) (by first | omega | exact Nat.le_refl _ | (simp only [go_sem, nxs] <;> omega))) b2r b4d) (.cons (b35 (f := b0s) (l := d_12_1) (b05 Q15 (by intro j hj hl; first | rfl | simp only [go_sem, hl, b04 hj Qz, b04 hj Qw, b2d Q1f j hj, Q29 j hj]) (by first | omega | exact Nat.le_refl _ | (simp only [go_sem, nxs] <;> omega))) b21 b58) (.cons (b35 (f := b0s) (l := d_12_2) (b05 Q1z (by intro j hj hl; first | rfl | simp only [go_sem, hl, b04 hj Q1v, b04 hj Q1w, b2d Q28 j hj, b2d Q29 j hj]) (by first | omega | exact Nat.le_refl _ | (simp only [go_sem, nxs] <;> omega))) b21 b58) (.nil))))) (.refl _ (b0o _))
      simp only [b1f]
      obtain ⟨b23, hl23, hm0⟩ := b0l hm0
      refine b19 hl23 (fun | (d_12_2, x_152), t, h => ∃ v12_2 : AV, t 6 = .rp i6 0 0 ∧ t 12 = .rp i12 0 0 ∧ t 150 = .fs 5 (List.map b0r h_.Combs) ∧ t 151 = I (List.length h_.Combs : Int) ∧ t 152 = I x_152 ∧ h.ob i6 = some (3, [[.v (.slice none 0 0), .v (.slice none 0 0), .v (.slice none 0 0)]]) ∧ i6 < h.nx ∧ h.ob i12 = some (3, [[v12, v12_1, v12_2]]) ∧ i12 < h.nx ∧ b0j h v12 1 (List.map eI d_12_0) ∧ b0j h v12_1 1 (List.map b0s d_12_1) ∧ b0j h v12_2 1 (List.map b0s d_12_2) ∧ ¬i6 = i12 ∧ b0a v12 i6 ∧ b0a v12_1 i6 ∧ b0a v12_2 i6 ∧ b0a v12 i12 ∧ b0a v12_1 i12 ∧ b0a v12_2 i12 ∧ (∀ j, ¬b0a v12 j → b0a v12_1 j) ∧ (∀ j, ¬b0a v12 j → b0a v12_2 j) ∧ (∀ j, ¬b0a v12_1 j → b0a v12_2 j)) ?_ ?_
      ·exact ⟨(.v (.slice none 0 0)), s6, s12, (by first | (simp only [go_sem, lA9, mA9]; done) | rfl), (by first | (simp only [go_sem, lA9, mA9]; done) | rfl), (by first | (simp only [go_sem, lA9, mA9]; done) | rfl), Qu, Qa, Qy, Qb, Q14, Q15, b4y, Qj, Q11, Qz, (by first | exact b02 | exact b03 (by first | assumption | omega | (simp only [nxs] <;> omega)) | assumption | exact b0q (by assumption) (by first | assumption | omega | (simp only [nxs] <;> omega))), Qv, Qw, (by first | exact b02 | exact b03 (by first | assumption | omega | (simp only [nxs] <;> omega)) | assumption | exact b0q (by assumption) (by first | assumption | omega | (simp only [nxs] <;> omega))), Q1f, (by first | exact b2x | exact b2y | assumption | (refine b2z ?_; first | assumption | exact b0q (by assumption) (by first | assumption | omega | (simp only [nxs] <;> omega))) | (refine b2c ?_; first | assumption | exact b0q (by assumption) (by first | assumption | omega | (simp only [nxs] <;> omega)))), (by first | exact b2x | exact b2y | assumption | (refine b2z ?_; first | assumption | exact b0q (by assumption) (by first | assumption | omega | (simp only [nxs] <;> omega))) | (refine b2c ?_; first | assumption | exact b0q (by assumption) (by first | assumption | omega | (simp only [nxs] <;> omega))))⟩
      ·try clear s3 s6 s12 Qu Qa Qy Qb Q14 Q15 Qj Q11 Qz Qv Qw Q1f
       rintro ⟨d_12_2, x_152⟩ o t h ⟨v12_2, s6, s12, s150, s151, s152, Qu, Qa, Qy, Qb, Q14, Q15, Q1z, Qj, Q11, Qz, Q1v, Qv, Qw, Q1w, Q1f, Q28, Q29⟩ hm1 hb23
       simp only [c21] at hm1
       rw [g0o]
       refine b0e fun K hK => ?_
       simp only [go_sem, s151, s152, Qa, Qb, b0b v12, b0b v12_1, b0b v12_2]
       refine hK _ _ ?_
       clear hK K
       refine b0w fun K24 hK24 => ?_
       simp only [go_sem]
       refine b0x (fun hc25 => ?_) (fun hc25 => ?_)
       ·rw [b1e hc25] at hm1
        simp only [b1b, b0m, b0n]
        refine hK24 _ _ ?_
        refine b0w fun K26 hK26 => ?_
        simp only [b1f]
        obtain ⟨x28, h_x28, hm1⟩ := b0l hm1
        have h_x280 := b07 h_x28
        have h_x281 := b1a h_x28
        refine b0e fun K hK => ?_
        simp only [go_sem, s150, s152, Qa, Qb, b0y h_x28, b0z h_x28, h_x280, h_x281, b0b v12, b0b v12_1, b0b v12_2]
        refine hK _ _ ?_
        clear hK K
        obtain ⟨l30, h_l30, hm1⟩ := b0l hm1
        refine b0e fun K hK => ?_
        simp only [go_sem, s12, Qy, Qb, Qa, Qj, b0c Qj, Q11, Qz, Q1v, Qv, Qw, Q1w, b0b v12, b0b v12_1, b0b v12_2]
        refine d0i (f := b0s) (l := d_12_2) (a := ([x28.Walk.Low])) (raw := [.rs (nxs h.nx) 0 (1)]) ?_ ?_ ?_ h_l30 ?_
        ·exact (b05 Q1z (by intro j hj hl; first | rfl | simp only [go_sem, hl, b04 hj Q1v, b04 hj Q1w, b2d Q28 j hj, b2d Q29 j hj]) (by first | omega | exact Nat.le_refl _ | (simp only [go_sem, nxs] <;> omega)))
        ·exact (by simp only [go_sem, Qu, Qa, Qy, Qb, b0h Q14, b0h Q15, b0h Q1z, Qj, b0c Qj, Q11, Qz, Q1v, Qv, Qw, Q1w, lA9, mA9])
        ·exact (by first | exact b02 | exact b03 (by first | omega | (simp only [nxs] <;> omega)) | assumption | exact b0q (by assumption) (by first | omega | (simp only [go_sem, nxs] <;> omega)))
        simp only [go_sem, s12, Qy, Qb, Qa, Qj, b0c Qj, Q11, Qz, Q1v, Qv, Qw, Q1w, b0b v12, b0b v12_1, b0b v12_2]
        refine hK _ _ ?_
        clear hK K
        refine c8y ?_
        refine d3z (id := (nxs (nxs (nxs h.nx)))) (sz := 1) (f := b0s) (l := d_12_2) (a := ([x28.Walk.Low])) (raw := [.rs (nxs h.nx) 0 (1)]) (fun j => j == (nxs h.nx)) (by simp only [go_sem, Qu, Qa, Qy, Qb, b0h Q14, b0h Q15, b0h Q1z, Qj, b0c Qj, Q11, Qz, Q1v, Qv, Qw, Q1w, lA9, mA9]) (by first | (simp; done) | (simp [nxs] <;> omega)) (.cons (b53 (f := eI) (l := ([x28.Walk.Low])) (id := (nxs h.nx)) (by rw [b9e (by simp)]; simp only [go_sem, Qu, Qa, Qy, Qb, b0h Q14, b0h Q15, b0h Q1z, Qj, b0c Qj, Q11, Qz, Q1v, Qv, Qw, Q1w, lA9, mA9]) (by first | rfl | simp only [go_sem, lA9, mA9]) b2r b4d) (.nil)) b21 b58 ?_
        rw [← (b9w h_l30).2]
        simp only [b1b, b0m, b0n]
        refine hK26 _ _ ?_
        refine b1p fun K hK => ?_
        simp only [go_sem, s152, Qa, Qb, oF9, bF9, ne_eq, nF9, and_self, b0b v12, b0b v12_1, b0b v12_2]
        refine hK _ _ ?_
        clear hK K
        simp only [b0m, b0n]
        obtain rfl := sI9 hm1
        refine ⟨_, rfl, ?_⟩
        exact ⟨(.rs (nxs (nxs (nxs h.nx))) 0 (List.length l30)), s6, s12, s150, s151, (by first | (simp only [go_sem, s152, lA9, mA9]; done) | rfl), (by simp only [go_sem, oF9, bF9, ne_eq, nF9, and_self, Qu, Qa, Qb, b0h Q1z, Qj, b0c Qj, Q1v, lA9, mA9]), (by simp only [go_sem, Qa]), (by simp only [go_sem, oF9, bF9, ne_eq, nF9, and_self, Qy, Qb, b0h Q1z, Q1w, lA9, mA9]), (by simp only [go_sem, Qb]), (b05 Q14 (by intro j hj hl; first | rfl | simp only [go_sem, hl, Qb, b04 hj Qv, Q28 j hj, oF9, bF9, ne_eq, nF9, and_self]) (by first | omega | exact Nat.le_refl _ | (simp only [go_sem, nxs] <;> omega))), (b05 Q15 (by intro j hj hl; first | rfl | simp only [go_sem, hl, Qb, b04 hj Qw, Q29 j hj, oF9, bF9, ne_eq, nF9, and_self]) (by first | omega | exact Nat.le_refl _ | (simp only [go_sem, nxs] <;> omega))), (b3f (by simp only [go_sem, oF9, bF9, ne_eq, nF9, and_self, Qb, b0h Q1z, lA9, mA9]) (by first | rfl | simp only [go_sem, lA9, mA9]) (by simp only [go_sem])), Qj, Q11, Qz, (by first | exact b02 | exact b03 (by first | assumption | omega | (simp only [nxs] <;> omega)) | assumption | exact b0q (by assumption) (by first | assumption | omega | (simp only [nxs] <;> omega))), Qv, Qw, (by first | exact b02 | exact b03 (by first | assumption | omega | (simp only [nxs] <;> omega)) | assumption | exact b0q (by assumption) (by first | assumption | omega | (simp only [nxs] <;> omega))), Q1f, (by first | exact b2x | exact b2y | assumption | (refine b2z ?_; first | assumption | exact b0q (by assumption) (by first | assumption | omega | (simp only [nxs] <;> omega))) | (refine b2c ?_; first | assumption | exact b0q (by assumption) (by first | assumption | omega | (simp only [nxs] <;> omega)))), (by first | exact b2x | exact b2y | assumption | (refine b2z ?_; first | assumption | exact b0q (by assumption) (by first | assumption | omega | (simp only [nxs] <;> omega))) | (refine b2c ?_; first | assumption | exact b0q (by assumption) (by first | assumption | omega | (simp only [nxs] <;> omega))))⟩
       ·rw [b1d hc25] at hm1
        simp only [b1y, b11, b10, b1z, b0m, b0n, Nat.reduceEqDiff, nF9]
        obtain rfl := sI9 hm1
        obtain rfl := hb23 _ rfl
        try dsimp only at hm0
        exact J22 d_12_2 v12_2 _ _ s6 s12 Qu Qa Qy Qb Q14 Q15 Q1z Qj Q11 Qz Q1v Qv Qw Q1w Q1f Q28 Q29 hm0
     simp only [b1f]
     obtain ⟨b32, hl32, hm0⟩ := b0l hm0
     refine b19 hl32 (fun | (d_12_0, d_12_1, x_87), t, h => ∃ i12 : Nat, ∃ v12 : AV, ∃ v12_1 : AV, t 2 = I tick ∧ t 3 = .fp [.fs 5 (List.map b0r h_.Combs), .fs 3 (List.map b0p h_.Trains), .fs 3 (List.map b0u h_.Shifts), I h_.Until] 0 ∧ t 6 = .rp i6 0 0 ∧ t 10 = I from_10 ∧ t 12 = .rp i12 0 0 ∧ t 85 = .fs 3 (List.map b0p h_.Trains) ∧ t 86 = I (List.length h_.Trains : Int) ∧ t 87 = I x_87 ∧ h.ob i6 = some (3, [[.v (.slice none 0 0), .v (.slice none 0 0), .v (.slice none 0 0)]]) ∧ i6 < h.nx ∧ h.ob i12 = some (3, [[v12, v12_1, .v (.slice none 0 0)]]) ∧ i12 < h.nx ∧ b0j h v12 1 (List.map eI d_12_0) ∧ b0j h v12_1 1 (List.map b0s d_12_1) ∧ ¬i6 = i12 ∧ b0a v12 i6 ∧ b0a v12_1 i6 ∧ b0a v12 i12 ∧ b0a v12_1 i12 ∧ (∀ j, ¬b0a v12 j → b0a v12_1 j)) ?_ ?_
     ·exact ⟨h.nx, (.v (.slice none 0 0)), (.v (.slice none 0 0)), s2, s3, s6, s10, (by first | (simp only [go_sem, lA9, mA9]; done) | rfl), (by first | (simp only [go_sem, lA9, mA9]; done) | rfl), (by first | (simp only [go_sem, lA9, mA9]; done) | rfl), (by first | (simp only [go_sem, lA9, mA9]; done) | rfl), (by simp only [go_sem, Qu, Qa, lA9, mA9]), (by simp only [go_sem, Qa]), (by simp only [go_sem, lA9, mA9]), (by simp only [go_sem]), b4y, b4y, (by first | first | assumption | omega | (simp only [nxs] <;> omega)), (by first | exact b02 | exact b03 (by first | assumption | omega | (simp only [nxs] <;> omega)) | assumption | exact b0q (by assumption) (by first | assumption | omega | (simp only [nxs] <;> omega))), (by first | exact b02 | exact b03 (by first | assumption | omega | (simp only [nxs] <;> omega)) | assumption | exact b0q (by assumption) (by first | assumption | omega | (simp only [nxs] <;> omega))), (by first | exact b02 | exact b03 (by first | assumption | omega | (simp only [nxs] <;> omega)) | assumption | exact b0q (by assumption) (by first | assumption | omega | (simp only [nxs] <;> omega))), (by first | exact b02 | exact b03 (by first | assumption | omega | (simp only [nxs] <;> omega)) | assumption | exact b0q (by assumption) (by first | assumption | omega | (simp only [nxs] <;> omega))), (by first | exact b2x | exact b2y | assumption | (refine b2z ?_; first | assumption | exact b0q (by assumption) (by first | assumption | omega | (simp only [nxs] <;> omega))) | (refine b2c ?_; first | assumption | exact b0q (by assumption) (by first | assumption | omega | (simp only [nxs] <;> omega))))⟩
     ·rintro ⟨d_12_0, d_12_1, x_87⟩ o t h ⟨i12, v12, v12_1, s2, s3, s6, s10, s12, s85, s86, s87, Qu, Qa, Qy, Qb, Q14, Q15, Qj, Q11, Qz, Qv, Qw, Q1f⟩ hm1 hb32
      simp only [c2z] at hm1
      rw [g0n]
      refine b0e fun K hK => ?_
      simp only [go_sem, s86, s87, Qa, Qb, b0b v12, b0b v12_1]
      refine hK _ _ ?_
      clear hK K
      refine b0w fun K33 hK33 => ?_
      simp only [go_sem]
      refine b0x (fun hc34 => ?_) (fun hc34 => ?_)
      ·rw [b1e hc34] at hm1
       simp only [b1b, b0m, b0n]
       refine hK33 _ _ ?_
       refine b0w fun K35 hK35 => ?_
       have J36 : ∀ (d_12_0_1 : List Int) (d_12_1_1 : List (List Int)) (i12_1 : Nat) (i12_2 : Nat) (t : Slots) (h : Heap), t 2 = I tick → t 3 = .fp [.fs 5 (List.map b0r h_.Combs), .fs 3 (List.map b0p h_.Trains), .fs 3 (List.map b0u h_.Shifts), I h_.Until] 0 → t 6 = .rp i6 0 0 → t 10 = I from_10 → t 12 = .rp i12 0 0 → t 85 = .fs 3 (List.map b0p h_.Trains) → t 86 = I (List.length h_.Trains : Int) → t 87 = I x_87 → h.ob i6 = some (3, [[.v (.slice none 0 0), .v (.slice none 0 0), .v (.slice none 0 0)]]) → i6 < h.nx → h.ob i12 = some (3, [[.rs i12_1 0 (List.length d_12_0_1), .rs i12_2 0 (List.length d_12_1_1), .v (.slice none 0 0)]]) → i12 < h.nx → h.ob i12_1 = some (1, List.map eI d_12_0_1) → i12_1 < h.nx → h.ob i12_2 = some (1, List.map b0s d_12_1_1) → i12_2 < h.nx → ¬i6 = i12 → ¬i6 = i12_1 → ¬i6 = i12_2 → ¬i12 = i12_1 → ¬i12 = i12_2 → ¬i12_1 = i12_2 → c5l x_87 d_12_0_1 d_12_1_1 = some o → K35 t h := by
        try clear s2 s3 s6 s10 s12 s85 s86 s87 Qu Qa Qy Qb Q14 Q15 Qj Q11 Qz Qv Qw Q1f
        intro d_12_0_1 d_12_1_1 i12_1 i12_2 t h s2 s3 s6 s10 s12 s85 s86 s87 Qu Qa Qy Qb Q2m Q2g Q2n Q2h Qj Q2p Q2q Q2r Q2s Q2t hm1
        refine hK35 _ _ ?_
        unfold c5l at hm1
        refine b1p fun K hK => ?_
        simp only [go_sem, s87, Qa, Qb, Q2g, Q2h, b0b v12, b0b v12_1]
        refine hK _ _ ?_
        clear hK K
        simp only [b0m, b0n]
        obtain rfl := sI9 hm1
        refine ⟨_, rfl, ?_⟩
        exact ⟨i12, (.rs i12_1 0 (List.length d_12_0_1)), (.rs i12_2 0 (List.length d_12_1_1)), s2, s3, s6, s10, s12, s85, s86, (by first | (simp only [go_sem, s87, lA9, mA9]; done) | rfl), Qu, Qa, Qy, Qb, (b3f (by simp only [go_sem, Q2m, Q2g, lA9, mA9]) (by first | rfl | simp only [go_sem, lA9, mA9]) (by simp only [go_sem, Q2g])), (b3f (by simp only [go_sem, Q2n, Q2h, lA9, mA9]) (by first | rfl | simp only [go_sem, lA9, mA9]) (by simp only [go_sem, Q2h])), Qj, (by first | exact b02 | exact b03 (by first | assumption | omega | (simp only [nxs] <;> omega)) | assumption | exact b0q (by assumption) (by first | assumption | omega | (simp only [nxs] <;> omega))), (by first | exact b02 | exact b03 (by first | assumption | omega | (simp only [nxs] <;> omega)) | assumption | exact b0q (by assumption) (by first | assumption | omega | (simp only [nxs] <;> omega))), (by first | exact b02 | exact b03 (by first | assumption | omega | (simp only [nxs] <;> omega)) | assumption | exact b0q (by assumption) (by first | assumption | omega | (simp only [nxs] <;> omega))), (by first | exact b02 | exact b03 (by first | assumption | omega | (simp only [nxs] <;> omega)) | assumption | exact b0q (by assumption) (by first | assumption | omega | (simp only [nxs] <;> omega))), (by first | exact b2x | exact b2y | assumption | (refine b2z ?_; first | assumption | exact b0q (by assumption) (by first | assumption | omega | (simp only [nxs] <;> omega))) | (refine b2c ?_; first | assumption | exact b0q (by assumption) (by first | assumption | omega | (simp only [nxs] <;> omega))))⟩
       simp only [b1f]
       obtain ⟨x38, h_x38, hm1⟩ := b0l hm1
       have h_x380 := b07 h_x38
       have h_x381 := b1a h_x38
       refine b0e fun K hK => ?_
       simp only [go_sem, s85, s87, Qa, Qb, b0y h_x38, b0z h_x38, h_x380, h_x381, b0b v12, b0b v12_1]
       refine hK _ _ ?_
       clear hK K
       refine b2p (fun t h => ∃ i14 : Nat, t 2 = I tick ∧ t 3 = .fp [.fs 5 (List.map b0r h_.Combs), .fs 3 (List.map b0p h_.Trains), .fs 3 (List.map b0u h_.Shifts), I h_.Until] 0 ∧ t 6 = .rp i6 0 0 ∧ t 10 = I from_10 ∧ t 12 = .rp i12 0 0 ∧ t 14 = .rp i14 0 0 ∧ t 15 = B ((decide (from_10 ≤ x38.At.High)) && (decide (x38.At.Low ≤ tick))) ∧ t 85 = .fs 3 (List.map b0p h_.Trains) ∧ t 86 = I (List.length h_.Trains : Int) ∧ t 87 = I x_87 ∧ h.ob i6 = some (3, [[.v (.slice none 0 0), .v (.slice none 0 0), .v (.slice none 0 0)]]) ∧ i6 < h.nx ∧ h.ob i12 = some (3, [[v12, v12_1, .v (.slice none 0 0)]]) ∧ i12 < h.nx ∧ b0j h v12 1 (List.map eI d_12_0) ∧ b0j h v12_1 1 (List.map b0s d_12_1) ∧ h.ob i14 = some (3, [[I x38.At.Low, I x38.At.High, .fs 3 (List.map b2m x38.Crowds)]]) ∧ i14 < h.nx ∧ ¬i6 = i12 ∧ b0a v12 i6 ∧ b0a v12_1 i6 ∧ ¬i6 = i14 ∧ b0a v12 i12 ∧ b0a v12_1 i12 ∧ ¬i12 = i14 ∧ (∀ j, ¬b0a v12 j → b0a v12_1 j) ∧ b0a v12 i14 ∧ b0a v12_1 i14) (fun K hK => ?_) ?_
       ·simp only [go_sem, s2, s10, Qa, Qb, b0b v12, b0b v12_1]
        refine b0x (fun hg39 => ?_) (fun hg39 => ?_)
        ·simp only [go_sem, s2, s10, Qa, Qb, hg39, b0b v12, b0b v12_1]
         exact hK _ _ ⟨h.nx, s2, s3, s6, s10, s12, (by first | (simp only [go_sem, hg39, lA9, mA9]; done) | rfl), (by first | (simp only [go_sem, hg39, lA9, mA9]; done) | rfl), s85, s86, s87, (by simp only [go_sem, Qu, Qa, hg39, lA9, mA9]), (by simp only [go_sem, Qa]), (by simp only [go_sem, Qy, Qb, hg39, lA9, mA9]), (by simp only [go_sem, Qb]), (b05 Q14 (by intro j hj hl; first | rfl | simp only [go_sem, hl]) (by first | omega | exact Nat.le_refl _ | (simp only [go_sem, nxs] <;> omega))), (b05 Q15 (by intro j hj hl; first | rfl | simp only [go_sem, hl]) (by first | omega | exact Nat.le_refl _ | (simp only [go_sem, nxs] <;> omega))), (by simp only [go_sem, hg39, lA9, mA9]), (by simp only [go_sem]), Qj, Q11, Qz, (by first | first | assumption | omega | (simp only [nxs] <;> omega)), Qv, Qw, (by first | first | assumption | omega | (simp only [nxs] <;> omega)), Q1f, (by first | exact b02 | exact b03 (by first | assumption | omega | (simp only [nxs] <;> omega)) | assumption | exact b0q (by assumption) (by first | assumption | omega | (simp only [nxs] <;> omega))), (by first | exact b02 | exact b03 (by first | assumption | omega | (simp only [nxs] <;> omega)) | assumption | exact b0q (by assumption) (by first | assumption | omega | (simp only [nxs] <;> omega)))⟩
        ·simp only [go_sem, s2, s10, Qa, Qb, hg39, b0b v12, b0b v12_1]
         exact hK _ _ ⟨h.nx, s2, s3, s6, s10, s12, (by first | (simp only [go_sem, hg39, lA9, mA9]; done) | rfl), (by first | (simp only [go_sem, hg39, lA9, mA9]; done) | rfl), s85, s86, s87, (by simp only [go_sem, Qu, Qa, hg39, lA9, mA9]), (by simp only [go_sem, Qa]), (by simp only [go_sem, Qy, Qb, hg39, lA9, mA9]), (by simp only [go_sem, Qb]), (b05 Q14 (by intro j hj hl; first | rfl | simp only [go_sem, hl]) (by first | omega | exact Nat.le_refl _ | (simp only [go_sem, nxs] <;> omega))), (b05 Q15 (by intro j hj hl; first | rfl | simp only [go_sem, hl]) (by first | omega | exact Nat.le_refl _ | (simp only [go_sem, nxs] <;> omega))), (by simp only [go_sem, hg39, lA9, mA9]), (by simp only [go_sem]), Qj, Q11, Qz, (by first | first | assumption | omega | (simp only [nxs] <;> omega)), Qv, Qw, (by first | first | assumption | omega | (simp only [nxs] <;> omega)), Q1f, (by first | exact b02 | exact b03 (by first | assumption | omega | (simp only [nxs] <;> omega)) | assumption | exact b0q (by assumption) (by first | assumption | omega | (simp only [nxs] <;> omega))), (by first | exact b02 | exact b03 (by first | assumption | omega | (simp only [nxs] <;> omega)) | assumption | exact b0q (by assumption) (by first | assumption | omega | (simp only [nxs] <;> omega)))⟩
       ·try clear s2 s3 s6 s10 s12 s85 s86 s87 Qu Qa Qy Qb Q14 Q15 Qj Q11 Qz Qv Qw Q1f
        rintro t h ⟨i14, s2, s3, s6, s10, s12, s14, s15, s85, s86, s87, Qu, Qa, Qy, Qb, Q14, Q15, Q22, Q20, Qj, Q11, Qz, Q1x, Qv, Qw, Q1y, Q1f, Q23, Q24⟩
        refine b0e fun K hK => ?_
        simp only [go_sem, s14, Q22, Q20, Qa, Qb, Q1x, b0c Q1x, Q1y, b0c Q1y, Q23, Q24, b0b v12, b0b v12_1]
        refine hK _ _ ?_
        clear hK K
        refine b09 ?_
        refine b0e fun K hK => ?_
        simp only [go_sem, s15, Qa, Qb, Q20, b0b v12, b0b v12_1]
        refine hK _ _ ?_
        clear hK K
        refine b0w fun K40 hK40 => ?_
        have J41 : ∀ (at_16 : Int) (t : Slots) (h : Heap), t 2 = I tick → t 3 = .fp [.fs 5 (List.map b0r h_.Combs), .fs 3 (List.map b0p h_.Trains), .fs 3 (List.map b0u h_.Shifts), I h_.Until] 0 → t 6 = .rp i6 0 0 → t 10 = I from_10 → t 12 = .rp i12 0 0 → t 14 = .rp i14 0 0 → t 15 = B ((decide (from_10 ≤ x38.At.High)) && (decide (x38.At.Low ≤ tick))) → t 16 = I at_16 → t 85 = .fs 3 (List.map b0p h_.Trains) → t 86 = I (List.length h_.Trains : Int) → t 87 = I x_87 → h.ob i6 = some (3, [[.v (.slice none 0 0), .v (.slice none 0 0), .v (.slice none 0 0)]]) → i6 < h.nx → h.ob i12 = some (3, [[v12, v12_1, .v (.slice none 0 0)]]) → i12 < h.nx → b0j h v12 1 (List.map eI d_12_0) → b0j h v12_1 1 (List.map b0s d_12_1) → h.ob i14 = some (3, [[I x38.At.Low, I x38.At.High, .fs 3 (List.map b2m x38.Crowds)]]) → i14 < h.nx → ¬i6 = i12 → b0a v12 i6 → b0a v12_1 i6 → ¬i6 = i14 → b0a v12 i12 → b0a v12_1 i12 → ¬i12 = i14 → (∀ j, ¬b0a v12 j → b0a v12_1 j) → b0a v12 i14 → b0a v12_1 i14 → c0a tick from_10 d_12_0 d_12_1 x_87 x38 at_16 = some o → K40 t h := by
         try clear s2 s3 s6 s10 s12 s14 s15 s85 s86 s87 Qu Qa Qy Qb Q14 Q15 Q22 Q20 Qj Q11 Qz Q1x Qv Qw Q1y Q1f Q23 Q24
         intro at_16 t h s2 s3 s6 s10 s12 s14 s15 s16 s85 s86 s87 Qu Qa Qy Qb Q14 Q15 Q22 Q20 Qj Q11 Qz Q1x Qv Qw Q1y Q1f Q23 Q24 hm1
         refine hK40 _ _ ?_
         unfold c0a at hm1
         obtain ⟨l43, h_l43, hm1⟩ := b0l hm1
         refine b0e fun K hK => ?_
         simp only [go_sem, s14, Q22, Q20, Qa, Qb, Q1x, b0c Q1x, Q1y, b0c Q1y, Q23, Q24, b0b v12, b0b v12_1]
         refine b6z (f := eI) (z := 0) rfl h_l43 ?_
         simp only [go_sem, s14, Q22, Q20, Qa, Qb, Q1x, b0c Q1x, Q1y, b0c Q1y, Q23, Q24, b0b v12, b0b v12_1]
         refine hK _ _ ?_
         clear hK K
         refine b09 ?_
         refine b0e fun K hK => ?_
         simp only [go_sem, s14, Q22, Q20, Qa, Qb, Q1x, b0c Q1x, Q1y, b0c Q1y, Q23, Q24, b0b v12, b0b v12_1]
         refine hK _ _ ?_
         clear hK K
         refine b0w fun K44 hK44 => ?_
         have J45 : ∀ (people_17 : List Int) (i17 : Nat) (t : Slots) (h : Heap), t 2 = I tick → t 3 = .fp [.fs 5 (List.map b0r h_.Combs), .fs 3 (List.map b0p h_.Trains), .fs 3 (List.map b0u h_.Shifts), I h_.Until] 0 → t 6 = .rp i6 0 0 → t 10 = I from_10 → t 12 = .rp i12 0 0 → t 16 = I at_16 → t 17 = .rs i17 0 (List.length people_17) → t 85 = .fs 3 (List.map b0p h_.Trains) → t 86 = I (List.length h_.Trains : Int) → t 87 = I x_87 → h.ob i6 = some (3, [[.v (.slice none 0 0), .v (.slice none 0 0), .v (.slice none 0 0)]]) → i6 < h.nx → h.ob i12 = some (3, [[v12, v12_1, .v (.slice none 0 0)]]) → i12 < h.nx → b0j h v12 1 (List.map eI d_12_0) → b0j h v12_1 1 (List.map b0s d_12_1) → h.ob i17 = some (1, List.map eI people_17) → i17 < h.nx → ¬i6 = i12 → b0a v12 i6 → b0a v12_1 i6 → ¬i6 = i17 → b0a v12 i12 → b0a v12_1 i12 → ¬i12 = i17 → (∀ j, ¬b0a v12 j → b0a v12_1 j) → b0a v12 i17 → b0a v12_1 i17 → c5m d_12_0 d_12_1 x_87 at_16 people_17 = some o → K44 t h := by
          try clear s2 s3 s6 s10 s12 s14 s15 s16 s85 s86 s87 Qu Qa Qy Qb Q14 Q15 Q22 Q20 Qj Q11 Qz Q1x Qv Qw Q1y Q1f Q23 Q24
          intro people_17 i17 t h s2 s3 s6 s10 s12 s16 s17 s85 s86 s87 Qu Qa Qy Qb Q14 Q15 Q1s Q1a Qj Q11 Qz Q1j Qv Qw Q1b Q1f Q1n Q1l hm1
          refine hK44 _ _ ?_
          unfold c5m at hm1
          obtain ⟨l47, h_l47, hm1⟩ := b0l hm1
          refine b0e fun K hK => ?_
          simp only [go_sem, s12, s16, Qy, Qb, Qa, Q1a, Qj, b0c Qj, Q11, Qz, Qv, Qw, Q1b, b0c Q1b, Q1n, Q1l, b0b v12, b0b v12_1]
          refine b4v (f := eI) (l := d_12_0) (m := ([at_16])) ?_ ?_ ?_ ?_ h_l47 ?_
          ·exact (b05 Q14 (by intro j hj hl; first | rfl | simp only [go_sem, hl, b04 hj Q11, b04 hj Qv, Q1f j hj, b04 hj Q1n]) (by first | omega | exact Nat.le_refl _ | (simp only [go_sem, nxs] <;> omega)))
          ·exact (b4z (by simp only [go_sem, Qu, Qa, Qy, Qb, b0h Q14, b0h Q15, Q1s, Q1a, Qj, b0c Qj, Q11, Qz, Q1j, b0c Q1j, Qv, Qw, Q1b, b0c Q1b, Q1n, Q1l, lA9, mA9]) (by simp only [go_sem, Qu, Qa, Qy, Qb, b0h Q14, b0h Q15, Q1s, Q1a, Qj, b0c Qj, Q11, Qz, Q1j, b0c Q1j, Qv, Qw, Q1b, b0c Q1b, Q1n, Q1l, lA9, mA9]))
          ·exact (b2c (by first | exact b02 | exact b03 (by first | omega | (simp only [nxs] <;> omega)) | assumption | exact b0q (by assumption) (by first | omega | (simp only [go_sem, nxs] <;> omega))))
          ·exact (fun _ => by simp)
          simp only [go_sem, s12, s16, Qy, Qb, Qa, Q1a, Qj, b0c Qj, Q11, Qz, Qv, Qw, Q1b, b0c Q1b, Q1n, Q1l, b0b v12, b0b v12_1]
          refine hK _ _ ?_
          clear hK K
          refine b92 (s := 17) (v := .rs i17 0 (List.length people_17)) (f := eI) (l := people_17) (by simp only [go_sem, s17, Qu, Qa, Qy, Qb, b0h Q14, b0h Q15, Q1s, Q1a, Qj, b0c Qj, Q11, Qz, Q1j, b0c Q1j, Qv, Qw, Q1b, b0c Q1b, Q1n, Q1l, lA9, mA9]) (b3f (by simp only [go_sem, s17, Qu, Qa, Qy, Qb, b0h Q14, b0h Q15, Q1s, Q1a, Qj, b0c Qj, Q11, Qz, Q1j, b0c Q1j, Qv, Qw, Q1b, b0c Q1b, Q1n, Q1l, lA9, mA9]) (by simp only [go_sem, s17, Qu, Qa, Qy, Qb, b0h Q14, b0h Q15, Q1s, Q1a, Qj, b0c Qj, Q11, Qz, Q1j, b0c Q1j, Qv, Qw, Q1b, b0c Q1b, Q1n, Q1l, lA9, mA9]) (by simp only [go_sem, Qa, Qb, Q1a])) b2r b4d ?_
          simp only [c2s, c2t]
          obtain ⟨l49, h_l49, hm1⟩ := b0l hm1
          refine b1p fun K hK => ?_
          simp only [go_sem, s12, s17, Qy, Qb, Qa, Q1a, Qj, b0c Qj, Qz, Qv, Qw, Q1b, b0c Q1b, Q1l, b0b v12, b0b v12_1]
          refine b4v (f := b0s) (l := d_12_1) (m := ([people_17])) ?_ ?_ ?_ ?_ h_l49 ?_
          ·exact (b05 Q15 (by intro j hj hl; first | rfl | simp only [go_sem, hl, b04 hj Qz, b04 hj Qw, b2d Q1f j hj, b04 hj Q1l]) (by first | omega | exact Nat.le_refl _ | (simp only [go_sem, nxs] <;> omega)))
          ·exact (b4z (by simp only [go_sem, Qu, Qa, Qy, Qb, b0h Q14, b0h Q15, Q1s, Q1a, Qj, b0c Qj, Q11, Qz, Q1j, b0c Q1j, Qv, Qw, Q1b, b0c Q1b, Q1n, Q1l, lA9, mA9]) (by simp only [go_sem, Qu, Qa, Qy, Qb, b0h Q14, b0h Q15, Q1s, Q1a, Qj, b0c Qj, Q11, Qz, Q1j, b0c Q1j, Qv, Qw, Q1b, b0c Q1b, Q1n, Q1l, lA9, mA9]))
          ·exact (b2c (by first | exact b02 | exact b03 (by first | omega | (simp only [nxs] <;> omega)) | assumption | exact b0q (by assumption) (by first | omega | (simp only [go_sem, nxs] <;> omega))))
          ·exact (fun _ => by simp)
          simp only [go_sem, s12, s17, Qy, Qb, Qa, Q1a, Qj, b0c Qj, Qz, Qv, Qw, Q1b, b0c Q1b, Q1l, b0b v12, b0b v12_1]
          refine hK _ _ ?_
          clear hK K
          simp only [b0m, b0n]
          exact J36 l47 l49 (nxs h.nx) (nxs (nxs (nxs h.nx))) _ _ s2 s3 s6 s10 s12 s85 s86 s87 (by simp only [go_sem, Qu, Qa, Qb, b0h Q14, b0h Q15, Q1a, Qj, b0c Qj, Q11, Qz, Q1j, b0c Q1j, lA9, mA9]) (by simp only [go_sem, Qa]) (by simp only [go_sem, Qy, Qb, b0h Q14, b0h Q15, Q1a, Qv, Qw, Q1b, b0c Q1b, lA9, mA9]) (by simp only [go_sem, Qb]) (by simp only [go_sem, Qb, b0h Q14, b0h Q15, Q1a, lA9, mA9]) (by simp only [go_sem]) (by simp only [go_sem, Qb, b0h Q14, b0h Q15, Q1a, lA9, mA9]) (by simp only [go_sem]) Qj (by first | first | assumption | omega | (simp only [nxs] <;> omega)) (by first | first | assumption | omega | (simp only [nxs] <;> omega)) (by first | first | assumption | omega | (simp only [nxs] <;> omega)) (by first | first | assumption | omega | (simp only [nxs] <;> omega)) (by first | first | assumption | omega | (simp only [nxs] <;> omega)) hm1
         simp only [b1f]
         obtain ⟨b50, hl50, hm1⟩ := b0l hm1
         refine b19 hl50 (fun | (people_17, x_117), t, h => ∃ i17 : Nat, t 2 = I tick ∧ t 3 = .fp [.fs 5 (List.map b0r h_.Combs), .fs 3 (List.map b0p h_.Trains), .fs 3 (List.map b0u h_.Shifts), I h_.Until] 0 ∧ t 6 = .rp i6 0 0 ∧ t 10 = I from_10 ∧ t 12 = .rp i12 0 0 ∧ t 15 = B ((decide (from_10 ≤ x38.At.High)) && (decide (x38.At.Low ≤ tick))) ∧ t 16 = I at_16 ∧ t 17 = .rs i17 0 (List.length people_17) ∧ t 85 = .fs 3 (List.map b0p h_.Trains) ∧ t 86 = I (List.length h_.Trains : Int) ∧ t 87 = I x_87 ∧ t 115 = .fs 3 (List.map b2m x38.Crowds) ∧ t 116 = I (List.length x38.Crowds : Int) ∧ t 117 = I x_117 ∧ h.ob i6 = some (3, [[.v (.slice none 0 0), .v (.slice none 0 0), .v (.slice none 0 0)]]) ∧ i6 < h.nx ∧ h.ob i12 = some (3, [[v12, v12_1, .v (.slice none 0 0)]]) ∧ i12 < h.nx ∧ b0j h v12 1 (List.map eI d_12_0) ∧ b0j h v12_1 1 (List.map b0s d_12_1) ∧ h.ob i17 = some (1, List.map eI people_17) ∧ i17 < h.nx ∧ ¬i6 = i12 ∧ b0a v12 i6 ∧ b0a v12_1 i6 ∧ ¬i6 = i17 ∧ b0a v12 i12 ∧ b0a v12_1 i12 ∧ ¬i12 = i17 ∧ (∀ j, ¬b0a v12 j → b0a v12_1 j) ∧ b0a v12 i17 ∧ b0a v12_1 i17) ?_ ?_
         ·exact ⟨h.nx, s2, s3, s6, s10, s12, s15, s16, (by first | (simp only [go_sem, lA9, mA9]; done) | rfl), s85, s86, s87, (by first | (simp only [go_sem, lA9, mA9]; done) | rfl), (by first | (simp only [go_sem, lA9, mA9]; done) | rfl), (by first | (simp only [go_sem, lA9, mA9]; done) | rfl), (by simp only [go_sem, Qu, Qa, lA9, mA9]), (by simp only [go_sem, Qa]), (by simp only [go_sem, Qy, Qb, lA9, mA9]), (by simp only [go_sem, Qb]), (b05 Q14 (by intro j hj hl; first | rfl | simp only [go_sem, hl]) (by first | omega | exact Nat.le_refl _ | (simp only [go_sem, nxs] <;> omega))), (b05 Q15 (by intro j hj hl; first | rfl | simp only [go_sem, hl]) (by first | omega | exact Nat.le_refl _ | (simp only [go_sem, nxs] <;> omega))), (by simp only [go_sem, lA9, mA9]), (by simp only [go_sem]), Qj, Q11, Qz, (by first | first | assumption | omega | (simp only [nxs] <;> omega)), Qv, Qw, (by first | first | assumption | omega | (simp only [nxs] <;> omega)), Q1f, (by first | exact b02 | exact b03 (by first | assumption | omega | (simp only [nxs] <;> omega)) | assumption | exact b0q (by assumption) (by first | assumption | omega | (simp only [nxs] <;> omega))), (by first | exact b02 | exact b03 (by first | assumption | omega | (simp only [nxs] <;> omega)) | assumption | exact b0q (by assumption) (by first | assumption | omega | (simp only [nxs] <;> omega)))⟩
         ·try clear s2 s3 s6 s10 s12 s14 s15 s16 s85 s86 s87 Qu Qa Qy Qb Q14 Q15 Q22 Q20 Qj Q11 Qz Q1x Qv Qw Q1y Q1f Q23 Q24
          rintro ⟨people_17, x_117⟩ o t h ⟨i17, s2, s3, s6, s10, s12, s15, s16, s17, s85, s86, s87, s115, s116, s117, Qu, Qa, Qy, Qb, Q14, Q15, Q1s, Q1a, Qj, Q11, Qz, Q1j, Qv, Qw, Q1b, Q1f, Q1n, Q1l⟩ hm2 hb50
          simp only [b99] at hm2
          rw [g0m]
          refine b0e fun K hK => ?_
          simp only [go_sem, s116, s117, Qa, Qb, Q1a, b0b v12, b0b v12_1]
          refine hK _ _ ?_
          clear hK K
          refine b0w fun K51 hK51 => ?_
          simp only [go_sem]
          refine b0x (fun hc52 => ?_) (fun hc52 => ?_)
          ·rw [b1e hc52] at hm2
           simp only [b1b, b0m, b0n]
           refine hK51 _ _ ?_
           refine b0w fun K53 hK53 => ?_
           have J54 : ∀ (people_17_1 : List Int) (t : Slots) (h : Heap), t 2 = I tick → t 3 = .fp [.fs 5 (List.map b0r h_.Combs), .fs 3 (List.map b0p h_.Trains), .fs 3 (List.map b0u h_.Shifts), I h_.Until] 0 → t 6 = .rp i6 0 0 → t 10 = I from_10 → t 12 = .rp i12 0 0 → t 15 = B ((decide (from_10 ≤ x38.At.High)) && (decide (x38.At.Low ≤ tick))) → t 16 = I at_16 → t 17 = .rs i17 0 (List.length people_17_1) → t 85 = .fs 3 (List.map b0p h_.Trains) → t 86 = I (List.length h_.Trains : Int) → t 87 = I x_87 → t 115 = .fs 3 (List.map b2m x38.Crowds) → t 116 = I (List.length x38.Crowds : Int) → t 117 = I x_117 → h.ob i6 = some (3, [[.v (.slice none 0 0), .v (.slice none 0 0), .v (.slice none 0 0)]]) → i6 < h.nx → h.ob i12 = some (3, [[v12, v12_1, .v (.slice none 0 0)]]) → i12 < h.nx → b0j h v12 1 (List.map eI d_12_0) → b0j h v12_1 1 (List.map b0s d_12_1) → h.ob i17 = some (1, List.map eI people_17_1) → i17 < h.nx → ¬i6 = i12 → b0a v12 i6 → b0a v12_1 i6 → ¬i6 = i17 → b0a v12 i12 → b0a v12_1 i12 → ¬i12 = i17 → (∀ j, ¬b0a v12 j → b0a v12_1 j) → b0a v12 i17 → b0a v12_1 i17 → c0b x_117 people_17_1 = some o → K53 t h := by
            try clear s2 s3 s6 s10 s12 s15 s16 s17 s85 s86 s87 s115 s116 s117 Qu Qa Qy Qb Q14 Q15 Q1s Q1a Qj Q11 Qz Q1j Qv Qw Q1b Q1f Q1n Q1l
            intro people_17_1 t h s2 s3 s6 s10 s12 s15 s16 s17 s85 s86 s87 s115 s116 s117 Qu Qa Qy Qb Q14 Q15 Q1s Q1a Qj Q11 Qz Q1j Qv Qw Q1b Q1f Q1n Q1l hm2
            refine hK53 _ _ ?_
            unfold c0b at hm2
            refine b1p fun K hK => ?_
            simp only [go_sem, s117, Qa, Qb, Q1a, b0b v12, b0b v12_1]
            refine hK _ _ ?_
            clear hK K
            simp only [b0m, b0n]
            obtain rfl := sI9 hm2
            refine ⟨_, rfl, ?_⟩
            exact ⟨i17, s2, s3, s6, s10, s12, s15, s16, (by first | exact s17 | simp only [go_sem, s17, lA9, mA9]), s85, s86, s87, s115, s116, (by first | (simp only [go_sem, s117, lA9, mA9]; done) | rfl), Qu, Qa, Qy, Qb, Q14, Q15, Q1s, Q1a, Qj, Q11, Qz, Q1j, Qv, Qw, Q1b, Q1f, Q1n, Q1l⟩
           simp only [b1f]
           obtain ⟨x56, h_x56, hm2⟩ := b0l hm2
           have h_x560 := b07 h_x56
           have h_x561 := b1a h_x56
           refine b0e fun K hK => ?_
           simp only [go_sem, s115, s117, Qa, Qb, Q1a, b0y h_x56, b0z h_x56, h_x560, h_x561, b0b v12, b0b v12_1]
           refine hK _ _ ?_
           clear hK K
           obtain ⟨x58, h_x58, hm2⟩ := b0l hm2
           have h_x580 := b07 h_x58
           have h_x581 := b1a h_x58
           refine b0e fun K hK => ?_
           simp only [go_sem, s17, Q1s, Q1a, Qa, Qb, Q1j, b0c Q1j, Q1b, b0c Q1b, Q1n, Q1l, b0y h_x58, b0z h_x58, h_x580, h_x581, b0b v12, b0b v12_1]
           refine hK _ _ ?_
           clear hK K
           refine b0e fun K hK => ?_
           simp only [go_sem, s15, Qa, Qb, Q1a, b0b v12, b0b v12_1]
           refine hK _ _ ?_
           clear hK K
           simp only [go_sem]
           refine b0x (fun hc59 => ?_) (fun hc59 => ?_)
           ·rw [b1e hc59] at hm2
            obtain ⟨x61, h_x61, hm2⟩ := b0l hm2
            have h_x610 := b07 h_x61
            have h_x611 := b1a h_x61; (try simp only [List.length_set] at h_x611)
            refine b1p fun K hK => ?_
            simp only [go_sem, s17, Q1s, Q1a, Qa, Qb, Q1j, b0c Q1j, Q1b, b0c Q1b, Q1n, Q1l, b0y h_x61, b0z h_x61, h_x610, h_x611, b0b v12, b0b v12_1]
            refine hK _ _ ?_
            clear hK K
            simp only [b0m, b0n]
            exact J54 (List.set (List.set people_17 (Int.toNat x_117) x56.People.Low) (Int.toNat x_117) x56.People.High) _ _ s2 s3 s6 s10 s12 s15 s16 (by first | exact s17 | simp only [go_sem, s17, lA9, mA9]) s85 s86 s87 s115 s116 s117 (by simp only [go_sem, Qu, Qa, Q1a, Q1j, b0c Q1j, lA9, mA9]) (by simp only [go_sem, Qa]) (by simp only [go_sem, Qy, Qb, Q1a, Q1b, b0c Q1b, lA9, mA9]) (by simp only [go_sem, Qb]) (b05 Q14 (by intro j hj hl; first | rfl | simp only [go_sem, hl, Q1a, b04 hj Q1n]) (by first | omega | exact Nat.le_refl _ | (simp only [go_sem, nxs] <;> omega))) (b05 Q15 (by intro j hj hl; first | rfl | simp only [go_sem, hl, Q1a, b04 hj Q1l]) (by first | omega | exact Nat.le_refl _ | (simp only [go_sem, nxs] <;> omega))) (by simp only [go_sem, Q1s, Q1a, lA9, mA9]) (by simp only [go_sem, Q1a]) Qj Q11 Qz Q1j Qv Qw Q1b Q1f Q1n Q1l hm2
           ·rw [b1d hc59] at hm2
            simp only [b1b, b0m, b0n]
            exact J54 (List.set people_17 (Int.toNat x_117) x56.People.Low) _ _ s2 s3 s6 s10 s12 s15 s16 (by first | exact s17 | simp only [go_sem, s17, lA9, mA9]) s85 s86 s87 s115 s116 s117 (by simp only [go_sem, Qu, Qa, Q1a, Q1j, b0c Q1j, lA9, mA9]) (by simp only [go_sem, Qa]) (by simp only [go_sem, Qy, Qb, Q1a, Q1b, b0c Q1b, lA9, mA9]) (by simp only [go_sem, Qb]) (b05 Q14 (by intro j hj hl; first | rfl | simp only [go_sem, hl, Q1a, b04 hj Q1n]) (by first | omega | exact Nat.le_refl _ | (simp only [go_sem, nxs] <;> omega))) (b05 Q15 (by intro j hj hl; first | rfl | simp only [go_sem, hl, Q1a, b04 hj Q1l]) (by first | omega | exact Nat.le_refl _ | (simp only [go_sem, nxs] <;> omega))) (by simp only [go_sem, Q1s, Q1a, lA9, mA9]) (by simp only [go_sem, Q1a]) Qj Q11 Qz Q1j Qv Qw Q1b Q1f Q1n Q1l hm2
          ·rw [b1d hc52] at hm2
           simp only [b1y, b11, b10, b1z, b0m, b0n, Nat.reduceEqDiff, nF9]
           obtain rfl := sI9 hm2
           obtain rfl := hb50 _ rfl
           try dsimp only at hm1
           exact J45 people_17 i17 _ _ s2 s3 s6 s10 s12 s16 (by first | exact s17 | simp only [go_sem, s17, lA9, mA9]) s85 s86 s87 Qu Qa Qy Qb Q14 Q15 Q1s Q1a Qj Q11 Qz Q1j Qv Qw Q1b Q1f Q1n Q1l hm1
        simp only [go_sem]
        refine b0x (fun hc63 => ?_) (fun hc63 => ?_)
        ·rw [b1e hc63] at hm1
         refine b1p fun K hK => ?_
         simp only [go_sem, s10, Qa, Qb, Q20, b0b v12, b0b v12_1]
         refine hK _ _ ?_
         clear hK K
         simp only [b0m, b0n]
         exact J41 (mx x38.At.Low from_10) _ _ s2 s3 s6 s10 s12 s14 s15 (by first | (simp only [go_sem, lA9, mA9]; done) | rfl) s85 s86 s87 Qu Qa Qy Qb Q14 Q15 Q22 Q20 Qj Q11 Qz Q1x Qv Qw Q1y Q1f Q23 Q24 hm1
        ·rw [b1d hc63] at hm1
         simp only [b1b, b0m, b0n]
         exact J41 x38.At.Low _ _ s2 s3 s6 s10 s12 s14 s15 (by first | (simp only [go_sem, lA9, mA9]; done) | rfl) s85 s86 s87 Qu Qa Qy Qb Q14 Q15 Q22 Q20 Qj Q11 Qz Q1x Qv Qw Q1y Q1f Q23 Q24 hm1
      ·rw [b1d hc34] at hm1
       simp only [b1y, b11, b10, b1z, b0m, b0n, Nat.reduceEqDiff, nF9]
       obtain rfl := sI9 hm1
       obtain rfl := hb32 _ rfl
       try dsimp only at hm0
       exact J20 d_12_0 d_12_1 i12 v12 v12_1 _ _ s3 s6 s12 Qu Qa Qy Qb Q14 Q15 Qj Q11 Qz Qv Qw Q1f hm0
    simp only [b1f]
    obtain ⟨b65, hl65, hm0⟩ := b0l hm0
    refine b19 hl65 (fun | (from_10, x_45), t, h => t 2 = I tick ∧ t 3 = .fp [.fs 5 (List.map b0r h_.Combs), .fs 3 (List.map b0p h_.Trains), .fs 3 (List.map b0u h_.Shifts), I h_.Until] 0 ∧ t 6 = .rp i6 0 0 ∧ t 9 = .fp [.fs 1 (List.map eI x16.rates), .fs 1 (List.map eI x16.flow), .fs 1 (List.map eI x16.most), .fs 1 (List.map b0s x16.come)] 0 ∧ t 10 = I from_10 ∧ t 44 = I (wr (tick + 1)) ∧ t 45 = I x_45 ∧ h.ob i6 = some (3, [[.v (.slice none 0 0), .v (.slice none 0 0), .v (.slice none 0 0)]]) ∧ i6 < h.nx) ?_ ?_
    ·exact ⟨s2, s3, s6, s9, (by first | (simp only [go_sem, lA9, mA9]; done) | rfl), (by first | (simp only [go_sem, lA9, mA9]; done) | rfl), (by first | (simp only [go_sem, lA9, mA9]; done) | rfl), Qu, Qa⟩
    ·rintro ⟨from_10, x_45⟩ o t h ⟨s2, s3, s6, s9, s10, s44, s45, Qu, Qa⟩ hm1 hb65
     simp only [b6p] at hm1
     rw [g0l]
     refine b0e fun K hK => ?_
     simp only [go_sem, s44, s45, Qa]
     refine hK _ _ ?_
     clear hK K
     refine b0w fun K66 hK66 => ?_
     simp only [go_sem]
     refine b0x (fun hc67 => ?_) (fun hc67 => ?_)
     ·rw [b1e hc67] at hm1
      simp only [b1b, b0m, b0n]
      refine hK66 _ _ ?_
      refine b0w fun K68 hK68 => ?_
      simp only [b1f]
      refine b0e fun K hK => ?_
      simp only [go_sem, s45, Qa]
      refine hK _ _ ?_
      clear hK K
      obtain ⟨x74, h_x74, hm1⟩ := b0l hm1
      have h_x740 := b07 h_x74
      have h_x741 := b1a h_x74
      obtain ⟨x75, h_x75, hm1⟩ := b0l hm1
      have h_x750 := b07 h_x75
      have h_x751 := b1a h_x75
      obtain ⟨x76, h_x76, hm1⟩ := b0l hm1
      have h_x760 := b07 h_x76
      have h_x761 := b1a h_x76
      obtain ⟨x77, h_x77, hm1⟩ := b0l hm1
      have h_x770 := b07 h_x77
      have h_x771 := b1a h_x77
      obtain ⟨x78, h_x78, hm1⟩ := b0l hm1
      have h_x780 := b07 h_x78
      have h_x781 := b1a h_x78
      refine b0e fun K hK => ?_
      simp only [go_sem, s2, s9, Qa, b0y h_x74, b0z h_x74, h_x740, h_x741, b0y h_x75, b0z h_x75, h_x750, h_x751, b0y h_x76, b0z h_x76, h_x760, h_x761, b0y h_x77, b0z h_x77, h_x770, h_x771, b0y h_x78, b0z h_x78, h_x780, h_x781]
      refine hK _ _ ?_
      clear hK K
      simp only [go_sem]
      refine b0x (fun hc79 => ?_) (fun hc79 => ?_)
      ·rw [b1e hc79] at hm1
       refine b0e fun K hK => ?_
       simp only [go_sem, Qa]
       refine hK _ _ ?_
       clear hK K
       simp only [b1y, b11, b10, b1z, b0m, b0n, Nat.reduceEqDiff, nF9]
       obtain rfl := sI9 hm1
       obtain rfl := hb65 _ rfl
       try dsimp only at hm0
       exact J18 x_45 _ _ s2 s3 s6 (by first | (simp only [go_sem, s10, lA9, mA9]; done) | rfl) Qu Qa hm0
      ·rw [b1d hc79] at hm1
       simp only [b1b, b0m, b0n]
       refine hK68 _ _ ?_
       refine b1p fun K hK => ?_
       simp only [go_sem, s45, Qa]
       refine hK _ _ ?_
       clear hK K
       simp only [b0m, b0n]
       obtain rfl := sI9 hm1
       refine ⟨_, rfl, ?_⟩
       exact ⟨s2, s3, s6, s9, s10, s44, (by first | (simp only [go_sem, s45, lA9, mA9]; done) | rfl), Qu, Qa⟩
     ·rw [b1d hc67] at hm1
      simp only [b1y, b11, b10, b1z, b0m, b0n, Nat.reduceEqDiff, nF9]
      obtain rfl := sI9 hm1
      obtain rfl := hb65 _ rfl
      try dsimp only at hm0
      exact J18 from_10 _ _ s2 s3 s6 s10 Qu Qa hm0
theorem d0y (hf : Has O "newel/halls.Witness$1" x_halls_WitnessD1) : c7w O := by
 intro c c0
 generalize hm0 : b6v c c0 = r
 unfold b6v at hm0
 refine b2q hf rfl (b0f (.agg _ (b0f (b0o _) (b0f (b0o _) (b0f (b0o _) (b0f (b0o _) (b0f (b0o _) b06)))))) (b0f (.fp _ _ (b0f (b0o _) b06)) b06)) (b0o _) ?_
 refine b2k (fun t h => t 0 = .agg [I c.Rate, I c.Limit, I c.Next, I c.Walk.Low, I c.Walk.High] ∧ t 1 = .fp [I c0] 0) ⟨rfl, rfl⟩ fun t h ⟨s0, s1⟩ => ?_
 simp only [x_halls_WitnessD1]
 refine b0e fun K hK => ?_
 simp only [go_sem, s0]
 refine hK _ _ ?_
 clear hK K
 refine b0e fun K hK => ?_
 simp only [go_sem, s1]
 refine hK _ _ ?_
 clear hK K
 simp only [b1l, b1n, b1m, b1o]
 obtain rfl := hm0
 exact b1v (by simp only [go_sem, lA9, mA9]) (b0o _)
theorem b83 (hf : Has O "newel/halls.bounds" x_halls_bounds) (d0z : c7x O) (d0s : c7q O) : c12 O := by
 intro h_ open_ v_1 hs_1 h0 rr_p1 r hm0
 unfold b55 at hm0
 refine d5x hf rfl ?_
 refine b2k (fun t h => t 0 = .agg [.fs 5 (List.map b0r h_.Combs), .fs 3 (List.map b0p h_.Trains), .fs 3 (List.map b0u h_.Shifts), I h_.Until] ∧ t 1 = v_1 ∧ RR h v_1 hs_1 1 eI open_ ∧ (∀ j, j < h0.nx → h.ob j = h0.ob j) ∧ h0.nx ≤ h.nx) ⟨rfl, rfl, rr_p1, fun _ _ => rfl, Nat.le_refl _⟩ fun t h ⟨s0, s1, rr_p1, fr, fx⟩ => ?_
 simp only [x_halls_bounds]
 refine b0e fun K hK => ?_
 simp only [go_sem, s0]
 refine hK _ _ ?_
 clear hK K
 refine b0e fun K hK => ?_
 simp only [go_sem]
 refine hK _ _ ?_
 clear hK K
 refine b09 ?_
 refine b0e fun K hK => ?_
 simp only [go_sem]
 refine hK _ _ ?_
 clear hK K
 refine b0w fun K1 hK1 => ?_
 have J2 : ∀ (all_5 : List halls_bound) (v5 : AV) (t : Slots) (h : Heap), t 5 = v5 → b0j h v5 1 (List.map b27 all_5) → (∀ j, j < h0.nx → h.ob j = h0.ob j) → h0.nx ≤ h.nx → (∀ j, ¬b0a v5 j → h0.nx ≤ j) → c25 all_5 = some r → K1 t h := by
  intro all_5 v5 t h s5 Qe fr fx Qr hm0
  refine hK1 _ _ ?_
  unfold c25 at hm0
  refine b09 ?_
  refine b92 (s := 5) (v := v5) (f := b27) (l := all_5) (by simp only [go_sem, s5, b0h Qe, lA9, mA9]) (b05 Qe (by intro j hj hl; first | rfl | simp only [go_sem, hl]) (by first | omega | exact Nat.le_refl _ | (simp only [go_sem, nxs] <;> omega))) d4b j1m ?_
  skip
  refine b0e fun K hK => ?_
  simp only [go_sem, s5, b0b v5]
  refine hK _ _ ?_
  clear hK K
  simp only [b1l, b1n, b1m, b1o]
  obtain rfl := sI9 hm0
  exact d9e (Post := fun v h => v = .fs 1 (List.map b27 all_5) ∧ (∀ j, j < h0.nx → h.ob j = h0.ob j) ∧ h0.nx ≤ h.nx) (v := .fs 1 (List.map b27 all_5)) (by simp only [go_sem, b0h Qe, lA9, mA9]) ⟨rfl, (by intro j hj; first | exact fr j hj | (refine Eq.trans ?_ (fr j hj); first | rfl | simp only [go_sem, Nat.lt_of_lt_of_le hj fx, b5o Qr hj, b2w Qe (b5o Qr hj), b3z Qe (b5o Qr hj)])), (by first | exact fx | omega | (simp only [go_sem, nxs] <;> omega))⟩
 simp only [b1f]
 obtain ⟨b3, hl3, hm0⟩ := b0l hm0
 refine b19 hl3 (fun | (all_5, x_19), t, h => ∃ v1 : AV, ∃ v5 : AV, t 1 = v1 ∧ t 2 = .fp [.fs 5 (List.map b0r h_.Combs), .fs 3 (List.map b0p h_.Trains), .fs 3 (List.map b0u h_.Shifts), I h_.Until] 0 ∧ t 5 = v5 ∧ t 18 = I (List.length h_.Combs : Int) ∧ t 19 = I x_19 ∧ RR h v1 hs_1 1 eI open_ ∧ b0j h v5 1 (List.map b27 all_5) ∧ (∀ j, ¬b0a v5 j → b0d v1 hs_1 j) ∧ (∀ j, j < h0.nx → h.ob j = h0.ob j) ∧ h0.nx ≤ h.nx ∧ (∀ j, ¬b0a v5 j → h0.nx ≤ j)) ?_ ?_
 ·exact ⟨v_1, (.v (.slice none 0 0)), s1, (by first | (simp only [go_sem, lA9, mA9]; done) | rfl), (by first | (simp only [go_sem, lA9, mA9]; done) | rfl), (by first | (simp only [go_sem, lA9, mA9]; done) | rfl), (by first | (simp only [go_sem, lA9, mA9]; done) | rfl), rr_p1, b4y, b94, fr, fx, b94⟩
 ·rintro ⟨all_5, x_19⟩ o t h ⟨v1, v5, s1, s2, s5, s18, s19, Q8, Qe, Qh, fr, fx, Qr⟩ hm1 hb3
  simp only [b8t] at hm1
  rw [g0u]
  refine b0e fun K hK => ?_
  simp only [go_sem, s18, s19, b0b v1, b0b v5]
  refine hK _ _ ?_
  clear hK K
  refine b0w fun K4 hK4 => ?_
  simp only [go_sem]
  refine b0x (fun hc5 => ?_) (fun hc5 => ?_)
  ·rw [b1e hc5] at hm1
   simp only [b1b, b0m, b0n]
   refine hK4 _ _ ?_
   refine b0w fun K6 hK6 => ?_
   have J7 : ∀ (all_5_1 : List halls_bound) (v1_1 : AV) (i5 : Nat) (t : Slots) (h : Heap), t 1 = v1_1 → t 2 = .fp [.fs 5 (List.map b0r h_.Combs), .fs 3 (List.map b0p h_.Trains), .fs 3 (List.map b0u h_.Shifts), I h_.Until] 0 → t 5 = .rs i5 0 (List.length all_5_1) → t 18 = I (List.length h_.Combs : Int) → t 19 = I x_19 → RR h v1_1 hs_1 1 eI open_ → h.ob i5 = some (1, List.map b27 all_5_1) → i5 < h.nx → b0d v1_1 hs_1 i5 → (∀ j, j < h0.nx → h.ob j = h0.ob j) → h0.nx ≤ h.nx → h0.nx ≤ i5 → c0h x_19 all_5_1 = some o → K6 t h := by
    try clear s1 s2 s5 s18 s19 Q8 Qe Qh fr fx Qr
    intro all_5_1 v1_1 i5 t h s1 s2 s5 s18 s19 Q8 Q2a Q25 Q2o fr fx Qr hm1
    refine hK6 _ _ ?_
    unfold c0h at hm1
    refine b1p fun K hK => ?_
    simp only [go_sem, s19, Q25, b0b v1, b0b v5, b0b v1_1]
    refine hK _ _ ?_
    clear hK K
    simp only [b0m, b0n]
    obtain rfl := sI9 hm1
    refine ⟨_, rfl, ?_⟩
    exact ⟨v1_1, (.rs i5 0 (List.length all_5_1)), s1, s2, (by first | exact s5 | simp only [go_sem, s5, lA9, mA9]), s18, (by first | (simp only [go_sem, s19, lA9, mA9]; done) | rfl), Q8, (b3f (by simp only [go_sem, Q2a, Q25, lA9, mA9]) (by first | rfl | simp only [go_sem, lA9, mA9]) (by simp only [go_sem, Q25])), (b95 Q2o), fr, fx, (c5f Qr)⟩
   simp only [b1f]
   refine b0e fun K hK => ?_
   simp only [go_sem, s19, b0b v1, b0b v5]
   refine hK _ _ ?_
   clear hK K
   refine b0e fun K hK => ?_
   simp only [go_sem, b0b v1, b0b v5]
   refine hK _ _ ?_
   clear hK K
   refine b09 ?_
   refine b0e fun K hK => ?_
   simp only [go_sem, s2, b0b v1, b0b v5]
   refine hK _ _ ?_
   clear hK K
   refine b0w fun K8 hK8 => ?_
   have J9 : ∀ (b_7_0 : List Int) (b_7_3 : List (List Int)) (v1_1 : AV) (v5_1 : AV) (i7 : Nat) (i7_1 : Nat) (i7_2 : Nat) (v7 : AV) (t : Slots) (h : Heap), t 1 = v1_1 → t 2 = .fp [.fs 5 (List.map b0r h_.Combs), .fs 3 (List.map b0p h_.Trains), .fs 3 (List.map b0u h_.Shifts), I h_.Until] 0 → t 5 = v5_1 → t 6 = I x_19 → t 7 = .rp i7 0 0 → t 18 = I (List.length h_.Combs : Int) → t 19 = I x_19 → RR h v1_1 hs_1 1 eI open_ → b0j h v5_1 1 (List.map b27 all_5) → h.ob i7 = some (4, [[.rs i7_1 0 (List.length b_7_0), .rs i7_2 0 (List.length ([0])), .v (.slice none 0 0), v7]]) → i7 < h.nx → h.ob i7_1 = some (1, List.map eI b_7_0) → i7_1 < h.nx → h.ob i7_2 = some (1, List.map eI ([0])) → i7_2 < h.nx → b0j h v7 1 (List.map b0s b_7_3) → (∀ j, ¬b0a v5_1 j → b0d v1_1 hs_1 j) → b0d v1_1 hs_1 i7 → b0d v1_1 hs_1 i7_1 → b0d v1_1 hs_1 i7_2 → (∀ j, ¬b0a v7 j → b0d v1_1 hs_1 j) → b0a v5_1 i7 → b0a v5_1 i7_1 → b0a v5_1 i7_2 → (∀ j, ¬b0a v5_1 j → b0a v7 j) → ¬i7 = i7_1 → ¬i7 = i7_2 → b0a v7 i7 → ¬i7_1 = i7_2 → b0a v7 i7_1 → b0a v7 i7_2 → (∀ j, j < h0.nx → h.ob j = h0.ob j) → h0.nx ≤ h.nx → (∀ j, ¬b0a v5_1 j → h0.nx ≤ j) → h0.nx ≤ i7 → h0.nx ≤ i7_1 → h0.nx ≤ i7_2 → (∀ j, ¬b0a v7 j → h0.nx ≤ j) → c0j h_ open_ all_5 x_19 b_7_0 b_7_3 = some o → K8 t h := by
    try clear s1 s2 s5 s18 s19 Q8 Qe Qh fr fx Qr
    intro b_7_0 b_7_3 v1_1 v5_1 i7 i7_1 i7_2 v7 t h s1 s2 s5 s6 s7 s18 s19 Q8 Qe Qi Q0 Qk Q2 Ql Q1 Qc Qh Q3 Q4 Q5 Qq Qd Qf Qg Q19 Q6 Q7 Qm Q9 Qn Qo fr fx Qr Q12 Q16 Q17 Q13 hm1
    refine hK8 _ _ ?_
    unfold c0j at hm1
    refine b09 ?_
    refine b0e fun K hK => ?_
    simp only [go_sem, s2, Q0, Q2, Q1, b0b v1, b0b v5, b0b v1_1, b0b v5_1, b0b v7]
    refine hK _ _ ?_
    clear hK K
    refine b0w fun K10 hK10 => ?_
    have J11 : ∀ (b_7_1 : List Int) (b_7_2 : List Int) (v1_2 : AV) (i7_3 : Nat) (v7_1 : AV) (v7_2 : AV) (t : Slots) (h : Heap), t 1 = v1_2 → t 2 = .fp [.fs 5 (List.map b0r h_.Combs), .fs 3 (List.map b0p h_.Trains), .fs 3 (List.map b0u h_.Shifts), I h_.Until] 0 → t 5 = v5_1 → t 7 = .rp i7 0 0 → t 18 = I (List.length h_.Combs : Int) → t 19 = I x_19 → RR h v1_2 hs_1 1 eI open_ → b0j h v5_1 1 (List.map b27 all_5) → h.ob i7 = some (4, [[.rs i7_1 0 (List.length b_7_0), .rs i7_3 0 (List.length b_7_1), v7_1, v7_2]]) → i7 < h.nx → h.ob i7_1 = some (1, List.map eI b_7_0) → i7_1 < h.nx → h.ob i7_3 = some (1, List.map eI b_7_1) → i7_3 < h.nx → b0j h v7_1 1 (List.map eI b_7_2) → b0j h v7_2 1 (List.map b0s b_7_3) → (∀ j, ¬b0a v5_1 j → b0d v1_2 hs_1 j) → b0d v1_2 hs_1 i7 → b0d v1_2 hs_1 i7_1 → b0d v1_2 hs_1 i7_3 → (∀ j, ¬b0a v7_1 j → b0d v1_2 hs_1 j) → (∀ j, ¬b0a v7_2 j → b0d v1_2 hs_1 j) → b0a v5_1 i7 → b0a v5_1 i7_1 → b0a v5_1 i7_3 → (∀ j, ¬b0a v5_1 j → b0a v7_1 j) → (∀ j, ¬b0a v5_1 j → b0a v7_2 j) → ¬i7 = i7_1 → ¬i7 = i7_3 → b0a v7_1 i7 → b0a v7_2 i7 → ¬i7_1 = i7_3 → b0a v7_1 i7_1 → b0a v7_2 i7_1 → b0a v7_1 i7_3 → b0a v7_2 i7_3 → (∀ j, ¬b0a v7_1 j → b0a v7_2 j) → (∀ j, j < h0.nx → h.ob j = h0.ob j) → h0.nx ≤ h.nx → (∀ j, ¬b0a v5_1 j → h0.nx ≤ j) → h0.nx ≤ i7 → h0.nx ≤ i7_1 → h0.nx ≤ i7_3 → (∀ j, ¬b0a v7_1 j → h0.nx ≤ j) → (∀ j, ¬b0a v7_2 j → h0.nx ≤ j) → c0c all_5 x_19 b_7_0 b_7_3 b_7_1 b_7_2 = some o → K10 t h := by
     try clear s1 s2 s5 s6 s7 s18 s19 Q8 Qe Qi Q0 Qk Q2 Ql Q1 Qc Qh Q3 Q4 Q5 Qq Qd Qf Qg Q19 Q6 Q7 Qm Q9 Qn Qo fr fx Qr Q12 Q16 Q17 Q13
     intro b_7_1 b_7_2 v1_2 i7_3 v7_1 v7_2 t h s1 s2 s5 s7 s18 s19 Q8 Qe Qi Q0 Qk Q2 Ql Q1 Qc Q18 Qh Q3 Q4 Q5 Qq Q1k Qd Qf Qg Q19 Q1o Q6 Q7 Qm Q1c Q9 Qn Q1d Qo Q1e Q1t fr fx Qr Q12 Q16 Q17 Q13 Q1p hm1
     refine hK10 _ _ ?_
     unfold c0c at hm1
     refine c8x (s := 7) (v := .rp i7 0 0) (y := .fp [.fs 1 (List.map eI b_7_0), .fs 1 (List.map eI b_7_1), .fs 1 (List.map eI b_7_2), .fs 1 (List.map b0s b_7_3)] 0) (fun j => j == i7 || j == i7_1 || j == i7_3 || b76 v7_1 j || b76 v7_2 j) (by simp only [go_sem, s7, b1g Q8, b0h Qe, Qi, Q0, Qk, Q2, Ql, Q1, b0h Qc, b0h Q18, b0i Q3, b0i Q4, b0i Q5, Qd, Qf, Qg, Q6, b0c Q6, Q7, b0c Q7, Qm, Q1c, Q9, b0c Q9, Qn, Q1d, Qo, Q1e, lA9, mA9]) (d4c (id := i7) (sz := 4) (xs := [.rs i7_1 0 (List.length b_7_0), .rs i7_3 0 (List.length b_7_1), v7_1, v7_2]) (by rw [b9e (by simp)]; simp only [go_sem, b1g Q8, b0h Qe, Qi, Q0, Qk, Q2, Ql, Q1, b0h Qc, b0h Q18, b0i Q3, b0i Q4, b0i Q5, Qd, Qf, Qg, Q6, b0c Q6, Q7, b0c Q7, Qm, Q1c, Q9, b0c Q9, Qn, Q1d, Qo, Q1e, lA9, mA9]) (.cons (b53 (f := eI) (l := b_7_0) (id := i7_1) (by rw [b9e (by simp)]; simp only [go_sem, b1g Q8, b0h Qe, Qi, Q0, Qk, Q2, Ql, Q1, b0h Qc, b0h Q18, b0i Q3, b0i Q4, b0i Q5, Qd, Qf, Qg, Q6, b0c Q6, Q7, b0c Q7, Qm, Q1c, Q9, b0c Q9, Qn, Q1d, Qo, Q1e, lA9, mA9]) (by first | rfl | simp only [go_sem, lA9, mA9]) b2r b4d) (.cons (b53 (f := eI) (l := b_7_1) (id := i7_3) (by rw [b9e (by simp)]; simp only [go_sem, b1g Q8, b0h Qe, Qi, Q0, Qk, Q2, Ql, Q1, b0h Qc, b0h Q18, b0i Q3, b0i Q4, b0i Q5, Qd, Qf, Qg, Q6, b0c Q6, Q7, b0c Q7, Qm, Q1c, Q9, b0c Q9, Qn, Q1d, Qo, Q1e, lA9, mA9]) (by first | rfl | simp only [go_sem, lA9, mA9]) b2r b4d) (.cons (b35 (f := eI) (l := b_7_2) (d80 (b05 Qc (by intro j hj hl; first | rfl | simp only [go_sem, hl, b0i (Qq j hj), b2d Q19 j hj, b04 hj Qm, b04 hj Qn, b04 hj Qo, Q1t j hj]) (by first | omega | exact Nat.le_refl _ | (simp only [go_sem, nxs] <;> omega))) (by intro j hj; simp [c7l hj])) b2r b4d) (.cons (b35 (f := b0s) (l := b_7_3) (d80 (b05 Q18 (by intro j hj hl; first | rfl | simp only [go_sem, hl, b0i (Q1k j hj), b2d Q1o j hj, b04 hj Q1c, b04 hj Q1d, b04 hj Q1e, b2d Q1t j hj]) (by first | omega | exact Nat.le_refl _ | (simp only [go_sem, nxs] <;> omega))) (by intro j hj; simp [c7l hj])) b21 b58) (.nil)))))) (.fp _ _ (b0f (b01 fun a _ => b2r a) (b0f (b01 fun a _ => b2r a) (b0f (b01 fun a _ => b2r a) (b0f (b01 fun a _ => b21 a) b06))))) ?_
     obtain ⟨l13, h_l13, hm1⟩ := b0l hm1
     refine b1p fun K hK => ?_
     simp only [go_sem, s5, s7, Q0, Q2, Q1, Qd, Qf, Qg, oF9, bF9, ne_eq, nF9, and_self, b2w Qc Qm, b2w Q18 Q1c, b2w Qc Qn, b2w Q18 Q1d, b2w Qc Qo, b2w Q18 Q1e, b0b v1, b0b v5, b0b v1_1, b0b v5_1, b0b v7, b0b v1_2, b0b v7_1, b0b v7_2]
     refine b4v (f := b27) (l := all_5) (m := ([(halls_bound.mk b_7_0 b_7_1 b_7_2 b_7_3)])) ?_ ?_ ?_ ?_ h_l13 ?_
     ·exact (b05 Qe (by intro j hj hl; first | rfl | simp only [go_sem, hl, b0i (Qh j hj), b04 hj Qd, b04 hj Qf, b04 hj Qg, Q19 j hj, b2w Qc (Q19 j hj), Q1o j hj, b2w Q18 (Q1o j hj), oF9, bF9, ne_eq, nF9, and_self]) (by first | omega | exact Nat.le_refl _ | (simp only [go_sem, nxs] <;> omega)))
     ·exact (b4z (by simp only [go_sem, oF9, bF9, ne_eq, nF9, and_self, b2w Qc Qm, b2w Q18 Q1c, b2w Qc Qn, b2w Q18 Q1d, b2w Qc Qo, b2w Q18 Q1e, b1g Q8, b0h Qe, Qi, Q0, Qk, Q2, Ql, Q1, b0h Qc, b0h Q18, b0i Q3, b0i Q4, b0i Q5, Qd, Qf, Qg, Q6, b0c Q6, Q7, b0c Q7, Qm, Q1c, Q9, b0c Q9, Qn, Q1d, Qo, Q1e, lA9, mA9]) (by simp only [go_sem, oF9, bF9, ne_eq, nF9, and_self, b2w Qc Qm, b2w Q18 Q1c, b2w Qc Qn, b2w Q18 Q1d, b2w Qc Qo, b2w Q18 Q1e, b1g Q8, b0h Qe, Qi, Q0, Qk, Q2, Ql, Q1, b0h Qc, b0h Q18, b0i Q3, b0i Q4, b0i Q5, Qd, Qf, Qg, Q6, b0c Q6, Q7, b0c Q7, Qm, Q1c, Q9, b0c Q9, Qn, Q1d, Qo, Q1e, lA9, mA9]))
     ·exact (b2c (by first | exact b02 | exact b03 (by first | omega | (simp only [nxs] <;> omega)) | assumption | exact b0q (by assumption) (by first | omega | (simp only [go_sem, nxs] <;> omega))))
     ·exact (fun _ => by simp)
     simp only [go_sem, s5, s7, Q0, Q2, Q1, Qd, Qf, Qg, oF9, bF9, ne_eq, nF9, and_self, b2w Qc Qm, b2w Q18 Q1c, b2w Qc Qn, b2w Q18 Q1d, b2w Qc Qo, b2w Q18 Q1e, b0b v1, b0b v5, b0b v1_1, b0b v5_1, b0b v7, b0b v1_2, b0b v7_1, b0b v7_2]
     refine hK _ _ ?_
     clear hK K
     simp only [b0m, b0n]
     exact J7 l13 v1_2 (nxs h.nx) _ _ s1 s2 (by first | (simp only [go_sem, s5, lA9, mA9]; done) | rfl) s18 s19 (b3n Q8 (by intro j hj  hl; first | rfl | simp only [go_sem, hl, b5r Qh j hj, b3x hj Q3, b3x hj Q4, b3x hj Q5, b5r Qq j hj, b2w Qc (b5r Qq j hj), b5r Q1k j hj, b2w Q18 (b5r Q1k j hj), oF9, bF9, ne_eq, nF9, and_self, Q0, Q2, Q1]) (by first | omega | exact Nat.le_refl _ | (simp only [go_sem, nxs] <;> omega))) (by simp only [go_sem, oF9, bF9, ne_eq, nF9, and_self, b0h Qe, Q0, Q2, Q1, b0h Qc, b0h Q18, lA9, mA9]) (by simp only [go_sem]) (by first | assumption | exact b2n Q8 (by first | assumption | omega | (simp only [nxs] <;> omega))) (by intro j hj; first | exact fr j hj | (refine Eq.trans ?_ (fr j hj); first | rfl | simp only [go_sem, Nat.lt_of_lt_of_le hj fx, b5o Qr hj, b6n Q12 hj, b6n Q16 hj, b6n Q17 hj, b5o Q13 hj, b2w Qc (b5o Q13 hj), b3z Qc (b5o Q13 hj), b5o Q1p hj, b2w Q18 (b5o Q1p hj), b3z Q18 (b5o Q1p hj), oF9, bF9, ne_eq, nF9, and_self])) (by first | exact fx | omega | (simp only [go_sem, nxs] <;> omega)) (by first | assumption | omega | (simp only [nxs] <;> omega)) hm1
    simp only [b1f]
    obtain ⟨b14, hl14, hm1⟩ := b0l hm1
    refine b19 hl14 (fun | (b_7_1, b_7_2, x_122), t, h => ∃ v1_2 : AV, ∃ i7_3 : Nat, ∃ v7_1 : AV, ∃ v7_2 : AV, t 1 = v1_2 ∧ t 2 = .fp [.fs 5 (List.map b0r h_.Combs), .fs 3 (List.map b0p h_.Trains), .fs 3 (List.map b0u h_.Shifts), I h_.Until] 0 ∧ t 5 = v5_1 ∧ t 6 = I x_19 ∧ t 7 = .rp i7 0 0 ∧ t 18 = I (List.length h_.Combs : Int) ∧ t 19 = I x_19 ∧ t 121 = I h_.Until ∧ t 122 = I x_122 ∧ RR h v1_2 hs_1 1 eI open_ ∧ b0j h v5_1 1 (List.map b27 all_5) ∧ h.ob i7 = some (4, [[.rs i7_1 0 (List.length b_7_0), .rs i7_3 0 (List.length b_7_1), v7_1, v7_2]]) ∧ i7 < h.nx ∧ h.ob i7_1 = some (1, List.map eI b_7_0) ∧ i7_1 < h.nx ∧ h.ob i7_3 = some (1, List.map eI b_7_1) ∧ i7_3 < h.nx ∧ b0j h v7_1 1 (List.map eI b_7_2) ∧ b0j h v7_2 1 (List.map b0s b_7_3) ∧ (∀ j, ¬b0a v5_1 j → b0d v1_2 hs_1 j) ∧ b0d v1_2 hs_1 i7 ∧ b0d v1_2 hs_1 i7_1 ∧ b0d v1_2 hs_1 i7_3 ∧ (∀ j, ¬b0a v7_1 j → b0d v1_2 hs_1 j) ∧ (∀ j, ¬b0a v7_2 j → b0d v1_2 hs_1 j) ∧ b0a v5_1 i7 ∧ b0a v5_1 i7_1 ∧ b0a v5_1 i7_3 ∧ (∀ j, ¬b0a v5_1 j → b0a v7_1 j) ∧ (∀ j, ¬b0a v5_1 j → b0a v7_2 j) ∧ ¬i7 = i7_1 ∧ ¬i7 = i7_3 ∧ b0a v7_1 i7 ∧ b0a v7_2 i7 ∧ ¬i7_1 = i7_3 ∧ b0a v7_1 i7_1 ∧ b0a v7_2 i7_1 ∧ b0a v7_1 i7_3 ∧ b0a v7_2 i7_3 ∧ (∀ j, ¬b0a v7_1 j → b0a v7_2 j) ∧ (∀ j, j < h0.nx → h.ob j = h0.ob j) ∧ h0.nx ≤ h.nx ∧ (∀ j, ¬b0a v5_1 j → h0.nx ≤ j) ∧ h0.nx ≤ i7 ∧ h0.nx ≤ i7_1 ∧ h0.nx ≤ i7_3 ∧ (∀ j, ¬b0a v7_1 j → h0.nx ≤ j) ∧ (∀ j, ¬b0a v7_2 j → h0.nx ≤ j)) ?_ ?_
    ·exact ⟨v1_1, i7_2, (.v (.slice none 0 0)), v7, s1, s2, s5, s6, s7, s18, s19, (by first | (simp only [go_sem, lA9, mA9]; done) | rfl), (by first | (simp only [go_sem, lA9, mA9]; done) | rfl), Q8, Qe, Qi, Q0, Qk, Q2, Ql, Q1, b4y, Qc, Qh, Q3, Q4, Q5, b94, Qq, Qd, Qf, Qg, (by first | exact b2x | exact b2y | assumption | (refine b2z ?_; first | assumption | exact b0q (by assumption) (by first | assumption | omega | (simp only [nxs] <;> omega))) | (refine b2c ?_; first | assumption | exact b0q (by assumption) (by first | assumption | omega | (simp only [nxs] <;> omega)))), Q19, Q6, Q7, (by first | exact b02 | exact b03 (by first | assumption | omega | (simp only [nxs] <;> omega)) | assumption | exact b0q (by assumption) (by first | assumption | omega | (simp only [nxs] <;> omega))), Qm, Q9, (by first | exact b02 | exact b03 (by first | assumption | omega | (simp only [nxs] <;> omega)) | assumption | exact b0q (by assumption) (by first | assumption | omega | (simp only [nxs] <;> omega))), Qn, (by first | exact b02 | exact b03 (by first | assumption | omega | (simp only [nxs] <;> omega)) | assumption | exact b0q (by assumption) (by first | assumption | omega | (simp only [nxs] <;> omega))), Qo, (by first | exact b2x | exact b2y | assumption | (refine b2z ?_; first | assumption | exact b0q (by assumption) (by first | assumption | omega | (simp only [nxs] <;> omega))) | (refine b2c ?_; first | assumption | exact b0q (by assumption) (by first | assumption | omega | (simp only [nxs] <;> omega)))), fr, fx, Qr, Q12, Q16, Q17, b94, Q13⟩
    ·try clear s1 s2 s5 s6 s7 s18 s19 Q8 Qe Qi Q0 Qk Q2 Ql Q1 Qc Qh Q3 Q4 Q5 Qq Qd Qf Qg Q19 Q6 Q7 Qm Q9 Qn Qo fr fx Qr Q12 Q16 Q17 Q13
     rintro ⟨b_7_1, b_7_2, x_122⟩ o t h ⟨v1_2, i7_3, v7_1, v7_2, s1, s2, s5, s6, s7, s18, s19, s121, s122, Q8, Qe, Qi, Q0, Qk, Q2, Ql, Q1, Qc, Q18, Qh, Q3, Q4, Q5, Qq, Q1k, Qd, Qf, Qg, Q19, Q1o, Q6, Q7, Qm, Q1c, Q9, Qn, Q1d, Qo, Q1e, Q1t, fr, fx, Qr, Q12, Q16, Q17, Q13, Q1p⟩ hm2 hb14
     simp only [b7o] at hm2
     rw [g0t]
     refine b0e fun K hK => ?_
     simp only [go_sem, s121, s122, Q0, Q2, Q1, b0b v1, b0b v5, b0b v1_1, b0b v5_1, b0b v7, b0b v1_2, b0b v7_1, b0b v7_2]
     refine hK _ _ ?_
     clear hK K
     refine b0w fun K15 hK15 => ?_
     simp only [go_sem]
     refine b0x (fun hc16 => ?_) (fun hc16 => ?_)
     ·rw [b1e hc16] at hm2
      simp only [b1b, b0m, b0n]
      refine hK15 _ _ ?_
      refine b0w fun K17 hK17 => ?_
      have J18 : ∀ (b_7_1_1 : List Int) (b_7_2_1 : List Int) (v1_3 : AV) (i7_4 : Nat) (i7_5 : Nat) (v7_3 : AV) (t : Slots) (h : Heap), t 1 = v1_3 → t 2 = .fp [.fs 5 (List.map b0r h_.Combs), .fs 3 (List.map b0p h_.Trains), .fs 3 (List.map b0u h_.Shifts), I h_.Until] 0 → t 5 = v5_1 → t 6 = I x_19 → t 7 = .rp i7 0 0 → t 18 = I (List.length h_.Combs : Int) → t 19 = I x_19 → t 121 = I h_.Until → t 122 = I x_122 → RR h v1_3 hs_1 1 eI open_ → b0j h v5_1 1 (List.map b27 all_5) → h.ob i7 = some (4, [[.rs i7_1 0 (List.length b_7_0), .rs i7_4 0 (List.length b_7_1_1), .rs i7_5 0 (List.length b_7_2_1), v7_3]]) → i7 < h.nx → h.ob i7_1 = some (1, List.map eI b_7_0) → i7_1 < h.nx → h.ob i7_4 = some (1, List.map eI b_7_1_1) → i7_4 < h.nx → h.ob i7_5 = some (1, List.map eI b_7_2_1) → i7_5 < h.nx → b0j h v7_3 1 (List.map b0s b_7_3) → (∀ j, ¬b0a v5_1 j → b0d v1_3 hs_1 j) → b0d v1_3 hs_1 i7 → b0d v1_3 hs_1 i7_1 → b0d v1_3 hs_1 i7_4 → b0d v1_3 hs_1 i7_5 → (∀ j, ¬b0a v7_3 j → b0d v1_3 hs_1 j) → b0a v5_1 i7 → b0a v5_1 i7_1 → b0a v5_1 i7_4 → b0a v5_1 i7_5 → (∀ j, ¬b0a v5_1 j → b0a v7_3 j) → ¬i7 = i7_1 → ¬i7 = i7_4 → ¬i7 = i7_5 → b0a v7_3 i7 → ¬i7_1 = i7_4 → ¬i7_1 = i7_5 → b0a v7_3 i7_1 → ¬i7_4 = i7_5 → b0a v7_3 i7_4 → b0a v7_3 i7_5 → (∀ j, j < h0.nx → h.ob j = h0.ob j) → h0.nx ≤ h.nx → (∀ j, ¬b0a v5_1 j → h0.nx ≤ j) → h0.nx ≤ i7 → h0.nx ≤ i7_1 → h0.nx ≤ i7_4 → h0.nx ≤ i7_5 → (∀ j, ¬b0a v7_3 j → h0.nx ≤ j) → c0d x_122 b_7_1_1 b_7_2_1 = some o → K17 t h := by
       try clear s1 s2 s5 s6 s7 s18 s19 s121 s122 Q8 Qe Qi Q0 Qk Q2 Ql Q1 Qc Q18 Qh Q3 Q4 Q5 Qq Q1k Qd Qf Qg Q19 Q1o Q6 Q7 Qm Q1c Q9 Qn Q1d Qo Q1e Q1t fr fx Qr Q12 Q16 Q17 Q13 Q1p
       intro b_7_1_1 b_7_2_1 v1_3 i7_4 i7_5 v7_3 t h s1 s2 s5 s6 s7 s18 s19 s121 s122 Q8 Qe Qi Q0 Qk Q2 Ql Q1 Q26 Q21 Q18 Qh Q3 Q4 Q5 Q27 Q1k Qd Qf Qg Q2b Q1o Q6 Q7 Q2c Q1c Q9 Q2d Q1d Q2e Q1e Q2i fr fx Qr Q12 Q16 Q17 Q13 Q1p hm2
       refine hK17 _ _ ?_
       unfold c0d at hm2
       refine b1p fun K hK => ?_
       simp only [go_sem, s122, Q0, Q2, Q1, Q21, b0b v1, b0b v5, b0b v1_1, b0b v5_1, b0b v7, b0b v1_2, b0b v7_1, b0b v7_2, b0b v1_3, b0b v7_3]
       refine hK _ _ ?_
       clear hK K
       simp only [b0m, b0n]
       obtain rfl := sI9 hm2
       refine ⟨_, rfl, ?_⟩
       exact ⟨v1_3, i7_4, (.rs i7_5 0 (List.length b_7_2_1)), v7_3, s1, s2, s5, s6, s7, s18, s19, s121, (by first | (simp only [go_sem, s122, lA9, mA9]; done) | rfl), Q8, Qe, Qi, Q0, Qk, Q2, Ql, Q1, (b3f (by simp only [go_sem, Q26, Q21, lA9, mA9]) (by first | rfl | simp only [go_sem, lA9, mA9]) (by simp only [go_sem, Q21])), Q18, Qh, Q3, Q4, Q5, (b95 Q27), Q1k, Qd, Qf, Qg, (by first | exact b2x | exact b2y | assumption | (refine b2z ?_; first | assumption | exact b0q (by assumption) (by first | assumption | omega | (simp only [nxs] <;> omega))) | (refine b2c ?_; first | assumption | exact b0q (by assumption) (by first | assumption | omega | (simp only [nxs] <;> omega)))), Q1o, Q6, Q7, (by first | exact b02 | exact b03 (by first | assumption | omega | (simp only [nxs] <;> omega)) | assumption | exact b0q (by assumption) (by first | assumption | omega | (simp only [nxs] <;> omega))), Q1c, Q9, (by first | exact b02 | exact b03 (by first | assumption | omega | (simp only [nxs] <;> omega)) | assumption | exact b0q (by assumption) (by first | assumption | omega | (simp only [nxs] <;> omega))), Q1d, (by first | exact b02 | exact b03 (by first | assumption | omega | (simp only [nxs] <;> omega)) | assumption | exact b0q (by assumption) (by first | assumption | omega | (simp only [nxs] <;> omega))), Q1e, (by first | exact b2x | exact b2y | assumption | (refine b2z ?_; first | assumption | exact b0q (by assumption) (by first | assumption | omega | (simp only [nxs] <;> omega))) | (refine b2c ?_; first | assumption | exact b0q (by assumption) (by first | assumption | omega | (simp only [nxs] <;> omega)))), fr, fx, Qr, Q12, Q16, Q17, (c5f Q13), Q1p⟩
      simp only [b1f]
      refine b0e fun K hK => ?_
      simp only [go_sem, s122, Q0, Q2, Q1, b0b v1, b0b v5, b0b v1_1, b0b v5_1, b0b v7, b0b v1_2, b0b v7_1, b0b v7_2]
      refine hK _ _ ?_
      clear hK K
      refine b0e fun K hK => ?_
      simp only [go_sem, Q0, Q2, Q1, b0b v1, b0b v5, b0b v1_1, b0b v5_1, b0b v7, b0b v1_2, b0b v7_1, b0b v7_2]
      refine hK _ _ ?_
      clear hK K
      refine b09 ?_
      refine b0e fun K hK => ?_
      simp only [go_sem, Q0, Q2, Q1, b0b v1, b0b v5, b0b v1_1, b0b v5_1, b0b v7, b0b v1_2, b0b v7_1, b0b v7_2]
      refine hK _ _ ?_
      clear hK K
      refine b0w fun K19 hK19 => ?_
      have J20 : ∀ (most_14 : Int) (v7_3 : AV) (t : Slots) (h : Heap), t 1 = v1_2 → t 2 = .fp [.fs 5 (List.map b0r h_.Combs), .fs 3 (List.map b0p h_.Trains), .fs 3 (List.map b0u h_.Shifts), I h_.Until] 0 → t 5 = v5_1 → t 6 = I x_19 → t 7 = .rp i7 0 0 → t 13 = I x_122 → t 14 = I most_14 → t 18 = I (List.length h_.Combs : Int) → t 19 = I x_19 → t 121 = I h_.Until → t 122 = I x_122 → RR h v1_2 hs_1 1 eI open_ → b0j h v5_1 1 (List.map b27 all_5) → h.ob i7 = some (4, [[.rs i7_1 0 (List.length b_7_0), .rs i7_3 0 (List.length b_7_1), v7_1, v7_3]]) → i7 < h.nx → h.ob i7_1 = some (1, List.map eI b_7_0) → i7_1 < h.nx → h.ob i7_3 = some (1, List.map eI b_7_1) → i7_3 < h.nx → b0j h v7_1 1 (List.map eI b_7_2) → b0j h v7_3 1 (List.map b0s b_7_3) → (∀ j, ¬b0a v5_1 j → b0d v1_2 hs_1 j) → b0d v1_2 hs_1 i7 → b0d v1_2 hs_1 i7_1 → b0d v1_2 hs_1 i7_3 → (∀ j, ¬b0a v7_1 j → b0d v1_2 hs_1 j) → (∀ j, ¬b0a v7_3 j → b0d v1_2 hs_1 j) → b0a v5_1 i7 → b0a v5_1 i7_1 → b0a v5_1 i7_3 → (∀ j, ¬b0a v5_1 j → b0a v7_1 j) → (∀ j, ¬b0a v5_1 j → b0a v7_3 j) → ¬i7 = i7_1 → ¬i7 = i7_3 → b0a v7_1 i7 → b0a v7_3 i7 → ¬i7_1 = i7_3 → b0a v7_1 i7_1 → b0a v7_3 i7_1 → b0a v7_1 i7_3 → b0a v7_3 i7_3 → (∀ j, ¬b0a v7_1 j → b0a v7_3 j) → (∀ j, j < h0.nx → h.ob j = h0.ob j) → h0.nx ≤ h.nx → (∀ j, ¬b0a v5_1 j → h0.nx ≤ j) → h0.nx ≤ i7 → h0.nx ≤ i7_1 → h0.nx ≤ i7_3 → (∀ j, ¬b0a v7_1 j → h0.nx ≤ j) → (∀ j, ¬b0a v7_3 j → h0.nx ≤ j) → c0e open_ x_19 b_7_1 b_7_2 x_122 most_14 = some o → K19 t h := by
       try clear s1 s2 s5 s6 s7 s18 s19 s121 s122 Q8 Qe Qi Q0 Qk Q2 Ql Q1 Qc Q18 Qh Q3 Q4 Q5 Qq Q1k Qd Qf Qg Q19 Q1o Q6 Q7 Qm Q1c Q9 Qn Q1d Qo Q1e Q1t fr fx Qr Q12 Q16 Q17 Q13 Q1p
       intro most_14 v7_3 t h s1 s2 s5 s6 s7 s13 s14 s18 s19 s121 s122 Q8 Qe Qi Q0 Qk Q2 Ql Q1 Qc Q18 Qh Q3 Q4 Q5 Qq Q1k Qd Qf Qg Q19 Q1o Q6 Q7 Qm Q1c Q9 Qn Q1d Qo Q1e Q1t fr fx Qr Q12 Q16 Q17 Q13 Q1p hm2
       refine hK19 _ _ ?_
       unfold c0e at hm2
       obtain ⟨l22, h_l22, hm2⟩ := b0l hm2
       refine b0e fun K hK => ?_
       simp only [go_sem, s7, s14, Qi, Q0, Qk, Q2, Ql, Q1, Qd, Qf, Qg, Q6, b0c Q6, Q7, b0c Q7, Qm, Q1c, Q9, b0c Q9, Qn, Q1d, Qo, Q1e, b0b v1, b0b v5, b0b v1_1, b0b v5_1, b0b v7, b0b v1_2, b0b v7_1, b0b v7_2, b0b v7_3]
       refine b4v (f := eI) (l := b_7_2) (m := ([most_14])) ?_ ?_ ?_ ?_ h_l22 ?_
       ·exact (b05 Qc (by intro j hj hl; first | rfl | simp only [go_sem, hl, b0i (Qq j hj), b2d Q19 j hj, b04 hj Qm, b04 hj Qn, b04 hj Qo, Q1t j hj]) (by first | omega | exact Nat.le_refl _ | (simp only [go_sem, nxs] <;> omega)))
       ·exact (b4z (by simp only [go_sem, b1g Q8, b0h Qe, Qi, Q0, Qk, Q2, Ql, Q1, b0h Qc, b0h Q18, b0i Q3, b0i Q4, b0i Q5, Qd, Qf, Qg, Q6, b0c Q6, Q7, b0c Q7, Qm, Q1c, Q9, b0c Q9, Qn, Q1d, Qo, Q1e, lA9, mA9]) (by simp only [go_sem, b1g Q8, b0h Qe, Qi, Q0, Qk, Q2, Ql, Q1, b0h Qc, b0h Q18, b0i Q3, b0i Q4, b0i Q5, Qd, Qf, Qg, Q6, b0c Q6, Q7, b0c Q7, Qm, Q1c, Q9, b0c Q9, Qn, Q1d, Qo, Q1e, lA9, mA9]))
       ·exact (b2c (by first | exact b02 | exact b03 (by first | omega | (simp only [nxs] <;> omega)) | assumption | exact b0q (by assumption) (by first | omega | (simp only [go_sem, nxs] <;> omega))))
       ·exact (fun _ => by simp)
       simp only [go_sem, s7, s14, Qi, Q0, Qk, Q2, Ql, Q1, Qd, Qf, Qg, Q6, b0c Q6, Q7, b0c Q7, Qm, Q1c, Q9, b0c Q9, Qn, Q1d, Qo, Q1e, b0b v1, b0b v5, b0b v1_1, b0b v5_1, b0b v7, b0b v1_2, b0b v7_1, b0b v7_2, b0b v7_3]
       refine hK _ _ ?_
       clear hK K
       obtain ⟨x27, h_x27, hm2⟩ := b0l hm2
       have h_x270 := b07 h_x27
       have h_x271 := b1a h_x27
       obtain ⟨x28, h_x28, hm2⟩ := b0l hm2
       have h_x280 := b07 h_x28
       have h_x281 := b1a h_x28
       obtain ⟨iqp946, rfl, Q1u, Q1r⟩ := b6e Q8 h_x28
       obtain ⟨wp947, hw_wp947, os_wp947⟩ := b6d Q8 h_x28
       obtain ⟨x29, h_x29, hm2⟩ := b0l hm2
       have h_x290 := b07 h_x29
       have h_x291 := b1a h_x29
       obtain ⟨irp948, rfl, obr_irp948, ltr_irp948⟩ := b6a os_wp947 h_x29
       obtain ⟨l30, h_l30, hm2⟩ := b0l hm2
       refine b8j (fun t h => ∃ v1_3 : AV, ∃ i7_4 : Nat, ∃ i7_5 : Nat, t 1 = v1_3 ∧ t 2 = .fp [.fs 5 (List.map b0r h_.Combs), .fs 3 (List.map b0p h_.Trains), .fs 3 (List.map b0u h_.Shifts), I h_.Until] 0 ∧ t 5 = v5_1 ∧ t 6 = I x_19 ∧ t 7 = .rp i7 0 0 ∧ t 18 = I (List.length h_.Combs : Int) ∧ t 19 = I x_19 ∧ t 121 = I h_.Until ∧ t 122 = I x_122 ∧ RR h v1_3 hs_1 1 eI open_ ∧ b0j h v5_1 1 (List.map b27 all_5) ∧ h.ob i7 = some (4, [[.rs i7_1 0 (List.length b_7_0), .rs i7_4 0 (List.length l30), .rs i7_5 0 (List.length l22), v7_3]]) ∧ i7 < h.nx ∧ h.ob i7_1 = some (1, List.map eI b_7_0) ∧ i7_1 < h.nx ∧ h.ob i7_4 = some (1, List.map eI l30) ∧ i7_4 < h.nx ∧ h.ob i7_5 = some (1, List.map eI l22) ∧ i7_5 < h.nx ∧ b0j h v7_3 1 (List.map b0s b_7_3) ∧ (∀ j, ¬b0a v5_1 j → b0d v1_3 hs_1 j) ∧ b0d v1_3 hs_1 i7 ∧ b0d v1_3 hs_1 i7_1 ∧ b0d v1_3 hs_1 i7_4 ∧ b0d v1_3 hs_1 i7_5 ∧ (∀ j, ¬b0a v7_3 j → b0d v1_3 hs_1 j) ∧ b0a v5_1 i7 ∧ b0a v5_1 i7_1 ∧ b0a v5_1 i7_4 ∧ b0a v5_1 i7_5 ∧ (∀ j, ¬b0a v5_1 j → b0a v7_3 j) ∧ ¬i7 = i7_1 ∧ ¬i7 = i7_4 ∧ ¬i7 = i7_5 ∧ b0a v7_3 i7 ∧ ¬i7_1 = i7_4 ∧ ¬i7_1 = i7_5 ∧ b0a v7_3 i7_1 ∧ ¬i7_4 = i7_5 ∧ b0a v7_3 i7_4 ∧ b0a v7_3 i7_5 ∧ (∀ j, j < h0.nx → h.ob j = h0.ob j) ∧ h0.nx ≤ h.nx ∧ (∀ j, ¬b0a v5_1 j → h0.nx ≤ j) ∧ h0.nx ≤ i7 ∧ h0.nx ≤ i7_1 ∧ h0.nx ≤ i7_4 ∧ h0.nx ≤ i7_5 ∧ (∀ j, ¬b0a v7_3 j → h0.nx ≤ j)) (fun K hK => ?_) ?_
       ·simp only [go_sem, s1, b3o Q8, s6, s7, s13, s14, Q1u, Q1r, Qi, Q0, Qk, Q2, Ql, Q1, b1i Qh, b1q Qh hw_wp947, b0k (Q3), b0c (b0k (Q3)), b0v (Q3) hw_wp947, b0c (b0v (Q3) hw_wp947), b0k (Q4), b0c (b0k (Q4)), b0v (Q4) hw_wp947, b0c (b0v (Q4) hw_wp947), b0k (Q5), b0c (b0k (Q5)), b0v (Q5) hw_wp947, b0c (b0v (Q5) hw_wp947), b1i Qq, b1q Qq hw_wp947, b1i Q1k, b1q Q1k hw_wp947, Qd, Qf, Qg, Q6, b0c Q6, Q7, b0c Q7, Qm, Q1c, Q9, b0c Q9, Qn, Q1d, Qo, Q1e, b0y h_x27, b0z h_x27, h_x270, h_x271, b0y h_x28, b0z h_x28, h_x280, h_x281, b0y hw_wp947, b0z hw_wp947, b4o os_wp947, b0y h_x29, b0z h_x29, h_x290, h_x291, obr_irp948, ltr_irp948, b0b v1, b0b v5, b0b v1_1, b0b v5_1, b0b v7, b0b v7_1, b0b v7_2, b0b v7_3]
        refine b4v (f := eI) (l := b_7_1) (m := ([wr (x27 + (mn most_14 x29))])) ?_ ?_ ?_ ?_ h_l30 ?_
        ·exact (b3f (by simp only [go_sem, b1g Q8, b0h Qe, Qi, Q0, Qk, Q2, Ql, Q1, b0h Qc, b0h Q18, b1i Qh, b1q Qh hw_wp947, b0i Q3, b0k (Q3), b0c (b0k (Q3)), b0v (Q3) hw_wp947, b0c (b0v (Q3) hw_wp947), b0i Q4, b0k (Q4), b0c (b0k (Q4)), b0v (Q4) hw_wp947, b0c (b0v (Q4) hw_wp947), b0i Q5, b0k (Q5), b0c (b0k (Q5)), b0v (Q5) hw_wp947, b0c (b0v (Q5) hw_wp947), b1i Qq, b1q Qq hw_wp947, b1i Q1k, b1q Q1k hw_wp947, Qd, Qf, Qg, Q6, b0c Q6, Q7, b0c Q7, Qm, Q1c, Q9, b0c Q9, Qn, Q1d, Qo, Q1e, Q1u, Q1r, b2i Q8 hw_wp947, b0c (b2i Q8 hw_wp947), lA9, mA9]) (by simp only [go_sem, b1g Q8, b0h Qe, Qi, Q0, Qk, Q2, Ql, Q1, b0h Qc, b0h Q18, b1i Qh, b1q Qh hw_wp947, b0i Q3, b0k (Q3), b0c (b0k (Q3)), b0v (Q3) hw_wp947, b0c (b0v (Q3) hw_wp947), b0i Q4, b0k (Q4), b0c (b0k (Q4)), b0v (Q4) hw_wp947, b0c (b0v (Q4) hw_wp947), b0i Q5, b0k (Q5), b0c (b0k (Q5)), b0v (Q5) hw_wp947, b0c (b0v (Q5) hw_wp947), b1i Qq, b1q Qq hw_wp947, b1i Q1k, b1q Q1k hw_wp947, Qd, Qf, Qg, Q6, b0c Q6, Q7, b0c Q7, Qm, Q1c, Q9, b0c Q9, Qn, Q1d, Qo, Q1e, Q1u, Q1r, b2i Q8 hw_wp947, b0c (b2i Q8 hw_wp947), lA9, mA9]) (by simp only [go_sem, Q0, Q2, Q1, Q1r]))
        ·exact (b4z (by simp only [go_sem, b1g Q8, b0h Qe, Qi, Q0, Qk, Q2, Ql, Q1, b0h Qc, b0h Q18, b1i Qh, b1q Qh hw_wp947, b0i Q3, b0k (Q3), b0c (b0k (Q3)), b0v (Q3) hw_wp947, b0c (b0v (Q3) hw_wp947), b0i Q4, b0k (Q4), b0c (b0k (Q4)), b0v (Q4) hw_wp947, b0c (b0v (Q4) hw_wp947), b0i Q5, b0k (Q5), b0c (b0k (Q5)), b0v (Q5) hw_wp947, b0c (b0v (Q5) hw_wp947), b1i Qq, b1q Qq hw_wp947, b1i Q1k, b1q Q1k hw_wp947, Qd, Qf, Qg, Q6, b0c Q6, Q7, b0c Q7, Qm, Q1c, Q9, b0c Q9, Qn, Q1d, Qo, Q1e, Q1u, Q1r, b2i Q8 hw_wp947, b0c (b2i Q8 hw_wp947), lA9, mA9]) (by simp only [go_sem, b1g Q8, b0h Qe, Qi, Q0, Qk, Q2, Ql, Q1, b0h Qc, b0h Q18, b1i Qh, b1q Qh hw_wp947, b0i Q3, b0k (Q3), b0c (b0k (Q3)), b0v (Q3) hw_wp947, b0c (b0v (Q3) hw_wp947), b0i Q4, b0k (Q4), b0c (b0k (Q4)), b0v (Q4) hw_wp947, b0c (b0v (Q4) hw_wp947), b0i Q5, b0k (Q5), b0c (b0k (Q5)), b0v (Q5) hw_wp947, b0c (b0v (Q5) hw_wp947), b1i Qq, b1q Qq hw_wp947, b1i Q1k, b1q Q1k hw_wp947, Qd, Qf, Qg, Q6, b0c Q6, Q7, b0c Q7, Qm, Q1c, Q9, b0c Q9, Qn, Q1d, Qo, Q1e, Q1u, Q1r, b2i Q8 hw_wp947, b0c (b2i Q8 hw_wp947), lA9, mA9]))
        ·exact (b2c (by first | exact b02 | exact b03 (by first | omega | (simp only [nxs] <;> omega)) | assumption | exact b0q (by assumption) (by first | omega | (simp only [go_sem, nxs] <;> omega))))
        ·exact (fun _ => by simp)
        simp only [go_sem, s1, b3o Q8, s6, s7, s13, s14, Q1u, Q1r, Qi, Q0, Qk, Q2, Ql, Q1, b1i Qh, b1q Qh hw_wp947, b0k (Q3), b0c (b0k (Q3)), b0v (Q3) hw_wp947, b0c (b0v (Q3) hw_wp947), b0k (Q4), b0c (b0k (Q4)), b0v (Q4) hw_wp947, b0c (b0v (Q4) hw_wp947), b0k (Q5), b0c (b0k (Q5)), b0v (Q5) hw_wp947, b0c (b0v (Q5) hw_wp947), b1i Qq, b1q Qq hw_wp947, b1i Q1k, b1q Q1k hw_wp947, Qd, Qf, Qg, Q6, b0c Q6, Q7, b0c Q7, Qm, Q1c, Q9, b0c Q9, Qn, Q1d, Qo, Q1e, b0y h_x27, b0z h_x27, h_x270, h_x271, b0y h_x28, b0z h_x28, h_x280, h_x281, b0y hw_wp947, b0z hw_wp947, b4o os_wp947, b0y h_x29, b0z h_x29, h_x290, h_x291, obr_irp948, ltr_irp948, b0b v1, b0b v5, b0b v1_1, b0b v5_1, b0b v7, b0b v7_1, b0b v7_2, b0b v7_3]
        exact hK _ _ ⟨(.rs iqp946 0 (List.length open_)), (nxs (nxs (nxs h.nx))), (nxs h.nx), (by first | (simp only [go_sem, s1, lA9, mA9]; done) | rfl), s2, s5, s6, s7, s18, s19, s121, s122, (b3n Q8 (by intro j hj  hl; first | rfl | simp only [go_sem, hl, b3x hj Q3, b3x hj Q5, b5r Qq j hj, Q0, Q1]) (by first | omega | exact Nat.le_refl _ | (simp only [go_sem, nxs] <;> omega))), (b05 Qe (by intro j hj hl; first | rfl | simp only [go_sem, hl, Q0, Q1, b04 hj Qd, b04 hj Qg, Q19 j hj]) (by first | omega | exact Nat.le_refl _ | (simp only [go_sem, nxs] <;> omega))), (by simp only [go_sem, Qi, Q0, Q1, b0h Qc, Q7, b0c Q7, Qm, lA9, mA9]), (by simp only [go_sem, Q0]), (by simp only [go_sem, Q0, Qk, Q2, Q1, b0h Qc, Q6, b0c Q6, Q9, b0c Q9, Qn, lA9, mA9]), (by simp only [go_sem, Q2]), (by simp only [go_sem, Q0, Q1, b0h Qc, lA9, mA9]), (by simp only [go_sem]), (by simp only [go_sem, Q0, Q1, b0h Qc, lA9, mA9]), (by simp only [go_sem]), (b05 Q18 (by intro j hj hl; first | rfl | simp only [go_sem, hl, Q0, Q1, b04 hj Q1c, b04 hj Q1e, b2d Q1t j hj]) (by first | omega | exact Nat.le_refl _ | (simp only [go_sem, nxs] <;> omega))), Qh, Q3, Q4, (by first | assumption | exact b2n Q8 (by first | assumption | omega | (simp only [nxs] <;> omega))), (by first | assumption | exact b2n Q8 (by first | assumption | omega | (simp only [nxs] <;> omega))), Q1k, Qd, Qf, (by first | exact b02 | exact b03 (by first | assumption | omega | (simp only [nxs] <;> omega)) | assumption | exact b0q (by assumption) (by first | assumption | omega | (simp only [nxs] <;> omega))), (by first | exact b02 | exact b03 (by first | assumption | omega | (simp only [nxs] <;> omega)) | assumption | exact b0q (by assumption) (by first | assumption | omega | (simp only [nxs] <;> omega))), Q1o, Q6, (by first | first | assumption | omega | (simp only [nxs] <;> omega)), (by first | first | assumption | omega | (simp only [nxs] <;> omega)), Q1c, (by first | first | assumption | omega | (simp only [nxs] <;> omega)), (by first | first | assumption | omega | (simp only [nxs] <;> omega)), Q1d, (by first | first | assumption | omega | (simp only [nxs] <;> omega)), (by first | exact b02 | exact b03 (by first | assumption | omega | (simp only [nxs] <;> omega)) | assumption | exact b0q (by assumption) (by first | assumption | omega | (simp only [nxs] <;> omega))), (by first | exact b02 | exact b03 (by first | assumption | omega | (simp only [nxs] <;> omega)) | assumption | exact b0q (by assumption) (by first | assumption | omega | (simp only [nxs] <;> omega))), (by intro j hj; first | exact fr j hj | (refine Eq.trans ?_ (fr j hj); first | rfl | simp only [go_sem, Nat.lt_of_lt_of_le hj fx, b6n Q12 hj, b6n Q17 hj, b5o Q13 hj])), (by first | exact fx | omega | (simp only [go_sem, nxs] <;> omega)), Qr, Q12, Q16, (by first | assumption | omega | (simp only [nxs] <;> omega)), (by first | assumption | omega | (simp only [nxs] <;> omega)), Q1p⟩
       ·try clear s1 s2 s5 s6 s7 s13 s14 s18 s19 s121 s122 Q8 Qe Qi Q0 Qk Q2 Ql Q1 Qc Q18 Qh Q3 Q4 Q5 Qq Q1k Qd Qf Qg Q19 Q1o Q6 Q7 Qm Q1c Q9 Qn Q1d Qo Q1e Q1t fr fx Qr Q12 Q16 Q17 Q13 Q1p Q1u Q1r
        rintro t h ⟨v1_3, i7_4, i7_5, s1, s2, s5, s6, s7, s18, s19, s121, s122, Q8, Qe, Qi, Q0, Qk, Q2, Ql, Q1, Q26, Q21, Q18, Qh, Q3, Q4, Q5, Q27, Q1k, Qd, Qf, Qg, Q2b, Q1o, Q6, Q7, Q2c, Q1c, Q9, Q2d, Q1d, Q2e, Q1e, Q2i, fr, fx, Qr, Q12, Q16, Q17, Q13, Q1p⟩
        simp only [b0m, b0n]
        exact J18 l30 l22 v1_3 i7_4 i7_5 v7_3 _ _ s1 s2 s5 s6 s7 s18 s19 s121 s122 Q8 Qe Qi Q0 Qk Q2 Ql Q1 Q26 Q21 Q18 Qh Q3 Q4 Q5 Q27 Q1k Qd Qf Qg Q2b Q1o Q6 Q7 Q2c Q1c Q9 Q2d Q1d Q2e Q1e Q2i fr fx Qr Q12 Q16 Q17 Q13 Q1p hm2
      simp only [b1f]
      obtain ⟨b31, hl31, hm2⟩ := b0l hm2
      refine b19 hl31 (fun | (most_14, x_127), t, h => ∃ v7_3 : AV, t 1 = v1_2 ∧ t 2 = .fp [.fs 5 (List.map b0r h_.Combs), .fs 3 (List.map b0p h_.Trains), .fs 3 (List.map b0u h_.Shifts), I h_.Until] 0 ∧ t 5 = v5_1 ∧ t 6 = I x_19 ∧ t 7 = .rp i7 0 0 ∧ t 13 = I x_122 ∧ t 14 = I most_14 ∧ t 18 = I (List.length h_.Combs : Int) ∧ t 19 = I x_19 ∧ t 121 = I h_.Until ∧ t 122 = I x_122 ∧ t 126 = I (wr (x_122 + 1)) ∧ t 127 = I x_127 ∧ RR h v1_2 hs_1 1 eI open_ ∧ b0j h v5_1 1 (List.map b27 all_5) ∧ h.ob i7 = some (4, [[.rs i7_1 0 (List.length b_7_0), .rs i7_3 0 (List.length b_7_1), v7_1, v7_3]]) ∧ i7 < h.nx ∧ h.ob i7_1 = some (1, List.map eI b_7_0) ∧ i7_1 < h.nx ∧ h.ob i7_3 = some (1, List.map eI b_7_1) ∧ i7_3 < h.nx ∧ b0j h v7_1 1 (List.map eI b_7_2) ∧ b0j h v7_3 1 (List.map b0s b_7_3) ∧ (∀ j, ¬b0a v5_1 j → b0d v1_2 hs_1 j) ∧ b0d v1_2 hs_1 i7 ∧ b0d v1_2 hs_1 i7_1 ∧ b0d v1_2 hs_1 i7_3 ∧ (∀ j, ¬b0a v7_1 j → b0d v1_2 hs_1 j) ∧ (∀ j, ¬b0a v7_3 j → b0d v1_2 hs_1 j) ∧ b0a v5_1 i7 ∧ b0a v5_1 i7_1 ∧ b0a v5_1 i7_3 ∧ (∀ j, ¬b0a v5_1 j → b0a v7_1 j) ∧ (∀ j, ¬b0a v5_1 j → b0a v7_3 j) ∧ ¬i7 = i7_1 ∧ ¬i7 = i7_3 ∧ b0a v7_1 i7 ∧ b0a v7_3 i7 ∧ ¬i7_1 = i7_3 ∧ b0a v7_1 i7_1 ∧ b0a v7_3 i7_1 ∧ b0a v7_1 i7_3 ∧ b0a v7_3 i7_3 ∧ (∀ j, ¬b0a v7_1 j → b0a v7_3 j) ∧ (∀ j, j < h0.nx → h.ob j = h0.ob j) ∧ h0.nx ≤ h.nx ∧ (∀ j, ¬b0a v5_1 j → h0.nx ≤ j) ∧ h0.nx ≤ i7 ∧ h0.nx ≤ i7_1 ∧ h0.nx ≤ i7_3 ∧ (∀ j, ¬b0a v7_1 j → h0.nx ≤ j) ∧ (∀ j, ¬b0a v7_3 j → h0.nx ≤ j)) ?_ ?_
      ·exact ⟨v7_2, s1, s2, s5, s6, s7, (by first | (simp only [go_sem, lA9, mA9]; done) | rfl), (by first | (simp only [go_sem, lA9, mA9]; done) | rfl), s18, s19, s121, s122, (by first | (simp only [go_sem, lA9, mA9]; done) | rfl), (by first | (simp only [go_sem, lA9, mA9]; done) | rfl), Q8, Qe, Qi, Q0, Qk, Q2, Ql, Q1, Qc, Q18, Qh, Q3, Q4, Q5, Qq, Q1k, Qd, Qf, Qg, Q19, Q1o, Q6, Q7, Qm, Q1c, Q9, Qn, Q1d, Qo, Q1e, Q1t, fr, fx, Qr, Q12, Q16, Q17, Q13, Q1p⟩
      ·try clear s1 s2 s5 s6 s7 s18 s19 s121 s122 Q8 Qe Qi Q0 Qk Q2 Ql Q1 Qc Q18 Qh Q3 Q4 Q5 Qq Q1k Qd Qf Qg Q19 Q1o Q6 Q7 Qm Q1c Q9 Qn Q1d Qo Q1e Q1t fr fx Qr Q12 Q16 Q17 Q13 Q1p
       rintro ⟨most_14, x_127⟩ o t h ⟨v7_3, s1, s2, s5, s6, s7, s13, s14, s18, s19, s121, s122, s126, s127, Q8, Qe, Qi, Q0, Qk, Q2, Ql, Q1, Qc, Q18, Qh, Q3, Q4, Q5, Qq, Q1k, Qd, Qf, Qg, Q19, Q1o, Q6, Q7, Qm, Q1c, Q9, Qn, Q1d, Qo, Q1e, Q1t, fr, fx, Qr, Q12, Q16, Q17, Q13, Q1p⟩ hm3 hb31
       simp only [b7n] at hm3
       rw [g0s]
       refine b0e fun K hK => ?_
       simp only [go_sem, s126, s127, Q0, Q2, Q1, b0b v1, b0b v5, b0b v1_1, b0b v5_1, b0b v7, b0b v1_2, b0b v7_1, b0b v7_2, b0b v7_3]
       refine hK _ _ ?_
       clear hK K
       refine b0w fun K32 hK32 => ?_
       simp only [go_sem]
       refine b0x (fun hc33 => ?_) (fun hc33 => ?_)
       ·rw [b1e hc33] at hm3
        simp only [b1b, b0m, b0n]
        refine hK32 _ _ ?_
        refine b0w fun K34 hK34 => ?_
        simp only [b1f]
        refine b0e fun K hK => ?_
        simp only [go_sem, s127, Q0, Q2, Q1, b0b v1, b0b v5, b0b v1_1, b0b v5_1, b0b v7, b0b v1_2, b0b v7_1, b0b v7_2, b0b v7_3]
        refine hK _ _ ?_
        clear hK K
        obtain ⟨x40, h_x40, hm3⟩ := b0l hm3
        have h_x400 := b07 h_x40
        have h_x401 := b1a h_x40
        obtain ⟨iq41, rfl, Q2j, Q2f⟩ := b6a Q18 h_x40
        obtain ⟨x42, h_x42, hm3⟩ := b0l hm3
        have h_x420 := b07 h_x42
        have h_x421 := b1a h_x42
        obtain ⟨x43, h_x43, hm3⟩ := b0l hm3
        have h_x430 := b07 h_x43
        have h_x431 := b1a h_x43
        obtain ⟨x44, h_x44, hm3⟩ := b0l hm3
        have h_x440 := b07 h_x44
        have h_x441 := b1a h_x44
        refine b1p fun K hK => ?_
        simp only [go_sem, s7, s13, s14, Qi, Q0, Qk, Q2, Ql, Q1, Q2j, Q2f, Qd, Qf, Qg, Q6, b0c Q6, Q7, b0c Q7, Qm, Q1c, Q9, b0c Q9, Qn, Q1d, Qo, Q1e, b0y h_x40, b0z h_x40, h_x400, h_x401, b0y h_x42, b0z h_x42, h_x420, h_x421, b0y h_x43, b0z h_x43, h_x430, h_x431, b0y h_x44, b0z h_x44, h_x440, h_x441, b0b v1, b0b v5, b0b v1_1, b0b v5_1, b0b v7, b0b v1_2, b0b v7_1, b0b v7_2]
        refine hK _ _ ?_
        clear hK K
        simp only [b0m, b0n]
        refine hK34 _ _ ?_
        refine b1p fun K hK => ?_
        simp only [go_sem, s127, Q0, Q2, Q1, Q2f, b0b v1, b0b v5, b0b v1_1, b0b v5_1, b0b v7, b0b v1_2, b0b v7_1, b0b v7_2]
        refine hK _ _ ?_
        clear hK K
        simp only [b0m, b0n]
        obtain rfl := sI9 hm3
        refine ⟨_, rfl, ?_⟩
        exact ⟨(.rs iq41 0 (List.length b_7_3)), s1, s2, s5, s6, s7, s13, (by first | (simp only [go_sem, s14, lA9, mA9]; done) | rfl), s18, s19, s121, s122, s126, (by first | (simp only [go_sem, s127, lA9, mA9]; done) | rfl), Q8, Qe, (by simp only [go_sem, Qi, Q0, lA9, mA9]), (by simp only [go_sem, Q0]), Qk, Q2, Ql, Q1, Qc, (b3f (by simp only [go_sem, Q2j, Q2f, lA9, mA9]) (by first | rfl | simp only [go_sem, lA9, mA9]) (by simp only [go_sem, Q2f])), Qh, Q3, Q4, Q5, Qq, Q1k, Qd, Qf, Qg, Q19, Q1o, Q6, Q7, Qm, Q1c, Q9, Qn, Q1d, Qo, Q1e, Q1t, fr, fx, Qr, Q12, Q16, Q17, Q13, Q1p⟩
       ·rw [b1d hc33] at hm3
        simp only [b1y, b11, b10, b1z, b0m, b0n, Nat.reduceEqDiff, nF9]
        obtain rfl := sI9 hm3
        obtain rfl := hb31 _ rfl
        try dsimp only at hm2
        exact J20 most_14 v7_3 _ _ s1 s2 s5 s6 s7 s13 s14 s18 s19 s121 s122 Q8 Qe Qi Q0 Qk Q2 Ql Q1 Qc Q18 Qh Q3 Q4 Q5 Qq Q1k Qd Qf Qg Q19 Q1o Q6 Q7 Qm Q1c Q9 Qn Q1d Qo Q1e Q1t fr fx Qr Q12 Q16 Q17 Q13 Q1p hm2
     ·rw [b1d hc16] at hm2
      simp only [b1y, b11, b10, b1z, b0m, b0n, Nat.reduceEqDiff, nF9]
      obtain rfl := sI9 hm2
      obtain rfl := hb14 _ rfl
      try dsimp only at hm1
      exact J11 b_7_1 b_7_2 v1_2 i7_3 v7_1 v7_2 _ _ s1 s2 s5 s7 s18 s19 Q8 Qe Qi Q0 Qk Q2 Ql Q1 Qc Q18 Qh Q3 Q4 Q5 Qq Q1k Qd Qf Qg Q19 Q1o Q6 Q7 Qm Q1c Q9 Qn Q1d Qo Q1e Q1t fr fx Qr Q12 Q16 Q17 Q13 Q1p hm1
   simp only [b1f]
   obtain ⟨b47, hl47, hm1⟩ := b0l hm1
   refine b19 hl47 (fun | (b_7_0, b_7_3, x_28), t, h => ∃ v1_1 : AV, ∃ v5_1 : AV, ∃ i7 : Nat, ∃ i7_1 : Nat, ∃ i7_2 : Nat, ∃ v7 : AV, t 1 = v1_1 ∧ t 2 = .fp [.fs 5 (List.map b0r h_.Combs), .fs 3 (List.map b0p h_.Trains), .fs 3 (List.map b0u h_.Shifts), I h_.Until] 0 ∧ t 5 = v5_1 ∧ t 6 = I x_19 ∧ t 7 = .rp i7 0 0 ∧ t 18 = I (List.length h_.Combs : Int) ∧ t 19 = I x_19 ∧ t 27 = I h_.Until ∧ t 28 = I x_28 ∧ RR h v1_1 hs_1 1 eI open_ ∧ b0j h v5_1 1 (List.map b27 all_5) ∧ h.ob i7 = some (4, [[.rs i7_1 0 (List.length b_7_0), .rs i7_2 0 (List.length ([0])), .v (.slice none 0 0), v7]]) ∧ i7 < h.nx ∧ h.ob i7_1 = some (1, List.map eI b_7_0) ∧ i7_1 < h.nx ∧ h.ob i7_2 = some (1, List.map eI ([0])) ∧ i7_2 < h.nx ∧ b0j h v7 1 (List.map b0s b_7_3) ∧ (∀ j, ¬b0a v5_1 j → b0d v1_1 hs_1 j) ∧ b0d v1_1 hs_1 i7 ∧ b0d v1_1 hs_1 i7_1 ∧ b0d v1_1 hs_1 i7_2 ∧ (∀ j, ¬b0a v7 j → b0d v1_1 hs_1 j) ∧ b0a v5_1 i7 ∧ b0a v5_1 i7_1 ∧ b0a v5_1 i7_2 ∧ (∀ j, ¬b0a v5_1 j → b0a v7 j) ∧ ¬i7 = i7_1 ∧ ¬i7 = i7_2 ∧ b0a v7 i7 ∧ ¬i7_1 = i7_2 ∧ b0a v7 i7_1 ∧ b0a v7 i7_2 ∧ (∀ j, j < h0.nx → h.ob j = h0.ob j) ∧ h0.nx ≤ h.nx ∧ (∀ j, ¬b0a v5_1 j → h0.nx ≤ j) ∧ h0.nx ≤ i7 ∧ h0.nx ≤ i7_1 ∧ h0.nx ≤ i7_2 ∧ (∀ j, ¬b0a v7 j → h0.nx ≤ j)) ?_ ?_
   ·exact ⟨v1, v5, (nxs (nxs h.nx)), h.nx, (nxs h.nx), (.v (.slice none 0 0)), s1, s2, s5, (by first | (simp only [go_sem, lA9, mA9]; done) | rfl), (by first | (simp only [go_sem, lA9, mA9]; done) | rfl), s18, s19, (by first | (simp only [go_sem, lA9, mA9]; done) | rfl), (by first | (simp only [go_sem, lA9, mA9]; done) | rfl), (b3n Q8 (by intro j hj  hl; first | rfl | simp only [go_sem, hl]) (by first | omega | exact Nat.le_refl _ | (simp only [go_sem, nxs] <;> omega))), (b05 Qe (by intro j hj hl; first | rfl | simp only [go_sem, hl]) (by first | omega | exact Nat.le_refl _ | (simp only [go_sem, nxs] <;> omega))), (by simp only [go_sem, lA9, mA9]), (by simp only [go_sem]), (by simp only [go_sem, lA9, mA9]), (by simp only [go_sem]), (by simp only [go_sem, lA9, mA9]), (by simp only [go_sem]), b4y, Qh, (by first | assumption | exact b2n Q8 (by first | assumption | omega | (simp only [nxs] <;> omega))), (by first | assumption | exact b2n Q8 (by first | assumption | omega | (simp only [nxs] <;> omega))), (by first | assumption | exact b2n Q8 (by first | assumption | omega | (simp only [nxs] <;> omega))), b94, (by first | exact b02 | exact b03 (by first | assumption | omega | (simp only [nxs] <;> omega)) | assumption | exact b0q (by assumption) (by first | assumption | omega | (simp only [nxs] <;> omega))), (by first | exact b02 | exact b03 (by first | assumption | omega | (simp only [nxs] <;> omega)) | assumption | exact b0q (by assumption) (by first | assumption | omega | (simp only [nxs] <;> omega))), (by first | exact b02 | exact b03 (by first | assumption | omega | (simp only [nxs] <;> omega)) | assumption | exact b0q (by assumption) (by first | assumption | omega | (simp only [nxs] <;> omega))), (by first | exact b2x | exact b2y | assumption | (refine b2z ?_; first | assumption | exact b0q (by assumption) (by first | assumption | omega | (simp only [nxs] <;> omega))) | (refine b2c ?_; first | assumption | exact b0q (by assumption) (by first | assumption | omega | (simp only [nxs] <;> omega)))), (by first | first | assumption | omega | (simp only [nxs] <;> omega)), (by first | first | assumption | omega | (simp only [nxs] <;> omega)), (by first | exact b02 | exact b03 (by first | assumption | omega | (simp only [nxs] <;> omega)) | assumption | exact b0q (by assumption) (by first | assumption | omega | (simp only [nxs] <;> omega))), (by first | first | assumption | omega | (simp only [nxs] <;> omega)), (by first | exact b02 | exact b03 (by first | assumption | omega | (simp only [nxs] <;> omega)) | assumption | exact b0q (by assumption) (by first | assumption | omega | (simp only [nxs] <;> omega))), (by first | exact b02 | exact b03 (by first | assumption | omega | (simp only [nxs] <;> omega)) | assumption | exact b0q (by assumption) (by first | assumption | omega | (simp only [nxs] <;> omega))), (by intro j hj; first | exact fr j hj | (refine Eq.trans ?_ (fr j hj); first | rfl | simp only [go_sem, Nat.lt_of_lt_of_le hj fx])), (by first | exact fx | omega | (simp only [go_sem, nxs] <;> omega)), Qr, (by first | assumption | omega | (simp only [nxs] <;> omega)), (by first | assumption | omega | (simp only [nxs] <;> omega)), (by first | assumption | omega | (simp only [nxs] <;> omega)), b94⟩
   ·try clear s1 s2 s5 s18 s19 Q8 Qe Qh fr fx Qr
    rintro ⟨b_7_0, b_7_3, x_28⟩ o t h ⟨v1_1, v5_1, i7, i7_1, i7_2, v7, s1, s2, s5, s6, s7, s18, s19, s27, s28, Q8, Qe, Qi, Q0, Qk, Q2, Ql, Q1, Qc, Qh, Q3, Q4, Q5, Qq, Qd, Qf, Qg, Q19, Q6, Q7, Qm, Q9, Qn, Qo, fr, fx, Qr, Q12, Q16, Q17, Q13⟩ hm2 hb47
    simp only [b7m] at hm2
    rw [g0r]
    refine b0e fun K hK => ?_
    simp only [go_sem, s27, s28, Q0, Q2, Q1, b0b v1, b0b v5, b0b v1_1, b0b v5_1, b0b v7]
    refine hK _ _ ?_
    clear hK K
    refine b0w fun K48 hK48 => ?_
    simp only [go_sem]
    refine b0x (fun hc49 => ?_) (fun hc49 => ?_)
    ·rw [b1e hc49] at hm2
     simp only [b1b, b0m, b0n]
     refine hK48 _ _ ?_
     refine b0w fun K50 hK50 => ?_
     have J51 : ∀ (b_7_0_1 : List Int) (b_7_3_1 : List (List Int)) (v1_2 : AV) (v5_2 : AV) (i7_3 : Nat) (i7_4 : Nat) (t : Slots) (h : Heap), t 1 = v1_2 → t 2 = .fp [.fs 5 (List.map b0r h_.Combs), .fs 3 (List.map b0p h_.Trains), .fs 3 (List.map b0u h_.Shifts), I h_.Until] 0 → t 5 = v5_2 → t 6 = I x_19 → t 7 = .rp i7 0 0 → t 18 = I (List.length h_.Combs : Int) → t 19 = I x_19 → t 27 = I h_.Until → t 28 = I x_28 → RR h v1_2 hs_1 1 eI open_ → b0j h v5_2 1 (List.map b27 all_5) → h.ob i7 = some (4, [[.rs i7_3 0 (List.length b_7_0_1), .rs i7_2 0 (List.length ([0])), .v (.slice none 0 0), .rs i7_4 0 (List.length b_7_3_1)]]) → i7 < h.nx → h.ob i7_3 = some (1, List.map eI b_7_0_1) → i7_3 < h.nx → h.ob i7_2 = some (1, List.map eI ([0])) → i7_2 < h.nx → h.ob i7_4 = some (1, List.map b0s b_7_3_1) → i7_4 < h.nx → (∀ j, ¬b0a v5_2 j → b0d v1_2 hs_1 j) → b0d v1_2 hs_1 i7 → b0d v1_2 hs_1 i7_3 → b0d v1_2 hs_1 i7_2 → b0d v1_2 hs_1 i7_4 → b0a v5_2 i7 → b0a v5_2 i7_3 → b0a v5_2 i7_2 → b0a v5_2 i7_4 → ¬i7 = i7_3 → ¬i7 = i7_2 → ¬i7 = i7_4 → ¬i7_3 = i7_2 → ¬i7_3 = i7_4 → ¬i7_2 = i7_4 → (∀ j, j < h0.nx → h.ob j = h0.ob j) → h0.nx ≤ h.nx → (∀ j, ¬b0a v5_2 j → h0.nx ≤ j) → h0.nx ≤ i7 → h0.nx ≤ i7_3 → h0.nx ≤ i7_2 → h0.nx ≤ i7_4 → c0f x_28 b_7_0_1 b_7_3_1 = some o → K50 t h := by
      try clear s1 s2 s5 s6 s7 s18 s19 s27 s28 Q8 Qe Qi Q0 Qk Q2 Ql Q1 Qc Qh Q3 Q4 Q5 Qq Qd Qf Qg Q19 Q6 Q7 Qm Q9 Qn Qo fr fx Qr Q12 Q16 Q17 Q13
      intro b_7_0_1 b_7_3_1 v1_2 v5_2 i7_3 i7_4 t h s1 s2 s5 s6 s7 s18 s19 s27 s28 Q8 Qe Qi Q0 Qk Q2 Ql Q1 Q26 Q21 Qh Q3 Q4 Q5 Q27 Qd Qf Qg Q2b Q6 Q7 Q2c Q9 Q2d Q2e fr fx Qr Q12 Q16 Q17 Q13 hm2
      refine hK50 _ _ ?_
      unfold c0f at hm2
      refine b1p fun K hK => ?_
      simp only [go_sem, s28, Q0, Q2, Q1, Q21, b0b v1, b0b v5, b0b v1_1, b0b v5_1, b0b v7, b0b v1_2, b0b v5_2]
      refine hK _ _ ?_
      clear hK K
      simp only [b0m, b0n]
      obtain rfl := sI9 hm2
      refine ⟨_, rfl, ?_⟩
      exact ⟨v1_2, v5_2, i7, i7_3, i7_2, (.rs i7_4 0 (List.length b_7_3_1)), s1, s2, s5, s6, s7, s18, s19, s27, (by first | (simp only [go_sem, s28, lA9, mA9]; done) | rfl), Q8, Qe, Qi, Q0, Qk, Q2, Ql, Q1, (b3f (by simp only [go_sem, Q26, Q21, lA9, mA9]) (by first | rfl | simp only [go_sem, lA9, mA9]) (by simp only [go_sem, Q21])), Qh, Q3, Q4, Q5, (b95 Q27), Qd, Qf, Qg, (by first | exact b2x | exact b2y | assumption | (refine b2z ?_; first | assumption | exact b0q (by assumption) (by first | assumption | omega | (simp only [nxs] <;> omega))) | (refine b2c ?_; first | assumption | exact b0q (by assumption) (by first | assumption | omega | (simp only [nxs] <;> omega)))), Q6, Q7, (by first | exact b02 | exact b03 (by first | assumption | omega | (simp only [nxs] <;> omega)) | assumption | exact b0q (by assumption) (by first | assumption | omega | (simp only [nxs] <;> omega))), Q9, (by first | exact b02 | exact b03 (by first | assumption | omega | (simp only [nxs] <;> omega)) | assumption | exact b0q (by assumption) (by first | assumption | omega | (simp only [nxs] <;> omega))), (by first | exact b02 | exact b03 (by first | assumption | omega | (simp only [nxs] <;> omega)) | assumption | exact b0q (by assumption) (by first | assumption | omega | (simp only [nxs] <;> omega))), fr, fx, Qr, Q12, Q16, Q17, (c5f Q13)⟩
     simp only [b1f]
     refine b0e fun K hK => ?_
     simp only [go_sem, s28, Q0, Q2, Q1, b0b v1, b0b v5, b0b v1_1, b0b v5_1, b0b v7]
     refine hK _ _ ?_
     clear hK K
     obtain ⟨l53, h_l53, hm2⟩ := b0l hm2
     refine b0e fun K hK => ?_
     simp only [go_sem, s2, Q0, Q2, Q1, b0b v1, b0b v5, b0b v1_1, b0b v5_1, b0b v7]
     refine b6z (f := eI) (z := 0) rfl h_l53 ?_
     simp only [go_sem, s2, Q0, Q2, Q1, b0b v1, b0b v5, b0b v1_1, b0b v5_1, b0b v7]
     refine hK _ _ ?_
     clear hK K
     refine b09 ?_
     refine b0e fun K hK => ?_
     simp only [go_sem, Q0, Q2, Q1, b0b v1, b0b v5, b0b v1_1, b0b v5_1, b0b v7]
     refine hK _ _ ?_
     clear hK K
     refine b0w fun K54 hK54 => ?_
     have J55 : ∀ (row_9 : List Int) (v5_2 : AV) (i9 : Nat) (t : Slots) (h : Heap), t 1 = v1_1 → t 2 = .fp [.fs 5 (List.map b0r h_.Combs), .fs 3 (List.map b0p h_.Trains), .fs 3 (List.map b0u h_.Shifts), I h_.Until] 0 → t 5 = v5_2 → t 6 = I x_19 → t 7 = .rp i7 0 0 → t 8 = I x_28 → t 9 = .rs i9 0 (List.length row_9) → t 18 = I (List.length h_.Combs : Int) → t 19 = I x_19 → t 27 = I h_.Until → t 28 = I x_28 → RR h v1_1 hs_1 1 eI open_ → b0j h v5_2 1 (List.map b27 all_5) → h.ob i7 = some (4, [[.rs i7_1 0 (List.length b_7_0), .rs i7_2 0 (List.length ([0])), .v (.slice none 0 0), v7]]) → i7 < h.nx → h.ob i7_1 = some (1, List.map eI b_7_0) → i7_1 < h.nx → h.ob i7_2 = some (1, List.map eI ([0])) → i7_2 < h.nx → b0j h v7 1 (List.map b0s b_7_3) → h.ob i9 = some (1, List.map eI row_9) → i9 < h.nx → (∀ j, ¬b0a v5_2 j → b0d v1_1 hs_1 j) → b0d v1_1 hs_1 i7 → b0d v1_1 hs_1 i7_1 → b0d v1_1 hs_1 i7_2 → (∀ j, ¬b0a v7 j → b0d v1_1 hs_1 j) → b0d v1_1 hs_1 i9 → b0a v5_2 i7 → b0a v5_2 i7_1 → b0a v5_2 i7_2 → (∀ j, ¬b0a v5_2 j → b0a v7 j) → b0a v5_2 i9 → ¬i7 = i7_1 → ¬i7 = i7_2 → b0a v7 i7 → ¬i7 = i9 → ¬i7_1 = i7_2 → b0a v7 i7_1 → ¬i7_1 = i9 → b0a v7 i7_2 → ¬i7_2 = i9 → b0a v7 i9 → (∀ j, j < h0.nx → h.ob j = h0.ob j) → h0.nx ≤ h.nx → (∀ j, ¬b0a v5_2 j → h0.nx ≤ j) → h0.nx ≤ i7 → h0.nx ≤ i7_1 → h0.nx ≤ i7_2 → (∀ j, ¬b0a v7 j → h0.nx ≤ j) → h0.nx ≤ i9 → c0g open_ x_19 b_7_0 b_7_3 x_28 row_9 = some o → K54 t h := by
      try clear s1 s2 s5 s6 s7 s18 s19 s27 s28 Q8 Qe Qi Q0 Qk Q2 Ql Q1 Qc Qh Q3 Q4 Q5 Qq Qd Qf Qg Q19 Q6 Q7 Qm Q9 Qn Qo fr fx Qr Q12 Q16 Q17 Q13
      intro row_9 v5_2 i9 t h s1 s2 s5 s6 s7 s8 s9 s18 s19 s27 s28 Q8 Qe Qi Q0 Qk Q2 Ql Q1 Qc Q1i Qp Qh Q3 Q4 Q5 Qq Q10 Qd Qf Qg Q19 Q1g Q6 Q7 Qm Qs Q9 Qn Qx Qo Qt Q1h fr fx Qr Q12 Q16 Q17 Q13 Q1q hm2
      refine hK54 _ _ ?_
      unfold c0g at hm2
      refine b09 ?_
      refine b92 (s := 9) (v := .rs i9 0 (List.length row_9)) (f := eI) (l := row_9) (by simp only [go_sem, s9, b1g Q8, b0h Qe, Qi, Q0, Qk, Q2, Ql, Q1, b0h Qc, Q1i, Qp, b0i Q3, b0i Q4, b0i Q5, b0i Q10, Qd, Qf, Qg, Q1g, Q6, b0c Q6, Q7, b0c Q7, Qm, Qs, b0c Qs, Q9, b0c Q9, Qn, Qx, b0c Qx, Qo, Qt, b0c Qt, Q1h, lA9, mA9]) (b3f (by simp only [go_sem, s9, b1g Q8, b0h Qe, Qi, Q0, Qk, Q2, Ql, Q1, b0h Qc, Q1i, Qp, b0i Q3, b0i Q4, b0i Q5, b0i Q10, Qd, Qf, Qg, Q1g, Q6, b0c Q6, Q7, b0c Q7, Qm, Qs, b0c Qs, Q9, b0c Q9, Qn, Qx, b0c Qx, Qo, Qt, b0c Qt, Q1h, lA9, mA9]) (by simp only [go_sem, s9, b1g Q8, b0h Qe, Qi, Q0, Qk, Q2, Ql, Q1, b0h Qc, Q1i, Qp, b0i Q3, b0i Q4, b0i Q5, b0i Q10, Qd, Qf, Qg, Q1g, Q6, b0c Q6, Q7, b0c Q7, Qm, Qs, b0c Qs, Q9, b0c Q9, Qn, Qx, b0c Qx, Qo, Qt, b0c Qt, Q1h, lA9, mA9]) (by simp only [go_sem, Q0, Q2, Q1, Qp])) b2r b4d ?_
      simp only [c2s, c2t]
      obtain ⟨l57, h_l57, hm2⟩ := b0l hm2
      refine b0e fun K hK => ?_
      simp only [go_sem, s7, s9, Qi, Q0, Qk, Q2, Ql, Q1, Qp, Qd, Qf, Qg, Q6, b0c Q6, Q7, b0c Q7, Qm, Qs, b0c Qs, Q9, b0c Q9, Qn, Qx, b0c Qx, Qo, Qt, b0c Qt, Q1h, b0b v1, b0b v5, b0b v1_1, b0b v5_1, b0b v7, b0b v5_2]
      refine b4v (f := b0s) (l := b_7_3) (m := ([row_9])) ?_ ?_ ?_ ?_ h_l57 ?_
      ·exact (b05 Qc (by intro j hj hl; first | rfl | simp only [go_sem, hl, b0i (Qq j hj), b2d Q19 j hj, b04 hj Qm, b04 hj Qn, b04 hj Qo, b04 hj Q1h]) (by first | omega | exact Nat.le_refl _ | (simp only [go_sem, nxs] <;> omega)))
      ·exact (b4z (by simp only [go_sem, b1g Q8, b0h Qe, Qi, Q0, Qk, Q2, Ql, Q1, b0h Qc, Q1i, Qp, b0i Q3, b0i Q4, b0i Q5, b0i Q10, Qd, Qf, Qg, Q1g, Q6, b0c Q6, Q7, b0c Q7, Qm, Qs, b0c Qs, Q9, b0c Q9, Qn, Qx, b0c Qx, Qo, Qt, b0c Qt, Q1h, lA9, mA9]) (by simp only [go_sem, b1g Q8, b0h Qe, Qi, Q0, Qk, Q2, Ql, Q1, b0h Qc, Q1i, Qp, b0i Q3, b0i Q4, b0i Q5, b0i Q10, Qd, Qf, Qg, Q1g, Q6, b0c Q6, Q7, b0c Q7, Qm, Qs, b0c Qs, Q9, b0c Q9, Qn, Qx, b0c Qx, Qo, Qt, b0c Qt, Q1h, lA9, mA9]))
      ·exact (b2c (by first | exact b02 | exact b03 (by first | omega | (simp only [nxs] <;> omega)) | assumption | exact b0q (by assumption) (by first | omega | (simp only [go_sem, nxs] <;> omega))))
      ·exact (fun _ => by simp)
      simp only [go_sem, s7, s9, Qi, Q0, Qk, Q2, Ql, Q1, Qp, Qd, Qf, Qg, Q6, b0c Q6, Q7, b0c Q7, Qm, Qs, b0c Qs, Q9, b0c Q9, Qn, Qx, b0c Qx, Qo, Qt, b0c Qt, Q1h, b0b v1, b0b v5, b0b v1_1, b0b v5_1, b0b v7, b0b v5_2]
      refine hK _ _ ?_
      clear hK K
      obtain ⟨x62, h_x62, hm2⟩ := b0l hm2
      have h_x620 := b07 h_x62
      have h_x621 := b1a h_x62
      obtain ⟨x63, h_x63, hm2⟩ := b0l hm2
      have h_x630 := b07 h_x63
      have h_x631 := b1a h_x63
      obtain ⟨iqp982, rfl, Q1u, Q1r⟩ := b6e Q8 h_x63
      obtain ⟨wp983, hw_wp983, os_wp983⟩ := b6d Q8 h_x63
      obtain ⟨x64, h_x64, hm2⟩ := b0l hm2
      have h_x640 := b07 h_x64
      have h_x641 := b1a h_x64
      obtain ⟨irp984, rfl, obr_irp984, ltr_irp984⟩ := b6a os_wp983 h_x64
      obtain ⟨l65, h_l65, hm2⟩ := b0l hm2
      refine b8j (fun t h => ∃ v1_2 : AV, ∃ i7_3 : Nat, ∃ i7_4 : Nat, t 1 = v1_2 ∧ t 2 = .fp [.fs 5 (List.map b0r h_.Combs), .fs 3 (List.map b0p h_.Trains), .fs 3 (List.map b0u h_.Shifts), I h_.Until] 0 ∧ t 5 = v5_2 ∧ t 6 = I x_19 ∧ t 7 = .rp i7 0 0 ∧ t 18 = I (List.length h_.Combs : Int) ∧ t 19 = I x_19 ∧ t 27 = I h_.Until ∧ t 28 = I x_28 ∧ RR h v1_2 hs_1 1 eI open_ ∧ b0j h v5_2 1 (List.map b27 all_5) ∧ h.ob i7 = some (4, [[.rs i7_3 0 (List.length l65), .rs i7_2 0 (List.length ([0])), .v (.slice none 0 0), .rs i7_4 0 (List.length l57)]]) ∧ i7 < h.nx ∧ h.ob i7_3 = some (1, List.map eI l65) ∧ i7_3 < h.nx ∧ h.ob i7_2 = some (1, List.map eI ([0])) ∧ i7_2 < h.nx ∧ h.ob i7_4 = some (1, List.map b0s l57) ∧ i7_4 < h.nx ∧ (∀ j, ¬b0a v5_2 j → b0d v1_2 hs_1 j) ∧ b0d v1_2 hs_1 i7 ∧ b0d v1_2 hs_1 i7_3 ∧ b0d v1_2 hs_1 i7_2 ∧ b0d v1_2 hs_1 i7_4 ∧ b0a v5_2 i7 ∧ b0a v5_2 i7_3 ∧ b0a v5_2 i7_2 ∧ b0a v5_2 i7_4 ∧ ¬i7 = i7_3 ∧ ¬i7 = i7_2 ∧ ¬i7 = i7_4 ∧ ¬i7_3 = i7_2 ∧ ¬i7_3 = i7_4 ∧ ¬i7_2 = i7_4 ∧ (∀ j, j < h0.nx → h.ob j = h0.ob j) ∧ h0.nx ≤ h.nx ∧ (∀ j, ¬b0a v5_2 j → h0.nx ≤ j) ∧ h0.nx ≤ i7 ∧ h0.nx ≤ i7_3 ∧ h0.nx ≤ i7_2 ∧ h0.nx ≤ i7_4) (fun K hK => ?_) ?_
      ·simp only [go_sem, s1, b3o Q8, s6, s7, s8, Q1u, Q1r, Qi, Q0, Qk, Q2, Ql, Q1, Qp, b1i Qh, b1q Qh hw_wp983, b0k (Q3), b0c (b0k (Q3)), b0v (Q3) hw_wp983, b0c (b0v (Q3) hw_wp983), b0k (Q4), b0c (b0k (Q4)), b0v (Q4) hw_wp983, b0c (b0v (Q4) hw_wp983), b0k (Q5), b0c (b0k (Q5)), b0v (Q5) hw_wp983, b0c (b0v (Q5) hw_wp983), b1i Qq, b1q Qq hw_wp983, b0k (Q10), b0c (b0k (Q10)), b0v (Q10) hw_wp983, b0c (b0v (Q10) hw_wp983), Qd, Qf, Qg, Q6, b0c Q6, Q7, b0c Q7, Qm, Qs, b0c Qs, Q9, b0c Q9, Qn, Qx, b0c Qx, Qo, Qt, b0c Qt, b0y h_x62, b0z h_x62, h_x620, h_x621, b0y h_x63, b0z h_x63, h_x630, h_x631, b0y hw_wp983, b0z hw_wp983, b4o os_wp983, b0y h_x64, b0z h_x64, h_x640, h_x641, obr_irp984, ltr_irp984, b0b v1, b0b v5, b0b v5_1, b0b v7, b0b v5_2]
       refine b4v (f := eI) (l := b_7_0) (m := ([wr (x62 + x64)])) ?_ ?_ ?_ ?_ h_l65 ?_
       ·exact (b3f (by simp only [go_sem, b1g Q8, b0h Qe, Qi, Q0, Qk, Q2, Ql, Q1, b0h Qc, Q1i, Qp, b1i Qh, b1q Qh hw_wp983, b0i Q3, b0k (Q3), b0c (b0k (Q3)), b0v (Q3) hw_wp983, b0c (b0v (Q3) hw_wp983), b0i Q4, b0k (Q4), b0c (b0k (Q4)), b0v (Q4) hw_wp983, b0c (b0v (Q4) hw_wp983), b0i Q5, b0k (Q5), b0c (b0k (Q5)), b0v (Q5) hw_wp983, b0c (b0v (Q5) hw_wp983), b1i Qq, b1q Qq hw_wp983, b0i Q10, b0k (Q10), b0c (b0k (Q10)), b0v (Q10) hw_wp983, b0c (b0v (Q10) hw_wp983), Qd, Qf, Qg, Q1g, Q6, b0c Q6, Q7, b0c Q7, Qm, Qs, b0c Qs, Q9, b0c Q9, Qn, Qx, b0c Qx, Qo, Qt, b0c Qt, Q1h, Q1u, Q1r, b2i Q8 hw_wp983, b0c (b2i Q8 hw_wp983), lA9, mA9]) (by simp only [go_sem, b1g Q8, b0h Qe, Qi, Q0, Qk, Q2, Ql, Q1, b0h Qc, Q1i, Qp, b1i Qh, b1q Qh hw_wp983, b0i Q3, b0k (Q3), b0c (b0k (Q3)), b0v (Q3) hw_wp983, b0c (b0v (Q3) hw_wp983), b0i Q4, b0k (Q4), b0c (b0k (Q4)), b0v (Q4) hw_wp983, b0c (b0v (Q4) hw_wp983), b0i Q5, b0k (Q5), b0c (b0k (Q5)), b0v (Q5) hw_wp983, b0c (b0v (Q5) hw_wp983), b1i Qq, b1q Qq hw_wp983, b0i Q10, b0k (Q10), b0c (b0k (Q10)), b0v (Q10) hw_wp983, b0c (b0v (Q10) hw_wp983), Qd, Qf, Qg, Q1g, Q6, b0c Q6, Q7, b0c Q7, Qm, Qs, b0c Qs, Q9, b0c Q9, Qn, Qx, b0c Qx, Qo, Qt, b0c Qt, Q1h, Q1u, Q1r, b2i Q8 hw_wp983, b0c (b2i Q8 hw_wp983), lA9, mA9]) (by simp only [go_sem, Q0, Q2, Q1, Qp, Q1r]))
       ·exact (b4z (by simp only [go_sem, b1g Q8, b0h Qe, Qi, Q0, Qk, Q2, Ql, Q1, b0h Qc, Q1i, Qp, b1i Qh, b1q Qh hw_wp983, b0i Q3, b0k (Q3), b0c (b0k (Q3)), b0v (Q3) hw_wp983, b0c (b0v (Q3) hw_wp983), b0i Q4, b0k (Q4), b0c (b0k (Q4)), b0v (Q4) hw_wp983, b0c (b0v (Q4) hw_wp983), b0i Q5, b0k (Q5), b0c (b0k (Q5)), b0v (Q5) hw_wp983, b0c (b0v (Q5) hw_wp983), b1i Qq, b1q Qq hw_wp983, b0i Q10, b0k (Q10), b0c (b0k (Q10)), b0v (Q10) hw_wp983, b0c (b0v (Q10) hw_wp983), Qd, Qf, Qg, Q1g, Q6, b0c Q6, Q7, b0c Q7, Qm, Qs, b0c Qs, Q9, b0c Q9, Qn, Qx, b0c Qx, Qo, Qt, b0c Qt, Q1h, Q1u, Q1r, b2i Q8 hw_wp983, b0c (b2i Q8 hw_wp983), lA9, mA9]) (by simp only [go_sem, b1g Q8, b0h Qe, Qi, Q0, Qk, Q2, Ql, Q1, b0h Qc, Q1i, Qp, b1i Qh, b1q Qh hw_wp983, b0i Q3, b0k (Q3), b0c (b0k (Q3)), b0v (Q3) hw_wp983, b0c (b0v (Q3) hw_wp983), b0i Q4, b0k (Q4), b0c (b0k (Q4)), b0v (Q4) hw_wp983, b0c (b0v (Q4) hw_wp983), b0i Q5, b0k (Q5), b0c (b0k (Q5)), b0v (Q5) hw_wp983, b0c (b0v (Q5) hw_wp983), b1i Qq, b1q Qq hw_wp983, b0i Q10, b0k (Q10), b0c (b0k (Q10)), b0v (Q10) hw_wp983, b0c (b0v (Q10) hw_wp983), Qd, Qf, Qg, Q1g, Q6, b0c Q6, Q7, b0c Q7, Qm, Qs, b0c Qs, Q9, b0c Q9, Qn, Qx, b0c Qx, Qo, Qt, b0c Qt, Q1h, Q1u, Q1r, b2i Q8 hw_wp983, b0c (b2i Q8 hw_wp983), lA9, mA9]))
       ·exact (b2c (by first | exact b02 | exact b03 (by first | omega | (simp only [nxs] <;> omega)) | assumption | exact b0q (by assumption) (by first | omega | (simp only [go_sem, nxs] <;> omega))))
       ·exact (fun _ => by simp)
       simp only [go_sem, s1, b3o Q8, s6, s7, s8, Q1u, Q1r, Qi, Q0, Qk, Q2, Ql, Q1, Qp, b1i Qh, b1q Qh hw_wp983, b0k (Q3), b0c (b0k (Q3)), b0v (Q3) hw_wp983, b0c (b0v (Q3) hw_wp983), b0k (Q4), b0c (b0k (Q4)), b0v (Q4) hw_wp983, b0c (b0v (Q4) hw_wp983), b0k (Q5), b0c (b0k (Q5)), b0v (Q5) hw_wp983, b0c (b0v (Q5) hw_wp983), b1i Qq, b1q Qq hw_wp983, b0k (Q10), b0c (b0k (Q10)), b0v (Q10) hw_wp983, b0c (b0v (Q10) hw_wp983), Qd, Qf, Qg, Q6, b0c Q6, Q7, b0c Q7, Qm, Qs, b0c Qs, Q9, b0c Q9, Qn, Qx, b0c Qx, Qo, Qt, b0c Qt, b0y h_x62, b0z h_x62, h_x620, h_x621, b0y h_x63, b0z h_x63, h_x630, h_x631, b0y hw_wp983, b0z hw_wp983, b4o os_wp983, b0y h_x64, b0z h_x64, h_x640, h_x641, obr_irp984, ltr_irp984, b0b v1, b0b v5, b0b v5_1, b0b v7, b0b v5_2]
       exact hK _ _ ⟨(.rs iqp982 0 (List.length open_)), (nxs (nxs (nxs h.nx))), (nxs h.nx), (by first | (simp only [go_sem, s1, lA9, mA9]; done) | rfl), s2, s5, s6, s7, s18, s19, s27, s28, (b3n Q8 (by intro j hj  hl; first | rfl | simp only [go_sem, hl, b3x hj Q3, b3x hj Q4, b5r Qq j hj, b3x hj Q10, Q0, Q2, Qp]) (by first | omega | exact Nat.le_refl _ | (simp only [go_sem, nxs] <;> omega))), (b05 Qe (by intro j hj hl; first | rfl | simp only [go_sem, hl, Q0, Q2, Qp, b04 hj Qd, b04 hj Qf, Q19 j hj, b04 hj Q1g]) (by first | omega | exact Nat.le_refl _ | (simp only [go_sem, nxs] <;> omega))), (by simp only [go_sem, Qi, Q0, Q2, b0h Qc, Qp, Q6, b0c Q6, Qm, Qs, b0c Qs, lA9, mA9]), (by simp only [go_sem, Q0]), (by simp only [go_sem, Q0, Q2, b0h Qc, Qp, lA9, mA9]), (by simp only [go_sem]), (by simp only [go_sem, Q0, Q2, Ql, Q1, b0h Qc, Qp, Q7, b0c Q7, Q9, b0c Q9, Qo, Qt, b0c Qt, lA9, mA9]), (by simp only [go_sem, Q1]), (by simp only [go_sem, Q0, Q2, b0h Qc, Qp, lA9, mA9]), (by simp only [go_sem]), Qh, Q3, (by first | assumption | exact b2n Q8 (by first | assumption | omega | (simp only [nxs] <;> omega))), Q5, (by first | assumption | exact b2n Q8 (by first | assumption | omega | (simp only [nxs] <;> omega))), Qd, (by first | exact b02 | exact b03 (by first | assumption | omega | (simp only [nxs] <;> omega)) | assumption | exact b0q (by assumption) (by first | assumption | omega | (simp only [nxs] <;> omega))), Qg, (by first | exact b02 | exact b03 (by first | assumption | omega | (simp only [nxs] <;> omega)) | assumption | exact b0q (by assumption) (by first | assumption | omega | (simp only [nxs] <;> omega))), (by first | first | assumption | omega | (simp only [nxs] <;> omega)), Q7, (by first | first | assumption | omega | (simp only [nxs] <;> omega)), (by first | first | assumption | omega | (simp only [nxs] <;> omega)), (by first | first | assumption | omega | (simp only [nxs] <;> omega)), (by first | first | assumption | omega | (simp only [nxs] <;> omega)), (by intro j hj; first | exact fr j hj | (refine Eq.trans ?_ (fr j hj); first | rfl | simp only [go_sem, Nat.lt_of_lt_of_le hj fx, b6n Q12 hj, b6n Q16 hj, b5o Q13 hj, b6n Q1q hj])), (by first | exact fx | omega | (simp only [go_sem, nxs] <;> omega)), Qr, Q12, (by first | assumption | omega | (simp only [nxs] <;> omega)), Q17, (by first | assumption | omega | (simp only [nxs] <;> omega))⟩
      ·try clear s1 s2 s5 s6 s7 s8 s9 s18 s19 s27 s28 Q8 Qe Qi Q0 Qk Q2 Ql Q1 Qc Q1i Qp Qh Q3 Q4 Q5 Qq Q10 Qd Qf Qg Q19 Q1g Q6 Q7 Qm Qs Q9 Qn Qx Qo Qt Q1h fr fx Qr Q12 Q16 Q17 Q13 Q1q Q1u Q1r
       rintro t h ⟨v1_2, i7_3, i7_4, s1, s2, s5, s6, s7, s18, s19, s27, s28, Q8, Qe, Qi, Q0, Qk, Q2, Ql, Q1, Q26, Q21, Qh, Q3, Q4, Q5, Q27, Qd, Qf, Qg, Q2b, Q6, Q7, Q2c, Q9, Q2d, Q2e, fr, fx, Qr, Q12, Q16, Q17, Q13⟩
       simp only [b0m, b0n]
       exact J51 l65 l57 v1_2 v5_2 i7_3 i7_4 _ _ s1 s2 s5 s6 s7 s18 s19 s27 s28 Q8 Qe Qi Q0 Qk Q2 Ql Q1 Q26 Q21 Qh Q3 Q4 Q5 Q27 Qd Qf Qg Q2b Q6 Q7 Q2c Q9 Q2d Q2e fr fx Qr Q12 Q16 Q17 Q13 hm2
     simp only [b1f]
     obtain ⟨b66, hl66, hm2⟩ := b0l hm2
     refine b19 hl66 (fun | (row_9, t_10), t, h => ∃ v5_2 : AV, ∃ i9 : Nat, t 1 = v1_1 ∧ t 2 = .fp [.fs 5 (List.map b0r h_.Combs), .fs 3 (List.map b0p h_.Trains), .fs 3 (List.map b0u h_.Shifts), I h_.Until] 0 ∧ t 5 = v5_2 ∧ t 6 = I x_19 ∧ t 7 = .rp i7 0 0 ∧ t 8 = I x_28 ∧ t 9 = .rs i9 0 (List.length row_9) ∧ t 10 = I t_10 ∧ t 18 = I (List.length h_.Combs : Int) ∧ t 19 = I x_19 ∧ t 27 = I h_.Until ∧ t 28 = I x_28 ∧ RR h v1_1 hs_1 1 eI open_ ∧ b0j h v5_2 1 (List.map b27 all_5) ∧ h.ob i7 = some (4, [[.rs i7_1 0 (List.length b_7_0), .rs i7_2 0 (List.length ([0])), .v (.slice none 0 0), v7]]) ∧ i7 < h.nx ∧ h.ob i7_1 = some (1, List.map eI b_7_0) ∧ i7_1 < h.nx ∧ h.ob i7_2 = some (1, List.map eI ([0])) ∧ i7_2 < h.nx ∧ b0j h v7 1 (List.map b0s b_7_3) ∧ h.ob i9 = some (1, List.map eI row_9) ∧ i9 < h.nx ∧ (∀ j, ¬b0a v5_2 j → b0d v1_1 hs_1 j) ∧ b0d v1_1 hs_1 i7 ∧ b0d v1_1 hs_1 i7_1 ∧ b0d v1_1 hs_1 i7_2 ∧ (∀ j, ¬b0a v7 j → b0d v1_1 hs_1 j) ∧ b0d v1_1 hs_1 i9 ∧ b0a v5_2 i7 ∧ b0a v5_2 i7_1 ∧ b0a v5_2 i7_2 ∧ (∀ j, ¬b0a v5_2 j → b0a v7 j) ∧ b0a v5_2 i9 ∧ ¬i7 = i7_1 ∧ ¬i7 = i7_2 ∧ b0a v7 i7 ∧ ¬i7 = i9 ∧ ¬i7_1 = i7_2 ∧ b0a v7 i7_1 ∧ ¬i7_1 = i9 ∧ b0a v7 i7_2 ∧ ¬i7_2 = i9 ∧ b0a v7 i9 ∧ (∀ j, j < h0.nx → h.ob j = h0.ob j) ∧ h0.nx ≤ h.nx ∧ (∀ j, ¬b0a v5_2 j → h0.nx ≤ j) ∧ h0.nx ≤ i7 ∧ h0.nx ≤ i7_1 ∧ h0.nx ≤ i7_2 ∧ (∀ j, ¬b0a v7 j → h0.nx ≤ j) ∧ h0.nx ≤ i9) ?_ ?_
     ·exact ⟨v5_1, h.nx, s1, s2, s5, s6, s7, (by first | (simp only [go_sem, lA9, mA9]; done) | rfl), (by first | (simp only [go_sem, lA9, mA9]; done) | rfl), (by first | (simp only [go_sem, lA9, mA9]; done) | rfl), s18, s19, s27, s28, (b3n Q8 (by intro j hj  hl; first | rfl | simp only [go_sem, hl]) (by first | omega | exact Nat.le_refl _ | (simp only [go_sem, nxs] <;> omega))), (b05 Qe (by intro j hj hl; first | rfl | simp only [go_sem, hl]) (by first | omega | exact Nat.le_refl _ | (simp only [go_sem, nxs] <;> omega))), (by simp only [go_sem, Qi, Q0, lA9, mA9]), (by simp only [go_sem, Q0]), (by simp only [go_sem, Qk, Q2, lA9, mA9]), (by simp only [go_sem, Q2]), (by simp only [go_sem, Ql, Q1, lA9, mA9]), (by simp only [go_sem, Q1]), (b05 Qc (by intro j hj hl; first | rfl | simp only [go_sem, hl]) (by first | omega | exact Nat.le_refl _ | (simp only [go_sem, nxs] <;> omega))), (by simp only [go_sem, lA9, mA9]), (by simp only [go_sem]), Qh, Q3, Q4, Q5, Qq, (by first | assumption | exact b2n Q8 (by first | assumption | omega | (simp only [nxs] <;> omega))), Qd, Qf, Qg, Q19, (by first | exact b02 | exact b03 (by first | assumption | omega | (simp only [nxs] <;> omega)) | assumption | exact b0q (by assumption) (by first | assumption | omega | (simp only [nxs] <;> omega))), Q6, Q7, Qm, (by first | first | assumption | omega | (simp only [nxs] <;> omega)), Q9, Qn, (by first | first | assumption | omega | (simp only [nxs] <;> omega)), Qo, (by first | first | assumption | omega | (simp only [nxs] <;> omega)), (by first | exact b02 | exact b03 (by first | assumption | omega | (simp only [nxs] <;> omega)) | assumption | exact b0q (by assumption) (by first | assumption | omega | (simp only [nxs] <;> omega))), (by intro j hj; first | exact fr j hj | (refine Eq.trans ?_ (fr j hj); first | rfl | simp only [go_sem, Nat.lt_of_lt_of_le hj fx])), (by first | exact fx | omega | (simp only [go_sem, nxs] <;> omega)), Qr, Q12, Q16, Q17, Q13, (by first | assumption | omega | (simp only [nxs] <;> omega))⟩
     ·try clear s1 s2 s5 s6 s7 s18 s19 s27 s28 Q8 Qe Qi Q0 Qk Q2 Ql Q1 Qc Qh Q3 Q4 Q5 Qq Qd Qf Qg Q19 Q6 Q7 Qm Q9 Qn Qo fr fx Qr Q12 Q16 Q17 Q13
      rintro ⟨row_9, t_10⟩ o t h ⟨v5_2, i9, s1, s2, s5, s6, s7, s8, s9, s10, s18, s19, s27, s28, Q8, Qe, Qi, Q0, Qk, Q2, Ql, Q1, Qc, Q1i, Qp, Qh, Q3, Q4, Q5, Qq, Q10, Qd, Qf, Qg, Q19, Q1g, Q6, Q7, Qm, Qs, Q9, Qn, Qx, Qo, Qt, Q1h, fr, fx, Qr, Q12, Q16, Q17, Q13, Q1q⟩ hm3 hb66
      simp only [b7l] at hm3
      rw [g0q]
      refine b09 ?_
      refine b0e fun K hK => ?_
      simp only [go_sem, s2, s10, Q0, Q2, Q1, Qp, b0b v1, b0b v5, b0b v1_1, b0b v5_1, b0b v7, b0b v5_2]
      refine hK _ _ ?_
      clear hK K
      refine b0w fun K67 hK67 => ?_
      simp only [go_sem]
      refine b0x (fun hc68 => ?_) (fun hc68 => ?_)
      ·rw [b1e hc68] at hm3
       simp only [b1b, b0m, b0n]
       refine hK67 _ _ ?_
       refine b0w fun K69 hK69 => ?_
       have J70 : ∀ (row_9_1 : List Int) (v5_3 : AV) (t : Slots) (h : Heap), t 1 = v1_1 → t 2 = .fp [.fs 5 (List.map b0r h_.Combs), .fs 3 (List.map b0p h_.Trains), .fs 3 (List.map b0u h_.Shifts), I h_.Until] 0 → t 5 = v5_3 → t 6 = I x_19 → t 7 = .rp i7 0 0 → t 8 = I x_28 → t 9 = .rs i9 0 (List.length row_9_1) → t 10 = I t_10 → t 18 = I (List.length h_.Combs : Int) → t 19 = I x_19 → t 27 = I h_.Until → t 28 = I x_28 → RR h v1_1 hs_1 1 eI open_ → b0j h v5_3 1 (List.map b27 all_5) → h.ob i7 = some (4, [[.rs i7_1 0 (List.length b_7_0), .rs i7_2 0 (List.length ([0])), .v (.slice none 0 0), v7]]) → i7 < h.nx → h.ob i7_1 = some (1, List.map eI b_7_0) → i7_1 < h.nx → h.ob i7_2 = some (1, List.map eI ([0])) → i7_2 < h.nx → b0j h v7 1 (List.map b0s b_7_3) → h.ob i9 = some (1, List.map eI row_9_1) → i9 < h.nx → (∀ j, ¬b0a v5_3 j → b0d v1_1 hs_1 j) → b0d v1_1 hs_1 i7 → b0d v1_1 hs_1 i7_1 → b0d v1_1 hs_1 i7_2 → (∀ j, ¬b0a v7 j → b0d v1_1 hs_1 j) → b0d v1_1 hs_1 i9 → b0a v5_3 i7 → b0a v5_3 i7_1 → b0a v5_3 i7_2 → (∀ j, ¬b0a v5_3 j → b0a v7 j) → b0a v5_3 i9 → ¬i7 = i7_1 → ¬i7 = i7_2 → b0a v7 i7 → ¬i7 = i9 → ¬i7_1 = i7_2 → b0a v7 i7_1 → ¬i7_1 = i9 → b0a v7 i7_2 → ¬i7_2 = i9 → b0a v7 i9 → (∀ j, j < h0.nx → h.ob j = h0.ob j) → h0.nx ≤ h.nx → (∀ j, ¬b0a v5_3 j → h0.nx ≤ j) → h0.nx ≤ i7 → h0.nx ≤ i7_1 → h0.nx ≤ i7_2 → (∀ j, ¬b0a v7 j → h0.nx ≤ j) → h0.nx ≤ i9 → c0i t_10 row_9_1 = some o → K69 t h := by
        try clear s1 s2 s5 s6 s7 s8 s9 s10 s18 s19 s27 s28 Q8 Qe Qi Q0 Qk Q2 Ql Q1 Qc Q1i Qp Qh Q3 Q4 Q5 Qq Q10 Qd Qf Qg Q19 Q1g Q6 Q7 Qm Qs Q9 Qn Qx Qo Qt Q1h fr fx Qr Q12 Q16 Q17 Q13 Q1q
        intro row_9_1 v5_3 t h s1 s2 s5 s6 s7 s8 s9 s10 s18 s19 s27 s28 Q8 Qe Qi Q0 Qk Q2 Ql Q1 Qc Q1i Qp Qh Q3 Q4 Q5 Qq Q10 Qd Qf Qg Q19 Q1g Q6 Q7 Qm Qs Q9 Qn Qx Qo Qt Q1h fr fx Qr Q12 Q16 Q17 Q13 Q1q hm3
        refine hK69 _ _ ?_
        unfold c0i at hm3
        refine b1p fun K hK => ?_
        simp only [go_sem, s10, Q0, Q2, Q1, Qp, b0b v1, b0b v5, b0b v1_1, b0b v5_1, b0b v7, b0b v5_2, b0b v5_3]
        refine hK _ _ ?_
        clear hK K
        simp only [b0m, b0n]
        obtain rfl := sI9 hm3
        refine ⟨_, rfl, ?_⟩
        exact ⟨v5_3, i9, s1, s2, s5, s6, s7, s8, (by first | exact s9 | simp only [go_sem, s9, lA9, mA9]), (by first | (simp only [go_sem, s10, lA9, mA9]; done) | rfl), s18, s19, s27, s28, Q8, Qe, Qi, Q0, Qk, Q2, Ql, Q1, Qc, Q1i, Qp, Qh, Q3, Q4, Q5, Qq, Q10, Qd, Qf, Qg, Q19, Q1g, Q6, Q7, Qm, Qs, Q9, Qn, Qx, Qo, Qt, Q1h, fr, fx, Qr, Q12, Q16, Q17, Q13, Q1q⟩
       simp only [b1f]
       obtain ⟨y73, h_y73, hm3⟩ := b0l hm3
       obtain ⟨x74, h_x74, hm3⟩ := b0l hm3
       have h_x740 := b07 h_x74
       have h_x741 := b1a h_x74
       refine b0e fun K hK => ?_
       simp only [go_sem, s2, s6, s8, s9, s10, Q1i, Qp, Q0, Q2, Q1, Q1g, Qs, b0c Qs, Qx, b0c Qx, Qt, b0c Qt, Q1h, b0y h_x74, b0z h_x74, h_x740, h_x741, b0b v1, b0b v5, b0b v1_1, b0b v5_1, b0b v7, b0b v5_2]
       refine b1u (d0z h_ x_19 x_28 t_10 _ h_y73) ?_
       simp only [go_sem, s2, s6, s8, s9, s10, Q1i, Qp, Q0, Q2, Q1, Q1g, Qs, b0c Qs, Qx, b0c Qx, Qt, b0c Qt, Q1h, b0y h_x74, b0z h_x74, h_x740, h_x741, b0b v1, b0b v5, b0b v1_1, b0b v5_1, b0b v7, b0b v5_2]
       refine hK _ _ ?_
       clear hK K
       obtain ⟨l76, h_l76, hm3⟩ := b0l hm3
       refine b0e fun K hK => ?_
       simp only [go_sem, s2, s6, Q0, Q2, Q1, Qp, b0b v1, b0b v5, b0b v1_1, b0b v5_1, b0b v7, b0b v5_2]
       refine j0w (f := b0r) (l := h_.Combs) (lo := none) (hi := some x_19) h_l76 ?_
       simp only [go_sem, s2, s6, Q0, Q2, Q1, Qp, b0b v1, b0b v5, b0b v1_1, b0b v5_1, b0b v7, b0b v5_2]
       refine hK _ _ ?_
       clear hK K
       simp only [b1f]
       obtain ⟨b77, hl77, hm3⟩ := b0l hm3
       refine b19 hl77 (fun | (row_9_1, x_54), t, h => ∃ v5_3 : AV, t 1 = v1_1 ∧ t 2 = .fp [.fs 5 (List.map b0r h_.Combs), .fs 3 (List.map b0p h_.Trains), .fs 3 (List.map b0u h_.Shifts), I h_.Until] 0 ∧ t 5 = v5_3 ∧ t 6 = I x_19 ∧ t 7 = .rp i7 0 0 ∧ t 8 = I x_28 ∧ t 9 = .rs i9 0 (List.length row_9_1) ∧ t 10 = I t_10 ∧ t 18 = I (List.length h_.Combs : Int) ∧ t 19 = I x_19 ∧ t 27 = I h_.Until ∧ t 28 = I x_28 ∧ t 52 = .fs 5 (List.map b0r l76) ∧ t 53 = I (List.length l76 : Int) ∧ t 54 = I x_54 ∧ RR h v1_1 hs_1 1 eI open_ ∧ b0j h v5_3 1 (List.map b27 all_5) ∧ h.ob i7 = some (4, [[.rs i7_1 0 (List.length b_7_0), .rs i7_2 0 (List.length ([0])), .v (.slice none 0 0), v7]]) ∧ i7 < h.nx ∧ h.ob i7_1 = some (1, List.map eI b_7_0) ∧ i7_1 < h.nx ∧ h.ob i7_2 = some (1, List.map eI ([0])) ∧ i7_2 < h.nx ∧ b0j h v7 1 (List.map b0s b_7_3) ∧ h.ob i9 = some (1, List.map eI row_9_1) ∧ i9 < h.nx ∧ (∀ j, ¬b0a v5_3 j → b0d v1_1 hs_1 j) ∧ b0d v1_1 hs_1 i7 ∧ b0d v1_1 hs_1 i7_1 ∧ b0d v1_1 hs_1 i7_2 ∧ (∀ j, ¬b0a v7 j → b0d v1_1 hs_1 j) ∧ b0d v1_1 hs_1 i9 ∧ b0a v5_3 i7 ∧ b0a v5_3 i7_1 ∧ b0a v5_3 i7_2 ∧ (∀ j, ¬b0a v5_3 j → b0a v7 j) ∧ b0a v5_3 i9 ∧ ¬i7 = i7_1 ∧ ¬i7 = i7_2 ∧ b0a v7 i7 ∧ ¬i7 = i9 ∧ ¬i7_1 = i7_2 ∧ b0a v7 i7_1 ∧ ¬i7_1 = i9 ∧ b0a v7 i7_2 ∧ ¬i7_2 = i9 ∧ b0a v7 i9 ∧ (∀ j, j < h0.nx → h.ob j = h0.ob j) ∧ h0.nx ≤ h.nx ∧ (∀ j, ¬b0a v5_3 j → h0.nx ≤ j) ∧ h0.nx ≤ i7 ∧ h0.nx ≤ i7_1 ∧ h0.nx ≤ i7_2 ∧ (∀ j, ¬b0a v7 j → h0.nx ≤ j) ∧ h0.nx ≤ i9) ?_ ?_
       ·exact ⟨v5_2, s1, s2, s5, s6, s7, s8, (by first | exact s9 | simp only [go_sem, s9, lA9, mA9]), s10, s18, s19, s27, s28, (by first | (simp only [go_sem, lA9, mA9]; done) | rfl), (by first | (simp only [go_sem, lA9, mA9]; done) | rfl), (by first | (simp only [go_sem, lA9, mA9]; done) | rfl), (b3n Q8 (by intro j hj  hl; first | rfl | simp only [go_sem, hl, b3x hj Q10, Qp]) (by first | omega | exact Nat.le_refl _ | (simp only [go_sem, nxs] <;> omega))), (b05 Qe (by intro j hj hl; first | rfl | simp only [go_sem, hl, Qp, b04 hj Q1g]) (by first | omega | exact Nat.le_refl _ | (simp only [go_sem, nxs] <;> omega))), (by simp only [go_sem, Qi, Q0, Qp, Qs, b0c Qs, lA9, mA9]), (by simp only [go_sem, Q0]), (by simp only [go_sem, Qk, Q2, Qp, Qx, b0c Qx, lA9, mA9]), (by simp only [go_sem, Q2]), (by simp only [go_sem, Ql, Q1, Qp, Qt, b0c Qt, lA9, mA9]), (by simp only [go_sem, Q1]), (b05 Qc (by intro j hj hl; first | rfl | simp only [go_sem, hl, Qp, b04 hj Q1h]) (by first | omega | exact Nat.le_refl _ | (simp only [go_sem, nxs] <;> omega))), (by simp only [go_sem, Q1i, Qp, lA9, mA9]), (by simp only [go_sem, Qp]), Qh, Q3, Q4, Q5, Qq, Q10, Qd, Qf, Qg, Q19, Q1g, Q6, Q7, Qm, Qs, Q9, Qn, Qx, Qo, Qt, Q1h, (by intro j hj; first | exact fr j hj | (refine Eq.trans ?_ (fr j hj); first | rfl | simp only [go_sem, Nat.lt_of_lt_of_le hj fx, b6n Q1q hj])), (by first | exact fx | omega | (simp only [go_sem, nxs] <;> omega)), Qr, Q12, Q16, Q17, Q13, Q1q⟩
       ·try clear s1 s2 s5 s6 s7 s8 s9 s10 s18 s19 s27 s28 Q8 Qe Qi Q0 Qk Q2 Ql Q1 Qc Q1i Qp Qh Q3 Q4 Q5 Qq Q10 Qd Qf Qg Q19 Q1g Q6 Q7 Qm Qs Q9 Qn Qx Qo Qt Q1h fr fx Qr Q12 Q16 Q17 Q13 Q1q
        rintro ⟨row_9_1, x_54⟩ o t h ⟨v5_3, s1, s2, s5, s6, s7, s8, s9, s10, s18, s19, s27, s28, s52, s53, s54, Q8, Qe, Qi, Q0, Qk, Q2, Ql, Q1, Qc, Q1i, Qp, Qh, Q3, Q4, Q5, Qq, Q10, Qd, Qf, Qg, Q19, Q1g, Q6, Q7, Qm, Qs, Q9, Qn, Qx, Qo, Qt, Q1h, fr, fx, Qr, Q12, Q16, Q17, Q13, Q1q⟩ hm4 hb77
        simp only [b8s] at hm4
        rw [g0p]
        refine b0e fun K hK => ?_
        simp only [go_sem, s53, s54, Q0, Q2, Q1, Qp, b0b v1, b0b v5, b0b v1_1, b0b v5_1, b0b v7, b0b v5_2, b0b v5_3]
        refine hK _ _ ?_
        clear hK K
        refine b0w fun K78 hK78 => ?_
        simp only [go_sem]
        refine b0x (fun hc79 => ?_) (fun hc79 => ?_)
        ·rw [b1e hc79] at hm4
         simp only [b1b, b0m, b0n]
         refine hK78 _ _ ?_
         refine b0w fun K80 hK80 => ?_
         have J81 : ∀ (row_9_2 : List Int) (v5_4 : AV) (t : Slots) (h : Heap), t 1 = v1_1 → t 2 = .fp [.fs 5 (List.map b0r h_.Combs), .fs 3 (List.map b0p h_.Trains), .fs 3 (List.map b0u h_.Shifts), I h_.Until] 0 → t 5 = v5_4 → t 6 = I x_19 → t 7 = .rp i7 0 0 → t 8 = I x_28 → t 9 = .rs i9 0 (List.length row_9_2) → t 10 = I t_10 → t 18 = I (List.length h_.Combs : Int) → t 19 = I x_19 → t 27 = I h_.Until → t 28 = I x_28 → t 52 = .fs 5 (List.map b0r l76) → t 53 = I (List.length l76 : Int) → t 54 = I x_54 → RR h v1_1 hs_1 1 eI open_ → b0j h v5_4 1 (List.map b27 all_5) → h.ob i7 = some (4, [[.rs i7_1 0 (List.length b_7_0), .rs i7_2 0 (List.length ([0])), .v (.slice none 0 0), v7]]) → i7 < h.nx → h.ob i7_1 = some (1, List.map eI b_7_0) → i7_1 < h.nx → h.ob i7_2 = some (1, List.map eI ([0])) → i7_2 < h.nx → b0j h v7 1 (List.map b0s b_7_3) → h.ob i9 = some (1, List.map eI row_9_2) → i9 < h.nx → (∀ j, ¬b0a v5_4 j → b0d v1_1 hs_1 j) → b0d v1_1 hs_1 i7 → b0d v1_1 hs_1 i7_1 → b0d v1_1 hs_1 i7_2 → (∀ j, ¬b0a v7 j → b0d v1_1 hs_1 j) → b0d v1_1 hs_1 i9 → b0a v5_4 i7 → b0a v5_4 i7_1 → b0a v5_4 i7_2 → (∀ j, ¬b0a v5_4 j → b0a v7 j) → b0a v5_4 i9 → ¬i7 = i7_1 → ¬i7 = i7_2 → b0a v7 i7 → ¬i7 = i9 → ¬i7_1 = i7_2 → b0a v7 i7_1 → ¬i7_1 = i9 → b0a v7 i7_2 → ¬i7_2 = i9 → b0a v7 i9 → (∀ j, j < h0.nx → h.ob j = h0.ob j) → h0.nx ≤ h.nx → (∀ j, ¬b0a v5_4 j → h0.nx ≤ j) → h0.nx ≤ i7 → h0.nx ≤ i7_1 → h0.nx ≤ i7_2 → (∀ j, ¬b0a v7 j → h0.nx ≤ j) → h0.nx ≤ i9 → b7p x_54 row_9_2 = some o → K80 t h := by
          try clear s1 s2 s5 s6 s7 s8 s9 s10 s18 s19 s27 s28 s52 s53 s54 Q8 Qe Qi Q0 Qk Q2 Ql Q1 Qc Q1i Qp Qh Q3 Q4 Q5 Qq Q10 Qd Qf Qg Q19 Q1g Q6 Q7 Qm Qs Q9 Qn Qx Qo Qt Q1h fr fx Qr Q12 Q16 Q17 Q13 Q1q
          intro row_9_2 v5_4 t h s1 s2 s5 s6 s7 s8 s9 s10 s18 s19 s27 s28 s52 s53 s54 Q8 Qe Qi Q0 Qk Q2 Ql Q1 Qc Q1i Qp Qh Q3 Q4 Q5 Qq Q10 Qd Qf Qg Q19 Q1g Q6 Q7 Qm Qs Q9 Qn Qx Qo Qt Q1h fr fx Qr Q12 Q16 Q17 Q13 Q1q hm4
          refine hK80 _ _ ?_
          unfold b7p at hm4
          refine b1p fun K hK => ?_
          simp only [go_sem, s54, Q0, Q2, Q1, Qp, b0b v1, b0b v5, b0b v1_1, b0b v5_1, b0b v7, b0b v5_2, b0b v5_3, b0b v5_4]
          refine hK _ _ ?_
          clear hK K
          simp only [b0m, b0n]
          obtain rfl := sI9 hm4
          refine ⟨_, rfl, ?_⟩
          exact ⟨v5_4, s1, s2, s5, s6, s7, s8, (by first | exact s9 | simp only [go_sem, s9, lA9, mA9]), s10, s18, s19, s27, s28, s52, s53, (by first | (simp only [go_sem, s54, lA9, mA9]; done) | rfl), Q8, Qe, Qi, Q0, Qk, Q2, Ql, Q1, Qc, Q1i, Qp, Qh, Q3, Q4, Q5, Qq, Q10, Qd, Qf, Qg, Q19, Q1g, Q6, Q7, Qm, Qs, Q9, Qn, Qx, Qo, Qt, Q1h, fr, fx, Qr, Q12, Q16, Q17, Q13, Q1q⟩
         simp only [b1f]
         obtain ⟨x83, h_x83, hm4⟩ := b0l hm4
         have h_x830 := b07 h_x83
         have h_x831 := b1a h_x83
         refine b0e fun K hK => ?_
         simp only [go_sem, s52, s54, Q0, Q2, Q1, Qp, b0y h_x83, b0z h_x83, h_x830, h_x831, b0b v1, b0b v5, b0b v1_1, b0b v5_1, b0b v7, b0b v5_2, b0b v5_3]
         refine hK _ _ ?_
         clear hK K
         refine b0e fun K hK => ?_
         simp only [go_sem, s6, Q0, Q2, Q1, Qp, b0b v1, b0b v5, b0b v1_1, b0b v5_1, b0b v7, b0b v5_2, b0b v5_3]
         refine hK _ _ ?_
         clear hK K
         simp only [go_sem]
         refine b0x (fun hc84 => ?_) (fun hc84 => ?_)
         ·rw [b1e hc84] at hm4
          obtain ⟨x89, h_x89, hm4⟩ := b0l hm4
          have h_x890 := b07 h_x89
          have h_x891 := b1a h_x89
          obtain ⟨x90, h_x90, hm4⟩ := b0l hm4
          have h_x900 := b07 h_x90
          have h_x901 := b1a h_x90
          obtain ⟨iq91, rfl, Q2a, Q25⟩ := b6a Qe h_x90
          obtain ⟨y92, h_y92, hm4⟩ := b0l hm4
          refine b1p fun K hK => ?_
          simp only [go_sem, s5, s8, s9, s10, Q2a, Q25, Q1i, Qp, Q0, Q2, Q1, Qd, Qf, Qg, Q1g, Qs, b0c Qs, Qx, b0c Qx, Qt, b0c Qt, Q1h, b0y h_x89, b0z h_x89, h_x890, h_x891, b0y h_x90, b0z h_x90, h_x900, h_x901, b0b v1, b0b v5, b0b v1_1, b0b v5_1, b0b v7, b0b v5_2]
          refine b1u (d0s x90 (wr (x_28 - x83.Walk.High)) (wr (t_10 - x83.Walk.Low)) _ h_y92) ?_
          simp only [go_sem, s5, s8, s9, s10, Q2a, Q25, Q1i, Qp, Q0, Q2, Q1, Qd, Qf, Qg, Q1g, Qs, b0c Qs, Qx, b0c Qx, Qt, b0c Qt, Q1h, b0y h_x89, b0z h_x89, h_x890, h_x891, b0y h_x90, b0z h_x90, h_x900, h_x901, b0b v1, b0b v5, b0b v1_1, b0b v5_1, b0b v7, b0b v5_2]
          refine hK _ _ ?_
          clear hK K
          simp only [b0m, b0n]
          exact J81 (List.set row_9_1 (Int.toNat t_10) (wr (x89 + y92))) (.rs iq91 0 (List.length all_5)) _ _ s1 s2 (by first | (simp only [go_sem, s5, lA9, mA9]; done) | rfl) s6 s7 s8 (by first | exact s9 | simp only [go_sem, s9, lA9, mA9]) s10 s18 s19 s27 s28 s52 s53 s54 (b3n Q8 (by intro j hj  hl; first | rfl | simp only [go_sem, hl, b3x hj Q10, Qp]) (by first | omega | exact Nat.le_refl _ | (simp only [go_sem, nxs] <;> omega))) (b3f (by simp only [go_sem, Qp, Q1g, d8p Q1g, b0c (d8p Q1g), Q2a, Q25, lA9, mA9]) (by first | rfl | simp only [go_sem, lA9, mA9]) (by simp only [go_sem, Q25])) (by simp only [go_sem, Qi, Q0, Qp, Qs, b0c Qs, lA9, mA9]) (by simp only [go_sem, Q0]) (by simp only [go_sem, Qk, Q2, Qp, Qx, b0c Qx, lA9, mA9]) (by simp only [go_sem, Q2]) (by simp only [go_sem, Ql, Q1, Qp, Qt, b0c Qt, lA9, mA9]) (by simp only [go_sem, Q1]) (b05 Qc (by intro j hj hl; first | rfl | simp only [go_sem, hl, Qp, b04 hj Q1h]) (by first | omega | exact Nat.le_refl _ | (simp only [go_sem, nxs] <;> omega))) (by simp only [go_sem, Q1i, Qp, lA9, mA9]) (by simp only [go_sem, Qp]) Qh Q3 Q4 Q5 Qq Q10 Qd Qf Qg Q19 Q1g Q6 Q7 Qm Qs Q9 Qn Qx Qo Qt Q1h (by intro j hj; first | exact fr j hj | (refine Eq.trans ?_ (fr j hj); first | rfl | simp only [go_sem, Nat.lt_of_lt_of_le hj fx, b6n Q1q hj])) (by first | exact fx | omega | (simp only [go_sem, nxs] <;> omega)) Qr Q12 Q16 Q17 Q13 Q1q hm4
         ·rw [b1d hc84] at hm4
          simp only [b1b, b0m, b0n]
          exact J81 row_9_1 v5_3 _ _ s1 s2 s5 s6 s7 s8 (by first | exact s9 | simp only [go_sem, s9, lA9, mA9]) s10 s18 s19 s27 s28 s52 s53 s54 (b3n Q8 (by intro j hj  hl; first | rfl | simp only [go_sem, hl]) (by first | omega | exact Nat.le_refl _ | (simp only [go_sem, nxs] <;> omega))) (b05 Qe (by intro j hj hl; first | rfl | simp only [go_sem, hl]) (by first | omega | exact Nat.le_refl _ | (simp only [go_sem, nxs] <;> omega))) (by simp only [go_sem, Qi, Q0, lA9, mA9]) (by simp only [go_sem, Q0]) (by simp only [go_sem, Qk, Q2, lA9, mA9]) (by simp only [go_sem, Q2]) (by simp only [go_sem, Ql, Q1, lA9, mA9]) (by simp only [go_sem, Q1]) (b05 Qc (by intro j hj hl; first | rfl | simp only [go_sem, hl]) (by first | omega | exact Nat.le_refl _ | (simp only [go_sem, nxs] <;> omega))) (by simp only [go_sem, Q1i, Qp, lA9, mA9]) (by simp only [go_sem, Qp]) Qh Q3 Q4 Q5 Qq Q10 Qd Qf Qg Q19 Q1g Q6 Q7 Qm Qs Q9 Qn Qx Qo Qt Q1h (by intro j hj; first | exact fr j hj | (refine Eq.trans ?_ (fr j hj); first | rfl | simp only [go_sem, Nat.lt_of_lt_of_le hj fx])) (by first | exact fx | omega | (simp only [go_sem, nxs] <;> omega)) Qr Q12 Q16 Q17 Q13 Q1q hm4
        ·rw [b1d hc79] at hm4
         simp only [b1y, b11, b10, b1z, b0m, b0n, Nat.reduceEqDiff, nF9]
         obtain rfl := sI9 hm4
         obtain rfl := hb77 _ rfl
         try dsimp only at hm3
         exact J70 row_9_1 v5_3 _ _ s1 s2 s5 s6 s7 s8 (by first | exact s9 | simp only [go_sem, s9, lA9, mA9]) s10 s18 s19 s27 s28 Q8 Qe Qi Q0 Qk Q2 Ql Q1 Qc Q1i Qp Qh Q3 Q4 Q5 Qq Q10 Qd Qf Qg Q19 Q1g Q6 Q7 Qm Qs Q9 Qn Qx Qo Qt Q1h fr fx Qr Q12 Q16 Q17 Q13 Q1q hm3
      ·rw [b1d hc68] at hm3
       simp only [b1y, b11, b10, b1z, b0m, b0n, Nat.reduceEqDiff, nF9]
       obtain rfl := sI9 hm3
       obtain rfl := hb66 _ rfl
       try dsimp only at hm2
       exact J55 row_9 v5_2 i9 _ _ s1 s2 s5 s6 s7 s8 (by first | exact s9 | simp only [go_sem, s9, lA9, mA9]) s18 s19 s27 s28 Q8 Qe Qi Q0 Qk Q2 Ql Q1 Qc Q1i Qp Qh Q3 Q4 Q5 Qq Q10 Qd Qf Qg Q19 Q1g Q6 Q7 Qm Qs Q9 Qn Qx Qo Qt Q1h fr fx Qr Q12 Q16 Q17 Q13 Q1q hm2
    ·rw [b1d hc49] at hm2
     simp only [b1y, b11, b10, b1z, b0m, b0n, Nat.reduceEqDiff, nF9]
     obtain rfl := sI9 hm2
     obtain rfl := hb47 _ rfl
     try dsimp only at hm1
     exact J9 b_7_0 b_7_3 v1_1 v5_1 i7 i7_1 i7_2 v7 _ _ s1 s2 s5 s6 s7 s18 s19 Q8 Qe Qi Q0 Qk Q2 Ql Q1 Qc Qh Q3 Q4 Q5 Qq Qd Qf Qg Q19 Q6 Q7 Qm Q9 Qn Qo fr fx Qr Q12 Q16 Q17 Q13 hm1
  ·rw [b1d hc5] at hm1
   simp only [b1y, b11, b10, b1z, b0m, b0n, Nat.reduceEqDiff, nF9]
   obtain rfl := sI9 hm1
   obtain rfl := hb3 _ rfl
   try dsimp only at hm0
   exact J2 all_5 v5 _ _ s5 Qe fr fx Qr hm0
theorem d0z (hf : Has O "newel/halls.brought" x_halls_brought) : c7x O := by
 intro h_ comb from_ to_ r hm0
 unfold b8u at hm0
 refine b2q hf rfl (b0f (.agg _ (b0f (b01 fun a _ => b20 a) (b0f (b01 fun a _ => b24 a) (b0f (b01 fun a _ => b28 a) (b0f (b0o _) b06))))) (b0f (b0o _) (b0f (b0o _) (b0f (b0o _) b06)))) (b0o _) ?_
 refine b2k (fun t h => t 0 = .agg [.fs 5 (List.map b0r h_.Combs), .fs 3 (List.map b0p h_.Trains), .fs 3 (List.map b0u h_.Shifts), I h_.Until] ∧ t 1 = I comb ∧ t 2 = I from_ ∧ t 3 = I to_) ⟨rfl, rfl, rfl, rfl⟩ fun t h ⟨s0, s1, s2, s3⟩ => ?_
 simp only [x_halls_brought]
 refine b0e fun K hK => ?_
 simp only [go_sem, s0]
 refine hK _ _ ?_
 clear hK K
 refine b09 ?_
 refine b0e fun K hK => ?_
 simp only [go_sem]
 refine hK _ _ ?_
 clear hK K
 refine b0w fun K1 hK1 => ?_
 have J2 : ∀ (sum_8 : Int) (t : Slots) (h : Heap), t 8 = I sum_8 → c26 sum_8 = some r → K1 t h := by
  intro sum_8 t h s8 hm0
  refine hK1 _ _ ?_
  unfold c26 at hm0
  refine b0e fun K hK => ?_
  simp only [go_sem, s8]
  refine hK _ _ ?_
  clear hK K
  simp only [b1l, b1n, b1m, b1o]
  obtain rfl := sI9 hm0
  exact b1v (by simp only [go_sem, s8, lA9, mA9]) (b0o _)
 simp only [b1f]
 obtain ⟨b3, hl3, hm0⟩ := b0l hm0
 refine b19 hl3 (fun | (sum_8, x_16), t, h => t 1 = I comb ∧ t 2 = I from_ ∧ t 3 = I to_ ∧ t 8 = I sum_8 ∧ t 14 = .fs 3 (List.map b0p h_.Trains) ∧ t 15 = I (List.length h_.Trains : Int) ∧ t 16 = I x_16) ?_ ?_
 ·exact ⟨s1, s2, s3, (by first | (simp only [go_sem, lA9, mA9]; done) | rfl), (by first | (simp only [go_sem, lA9, mA9]; done) | rfl), (by first | (simp only [go_sem, lA9, mA9]; done) | rfl), (by first | (simp only [go_sem, lA9, mA9]; done) | rfl)⟩
 ·rintro ⟨sum_8, x_16⟩ o t h ⟨s1, s2, s3, s8, s14, s15, s16⟩ hm1 hb3
  simp only [b8w] at hm1
  rw [g0w]
  refine b0e fun K hK => ?_
  simp only [go_sem, s15, s16]
  refine hK _ _ ?_
  clear hK K
  refine b0w fun K4 hK4 => ?_
  simp only [go_sem]
  refine b0x (fun hc5 => ?_) (fun hc5 => ?_)
  ·rw [b1e hc5] at hm1
   simp only [b1b, b0m, b0n]
   refine hK4 _ _ ?_
   refine b0w fun K6 hK6 => ?_
   have J7 : ∀ (sum_8_1 : Int) (t : Slots) (h : Heap), t 1 = I comb → t 2 = I from_ → t 3 = I to_ → t 8 = I sum_8_1 → t 14 = .fs 3 (List.map b0p h_.Trains) → t 15 = I (List.length h_.Trains : Int) → t 16 = I x_16 → b7r x_16 sum_8_1 = some o → K6 t h := by
    intro sum_8_1 t h s1 s2 s3 s8 s14 s15 s16 hm1
    refine hK6 _ _ ?_
    unfold b7r at hm1
    refine b1p fun K hK => ?_
    simp only [go_sem, s16]
    refine hK _ _ ?_
    clear hK K
    simp only [b0m, b0n]
    obtain rfl := sI9 hm1
    refine ⟨_, rfl, ?_⟩
    exact ⟨s1, s2, s3, s8, s14, s15, (by first | (simp only [go_sem, s16, lA9, mA9]; done) | rfl)⟩
   simp only [b1f]
   obtain ⟨x9, h_x9, hm1⟩ := b0l hm1
   have h_x90 := b07 h_x9
   have h_x91 := b1a h_x9
   refine b0e fun K hK => ?_
   simp only [go_sem, s14, s16, b0y h_x9, b0z h_x9, h_x90, h_x91]
   refine hK _ _ ?_
   clear hK K
   refine b09 ?_
   refine b2p (fun t h => ∃ i10 : Nat, t 1 = I comb ∧ t 2 = I from_ ∧ t 3 = I to_ ∧ t 8 = I sum_8 ∧ t 10 = .rp i10 0 0 ∧ t 14 = .fs 3 (List.map b0p h_.Trains) ∧ t 15 = I (List.length h_.Trains : Int) ∧ t 16 = I x_16 ∧ t 31 = B ((decide (x9.At.High < from_)) || (decide (to_ < x9.At.Low))) ∧ h.ob i10 = some (3, [[I x9.At.Low, I x9.At.High, .fs 3 (List.map b2m x9.Crowds)]]) ∧ i10 < h.nx) (fun K hK => ?_) ?_
   ·simp only [go_sem, s2, s3]
    refine b0x (fun hg10 => ?_) (fun hg10 => ?_)
    ·simp only [go_sem, s2, s3, hg10]
     exact hK _ _ ⟨h.nx, s1, s2, s3, s8, (by first | (simp only [go_sem, hg10, lA9, mA9]; done) | rfl), s14, s15, s16, (by first | (simp only [go_sem, hg10, lA9, mA9]; done) | rfl), (by simp only [go_sem, hg10, lA9, mA9]), (by simp only [go_sem])⟩
    ·simp only [go_sem, s2, s3, hg10]
     exact hK _ _ ⟨h.nx, s1, s2, s3, s8, (by first | (simp only [go_sem, hg10, lA9, mA9]; done) | rfl), s14, s15, s16, (by first | (simp only [go_sem, hg10, lA9, mA9]; done) | rfl), (by simp only [go_sem, hg10, lA9, mA9]), (by simp only [go_sem])⟩
   ·rintro t h ⟨i10, s1, s2, s3, s8, s10, s14, s15, s16, s31, Q2k, Q2l⟩
    refine b0w fun K11 hK11 => ?_
    simp only [go_sem, s31]
    refine b0x (fun hc12 => ?_) (fun hc12 => ?_)
    ·rw [b1e hc12] at hm1
     simp only [b1y, b11, b10, b1z, b0m, b0n, Nat.reduceEqDiff, nF9]
     exact J7 sum_8 _ _ s1 s2 s3 s8 s14 s15 s16 hm1
    ·rw [b1d hc12] at hm1
     simp only [b1b, b0m, b0n]
     refine hK11 _ _ ?_
     refine b0e fun K hK => ?_
     simp only [go_sem, s10, Q2k, Q2l]
     refine hK _ _ ?_
     clear hK K
     simp only [b1f]
     obtain ⟨b13, hl13, hm1⟩ := b0l hm1
     refine b19 hl13 (fun | (sum_8_1, x_35), t, h => t 1 = I comb ∧ t 2 = I from_ ∧ t 3 = I to_ ∧ t 8 = I sum_8_1 ∧ t 14 = .fs 3 (List.map b0p h_.Trains) ∧ t 15 = I (List.length h_.Trains : Int) ∧ t 16 = I x_16 ∧ t 33 = .fs 3 (List.map b2m x9.Crowds) ∧ t 34 = I (List.length x9.Crowds : Int) ∧ t 35 = I x_35) ?_ ?_
     ·exact ⟨s1, s2, s3, s8, s14, s15, s16, (by first | (simp only [go_sem, lA9, mA9]; done) | rfl), (by first | (simp only [go_sem, lA9, mA9]; done) | rfl), (by first | (simp only [go_sem, lA9, mA9]; done) | rfl)⟩
     ·try clear s1 s2 s3 s8 s10 s14 s15 s16 s31 Q2k Q2l
      rintro ⟨sum_8_1, x_35⟩ o t h ⟨s1, s2, s3, s8, s14, s15, s16, s33, s34, s35⟩ hm2 hb13
      simp only [b8v] at hm2
      rw [g0v]
      refine b0e fun K hK => ?_
      simp only [go_sem, s34, s35]
      refine hK _ _ ?_
      clear hK K
      refine b0w fun K14 hK14 => ?_
      simp only [go_sem]
      refine b0x (fun hc15 => ?_) (fun hc15 => ?_)
      ·rw [b1e hc15] at hm2
       simp only [b1b, b0m, b0n]
       refine hK14 _ _ ?_
       refine b0w fun K16 hK16 => ?_
       have J17 : ∀ (sum_8_2 : Int) (t : Slots) (h : Heap), t 1 = I comb → t 2 = I from_ → t 3 = I to_ → t 8 = I sum_8_2 → t 14 = .fs 3 (List.map b0p h_.Trains) → t 15 = I (List.length h_.Trains : Int) → t 16 = I x_16 → t 33 = .fs 3 (List.map b2m x9.Crowds) → t 34 = I (List.length x9.Crowds : Int) → t 35 = I x_35 → b7q x_35 sum_8_2 = some o → K16 t h := by
        try clear s1 s2 s3 s8 s14 s15 s16 s33 s34 s35
        intro sum_8_2 t h s1 s2 s3 s8 s14 s15 s16 s33 s34 s35 hm2
        refine hK16 _ _ ?_
        unfold b7q at hm2
        refine b1p fun K hK => ?_
        simp only [go_sem, s35]
        refine hK _ _ ?_
        clear hK K
        simp only [b0m, b0n]
        obtain rfl := sI9 hm2
        refine ⟨_, rfl, ?_⟩
        exact ⟨s1, s2, s3, s8, s14, s15, s16, s33, s34, (by first | (simp only [go_sem, s35, lA9, mA9]; done) | rfl)⟩
       simp only [b1f]
       obtain ⟨x19, h_x19, hm2⟩ := b0l hm2
       have h_x190 := b07 h_x19
       have h_x191 := b1a h_x19
       refine b0e fun K hK => ?_
       simp only [go_sem, s33, s35, b0y h_x19, b0z h_x19, h_x190, h_x191]
       refine hK _ _ ?_
       clear hK K
       refine b0e fun K hK => ?_
       simp only [go_sem, s1]
       refine hK _ _ ?_
       clear hK K
       simp only [go_sem]
       refine b0x (fun hc20 => ?_) (fun hc20 => ?_)
       ·rw [b1e hc20] at hm2
        refine b1p fun K hK => ?_
        simp only [go_sem, s8]
        refine hK _ _ ?_
        clear hK K
        simp only [b0m, b0n]
        exact J17 (wr (sum_8_1 + x19.People.High)) _ _ s1 s2 s3 (by first | (simp only [go_sem, s8, lA9, mA9]; done) | rfl) s14 s15 s16 s33 s34 s35 hm2
       ·rw [b1d hc20] at hm2
        simp only [b1b, b0m, b0n]
        exact J17 sum_8_1 _ _ s1 s2 s3 s8 s14 s15 s16 s33 s34 s35 hm2
      ·rw [b1d hc15] at hm2
       simp only [b1y, b11, b10, b1z, b0m, b0n, Nat.reduceEqDiff, nF9]
       obtain rfl := sI9 hm2
       obtain rfl := hb13 _ rfl
       try dsimp only at hm1
       exact J7 sum_8_1 _ _ s1 s2 s3 s8 s14 s15 s16 hm1
  ·rw [b1d hc5] at hm1
   simp only [b1y, b11, b10, b1z, b0m, b0n, Nat.reduceEqDiff, nF9]
   obtain rfl := sI9 hm1
   obtain rfl := hb3 _ rfl
   try dsimp only at hm0
   exact J2 sum_8 _ _ s8 hm0
theorem c3i (hf : Has O "newel/halls.check" x_halls_check) (c3h : c4n O) (d1e : c8g O) (d00 : c7y O) : c4o O := by
 intro h_ comb ticks r hm0
 unfold b6w at hm0
 refine b2q hf rfl (b0f (.agg _ (b0f (b01 fun a _ => b20 a) (b0f (b01 fun a _ => b24 a) (b0f (b01 fun a _ => b28 a) (b0f (b0o _) b06))))) (b0f (b0o _) (b0f (b01 fun a _ => b2r a) b06))) (b0o _) ?_
 refine b2k (fun t h => t 0 = .agg [.fs 5 (List.map b0r h_.Combs), .fs 3 (List.map b0p h_.Trains), .fs 3 (List.map b0u h_.Shifts), I h_.Until] ∧ t 1 = I comb ∧ t 2 = .fs 1 (List.map eI ticks)) ⟨rfl, rfl, rfl⟩ fun t h ⟨s0, s1, s2⟩ => ?_
 simp only [x_halls_check]
 refine b0e fun K hK => ?_
 simp only [go_sem, s0]
 refine hK _ _ ?_
 clear hK K
 refine b09 ?_
 obtain ⟨y2, h_y2, hm0⟩ := b0l hm0
 refine b0e fun K hK => ?_
 simp only [go_sem]
 refine b1u (c3h h_ _ h_y2) ?_
 simp only [go_sem]
 refine hK _ _ ?_
 clear hK K
 refine b09 ?_
 refine b0e fun K hK => ?_
 simp only [go_sem]
 refine hK _ _ ?_
 clear hK K
 refine b0w fun K3 hK3 => ?_
 simp only [go_sem]
 refine b0x (fun hc4 => ?_) (fun hc4 => ?_)
 ·rw [b1e hc4] at hm0
  refine b0e fun K hK => ?_
  simp only [go_sem]
  refine hK _ _ ?_
  clear hK K
  simp only [b1l, b1n, b1m, b1o]
  obtain rfl := sI9 hm0
  exact b1v (by simp only [go_sem, lA9, mA9]) (b0o _)
 ·rw [b1d hc4] at hm0
  simp only [b1b, b0m, b0n]
  refine hK3 _ _ ?_
  refine b09 ?_
  obtain ⟨c10, h_c10, hm0⟩ := b0l hm0
  refine b2p (fun t h => t 26 = B c10) (fun K hK => ?_) ?_
  ·simp only [go_sem, s1, s2]
   refine b0x (fun hg11 => ?_) (fun hg11 => ?_)
   ·simp only [hg11, Bool.not_true, Bool.not_false, eq_self, if_true, if_false, Bool.true_or, Bool.or_true, Bool.false_or, Bool.or_false, Bool.true_and, Bool.and_true, Bool.false_and, Bool.and_false, Bool.false_eq_true] at h_c10
    obtain rfl := sI9 h_c10
    simp only [go_sem, s1, s2, hg11]
    exact hK _ _ (by first | (simp only [go_sem, hg11, lA9, mA9]; done) | rfl)
   ·simp only [go_sem, s1, s2, hg11]
    refine b0x (fun hg12 => ?_) (fun hg12 => ?_)
    ·simp only [hg11, hg12, Bool.not_true, Bool.not_false, eq_self, if_true, if_false, Bool.true_or, Bool.or_true, Bool.false_or, Bool.or_false, Bool.true_and, Bool.and_true, Bool.false_and, Bool.and_false, Bool.false_eq_true] at h_c10
     obtain rfl := sI9 h_c10
     simp only [go_sem, s1, s2, hg11, hg12]
     exact hK _ _ (by first | (simp only [go_sem, hg11, hg12, lA9, mA9]; done) | rfl)
    ·simp only [hg11, hg12, Bool.not_true, Bool.not_false, eq_self, if_true, if_false, Bool.true_or, Bool.or_true, Bool.false_or, Bool.or_false, Bool.true_and, Bool.and_true, Bool.false_and, Bool.and_false, Bool.false_eq_true] at h_c10
     obtain ⟨y9, h_y9, h_c10⟩ := b0l h_c10
     obtain rfl := sI9 h_c10
     simp only [go_sem, s1, s2, hg11, hg12]
     refine b1u (d1e ticks "newel/halls.check$1" [] [.fp [.fs 5 (List.map b0r h_.Combs), .fs 3 (List.map b0p h_.Trains), .fs 3 (List.map b0u h_.Shifts), I h_.Until] 0] (fun z8 => some (b6x z8 h_)) (.fn _ _ _ b06 (b0f (.fp _ _ (b0f (b01 fun a _ => b20 a) (b0f (b01 fun a _ => b24 a) (b0f (b01 fun a _ => b28 a) (b0f (b0o _) b06))))) b06)) (fun z0 y hz => by cases hz; exact d00 z0 h_) _ h_y9) ?_
     simp only [go_sem, s1, s2, hg11, hg12]
     exact hK _ _ (by first | (simp only [go_sem, hg11, hg12, lA9, mA9]; done) | rfl)
  ·rintro t h s26
   refine b0w fun K13 hK13 => ?_
   simp only [go_sem, s26]
   refine b0x (fun hc14 => ?_) (fun hc14 => ?_)
   ·rw [b1e hc14] at hm0
    refine b0e fun K hK => ?_
    simp only [go_sem]
    refine hK _ _ ?_
    clear hK K
    simp only [b1l, b1n, b1m, b1o]
    obtain rfl := sI9 hm0
    exact b1v (by simp only [go_sem, lA9, mA9]) (b0o _)
   ·rw [b1d hc14] at hm0
    simp only [b1b, b0m, b0n]
    refine hK13 _ _ ?_
    refine b0e fun K hK => ?_
    simp only [go_sem]
    refine hK _ _ ?_
    clear hK K
    simp only [b1l, b1n, b1m, b1o]
    obtain rfl := sI9 hm0
    exact b1v (by simp only [go_sem, lA9, mA9]) (b0o _)
theorem d00 (hf : Has O "newel/halls.check$1" x_halls_checkD1) : c7y O := by
 intro t_ c0
 generalize hm0 : b6x t_ c0 = r
 unfold b6x at hm0
 refine b2q hf rfl (b0f (b0o _) (b0f (.fp _ _ (b0f (b01 fun a _ => b20 a) (b0f (b01 fun a _ => b24 a) (b0f (b01 fun a _ => b28 a) (b0f (b0o _) b06))))) b06)) (b0o _) ?_
 refine b2k (fun t h => t 0 = I t_ ∧ t 1 = .fp [.fs 5 (List.map b0r c0.Combs), .fs 3 (List.map b0p c0.Trains), .fs 3 (List.map b0u c0.Shifts), I c0.Until] 0) ⟨rfl, rfl⟩ fun t h ⟨s0, s1⟩ => ?_
 simp only [x_halls_checkD1]
 refine b0e fun K hK => ?_
 simp only [go_sem]
 refine hK _ _ ?_
 clear hK K
 refine b2p (fun t h => t 3 = B ((decide (t_ < 0)) || (decide (c0.Until ≤ t_)))) (fun K hK => ?_) ?_
 ·simp only [go_sem, s0, s1]
  refine b0x (fun hg1 => ?_) (fun hg1 => ?_)
  ·simp only [go_sem, s0, s1, hg1]
   exact hK _ _ (by first | (simp only [go_sem, hg1, lA9, mA9]; done) | rfl)
  ·simp only [go_sem, s0, s1, hg1]
   exact hK _ _ (by first | (simp only [go_sem, hg1, lA9, mA9]; done) | rfl)
 ·rintro t h s3
  simp only [b1l, b1n, b1m, b1o]
  obtain rfl := hm0
  exact b1v (by simp only [go_sem, s3, lA9, mA9]) (b0o _)
theorem b84 (hf : Has O "newel/halls.in" x_halls_in) : c4p O := by
 intro n s
 generalize hm0 : b4l n s = r
 unfold b4l at hm0
 refine b2q hf rfl (b0f (b0o _) (b0f (.agg _ (b0f (b0o _) (b0f (b0o _) b06))) b06)) (b0o _) ?_
 refine b2k (fun t h => t 0 = I n ∧ t 1 = .agg [I s.Low, I s.High]) ⟨rfl, rfl⟩ fun t h ⟨s0, s1⟩ => ?_
 simp only [x_halls_in]
 refine b0e fun K hK => ?_
 simp only [go_sem, s1]
 refine hK _ _ ?_
 clear hK K
 refine b2p (fun t h => t 4 = B ((decide (s.Low ≤ n)) && (decide (n ≤ s.High)))) (fun K hK => ?_) ?_
 ·simp only [go_sem, s0]
  refine b0x (fun hg1 => ?_) (fun hg1 => ?_)
  ·simp only [go_sem, s0, hg1]
   exact hK _ _ (by first | (simp only [go_sem, hg1, lA9, mA9]; done) | rfl)
  ·simp only [go_sem, s0, hg1]
   exact hK _ _ (by first | (simp only [go_sem, hg1, lA9, mA9]; done) | rfl)
 ·rintro t h s4
  simp only [b1l, b1n, b1m, b1o]
  obtain rfl := hm0
  exact b1v (by simp only [go_sem, s4, lA9, mA9]) (b0o _)
theorem d03 (hf : Has O "newel/halls.over$1" x_halls_overD1) : c71 O := by
 intro n c0 c1 r hm0
 unfold c0m at hm0
 refine b2q hf rfl (b0f (b0o _) (b0f (.fp _ _ (b0f (b01 fun a _ => b20 a) (b0f (b01 fun a _ => b24 a) (b0f (b01 fun a _ => b28 a) (b0f (b0o _) b06))))) (b0f (.fp _ _ (b0f (b0o _) b06)) b06))) (b0o _) ?_
 refine b2k (fun t h => t 0 = I n ∧ t 1 = .fp [.fs 5 (List.map b0r c0.Combs), .fs 3 (List.map b0p c0.Trains), .fs 3 (List.map b0u c0.Shifts), I c0.Until] 0 ∧ t 2 = .fp [I c1] 0) ⟨rfl, rfl, rfl⟩ fun t h ⟨s0, s1, s2⟩ => ?_
 simp only [x_halls_overD1]
 refine b0e fun K hK => ?_
 simp only [go_sem]
 refine hK _ _ ?_
 clear hK K
 obtain ⟨x2, h_x2, hm0⟩ := b0l hm0
 have h_x20 := b07 h_x2
 have h_x21 := b1a h_x2
 refine b0e fun K hK => ?_
 simp only [go_sem, s0, s1, s2, b0y h_x2, b0z h_x2, h_x20, h_x21]
 refine hK _ _ ?_
 clear hK K
 simp only [b1l, b1n, b1m, b1o]
 obtain rfl := sI9 hm0
 exact b1v (by simp only [go_sem, lA9, mA9]) (b0o _)
theorem d1b (hf : Has O "newel/newelref06.comb" x_r06_comb) (b4w : c14 O) : c8c O := by
 intro h_ n
 generalize hm0 : b70 h_ n = r
 unfold b70 at hm0
 refine b2q hf rfl (b0f (.agg _ (b0f (b01 fun a _ => b20 a) (b0f (b01 fun a _ => b24 a) (b0f (b01 fun a _ => b28 a) (b0f (b0o _) b06))))) (b0f (b0o _) b06)) (b0o _) ?_
 refine b2k (fun t h => t 0 = .agg [.fs 5 (List.map b0r h_.Combs), .fs 3 (List.map b0p h_.Trains), .fs 3 (List.map b0u h_.Shifts), I h_.Until] ∧ t 1 = I n) ⟨rfl, rfl⟩ fun t h ⟨s0, s1⟩ => ?_
 simp only [x_r06_comb]
 refine b0e fun K hK => ?_
 simp only [go_sem, s0]
 refine hK _ _ ?_
 clear hK K
 refine b0e fun K hK => ?_
 simp only [go_sem, s1]
 refine b1u (b4w n 0 (wr ((List.length h_.Combs : Int) - 1))) ?_
 simp only [go_sem, s1]
 refine hK _ _ ?_
 clear hK K
 simp only [b1l, b1n, b1m, b1o]
 obtain rfl := hm0
 exact b1v (by simp only [go_sem, lA9, mA9]) (b0o _)
end Go.Nw.HM
