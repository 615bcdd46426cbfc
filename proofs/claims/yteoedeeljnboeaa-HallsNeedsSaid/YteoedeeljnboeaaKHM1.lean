/- That the texts make what their models say: printed by a program. -/
import Derived.Test.YteoedeeljnboeaaHM
set_option linter.all false
set_option linter.unusedVariables false
set_option linter.unusedSimpArgs false
set_option linter.unusedSectionVars false
namespace Go.Nw.HM
open Go.Nw.Halls
set_option linter.unusedSimpArgs false
set_option linter.unusedVariables false
set_option maxHeartbeats 4000000
variable {O : Orac}
theorem d03 (hf : Has O "(*newel/halls.bound).passes" x___halls_bound__passes) : c71 O := by
 intro b from_ to_ r hm0
 unfold b8n at hm0
 refine b2u hf rfl (b0f (.fp _ _ (b0f (b0y fun a _ => b3f a) (b0f (b0y fun a _ => b3f a) (b0f (b0y fun a _ => b3f a) (b0f (b0y fun a _ => b4y a) b03))))) (b0f (b0k _) (b0f (b0k _) b03))) (b0k _) ?_
 refine b2p (fun t h => t 0 = .fp [.fs 1 (List.map eI b.rates), .fs 1 (List.map eI b.flow), .fs 1 (List.map eI b.most), .fs 1 (List.map b00 b.come)] 0 ∧ t 1 = I from_ ∧ t 2 = I to_) ⟨rfl, rfl, rfl⟩ fun t h ⟨s0, s1, s2⟩ => ?_
 simp only [x___halls_bound__passes]
 refine b0e fun K hK => ?_
 simp only [go_sem]
 refine hK _ _ ?_
 clear hK K
 refine b04 ?_
 refine b2t (fun t h => t 0 = .fp [.fs 1 (List.map eI b.rates), .fs 1 (List.map eI b.flow), .fs 1 (List.map eI b.most), .fs 1 (List.map b00 b.come)] 0 ∧ t 1 = I from_ ∧ t 2 = I to_ ∧ t 16 = B ((decide (to_ < from_)) || (decide (to_ < 0)))) (fun K hK => ?_) ?_
 ·simp only [go_sem, s1, s2]
  refine b0u (fun hg1 => ?_) (fun hg1 => ?_)
  ·simp only [go_sem, s1, s2, hg1]
   exact hK _ _ ⟨s0, s1, s2, (by first | (simp only [go_sem, hg1, lA9, mA9]; done) | rfl)⟩
  ·simp only [go_sem, s1, s2, hg1]
   exact hK _ _ ⟨s0, s1, s2, (by first | (simp only [go_sem, hg1, lA9, mA9]; done) | rfl)⟩
 ·rintro t h ⟨s0, s1, s2, s16⟩
  refine b0x fun K2 hK2 => ?_
  simp only [go_sem, s16]
  refine b0u (fun hc3 => ?_) (fun hc3 => ?_)
  ·rw [b1b hc3] at hm0
   refine b0e fun K hK => ?_
   simp only [go_sem]
   refine hK _ _ ?_
   clear hK K
   simp only [b1k, b1m, b1l, b1n]
   obtain rfl := sI9 hm0
   exact b2h (by simp only [go_sem, lA9, mA9]) (b0k _)
  ·rw [b1a hc3] at hm0
   simp only [b07, b0m, b0n]
   refine hK2 _ _ ?_
   refine b0e fun K hK => ?_
   simp only [go_sem, s1]
   refine hK _ _ ?_
   clear hK K
   obtain ⟨x8, h_x8, hm0⟩ := b0j hm0
   have h_x80 := b06 h_x8
   have h_x81 := b09 h_x8
   obtain ⟨x9, h_x9, hm0⟩ := b0j hm0
   have h_x90 := b06 h_x9
   have h_x91 := b09 h_x9
   obtain ⟨x10, h_x10, hm0⟩ := b0j hm0
   have h_x100 := b06 h_x10
   have h_x101 := b09 h_x10
   obtain ⟨x11, h_x11, hm0⟩ := b0j hm0
   have h_x110 := b06 h_x11
   have h_x111 := b09 h_x11
   refine b0e fun K hK => ?_
   simp only [go_sem, s0, s1, s2, b0v h_x8, b0w h_x8, h_x80, h_x81, b0v h_x9, b0w h_x9, h_x90, h_x91, b0v h_x10, b0w h_x10, h_x100, h_x101, b0v h_x11, b0w h_x11, h_x110, h_x111]
   refine hK _ _ ?_
   clear hK K
   refine b04 ?_
   refine b0e fun K hK => ?_
   simp only [go_sem, s1]
   refine hK _ _ ?_
   clear hK K
   refine b0x fun K12 hK12 => ?_
   have J13 : ∀ (least_7 : Int) (t : Slots) (h : Heap), t 7 = I least_7 → b97 least_7 = some r → K12 t h := by
    intro least_7 t h s7 hm0
    refine hK12 _ _ ?_
    unfold b97 at hm0
    refine b0e fun K hK => ?_
    simp only [go_sem, s7]
    refine hK _ _ ?_
    clear hK K
    simp only [b1k, b1m, b1l, b1n]
    obtain rfl := sI9 hm0
    exact b2h (by simp only [go_sem, lA9, mA9]) (b0k _)
   simp only [b1c]
   obtain ⟨b14, hl14, hm0⟩ := b0j hm0
   refine b2b hl14 (fun | (least_7, k_8), t, h => t 0 = .fp [.fs 1 (List.map eI b.rates), .fs 1 (List.map eI b.flow), .fs 1 (List.map eI b.most), .fs 1 (List.map b00 b.come)] 0 ∧ t 1 = I (mx from_ 0) ∧ t 2 = I to_ ∧ t 7 = I least_7 ∧ t 8 = I k_8) ?_ ?_
   ·exact ⟨s0, (by first | (simp only [go_sem, s1, lA9, mA9]; done) | rfl), s2, (by first | (simp only [go_sem, lA9, mA9]; done) | rfl), (by first | (simp only [go_sem, lA9, mA9]; done) | rfl)⟩
   ·rintro ⟨least_7, k_8⟩ o t h ⟨s0, s1, s2, s7, s8⟩ hm1 hb14
    simp only [b8o] at hm1
    rw [g06]
    refine b04 ?_
    refine b0e fun K hK => ?_
    simp only [go_sem, s2, s8]
    refine hK _ _ ?_
    clear hK K
    refine b0x fun K15 hK15 => ?_
    simp only [go_sem]
    refine b0u (fun hc16 => ?_) (fun hc16 => ?_)
    ·rw [b1b hc16] at hm1
     simp only [b07, b0m, b0n]
     refine hK15 _ _ ?_
     refine b0x fun K17 hK17 => ?_
     simp only [b1c]
     refine b0e fun K hK => ?_
     simp only [go_sem]
     refine hK _ _ ?_
     clear hK K
     refine b04 ?_
     refine b0e fun K hK => ?_
     simp only [go_sem, s2, s8]
     refine hK _ _ ?_
     clear hK K
     refine b0x fun K18 hK18 => ?_
     have J19 : ∀ (behind_9 : Int) (t : Slots) (h : Heap), t 0 = .fp [.fs 1 (List.map eI b.rates), .fs 1 (List.map eI b.flow), .fs 1 (List.map eI b.most), .fs 1 (List.map b00 b.come)] 0 → t 1 = I (mx from_ 0) → t 2 = I to_ → t 7 = I least_7 → t 8 = I k_8 → t 9 = I behind_9 → b7k b from_ least_7 k_8 behind_9 = some o → K18 t h := by
      intro behind_9 t h s0 s1 s2 s7 s8 s9 hm1
      refine hK18 _ _ ?_
      unfold b7k at hm1
      obtain ⟨x23, h_x23, hm1⟩ := b0j hm1
      have h_x230 := b06 h_x23
      have h_x231 := b09 h_x23
      obtain ⟨x24, h_x24, hm1⟩ := b0j hm1
      have h_x240 := b06 h_x24
      have h_x241 := b09 h_x24
      obtain ⟨x25, h_x25, hm1⟩ := b0j hm1
      have h_x250 := b06 h_x25
      have h_x251 := b09 h_x25
      refine b1o fun K hK => ?_
      simp only [go_sem, s0, s1, s7, s8, s9, b0v h_x23, b0w h_x23, h_x230, h_x231, b0v h_x24, b0w h_x24, h_x240, h_x241, b0v h_x25, b0w h_x25, h_x250, h_x251]
      refine hK _ _ ?_
      clear hK K
      simp only [b0m, b0n]
      refine hK17 _ _ ?_
      refine b1o fun K hK => ?_
      simp only [go_sem, s8]
      refine hK _ _ ?_
      clear hK K
      simp only [b0m, b0n]
      obtain rfl := sI9 hm1
      refine ⟨_, rfl, ?_⟩
      exact ⟨s0, s1, s2, (by first | (simp only [go_sem, s7, lA9, mA9]; done) | rfl), (by first | (simp only [go_sem, s8, lA9, mA9]; done) | rfl)⟩
     simp only [go_sem]
     refine b0u (fun hc26 => ?_) (fun hc26 => ?_)
     ·rw [b1b hc26] at hm1
      obtain ⟨x29, h_x29, hm1⟩ := b0j hm1
      have h_x290 := b06 h_x29
      have h_x291 := b09 h_x29
      obtain ⟨x30, h_x30, hm1⟩ := b0j hm1
      have h_x300 := b06 h_x30
      have h_x301 := b09 h_x30
      refine b1o fun K hK => ?_
      simp only [go_sem, s0, s2, s8, b0v h_x29, b0w h_x29, h_x290, h_x291, b0v h_x30, b0w h_x30, h_x300, h_x301]
      refine hK _ _ ?_
      clear hK K
      simp only [b0m, b0n]
      exact J19 x30 _ _ s0 s1 s2 s7 s8 (by first | (simp only [go_sem, lA9, mA9]; done) | rfl) hm1
     ·rw [b1a hc26] at hm1
      simp only [b07, b0m, b0n]
      exact J19 0 _ _ s0 s1 s2 s7 s8 (by first | (simp only [go_sem, lA9, mA9]; done) | rfl) hm1
    ·rw [b1a hc16] at hm1
     simp only [b1z, b2a, b19, b11, b0m, b0n, Nat.reduceEqDiff, nF9]
     obtain rfl := sI9 hm1
     obtain rfl := hb14 _ rfl
     try dsimp only at hm0
     exact J13 least_7 _ _ s7 hm0
theorem d04 (hf : Has O "(newel/newelref06.Bounds).pass" x__r06_Bounds__pass) : c72 O := by
 intro b c from_ to_ r hm0
 unfold b98 at hm0
 refine b2u hf rfl (b0f (.agg _ (b0f (b0y fun a _ => b4y a) (b0f (b0y fun a _ => b4y a) (b0f (b0y fun a _ => b7q a) (b0f (b0y fun a _ => b7q a) b03))))) (b0f (b0k _) (b0f (b0k _) (b0f (b0k _) b03)))) (b0k _) ?_
 refine b2p (fun t h => t 0 = .agg [.fs 1 (List.map b00 b.Most), .fs 1 (List.map b00 b.Flow), .fs 1 (List.map b05 b.Come), .fs 1 (List.map b05 b.Pass)] ∧ t 1 = I c ∧ t 2 = I from_ ∧ t 3 = I to_) ⟨rfl, rfl, rfl, rfl⟩ fun t h ⟨s0, s1, s2, s3⟩ => ?_
 simp only [x__r06_Bounds__pass]
 refine b0e fun K hK => ?_
 simp only [go_sem, s0]
 refine hK _ _ ?_
 clear hK K
 refine b0e fun K hK => ?_
 simp only [go_sem, s2]
 refine hK _ _ ?_
 clear hK K
 refine b04 ?_
 refine b0e fun K hK => ?_
 simp only [go_sem, s2, s3]
 refine hK _ _ ?_
 clear hK K
 refine b0x fun K1 hK1 => ?_
 simp only [go_sem]
 refine b0u (fun hc2 => ?_) (fun hc2 => ?_)
 ·rw [b1b hc2] at hm0
  refine b0e fun K hK => ?_
  simp only [go_sem]
  refine hK _ _ ?_
  clear hK K
  simp only [b1k, b1m, b1l, b1n]
  obtain rfl := sI9 hm0
  exact b2h (by simp only [go_sem, lA9, mA9]) (b0k _)
 ·rw [b1a hc2] at hm0
  simp only [b07, b0m, b0n]
  refine hK1 _ _ ?_
  obtain ⟨x6, h_x6, hm0⟩ := b0j hm0
  have h_x60 := b06 h_x6
  have h_x61 := b09 h_x6
  obtain ⟨x7, h_x7, hm0⟩ := b0j hm0
  have h_x70 := b06 h_x7
  have h_x71 := b09 h_x7
  obtain ⟨x8, h_x8, hm0⟩ := b0j hm0
  have h_x80 := b06 h_x8
  have h_x81 := b09 h_x8
  refine b0e fun K hK => ?_
  simp only [go_sem, s1, s2, s3, b0v h_x6, b0w h_x6, h_x60, h_x61, b0v h_x7, b0w h_x7, h_x70, h_x71, b0v h_x8, b0w h_x8, h_x80, h_x81]
  refine hK _ _ ?_
  clear hK K
  simp only [b1k, b1m, b1l, b1n]
  obtain rfl := sI9 hm0
  exact b2h (by simp only [go_sem, lA9, mA9]) (b0k _)
theorem c3m (hf : Has O "newel/halls.Check" x_halls_Check) (d1a : c78 O) (d1k : c8m O) (d05 : c73 O) (b9e : c4w O) : c4t O := by
 intro h_ r hm0
 unfold b5l at hm0
 refine b2u hf rfl (b0f (.agg _ (b0f (b0y fun a _ => b2n a) (b0f (b0y fun a _ => b2m a) (b0f (b0y fun a _ => b2q a) (b0f (b0k _) b03))))) b03) (b0k _) ?_
 refine b2p (fun t h => t 0 = .agg [.fs 5 (List.map b0q h_.Combs), .fs 3 (List.map b0p h_.Trains), .fs 3 (List.map b0o h_.Shifts), I h_.Until]) rfl fun t h s0 => ?_
 simp only [x_halls_Check]
 refine b0e fun K hK => ?_
 simp only [go_sem, s0]
 refine hK _ _ ?_
 clear hK K
 refine b04 ?_
 refine b2t (fun t h => t 1 = .fp [.fs 5 (List.map b0q h_.Combs), .fs 3 (List.map b0p h_.Trains), .fs 3 (List.map b0o h_.Shifts), I h_.Until] 0 ∧ t 37 = B ((((((decide (h_.Until < 1)) || (decide (100 < h_.Until))) || (decide ((List.length h_.Combs : Int) < 1))) || (decide (8 < (List.length h_.Combs : Int)))) || (decide (12 < (List.length h_.Trains : Int)))) || (decide (20 < (List.length h_.Shifts : Int))))) (fun K hK => ?_) ?_
 ·simp only [go_sem]
  refine b0u (fun hg1 => ?_) (fun hg1 => ?_)
  ·simp only [go_sem, hg1]
   exact hK _ _ ⟨(by first | (simp only [go_sem, hg1, lA9, mA9]; done) | rfl), (by first | (simp only [go_sem, hg1, lA9, mA9]; done) | rfl)⟩
  ·simp only [go_sem, hg1]
   refine b0u (fun hg2 => ?_) (fun hg2 => ?_)
   ·simp only [go_sem, hg1, hg2]
    exact hK _ _ ⟨(by first | (simp only [go_sem, hg1, hg2, lA9, mA9]; done) | rfl), (by first | (simp only [go_sem, hg1, hg2, lA9, mA9]; done) | rfl)⟩
   ·simp only [go_sem, hg1, hg2]
    refine b0u (fun hg3 => ?_) (fun hg3 => ?_)
    ·simp only [go_sem, hg1, hg2, hg3]
     exact hK _ _ ⟨(by first | (simp only [go_sem, hg1, hg2, hg3, lA9, mA9]; done) | rfl), (by first | (simp only [go_sem, hg1, hg2, hg3, lA9, mA9]; done) | rfl)⟩
    ·simp only [go_sem, hg1, hg2, hg3]
     refine b0u (fun hg4 => ?_) (fun hg4 => ?_)
     ·simp only [go_sem, hg1, hg2, hg3, hg4]
      exact hK _ _ ⟨(by first | (simp only [go_sem, hg1, hg2, hg3, hg4, lA9, mA9]; done) | rfl), (by first | (simp only [go_sem, hg1, hg2, hg3, hg4, lA9, mA9]; done) | rfl)⟩
     ·simp only [go_sem, hg1, hg2, hg3, hg4]
      refine b0u (fun hg5 => ?_) (fun hg5 => ?_)
      ·simp only [go_sem, hg1, hg2, hg3, hg4, hg5]
       exact hK _ _ ⟨(by first | (simp only [go_sem, hg1, hg2, hg3, hg4, hg5, lA9, mA9]; done) | rfl), (by first | (simp only [go_sem, hg1, hg2, hg3, hg4, hg5, lA9, mA9]; done) | rfl)⟩
      ·simp only [go_sem, hg1, hg2, hg3, hg4, hg5]
       exact hK _ _ ⟨(by first | (simp only [go_sem, hg1, hg2, hg3, hg4, hg5, lA9, mA9]; done) | rfl), (by first | (simp only [go_sem, hg1, hg2, hg3, hg4, hg5, lA9, mA9]; done) | rfl)⟩
 ·rintro t h ⟨s1, s37⟩
  refine b0x fun K6 hK6 => ?_
  simp only [go_sem, s37]
  refine b0u (fun hc7 => ?_) (fun hc7 => ?_)
  ·rw [b1b hc7] at hm0
   refine b0e fun K hK => ?_
   simp only [go_sem]
   refine hK _ _ ?_
   clear hK K
   simp only [b1k, b1m, b1l, b1n]
   obtain rfl := sI9 hm0
   exact b2h (by simp only [go_sem, lA9, mA9]) (b0k _)
  ·rw [b1a hc7] at hm0
   simp only [b07, b0m, b0n]
   refine hK6 _ _ ?_
   refine b04 ?_
   refine b0e fun K hK => ?_
   simp only [go_sem, s1]
   refine hK _ _ ?_
   clear hK K
   refine b0x fun K8 hK8 => ?_
   have J9 : ∀ (t : Slots) (h : Heap), t 1 = .fp [.fs 5 (List.map b0q h_.Combs), .fs 3 (List.map b0p h_.Trains), .fs 3 (List.map b0o h_.Shifts), I h_.Until] 0 → c0q h_ = some r → K8 t h := by
    intro t h s1 hm0
    refine hK8 _ _ ?_
    unfold c0q at hm0
    refine b04 ?_
    obtain ⟨y13, h_y13, hm0⟩ := b0j hm0
    refine b0e fun K hK => ?_
    simp only [go_sem, s1]
    refine b1u (d1k h_.Trains "newel/halls.Check$1" [] [.fp [.fs 5 (List.map b0q h_.Combs), .fs 3 (List.map b0p h_.Trains), .fs 3 (List.map b0o h_.Shifts), I h_.Until] 0] (fun z12 => b7r z12 h_) (.fn _ _ _ b03 (b0f (.fp _ _ (b0f (b0y fun a _ => b2n a) (b0f (b0y fun a _ => b2m a) (b0f (b0y fun a _ => b2q a) (b0f (b0k _) b03))))) b03)) (fun z0 y hz => d05 z0 h_ y hz) _ h_y13) ?_
    simp only [go_sem, s1]
    refine hK _ _ ?_
    clear hK K
    refine b0x fun K14 hK14 => ?_
    simp only [go_sem]
    refine b0u (fun hc15 => ?_) (fun hc15 => ?_)
    ·rw [b1b hc15] at hm0
     refine b0e fun K hK => ?_
     simp only [go_sem]
     refine hK _ _ ?_
     clear hK K
     simp only [b1k, b1m, b1l, b1n]
     obtain rfl := sI9 hm0
     exact b2h (by simp only [go_sem, lA9, mA9]) (b0k _)
    ·rw [b1a hc15] at hm0
     simp only [b07, b0m, b0n]
     refine hK14 _ _ ?_
     refine b04 ?_
     refine b0e fun K hK => ?_
     simp only [go_sem, s1]
     refine hK _ _ ?_
     clear hK K
     refine b0x fun K16 hK16 => ?_
     have J17 : ∀ (t : Slots) (h : Heap), c27 = some r → K16 t h := by
      intro t h hm0
      refine hK16 _ _ ?_
      unfold c27 at hm0
      refine b0e fun K hK => ?_
      simp only [go_sem]
      refine hK _ _ ?_
      clear hK K
      simp only [b1k, b1m, b1l, b1n]
      obtain rfl := sI9 hm0
      exact b2h (by simp only [go_sem, lA9, mA9]) (b0k _)
     simp only [b1c]
     obtain ⟨b18, hl18, hm0⟩ := b0j hm0
     refine b2b hl18 (fun | x_56, t, h => t 1 = .fp [.fs 5 (List.map b0q h_.Combs), .fs 3 (List.map b0p h_.Trains), .fs 3 (List.map b0o h_.Shifts), I h_.Until] 0 ∧ t 54 = .fs 3 (List.map b0o h_.Shifts) ∧ t 55 = I (List.length h_.Shifts : Int) ∧ t 56 = I x_56) ?_ ?_
     ·exact ⟨s1, (by first | (simp only [go_sem, lA9, mA9]; done) | rfl), (by first | (simp only [go_sem, lA9, mA9]; done) | rfl), (by first | (simp only [go_sem, lA9, mA9]; done) | rfl)⟩
     ·rintro x_56 o t h ⟨s1, s54, s55, s56⟩ hm1 hb18
      simp only [b7s] at hm1
      rw [g07]
      refine b0e fun K hK => ?_
      simp only [go_sem, s55, s56]
      refine hK _ _ ?_
      clear hK K
      refine b0x fun K19 hK19 => ?_
      simp only [go_sem]
      refine b0u (fun hc20 => ?_) (fun hc20 => ?_)
      ·rw [b1b hc20] at hm1
       simp only [b07, b0m, b0n]
       refine hK19 _ _ ?_
       refine b0x fun K21 hK21 => ?_
       simp only [b1c]
       obtain ⟨x23, h_x23, hm1⟩ := b0j hm1
       have h_x230 := b06 h_x23
       have h_x231 := b09 h_x23
       refine b0e fun K hK => ?_
       simp only [go_sem, s54, s56, b0v h_x23, b0w h_x23, h_x230, h_x231]
       refine hK _ _ ?_
       clear hK K
       obtain ⟨c29, h_c29, hm1⟩ := b0j hm1
       refine b2t (fun t h => t 1 = .fp [.fs 5 (List.map b0q h_.Combs), .fs 3 (List.map b0p h_.Trains), .fs 3 (List.map b0o h_.Shifts), I h_.Until] 0 ∧ t 54 = .fs 3 (List.map b0o h_.Shifts) ∧ t 55 = I (List.length h_.Shifts : Int) ∧ t 56 = I x_56 ∧ t 106 = B (((c29 || (decide (x23.Comb < 0))) || (decide ((List.length h_.Combs : Int) ≤ x23.Comb))) || (!(b4s x23.Rate (Span.mk 0 1000))))) (fun K hK => ?_) ?_
       ·simp only [go_sem, s1]
        refine b0u (fun hg30 => ?_) (fun hg30 => ?_)
        ·simp only [hg30, Bool.not_true, Bool.not_false, eq_self, if_true, if_false, Bool.true_or, Bool.or_true, Bool.false_or, Bool.or_false, Bool.true_and, Bool.and_true, Bool.false_and, Bool.and_false, Bool.false_eq_true] at h_c29
         obtain rfl := sI9 h_c29
         simp only [go_sem, s1, hg30]
         exact hK _ _ ⟨s1, s54, s55, s56, (by first | (simp only [go_sem, hg30, lA9, mA9]; done) | rfl)⟩
        ·simp only [go_sem, s1, hg30]
         refine b0u (fun hg31 => ?_) (fun hg31 => ?_)
         ·simp only [hg30, hg31, Bool.not_true, Bool.not_false, eq_self, if_true, if_false, Bool.true_or, Bool.or_true, Bool.false_or, Bool.or_false, Bool.true_and, Bool.and_true, Bool.false_and, Bool.and_false, Bool.false_eq_true] at h_c29
          obtain rfl := sI9 h_c29
          simp only [go_sem, s1, hg30, hg31]
          exact hK _ _ ⟨s1, s54, s55, s56, (by first | (simp only [go_sem, hg30, hg31, lA9, mA9]; done) | rfl)⟩
         ·simp only [hg30, hg31, Bool.not_true, Bool.not_false, eq_self, if_true, if_false, Bool.true_or, Bool.or_true, Bool.false_or, Bool.or_false, Bool.true_and, Bool.and_true, Bool.false_and, Bool.and_false, Bool.false_eq_true] at h_c29
          obtain ⟨c28, h_c28, h_c29⟩ := b0j h_c29
          obtain rfl := sI9 h_c29
          simp only [go_sem, s1, hg30, hg31]
          refine b0u (fun hg32 => ?_) (fun hg32 => ?_)
          ·simp only [hg30, hg31, hg32, Bool.not_true, Bool.not_false, eq_self, if_true, if_false, Bool.true_or, Bool.or_true, Bool.false_or, Bool.or_false, Bool.true_and, Bool.and_true, Bool.false_and, Bool.and_false, Bool.false_eq_true] at h_c28
           obtain ⟨x27, h_x27, h_c28⟩ := b0j h_c28
           have h_x270 := b06 h_x27
           have h_x271 := b09 h_x27
           obtain rfl := sI9 h_c28
           simp only [go_sem, s1, b0v h_x27, b0w h_x27, h_x270, h_x271, hg30, hg31, hg32]
           refine b0u (fun hg33 => ?_) (fun hg33 => ?_)
           ·simp only [go_sem, s1, b0v h_x27, b0w h_x27, h_x270, h_x271, hg30, hg31, hg32, hg33]
            exact hK _ _ ⟨s1, s54, s55, s56, (by first | (simp only [go_sem, hg30, hg31, hg32, hg33, lA9, mA9]; done) | rfl)⟩
           ·simp only [go_sem, s1, b0v h_x27, b0w h_x27, h_x270, h_x271, hg30, hg31, hg32, hg33]
            refine b0u (fun hg34 => ?_) (fun hg34 => ?_)
            ·simp only [go_sem, s1, b0v h_x27, b0w h_x27, h_x270, h_x271, hg30, hg31, hg32, hg33, hg34]
             exact hK _ _ ⟨s1, s54, s55, s56, (by first | (simp only [go_sem, hg30, hg31, hg32, hg33, hg34, lA9, mA9]; done) | rfl)⟩
            ·simp only [go_sem, s1, b0v h_x27, b0w h_x27, h_x270, h_x271, hg30, hg31, hg32, hg33, hg34]
             refine b0u (fun hg35 => ?_) (fun hg35 => ?_)
             ·simp only [go_sem, s1, b0v h_x27, b0w h_x27, h_x270, h_x271, hg30, hg31, hg32, hg33, hg34, hg35]
              exact hK _ _ ⟨s1, s54, s55, s56, (by first | (simp only [go_sem, hg30, hg31, hg32, hg33, hg34, hg35, lA9, mA9]; done) | rfl)⟩
             ·simp only [go_sem, s1, b0v h_x27, b0w h_x27, h_x270, h_x271, hg30, hg31, hg32, hg33, hg34, hg35]
              refine b1u (b9e x23.Rate (Span.mk 0 1000)) ?_
              simp only [go_sem, s1, b0v h_x27, b0w h_x27, h_x270, h_x271, hg30, hg31, hg32, hg33, hg34, hg35]
              exact hK _ _ ⟨s1, s54, s55, s56, (by first | (simp only [go_sem, hg30, hg31, hg32, hg33, hg34, hg35, lA9, mA9]; done) | rfl)⟩
          ·simp only [hg30, hg31, hg32, Bool.not_true, Bool.not_false, eq_self, if_true, if_false, Bool.true_or, Bool.or_true, Bool.false_or, Bool.or_false, Bool.true_and, Bool.and_true, Bool.false_and, Bool.and_false, Bool.false_eq_true] at h_c28
           obtain rfl := sI9 h_c28
           simp only [go_sem, s1, hg30, hg31, hg32]
           refine b0u (fun hg36 => ?_) (fun hg36 => ?_)
           ·simp only [go_sem, s1, hg30, hg31, hg32, hg36]
            exact hK _ _ ⟨s1, s54, s55, s56, (by first | (simp only [go_sem, hg30, hg31, hg32, hg36, lA9, mA9]; done) | rfl)⟩
           ·simp only [go_sem, s1, hg30, hg31, hg32, hg36]
            refine b0u (fun hg37 => ?_) (fun hg37 => ?_)
            ·simp only [go_sem, s1, hg30, hg31, hg32, hg36, hg37]
             exact hK _ _ ⟨s1, s54, s55, s56, (by first | (simp only [go_sem, hg30, hg31, hg32, hg36, hg37, lA9, mA9]; done) | rfl)⟩
            ·simp only [go_sem, s1, hg30, hg31, hg32, hg36, hg37]
             refine b1u (b9e x23.Rate (Span.mk 0 1000)) ?_
             simp only [go_sem, s1, hg30, hg31, hg32, hg36, hg37]
             exact hK _ _ ⟨s1, s54, s55, s56, (by first | (simp only [go_sem, hg30, hg31, hg32, hg36, hg37, lA9, mA9]; done) | rfl)⟩
       ·rintro t h ⟨s1, s54, s55, s56, s106⟩
        simp only [go_sem, s106]
        refine b0u (fun hc38 => ?_) (fun hc38 => ?_)
        ·rw [b1b hc38] at hm1
         refine b0e fun K hK => ?_
         simp only [go_sem]
         refine hK _ _ ?_
         clear hK K
         simp only [b1k, b1m, b1l, b1n]
         obtain rfl := sI9 hm1
         obtain rfl := hb18 _ rfl
         try dsimp only at hm0
         obtain rfl := sI9 hm0
         exact b2h (by simp only [go_sem, lA9, mA9]) (b0k _)
        ·rw [b1a hc38] at hm1
         simp only [b07, b0m, b0n]
         refine hK21 _ _ ?_
         refine b1o fun K hK => ?_
         simp only [go_sem, s56]
         refine hK _ _ ?_
         clear hK K
         simp only [b0m, b0n]
         obtain rfl := sI9 hm1
         refine ⟨_, rfl, ?_⟩
         exact ⟨s1, s54, s55, (by first | (simp only [go_sem, s56, lA9, mA9]; done) | rfl)⟩
      ·rw [b1a hc20] at hm1
       simp only [b1z, b2a, b19, b11, b0m, b0n, Nat.reduceEqDiff, nF9]
       obtain rfl := sI9 hm1
       obtain rfl := hb18 _ rfl
       try dsimp only at hm0
       exact J17  _ _  hm0
   simp only [b1c]
   obtain ⟨b40, hl40, hm0⟩ := b0j hm0
   refine b2b hl40 (fun | x_41, t, h => t 1 = .fp [.fs 5 (List.map b0q h_.Combs), .fs 3 (List.map b0p h_.Trains), .fs 3 (List.map b0o h_.Shifts), I h_.Until] 0 ∧ t 40 = I (List.length h_.Combs : Int) ∧ t 41 = I x_41) ?_ ?_
   ·exact ⟨s1, (by first | (simp only [go_sem, lA9, mA9]; done) | rfl), (by first | (simp only [go_sem, lA9, mA9]; done) | rfl)⟩
   ·rintro x_41 o t h ⟨s1, s40, s41⟩ hm1 hb40
    simp only [b7t] at hm1
    rw [g08]
    refine b0e fun K hK => ?_
    simp only [go_sem, s40, s41]
    refine hK _ _ ?_
    clear hK K
    refine b0x fun K41 hK41 => ?_
    simp only [go_sem]
    refine b0u (fun hc42 => ?_) (fun hc42 => ?_)
    ·rw [b1b hc42] at hm1
     simp only [b07, b0m, b0n]
     refine hK41 _ _ ?_
     refine b0x fun K43 hK43 => ?_
     simp only [b1c]
     refine b0e fun K hK => ?_
     simp only [go_sem, s41]
     refine hK _ _ ?_
     clear hK K
     obtain ⟨y45, h_y45, hm1⟩ := b0j hm1
     refine b0e fun K hK => ?_
     simp only [go_sem, s1]
     refine b1u (d1a h_ x_41 _ h_y45) ?_
     simp only [go_sem, s1]
     refine hK _ _ ?_
     clear hK K
     simp only [go_sem]
     refine b0u (fun hc46 => ?_) (fun hc46 => ?_)
     ·rw [b1b hc46] at hm1
      refine b0e fun K hK => ?_
      simp only [go_sem]
      refine hK _ _ ?_
      clear hK K
      simp only [b1k, b1m, b1l, b1n]
      obtain rfl := sI9 hm1
      obtain rfl := hb40 _ rfl
      try dsimp only at hm0
      obtain rfl := sI9 hm0
      exact b2h (by simp only [go_sem, lA9, mA9]) (b0k _)
     ·rw [b1a hc46] at hm1
      simp only [b07, b0m, b0n]
      refine hK43 _ _ ?_
      refine b1o fun K hK => ?_
      simp only [go_sem, s41]
      refine hK _ _ ?_
      clear hK K
      simp only [b0m, b0n]
      obtain rfl := sI9 hm1
      refine ⟨_, rfl, ?_⟩
      exact ⟨s1, s40, (by first | (simp only [go_sem, s41, lA9, mA9]; done) | rfl)⟩
    ·rw [b1a hc42] at hm1
     simp only [b1z, b2a, b19, b11, b0m, b0n, Nat.reduceEqDiff, nF9]
     obtain rfl := sI9 hm1
     obtain rfl := hb40 _ rfl
     try dsimp only at hm0
     exact J9  _ _ s1 hm0
theorem d05 (hf : Has O "newel/halls.Check$1" x_halls_CheckD1) (d1b : c79 O) : c73 O := by
 intro t_ c0 r hm0
 unfold b7r at hm0
 refine b2u hf rfl (b0f (.agg _ (b0f (b0k _) (b0f (b0k _) (b0f (b0y fun a _ => c25 a) b03)))) (b0f (.fp _ _ (b0f (b0y fun a _ => b2n a) (b0f (b0y fun a _ => b2m a) (b0f (b0y fun a _ => b2q a) (b0f (b0k _) b03))))) b03)) (b0k _) ?_
 refine b2p (fun t h => t 0 = .agg [I t_.At.Low, I t_.At.High, .fs 3 (List.map b21 t_.Crowds)] ∧ t 1 = .fp [.fs 5 (List.map b0q c0.Combs), .fs 3 (List.map b0p c0.Trains), .fs 3 (List.map b0o c0.Shifts), I c0.Until] 0) ⟨rfl, rfl⟩ fun t h ⟨s0, s1⟩ => ?_
 simp only [x_halls_CheckD1]
 refine b0e fun K hK => ?_
 simp only [go_sem, s0]
 refine hK _ _ ?_
 clear hK K
 obtain ⟨y2, h_y2, hm0⟩ := b0j hm0
 refine b0e fun K hK => ?_
 simp only [go_sem, s1]
 refine b1u (d1b c0 t_ _ h_y2) ?_
 simp only [go_sem, s1]
 refine hK _ _ ?_
 clear hK K
 simp only [b1k, b1m, b1l, b1n]
 obtain rfl := sI9 hm0
 exact b2h (by simp only [go_sem, lA9, mA9]) (b0k _)
theorem c3n (hf : Has O "newel/halls.Guard" x_halls_Guard) (c3o : c4v O) (b9f : c2d O) (b9d : c2c O) (c3p : c4x O) : c4u O := by
 intro h_ comb from_ r hm0
 unfold b42 at hm0
 refine b2u hf rfl (b0f (.agg _ (b0f (b0y fun a _ => b2n a) (b0f (b0y fun a _ => b2m a) (b0f (b0y fun a _ => b2q a) (b0f (b0k _) b03))))) (b0f (b0k _) (b0f (b0k _) b03))) (.tup _ (b0f (b0k _) (b0f (b0k _) b03))) ?_
 refine b2p (fun t h => t 0 = .agg [.fs 5 (List.map b0q h_.Combs), .fs 3 (List.map b0p h_.Trains), .fs 3 (List.map b0o h_.Shifts), I h_.Until] ∧ t 1 = I comb ∧ t 2 = I from_) ⟨rfl, rfl, rfl⟩ fun t h ⟨s0, s1, s2⟩ => ?_
 simp only [x_halls_Guard]
 refine b0e fun K hK => ?_
 simp only [go_sem, s0]
 refine hK _ _ ?_
 clear hK K
 refine b04 ?_
 obtain ⟨y2, h_y2, hm0⟩ := b0j hm0
 refine b0e fun K hK => ?_
 simp only [go_sem, s1, s2]
 refine d0v ?_ (c3o h_ comb ([from_]) _ h_y2) (.v _) ?_
 ·exact .cons (.refl _ (.agg _ (b0f (b0y fun a _ => b2n a) (b0f (b0y fun a _ => b2m a) (b0f (b0y fun a _ => b2q a) (b0f (b0k _) b03)))))) (.cons (.refl _ (b0k _)) (.cons (b6u (f := eI) (l := ([from_])) (id := h.nx) (by simp only [go_sem, lA9, mA9]) (by first | rfl | simp only [go_sem, lA9, mA9]) b3f b6x) (.nil)))
 simp only [go_sem, s1, s2]
 refine hK _ _ ?_
 clear hK K
 refine b04 ?_
 refine b0e fun K hK => ?_
 simp only [go_sem]
 refine hK _ _ ?_
 clear hK K
 refine b0x fun K3 hK3 => ?_
 simp only [go_sem]
 refine b0u (fun hc4 => ?_) (fun hc4 => ?_)
 ·rw [b1b hc4] at hm0
  refine b0e fun K hK => ?_
  simp only [go_sem]
  refine hK _ _ ?_
  clear hK K
  simp only [b1k, b1m, b1l, b1n]
  obtain rfl := sI9 hm0
  exact b4r (by simp only [go_sem, lA9, mA9]) (by simp only [go_sem, lA9, mA9]) (b0k _) (b0k _)
 ·rw [b1a hc4] at hm0
  simp only [b07, b0m, b0n]
  refine hK3 _ _ ?_
  obtain ⟨y6, h_y6, hm0⟩ := b0j hm0
  refine b2t (fun t h => ∃ v9 : AV, ∃ hs9 : List AV, t 1 = I comb ∧ t 2 = I from_ ∧ t 3 = .fp [.fs 5 (List.map b0q h_.Combs), .fs 3 (List.map b0p h_.Trains), .fs 3 (List.map b0o h_.Shifts), I h_.Until] 0 ∧ t 9 = v9 ∧ RR h v9 hs9 1 eI y6) (fun K hK => ?_) ?_
  ·simp only [go_sem]
   refine c05 (b9f h_ _  _ h_y6) ?_
   rintro rv_y6 hq_y6 ⟨rh_y6, rw_y6, fr_y6, fx_y6, ge_y6⟩
   have lw_y60 : h.nx < hq_y6.nx := Nat.lt_of_lt_of_le (by first | omega | simp only [go_sem]) fx_y6
   simp only [go_sem]
   exact hK _ _ ⟨rv_y6, rh_y6, s1, s2, (by first | (simp only [go_sem, lA9, mA9]; done) | rfl), (by first | (simp only [go_sem, lA9, mA9]; done) | rfl), rw_y6⟩
  ·rintro t h ⟨v9, hs9, s1, s2, s3, s9, Q18⟩
   refine b0e fun K hK => ?_
   simp only [go_sem, b0b v9]
   refine hK _ _ ?_
   clear hK K
   simp only [b1c]
   obtain ⟨b7, hl7, hm0⟩ := b0j hm0
   refine b2b hl7 (fun | (all_9, n_10), t, h => ∃ v9_1 : AV, t 1 = I comb ∧ t 2 = I from_ ∧ t 3 = .fp [.fs 5 (List.map b0q h_.Combs), .fs 3 (List.map b0p h_.Trains), .fs 3 (List.map b0o h_.Shifts), I h_.Until] 0 ∧ t 9 = v9_1 ∧ t 10 = I n_10 ∧ RR h v9_1 hs9 1 eI all_9) ?_ ?_
   ·exact ⟨v9, s1, s2, s3, s9, (by first | (simp only [go_sem, lA9, mA9]; done) | rfl), Q18⟩
   ·rintro ⟨all_9, n_10⟩ o t h ⟨v9_1, s1, s2, s3, s9, s10, Q18⟩ hm1 hb7
    simp only [b69] at hm1
    rw [g09]
    refine b0x fun K8 hK8 => ?_
    simp only [b1c]
    refine b04 ?_
    obtain ⟨y11, h_y11, hm1⟩ := b0j hm1
    obtain ⟨y12, h_y12, hm1⟩ := b0j hm1
    refine b2t (fun t h => t 1 = I comb ∧ t 2 = I from_ ∧ t 3 = .fp [.fs 5 (List.map b0q h_.Combs), .fs 3 (List.map b0p h_.Trains), .fs 3 (List.map b0o h_.Shifts), I h_.Until] 0 ∧ t 9 = v9_1 ∧ t 10 = I n_10 ∧ t 29 = B (decide ((List.length y12 : Int) = 0)) ∧ RR h v9_1 hs9 1 eI all_9) (fun K hK => ?_) ?_
    ·simp only [go_sem, s3, s9, b3o Q18, b0b v9, b0b v9_1]
     refine c05 (b9d h_ all_9 v9_1 hs9 _ Q18 _ h_y11) ?_
     rintro _ hq_y11 ⟨rfl, fr_y11, fx_y11⟩
     simp only [go_sem, s3, s9, b3o Q18, b0b v9, b0b v9_1]
     refine b1u (c3p h_ y11 _ h_y12) ?_
     simp only [go_sem, s3, s9, b3o Q18, b0b v9, b0b v9_1]
     exact hK _ _ ⟨s1, s2, s3, s9, s10, (by first | (simp only [go_sem, lA9, mA9]; done) | rfl), (b3n Q18 (by intro j hj  hl; first | rfl | simp only [go_sem, hl, fr_y11]) (by first | omega | exact Nat.le_refl _ | (simp only [go_sem, nxs] <;> omega)))⟩
    ·rintro t h ⟨s1, s2, s3, s9, s10, s29, Q18⟩
     refine b0x fun K13 hK13 => ?_
     simp only [go_sem, s29]
     refine b0u (fun hc14 => ?_) (fun hc14 => ?_)
     ·rw [b1b hc14] at hm1
      refine b0e fun K hK => ?_
      simp only [go_sem, s10, b0b v9, b0b v9_1]
      refine hK _ _ ?_
      clear hK K
      simp only [b1k, b1m, b1l, b1n]
      obtain rfl := sI9 hm1
      obtain rfl := hb7 _ rfl
      try dsimp only at hm0
      obtain rfl := sI9 hm0
      exact b4r (by simp only [go_sem, b08 Q18, lA9, mA9]) (by simp only [go_sem, b08 Q18, lA9, mA9]) (b0k _) (b0k _)
     ·rw [b1a hc14] at hm1
      simp only [b07, b0m, b0n]
      refine hK13 _ _ ?_
      refine b04 ?_
      refine b0e fun K hK => ?_
      simp only [go_sem, s2, s3, s10, b0b v9, b0b v9_1]
      refine hK _ _ ?_
      clear hK K
      refine b0x fun K15 hK15 => ?_
      simp only [go_sem]
      refine b0u (fun hc16 => ?_) (fun hc16 => ?_)
      ·rw [b1b hc16] at hm1
       refine b0e fun K hK => ?_
       simp only [go_sem, b0b v9, b0b v9_1]
       refine hK _ _ ?_
       clear hK K
       simp only [b1k, b1m, b1l, b1n]
       obtain rfl := sI9 hm1
       obtain rfl := hb7 _ rfl
       try dsimp only at hm0
       obtain rfl := sI9 hm0
       exact b4r (by simp only [go_sem, b08 Q18, lA9, mA9]) (by simp only [go_sem, b08 Q18, lA9, mA9]) (b0k _) (b0k _)
      ·rw [b1a hc16] at hm1
       simp only [b07, b0m, b0n]
       refine hK15 _ _ ?_
       obtain ⟨x19, h_x19, hm1⟩ := b0j hm1
       have h_x190 := b06 h_x19
       have h_x191 := b09 h_x19
       obtain ⟨iqp34, rfl, Q15, Qm⟩ := b6m Q18 h_x19
       obtain ⟨wp35, hw_wp35, os_wp35⟩ := b6l Q18 h_x19
       obtain ⟨x20, h_x20, hm1⟩ := b0j hm1
       have h_x200 := b06 h_x20
       have h_x201 := b09 h_x20
       obtain ⟨irp36, rfl, obr_irp36, ltr_irp36⟩ := b6i os_wp35 h_x20
       refine b8t (fun t h => ∃ v9_2 : AV, t 1 = I comb ∧ t 2 = I from_ ∧ t 3 = .fp [.fs 5 (List.map b0q h_.Combs), .fs 3 (List.map b0p h_.Trains), .fs 3 (List.map b0o h_.Shifts), I h_.Until] 0 ∧ t 9 = v9_2 ∧ t 10 = I n_10 ∧ RR h v9_2 hs9 1 eI (List.set all_9 (Int.toNat comb) (List.set x19 (Int.toNat (wr (from_ + n_10))) 0))) (fun K hK => ?_) ?_
       ·simp only [go_sem, s1, s2, s9, b3o Q18, s10, Q15, Qm, b0v h_x19, b0w h_x19, h_x190, h_x191, b0v hw_wp35, b0w hw_wp35, b4u os_wp35, b0v h_x20, b0w h_x20, h_x200, h_x201, obr_irp36, ltr_irp36, b0b v9]
        exact hK _ _ ⟨(.rs iqp34 0 (List.length all_9)), s1, s2, s3, (by first | (simp only [go_sem, s9, lA9, mA9]; done) | rfl), s10, (c7l Q18 h_x19 hw_wp35 (by simp only [go_sem, b08 Q18, Q15, Qm, b2j Q18 hw_wp35, b0c (b2j Q18 hw_wp35), lA9, mA9]) (by simp only [List.length_set]) (by intro j hj hne hl; first | rfl | simp only [go_sem, hne, hl, Qm]) (by first | omega | exact Nat.le_refl _ | (simp only [go_sem, nxs] <;> omega)))⟩
       ·try clear s1 s2 s3 s9 s10 s29 Q18 Q15 Qm
        rintro t h ⟨v9_2, s1, s2, s3, s9, s10, Q18⟩
        simp only [b0m, b0n]
        refine hK8 _ _ ?_
        refine b1o fun K hK => ?_
        simp only [go_sem, s10, b0b v9, b0b v9_2]
        refine hK _ _ ?_
        clear hK K
        simp only [b0m, b0n]
        obtain rfl := sI9 hm1
        refine ⟨_, rfl, ?_⟩
        exact ⟨v9_2, s1, s2, s3, s9, (by first | (simp only [go_sem, s10, lA9, mA9]; done) | rfl), Q18⟩
theorem d06 (hf : Has O "newel/halls.Need" x_halls_Need) (c3o : c4v O) (b9f : c2d O) (b9d : c2c O) : c74 O := by
 intro h_ comb r hm0
 unfold b6d at hm0
 refine b2u hf rfl (b0f (.agg _ (b0f (b0y fun a _ => b2n a) (b0f (b0y fun a _ => b2m a) (b0f (b0y fun a _ => b2q a) (b0f (b0k _) b03))))) (b0f (b0k _) b03)) (.tup _ (b0f (b0k _) (b0f (b0k _) b03))) ?_
 refine b2p (fun t h => t 0 = .agg [.fs 5 (List.map b0q h_.Combs), .fs 3 (List.map b0p h_.Trains), .fs 3 (List.map b0o h_.Shifts), I h_.Until] ∧ t 1 = I comb) ⟨rfl, rfl⟩ fun t h ⟨s0, s1⟩ => ?_
 simp only [x_halls_Need]
 refine b0e fun K hK => ?_
 simp only [go_sem, s0]
 refine hK _ _ ?_
 clear hK K
 refine b04 ?_
 obtain ⟨y2, h_y2, hm0⟩ := b0j hm0
 refine b0e fun K hK => ?_
 simp only [go_sem, s1]
 refine g9y ?_ (b0f (.agg _ (b0f (b0y fun a _ => b2n a) (b0f (b0y fun a _ => b2m a) (b0f (b0y fun a _ => b2q a) (b0f (b0k _) b03))))) (b0f (b0k _) (b0f (b0k _) b03))) (c3o h_ comb ([]) _ h_y2) ?_
 ·exact .cons (.refl _ (.agg _ (b0f (b0y fun a _ => b2n a) (b0f (b0y fun a _ => b2m a) (b0f (b0y fun a _ => b2q a) (b0f (b0k _) b03)))))) (.cons (.refl _ (b0k _)) (.cons (.nil _) (.nil)))
 simp only [go_sem, s1]
 refine hK _ _ ?_
 clear hK K
 refine b04 ?_
 refine b0e fun K hK => ?_
 simp only [go_sem]
 refine hK _ _ ?_
 clear hK K
 refine b0x fun K3 hK3 => ?_
 simp only [go_sem]
 refine b0u (fun hc4 => ?_) (fun hc4 => ?_)
 ·rw [b1b hc4] at hm0
  refine b0e fun K hK => ?_
  simp only [go_sem]
  refine hK _ _ ?_
  clear hK K
  simp only [b1k, b1m, b1l, b1n]
  obtain rfl := sI9 hm0
  exact b4r (by simp only [go_sem, lA9, mA9]) (by simp only [go_sem, lA9, mA9]) (b0k _) (b0k _)
 ·rw [b1a hc4] at hm0
  simp only [b07, b0m, b0n]
  refine hK3 _ _ ?_
  obtain ⟨y9, h_y9, hm0⟩ := b0j hm0
  obtain ⟨y10, h_y10, hm0⟩ := b0j hm0
  obtain ⟨x11, h_x11, hm0⟩ := b0j hm0
  have h_x110 := b06 h_x11
  have h_x111 := b09 h_x11
  obtain ⟨x12, h_x12, hm0⟩ := b0j hm0
  have h_x120 := b06 h_x12
  have h_x121 := b09 h_x12
  refine b2t (fun t h => t 2 = .fp [.fs 5 (List.map b0q h_.Combs), .fs 3 (List.map b0p h_.Trains), .fs 3 (List.map b0o h_.Shifts), I h_.Until] 0 ∧ t 7 = .fp [.fs 1 (List.map eI x11.rates), .fs 1 (List.map eI x11.flow), .fs 1 (List.map eI x11.most), .fs 1 (List.map b00 x11.come)] 0 ∧ t 8 = I x12.Limit) (fun K hK => ?_) ?_
  ·simp only [go_sem, s1, b0v h_x11, b0w h_x11, h_x110, h_x111, b0v h_x12, b0w h_x12, h_x120, h_x121]
   refine c05 (b9f h_ _  _ h_y9) ?_
   rintro rv_y9 hq_y9 ⟨rh_y9, rw_y9, fr_y9, fx_y9, ge_y9⟩
   simp only [go_sem, s1, b0v h_x11, b0w h_x11, h_x110, h_x111, b0v h_x12, b0w h_x12, h_x120, h_x121]
   refine c05 (b9d h_ y9 rv_y9 rh_y9 _ rw_y9 _ h_y10) ?_
   rintro _ hq_y10 ⟨rfl, fr_y10, fx_y10⟩
   simp only [go_sem, s1, b0v h_x11, b0w h_x11, h_x110, h_x111, b0v h_x12, b0w h_x12, h_x120, h_x121]
   exact hK _ _ ⟨(by first | (simp only [go_sem, lA9, mA9]; done) | rfl), (by first | (simp only [go_sem, lA9, mA9]; done) | rfl), (by first | (simp only [go_sem, lA9, mA9]; done) | rfl)⟩
  ·rintro t h ⟨s2, s7, s8⟩
   refine b0e fun K hK => ?_
   simp only [go_sem]
   refine hK _ _ ?_
   clear hK K
   refine b04 ?_
   refine b0e fun K hK => ?_
   simp only [go_sem, s2]
   refine hK _ _ ?_
   clear hK K
   refine b0x fun K13 hK13 => ?_
   have J14 : ∀ (need_9 : Int) (t : Slots) (h : Heap), t 9 = I need_9 → c5w need_9 = some r → K13 t h := by
    intro need_9 t h s9 hm0
    refine hK13 _ _ ?_
    unfold c5w at hm0
    refine b04 ?_
    refine b0e fun K hK => ?_
    simp only [go_sem, s9]
    refine hK _ _ ?_
    clear hK K
    refine b0x fun K15 hK15 => ?_
    simp only [go_sem]
    refine b0u (fun hc16 => ?_) (fun hc16 => ?_)
    ·rw [b1b hc16] at hm0
     refine b0e fun K hK => ?_
     simp only [go_sem]
     refine hK _ _ ?_
     clear hK K
     simp only [b1k, b1m, b1l, b1n]
     obtain rfl := sI9 hm0
     exact b4r (by simp only [go_sem, lA9, mA9]) (by simp only [go_sem, lA9, mA9]) (b0k _) (b0k _)
    ·rw [b1a hc16] at hm0
     simp only [b07, b0m, b0n]
     refine hK15 _ _ ?_
     refine b0e fun K hK => ?_
     simp only [go_sem, s9]
     refine hK _ _ ?_
     clear hK K
     simp only [b1k, b1m, b1l, b1n]
     obtain rfl := sI9 hm0
     exact b4r (by simp only [go_sem, lA9, mA9]) (by simp only [go_sem, lA9, mA9]) (b0k _) (b0k _)
   simp only [b1c]
   obtain ⟨b17, hl17, hm0⟩ := b0j hm0
   refine b2b hl17 (fun | (need_9, x_33), t, h => t 2 = .fp [.fs 5 (List.map b0q h_.Combs), .fs 3 (List.map b0p h_.Trains), .fs 3 (List.map b0o h_.Shifts), I h_.Until] 0 ∧ t 7 = .fp [.fs 1 (List.map eI x11.rates), .fs 1 (List.map eI x11.flow), .fs 1 (List.map eI x11.most), .fs 1 (List.map b00 x11.come)] 0 ∧ t 8 = I x12.Limit ∧ t 9 = I need_9 ∧ t 32 = I h_.Until ∧ t 33 = I x_33) ?_ ?_
   ·exact ⟨s2, s7, s8, (by first | (simp only [go_sem, lA9, mA9]; done) | rfl), (by first | (simp only [go_sem, lA9, mA9]; done) | rfl), (by first | (simp only [go_sem, lA9, mA9]; done) | rfl)⟩
   ·rintro ⟨need_9, x_33⟩ o t h ⟨s2, s7, s8, s9, s32, s33⟩ hm1 hb17
    simp only [c0s] at hm1
    rw [g1b]
    refine b0e fun K hK => ?_
    simp only [go_sem, s32, s33]
    refine hK _ _ ?_
    clear hK K
    refine b0x fun K18 hK18 => ?_
    simp only [go_sem]
    refine b0u (fun hc19 => ?_) (fun hc19 => ?_)
    ·rw [b1b hc19] at hm1
     simp only [b07, b0m, b0n]
     refine hK18 _ _ ?_
     refine b0x fun K20 hK20 => ?_
     have J21 : ∀ (need_9_1 : Int) (t : Slots) (h : Heap), t 2 = .fp [.fs 5 (List.map b0q h_.Combs), .fs 3 (List.map b0p h_.Trains), .fs 3 (List.map b0o h_.Shifts), I h_.Until] 0 → t 7 = .fp [.fs 1 (List.map eI x11.rates), .fs 1 (List.map eI x11.flow), .fs 1 (List.map eI x11.most), .fs 1 (List.map b00 x11.come)] 0 → t 8 = I x12.Limit → t 9 = I need_9_1 → t 32 = I h_.Until → t 33 = I x_33 → c5x x_33 need_9_1 = some o → K20 t h := by
      intro need_9_1 t h s2 s7 s8 s9 s32 s33 hm1
      refine hK20 _ _ ?_
      unfold c5x at hm1
      refine b1o fun K hK => ?_
      simp only [go_sem, s33]
      refine hK _ _ ?_
      clear hK K
      simp only [b0m, b0n]
      obtain rfl := sI9 hm1
      refine ⟨_, rfl, ?_⟩
      exact ⟨s2, s7, s8, s9, s32, (by first | (simp only [go_sem, s33, lA9, mA9]; done) | rfl)⟩
     simp only [b1c]
     refine b0e fun K hK => ?_
     simp only [go_sem, s33]
     refine hK _ _ ?_
     clear hK K
     refine b04 ?_
     obtain ⟨x24, h_x24, hm1⟩ := b0j hm1
     have h_x240 := b06 h_x24
     have h_x241 := b09 h_x24
     obtain ⟨x25, h_x25, hm1⟩ := b0j hm1
     have h_x250 := b06 h_x25
     have h_x251 := b09 h_x25
     refine b0e fun K hK => ?_
     simp only [go_sem, s7, s8, b0v h_x24, b0w h_x24, h_x240, h_x241, b0v h_x25, b0w h_x25, h_x250, h_x251]
     refine hK _ _ ?_
     clear hK K
     refine b0x fun K26 hK26 => ?_
     simp only [go_sem]
     refine b0u (fun hc27 => ?_) (fun hc27 => ?_)
     ·rw [b1b hc27] at hm1
      refine b0e fun K hK => ?_
      simp only [go_sem]
      refine hK _ _ ?_
      clear hK K
      simp only [b1k, b1m, b1l, b1n]
      obtain rfl := sI9 hm1
      obtain rfl := hb17 _ rfl
      try dsimp only at hm0
      obtain rfl := sI9 hm0
      exact b4r (by simp only [go_sem, lA9, mA9]) (by simp only [go_sem, lA9, mA9]) (b0k _) (b0k _)
     ·rw [b1a hc27] at hm1
      simp only [b07, b0m, b0n]
      refine hK26 _ _ ?_
      refine b0e fun K hK => ?_
      simp only [go_sem]
      refine hK _ _ ?_
      clear hK K
      simp only [b1c]
      obtain ⟨b28, hl28, hm1⟩ := b0j hm1
      refine b2b hl28 (fun | (need_9_1, t_11), t, h => t 2 = .fp [.fs 5 (List.map b0q h_.Combs), .fs 3 (List.map b0p h_.Trains), .fs 3 (List.map b0o h_.Shifts), I h_.Until] 0 ∧ t 7 = .fp [.fs 1 (List.map eI x11.rates), .fs 1 (List.map eI x11.flow), .fs 1 (List.map eI x11.most), .fs 1 (List.map b00 x11.come)] 0 ∧ t 8 = I x12.Limit ∧ t 9 = I need_9_1 ∧ t 10 = I x_33 ∧ t 11 = I t_11 ∧ t 32 = I h_.Until ∧ t 33 = I x_33) ?_ ?_
      ·exact ⟨s2, s7, s8, s9, (by first | (simp only [go_sem, lA9, mA9]; done) | rfl), (by first | (simp only [go_sem, lA9, mA9]; done) | rfl), s32, s33⟩
      ·rintro ⟨need_9_1, t_11⟩ o t h ⟨s2, s7, s8, s9, s10, s11, s32, s33⟩ hm2 hb28
       simp only [c0r] at hm2
       rw [g1a]
       refine b04 ?_
       refine b0e fun K hK => ?_
       simp only [go_sem, s2, s11]
       refine hK _ _ ?_
       clear hK K
       refine b0x fun K29 hK29 => ?_
       simp only [go_sem]
       refine b0u (fun hc30 => ?_) (fun hc30 => ?_)
       ·rw [b1b hc30] at hm2
        simp only [b07, b0m, b0n]
        refine hK29 _ _ ?_
        refine b0x fun K31 hK31 => ?_
        simp only [b1c]
        obtain ⟨x35, h_x35, hm2⟩ := b0j hm2
        have h_x350 := b06 h_x35
        have h_x351 := b09 h_x35
        obtain ⟨x36, h_x36, hm2⟩ := b0j hm2
        have h_x360 := b06 h_x36
        have h_x361 := b09 h_x36
        obtain ⟨q37, h_q37, hm2⟩ := b0j hm2
        refine b1o fun K hK => ?_
        simp only [go_sem, s7, s8, s9, s10, s11, b0v h_x35, b0w h_x35, h_x350, h_x351, b0v h_x36, b0w h_x36, h_x360, h_x361, d6w h_q37]
        refine hK _ _ ?_
        clear hK K
        simp only [b0m, b0n]
        refine hK31 _ _ ?_
        refine b1o fun K hK => ?_
        simp only [go_sem, s11]
        refine hK _ _ ?_
        clear hK K
        simp only [b0m, b0n]
        obtain rfl := sI9 hm2
        refine ⟨_, rfl, ?_⟩
        exact ⟨s2, s7, s8, (by first | (simp only [go_sem, s9, lA9, mA9]; done) | rfl), s10, (by first | (simp only [go_sem, s11, lA9, mA9]; done) | rfl), s32, s33⟩
       ·rw [b1a hc30] at hm2
        simp only [b1z, b2a, b19, b11, b0m, b0n, Nat.reduceEqDiff, nF9]
        obtain rfl := sI9 hm2
        obtain rfl := hb28 _ rfl
        try dsimp only at hm1
        exact J21 need_9_1 _ _ s2 s7 s8 s9 s32 s33 hm1
    ·rw [b1a hc19] at hm1
     simp only [b1z, b2a, b19, b11, b0m, b0n, Nat.reduceEqDiff, nF9]
     obtain rfl := sI9 hm1
     obtain rfl := hb17 _ rfl
     try dsimp only at hm0
     exact J14 need_9 _ _ s9 hm0
theorem d07 (hf : Has O "newel/halls.Over" x_halls_Over) (c3m : c4t O) (b9f : c2d O) (b9d : c2c O) (c3p : c4x O) : c75 O := by
 intro h_ r hm0
 unfold c3a at hm0
 refine b2u hf rfl (b0f (.agg _ (b0f (b0y fun a _ => b2n a) (b0f (b0y fun a _ => b2m a) (b0f (b0y fun a _ => b2q a) (b0f (b0k _) b03))))) b03) (.tup _ (b0f (b0y fun a _ => c0m a) (b0f (b0k _) b03))) ?_
 refine b2p (fun t h => t 0 = .agg [.fs 5 (List.map b0q h_.Combs), .fs 3 (List.map b0p h_.Trains), .fs 3 (List.map b0o h_.Shifts), I h_.Until]) rfl fun t h s0 => ?_
 simp only [x_halls_Over]
 refine b0e fun K hK => ?_
 simp only [go_sem, s0]
 refine hK _ _ ?_
 clear hK K
 refine b04 ?_
 obtain ⟨y2, h_y2, hm0⟩ := b0j hm0
 refine b0e fun K hK => ?_
 simp only [go_sem]
 refine b1u (c3m h_ _ h_y2) ?_
 simp only [go_sem]
 refine hK _ _ ?_
 clear hK K
 refine b04 ?_
 refine b0e fun K hK => ?_
 simp only [go_sem]
 refine hK _ _ ?_
 clear hK K
 refine b0x fun K3 hK3 => ?_
 simp only [go_sem]
 refine b0u (fun hc4 => ?_) (fun hc4 => ?_)
 ·rw [b1b hc4] at hm0
  refine b0e fun K hK => ?_
  simp only [go_sem]
  refine hK _ _ ?_
  clear hK K
  simp only [b1k, b1m, b1l, b1n]
  obtain rfl := sI9 hm0
  exact g6f (v := .v (.slice none 0 0)) (u := I y2) (by simp only [go_sem, lA9, mA9]) (by simp only [go_sem, lA9, mA9]) (.nil _) (.refl _ (b0k _))
 ·rw [b1a hc4] at hm0
  simp only [b07, b0m, b0n]
  refine hK3 _ _ ?_
  obtain ⟨y8, h_y8, hm0⟩ := b0j hm0
  obtain ⟨y9, h_y9, hm0⟩ := b0j hm0
  obtain ⟨y10, h_y10, hm0⟩ := b0j hm0
  refine b2t (fun t h => t 2 = .fs 2 (List.map b35 y10) ∧ t 3 = I 0) (fun K hK => ?_) ?_
  ·simp only [go_sem]
   refine c05 (b9f h_ _  _ h_y8) ?_
   rintro rv_y8 hq_y8 ⟨rh_y8, rw_y8, fr_y8, fx_y8, ge_y8⟩
   simp only [go_sem]
   refine c05 (b9d h_ y8 rv_y8 rh_y8 _ rw_y8 _ h_y9) ?_
   rintro _ hq_y9 ⟨rfl, fr_y9, fx_y9⟩
   simp only [go_sem]
   refine b1u (c3p h_ y9 _ h_y10) ?_
   simp only [go_sem]
   exact hK _ _ ⟨(by first | (simp only [go_sem, lA9, mA9]; done) | rfl), (by first | (simp only [go_sem, lA9, mA9]; done) | rfl)⟩
  ·rintro t h ⟨s2, s3⟩
   simp only [b1k, b1m, b1l, b1n]
   obtain rfl := sI9 hm0
   exact b4r (by simp only [go_sem, s2, s3, lA9, mA9]) (by simp only [go_sem, s2, s3, lA9, mA9]) (b0y fun a _ => c0m a) (b0k _)
theorem b9d (hf : Has O "newel/halls.bounds" x_halls_bounds) (d08 : c76 O) (d03 : c71 O) : c2c O := by
 intro h_ open_ v_1 hs_1 h0 rr_p1 r hm0
 unfold b6e at hm0
 refine d58 hf rfl ?_
 refine b2p (fun t h => t 0 = .agg [.fs 5 (List.map b0q h_.Combs), .fs 3 (List.map b0p h_.Trains), .fs 3 (List.map b0o h_.Shifts), I h_.Until] ∧ t 1 = v_1 ∧ RR h v_1 hs_1 1 eI open_ ∧ (∀ j, j < h0.nx → h.ob j = h0.ob j) ∧ h0.nx ≤ h.nx) ⟨rfl, rfl, rr_p1, fun _ _ => rfl, Nat.le_refl _⟩ fun t h ⟨s0, s1, rr_p1, fr, fx⟩ => ?_
 simp only [x_halls_bounds]
 refine b0e fun K hK => ?_
 simp only [go_sem, s0]
 refine hK _ _ ?_
 clear hK K
 refine b0e fun K hK => ?_
 simp only [go_sem]
 refine hK _ _ ?_
 clear hK K
 refine b04 ?_
 refine b0e fun K hK => ?_
 simp only [go_sem]
 refine hK _ _ ?_
 clear hK K
 refine b0x fun K1 hK1 => ?_
 have J2 : ∀ (all_5 : List halls_bound) (v5 : AV) (t : Slots) (h : Heap), t 5 = v5 → b0l h v5 1 (List.map b24 all_5) → (∀ j, j < h0.nx → h.ob j = h0.ob j) → h0.nx ≤ h.nx → (∀ j, ¬b0a v5 j → h0.nx ≤ j) → c3b all_5 = some r → K1 t h := by
  intro all_5 v5 t h s5 Qc fr fx Qo hm0
  refine hK1 _ _ ?_
  unfold c3b at hm0
  refine b04 ?_
  refine c5l (s := 5) (v := v5) (f := b24) (l := all_5) (by simp only [go_sem, s5, b0r Qc, lA9, mA9]) (b1j Qc (by intro j hj hl; first | rfl | simp only [go_sem, hl]) (by first | omega | exact Nat.le_refl _ | (simp only [go_sem, nxs] <;> omega))) d4n j19 ?_
  skip
  refine b0e fun K hK => ?_
  simp only [go_sem, s5, b0b v5]
  refine hK _ _ ?_
  clear hK K
  simp only [b1k, b1m, b1l, b1n]
  obtain rfl := sI9 hm0
  exact d95 (Post := fun v h => v = .fs 1 (List.map b24 all_5) ∧ (∀ j, j < h0.nx → h.ob j = h0.ob j) ∧ h0.nx ≤ h.nx) (v := .fs 1 (List.map b24 all_5)) (by simp only [go_sem, b0r Qc, lA9, mA9]) ⟨rfl, (by intro j hj; first | exact fr j hj | (refine Eq.trans ?_ (fr j hj); first | rfl | simp only [go_sem, Nat.lt_of_lt_of_le hj fx, b5w Qo hj, b2z Qc (b5w Qo hj), c9j Qc (b5w Qo hj)])), (by first | exact fx | omega | (simp only [go_sem, nxs] <;> omega))⟩
 simp only [b1c]
 obtain ⟨b3, hl3, hm0⟩ := b0j hm0
 refine b2b hl3 (fun | (all_5, x_19), t, h => ∃ v1 : AV, ∃ v5 : AV, t 1 = v1 ∧ t 2 = .fp [.fs 5 (List.map b0q h_.Combs), .fs 3 (List.map b0p h_.Trains), .fs 3 (List.map b0o h_.Shifts), I h_.Until] 0 ∧ t 5 = v5 ∧ t 18 = I (List.length h_.Combs : Int) ∧ t 19 = I x_19 ∧ RR h v1 hs_1 1 eI open_ ∧ b0l h v5 1 (List.map b24 all_5) ∧ (∀ j, ¬b0a v5 j → b0d v1 hs_1 j) ∧ (∀ j, j < h0.nx → h.ob j = h0.ob j) ∧ h0.nx ≤ h.nx ∧ (∀ j, ¬b0a v5 j → h0.nx ≤ j)) ?_ ?_
 ·exact ⟨v_1, (.v (.slice none 0 0)), s1, (by first | (simp only [go_sem, lA9, mA9]; done) | rfl), (by first | (simp only [go_sem, lA9, mA9]; done) | rfl), (by first | (simp only [go_sem, lA9, mA9]; done) | rfl), (by first | (simp only [go_sem, lA9, mA9]; done) | rfl), rr_p1, b6j, c0h, fr, fx, c0h⟩
 ·rintro ⟨all_5, x_19⟩ o t h ⟨v1, v5, s1, s2, s5, s18, s19, Q8, Qc, Qg, fr, fx, Qo⟩ hm1 hb3
  simp only [b81] at hm1
  rw [g1h]
  refine b0e fun K hK => ?_
  simp only [go_sem, s18, s19, b0b v1, b0b v5]
  refine hK _ _ ?_
  clear hK K
  refine b0x fun K4 hK4 => ?_
  simp only [go_sem]
  refine b0u (fun hc5 => ?_) (fun hc5 => ?_)
  ·rw [b1b hc5] at hm1
   simp only [b07, b0m, b0n]
   refine hK4 _ _ ?_
   refine b0x fun K6 hK6 => ?_
   have J7 : ∀ (all_5_1 : List halls_bound) (v1_1 : AV) (i5 : Nat) (t : Slots) (h : Heap), t 1 = v1_1 → t 2 = .fp [.fs 5 (List.map b0q h_.Combs), .fs 3 (List.map b0p h_.Trains), .fs 3 (List.map b0o h_.Shifts), I h_.Until] 0 → t 5 = .rs i5 0 (List.length all_5_1) → t 18 = I (List.length h_.Combs : Int) → t 19 = I x_19 → RR h v1_1 hs_1 1 eI open_ → h.ob i5 = some (1, List.map b24 all_5_1) → i5 < h.nx → b0d v1_1 hs_1 i5 → (∀ j, j < h0.nx → h.ob j = h0.ob j) → h0.nx ≤ h.nx → h0.nx ≤ i5 → c0y x_19 all_5_1 = some o → K6 t h := by
    try clear s1 s2 s5 s18 s19 Q8 Qc Qg fr fx Qo
    intro all_5_1 v1_1 i5 t h s1 s2 s5 s18 s19 Q8 Q17 Qz Q1u fr fx Qo hm1
    refine hK6 _ _ ?_
    unfold c0y at hm1
    refine b1o fun K hK => ?_
    simp only [go_sem, s19, Qz, b0b v1, b0b v5, b0b v1_1]
    refine hK _ _ ?_
    clear hK K
    simp only [b0m, b0n]
    obtain rfl := sI9 hm1
    refine ⟨_, rfl, ?_⟩
    exact ⟨v1_1, (.rs i5 0 (List.length all_5_1)), s1, s2, (by first | exact s5 | simp only [go_sem, s5, lA9, mA9]), s18, (by first | (simp only [go_sem, s19, lA9, mA9]; done) | rfl), Q8, (b3i (by simp only [go_sem, Q17, Qz, lA9, mA9]) (by first | rfl | simp only [go_sem, lA9, mA9]) (by simp only [go_sem, Qz])), (c0i Q1u), fr, fx, (c5s Qo)⟩
   simp only [b1c]
   refine b0e fun K hK => ?_
   simp only [go_sem, s19, b0b v1, b0b v5]
   refine hK _ _ ?_
   clear hK K
   refine b0e fun K hK => ?_
   simp only [go_sem, b0b v1, b0b v5]
   refine hK _ _ ?_
   clear hK K
   refine b04 ?_
   refine b0e fun K hK => ?_
   simp only [go_sem, s2, b0b v1, b0b v5]
   refine hK _ _ ?_
   clear hK K
   refine b0x fun K8 hK8 => ?_
   have J9 : ∀ (b_7_0 : List Int) (b_7_3 : List (List Int)) (v1_1 : AV) (v5_1 : AV) (i7 : Nat) (i7_1 : Nat) (i7_2 : Nat) (v7 : AV) (t : Slots) (h : Heap), t 1 = v1_1 → t 2 = .fp [.fs 5 (List.map b0q h_.Combs), .fs 3 (List.map b0p h_.Trains), .fs 3 (List.map b0o h_.Shifts), I h_.Until] 0 → t 5 = v5_1 → t 6 = I x_19 → t 7 = .rp i7 0 0 → t 18 = I (List.length h_.Combs : Int) → t 19 = I x_19 → RR h v1_1 hs_1 1 eI open_ → b0l h v5_1 1 (List.map b24 all_5) → h.ob i7 = some (4, [[.rs i7_1 0 (List.length b_7_0), .rs i7_2 0 (List.length ([0])), .v (.slice none 0 0), v7]]) → i7 < h.nx → h.ob i7_1 = some (1, List.map eI b_7_0) → i7_1 < h.nx → h.ob i7_2 = some (1, List.map eI ([0])) → i7_2 < h.nx → b0l h v7 1 (List.map b00 b_7_3) → (∀ j, ¬b0a v5_1 j → b0d v1_1 hs_1 j) → b0d v1_1 hs_1 i7 → b0d v1_1 hs_1 i7_1 → b0d v1_1 hs_1 i7_2 → (∀ j, ¬b0a v7 j → b0d v1_1 hs_1 j) → b0a v5_1 i7 → b0a v5_1 i7_1 → b0a v5_1 i7_2 → (∀ j, ¬b0a v5_1 j → b0a v7 j) → ¬i7 = i7_1 → ¬i7 = i7_2 → b0a v7 i7 → ¬i7_1 = i7_2 → b0a v7 i7_1 → b0a v7 i7_2 → (∀ j, j < h0.nx → h.ob j = h0.ob j) → h0.nx ≤ h.nx → (∀ j, ¬b0a v5_1 j → h0.nx ≤ j) → h0.nx ≤ i7 → h0.nx ≤ i7_1 → h0.nx ≤ i7_2 → (∀ j, ¬b0a v7 j → h0.nx ≤ j) → c00 h_ open_ all_5 x_19 b_7_0 b_7_3 = some o → K8 t h := by
    try clear s1 s2 s5 s18 s19 Q8 Qc Qg fr fx Qo
    intro b_7_0 b_7_3 v1_1 v5_1 i7 i7_1 i7_2 v7 t h s1 s2 s5 s6 s7 s18 s19 Q8 Qc Qf Q0 Qh Q2 Qi Q1 Qa Qg Q3 Q4 Q5 Qn Qb Qd Qe Qy Q6 Q7 Qj Q9 Qk Ql fr fx Qo Qt Qv Qw Qu hm1
    refine hK8 _ _ ?_
    unfold c00 at hm1
    refine b04 ?_
    refine b0e fun K hK => ?_
    simp only [go_sem, s2, Q0, Q2, Q1, b0b v1, b0b v5, b0b v1_1, b0b v5_1, b0b v7]
    refine hK _ _ ?_
    clear hK K
    refine b0x fun K10 hK10 => ?_
    have J11 : ∀ (b_7_1 : List Int) (b_7_2 : List Int) (v1_2 : AV) (i7_3 : Nat) (v7_1 : AV) (v7_2 : AV) (t : Slots) (h : Heap), t 1 = v1_2 → t 2 = .fp [.fs 5 (List.map b0q h_.Combs), .fs 3 (List.map b0p h_.Trains), .fs 3 (List.map b0o h_.Shifts), I h_.Until] 0 → t 5 = v5_1 → t 7 = .rp i7 0 0 → t 18 = I (List.length h_.Combs : Int) → t 19 = I x_19 → RR h v1_2 hs_1 1 eI open_ → b0l h v5_1 1 (List.map b24 all_5) → h.ob i7 = some (4, [[.rs i7_1 0 (List.length b_7_0), .rs i7_3 0 (List.length b_7_1), v7_1, v7_2]]) → i7 < h.nx → h.ob i7_1 = some (1, List.map eI b_7_0) → i7_1 < h.nx → h.ob i7_3 = some (1, List.map eI b_7_1) → i7_3 < h.nx → b0l h v7_1 1 (List.map eI b_7_2) → b0l h v7_2 1 (List.map b00 b_7_3) → (∀ j, ¬b0a v5_1 j → b0d v1_2 hs_1 j) → b0d v1_2 hs_1 i7 → b0d v1_2 hs_1 i7_1 → b0d v1_2 hs_1 i7_3 → (∀ j, ¬b0a v7_1 j → b0d v1_2 hs_1 j) → (∀ j, ¬b0a v7_2 j → b0d v1_2 hs_1 j) → b0a v5_1 i7 → b0a v5_1 i7_1 → b0a v5_1 i7_3 → (∀ j, ¬b0a v5_1 j → b0a v7_1 j) → (∀ j, ¬b0a v5_1 j → b0a v7_2 j) → ¬i7 = i7_1 → ¬i7 = i7_3 → b0a v7_1 i7 → b0a v7_2 i7 → ¬i7_1 = i7_3 → b0a v7_1 i7_1 → b0a v7_2 i7_1 → b0a v7_1 i7_3 → b0a v7_2 i7_3 → (∀ j, ¬b0a v7_1 j → b0a v7_2 j) → (∀ j, j < h0.nx → h.ob j = h0.ob j) → h0.nx ≤ h.nx → (∀ j, ¬b0a v5_1 j → h0.nx ≤ j) → h0.nx ≤ i7 → h0.nx ≤ i7_1 → h0.nx ≤ i7_3 → (∀ j, ¬b0a v7_1 j → h0.nx ≤ j) → (∀ j, ¬b0a v7_2 j → h0.nx ≤ j) → c0t all_5 x_19 b_7_0 b_7_3 b_7_1 b_7_2 = some o → K10 t h := by
     try clear s1 s2 s5 s6 s7 s18 s19 Q8 Qc Qf Q0 Qh Q2 Qi Q1 Qa Qg Q3 Q4 Q5 Qn Qb Qd Qe Qy Q6 Q7 Qj Q9 Qk Ql fr fx Qo Qt Qv Qw Qu
     intro b_7_1 b_7_2 v1_2 i7_3 v7_1 v7_2 t h s1 s2 s5 s7 s18 s19 Q8 Qc Qf Q0 Qh Q2 Qi Q1 Qa Qx Qg Q3 Q4 Q5 Qn Q16 Qb Qd Qe Qy Q19 Q6 Q7 Qj Q10 Q9 Qk Q11 Ql Q12 Q1e fr fx Qo Qt Qv Qw Qu Q1a hm1
     refine hK10 _ _ ?_
     unfold c0t at hm1
     refine c86 (s := 7) (v := .rp i7 0 0) (y := .fp [.fs 1 (List.map eI b_7_0), .fs 1 (List.map eI b_7_1), .fs 1 (List.map eI b_7_2), .fs 1 (List.map b00 b_7_3)] 0) (fun j => j == i7 || j == i7_1 || j == i7_3 || b8i v7_1 j || b8i v7_2 j) (by simp only [go_sem, s7, b08 Q8, b0r Qc, Qf, Q0, Qh, Q2, Qi, Q1, b0r Qa, b0r Qx, b0h Q3, b0h Q4, b0h Q5, Qb, Qd, Qe, Q6, b0c Q6, Q7, b0c Q7, Qj, Q10, Q9, b0c Q9, Qk, Q11, Ql, Q12, lA9, mA9]) (d4o (id := i7) (sz := 4) (xs := [.rs i7_1 0 (List.length b_7_0), .rs i7_3 0 (List.length b_7_1), v7_1, v7_2]) (by rw [c32 (by simp)]; simp only [go_sem, b08 Q8, b0r Qc, Qf, Q0, Qh, Q2, Qi, Q1, b0r Qa, b0r Qx, b0h Q3, b0h Q4, b0h Q5, Qb, Qd, Qe, Q6, b0c Q6, Q7, b0c Q7, Qj, Q10, Q9, b0c Q9, Qk, Q11, Ql, Q12, lA9, mA9]) (.cons (b6u (f := eI) (l := b_7_0) (id := i7_1) (by rw [c32 (by simp)]; simp only [go_sem, b08 Q8, b0r Qc, Qf, Q0, Qh, Q2, Qi, Q1, b0r Qa, b0r Qx, b0h Q3, b0h Q4, b0h Q5, Qb, Qd, Qe, Q6, b0c Q6, Q7, b0c Q7, Qj, Q10, Q9, b0c Q9, Qk, Q11, Ql, Q12, lA9, mA9]) (by first | rfl | simp only [go_sem, lA9, mA9]) b3f b6x) (.cons (b6u (f := eI) (l := b_7_1) (id := i7_3) (by rw [c32 (by simp)]; simp only [go_sem, b08 Q8, b0r Qc, Qf, Q0, Qh, Q2, Qi, Q1, b0r Qa, b0r Qx, b0h Q3, b0h Q4, b0h Q5, Qb, Qd, Qe, Q6, b0c Q6, Q7, b0c Q7, Qj, Q10, Q9, b0c Q9, Qk, Q11, Ql, Q12, lA9, mA9]) (by first | rfl | simp only [go_sem, lA9, mA9]) b3f b6x) (.cons (b5j (f := eI) (l := b_7_2) (d9m (b1j Qa (by intro j hj hl; first | rfl | simp only [go_sem, hl, b0h (Qn j hj), b20 Qy j hj, b1g hj Qj, b1g hj Qk, b1g hj Ql, Q1e j hj]) (by first | omega | exact Nat.le_refl _ | (simp only [go_sem, nxs] <;> omega))) (by intro j hj; simp [c7w hj])) b3f b6x) (.cons (b5j (f := b00) (l := b_7_3) (d9m (b1j Qx (by intro j hj hl; first | rfl | simp only [go_sem, hl, b0h (Q16 j hj), b20 Q19 j hj, b1g hj Q10, b1g hj Q11, b1g hj Q12, b20 Q1e j hj]) (by first | omega | exact Nat.le_refl _ | (simp only [go_sem, nxs] <;> omega))) (by intro j hj; simp [c7w hj])) b4y c3y) (.nil)))))) (.fp _ _ (b0f (b0y fun a _ => b3f a) (b0f (b0y fun a _ => b3f a) (b0f (b0y fun a _ => b3f a) (b0f (b0y fun a _ => b4y a) b03))))) ?_
     obtain ⟨l13, h_l13, hm1⟩ := b0j hm1
     refine b1o fun K hK => ?_
     simp only [go_sem, s5, s7, Q0, Q2, Q1, Qb, Qd, Qe, oF9, bF9, ne_eq, nF9, and_self, b2z Qa Qj, b2z Qx Q10, b2z Qa Qk, b2z Qx Q11, b2z Qa Ql, b2z Qx Q12, b0b v1, b0b v5, b0b v1_1, b0b v5_1, b0b v7, b0b v1_2, b0b v7_1, b0b v7_2]
     refine b4b (f := b24) (l := all_5) (m := ([(halls_bound.mk b_7_0 b_7_1 b_7_2 b_7_3)])) ?_ ?_ ?_ ?_ h_l13 ?_
     ·exact (b1j Qc (by intro j hj hl; first | rfl | simp only [go_sem, hl, b0h (Qg j hj), b1g hj Qb, b1g hj Qd, b1g hj Qe, Qy j hj, b2z Qa (Qy j hj), Q19 j hj, b2z Qx (Q19 j hj), oF9, bF9, ne_eq, nF9, and_self]) (by first | omega | exact Nat.le_refl _ | (simp only [go_sem, nxs] <;> omega)))
     ·exact (b4l (by simp only [go_sem, oF9, bF9, ne_eq, nF9, and_self, b2z Qa Qj, b2z Qx Q10, b2z Qa Qk, b2z Qx Q11, b2z Qa Ql, b2z Qx Q12, b08 Q8, b0r Qc, Qf, Q0, Qh, Q2, Qi, Q1, b0r Qa, b0r Qx, b0h Q3, b0h Q4, b0h Q5, Qb, Qd, Qe, Q6, b0c Q6, Q7, b0c Q7, Qj, Q10, Q9, b0c Q9, Qk, Q11, Ql, Q12, lA9, mA9]) (by simp only [go_sem, oF9, bF9, ne_eq, nF9, and_self, b2z Qa Qj, b2z Qx Q10, b2z Qa Qk, b2z Qx Q11, b2z Qa Ql, b2z Qx Q12, b08 Q8, b0r Qc, Qf, Q0, Qh, Q2, Qi, Q1, b0r Qa, b0r Qx, b0h Q3, b0h Q4, b0h Q5, Qb, Qd, Qe, Q6, b0c Q6, Q7, b0c Q7, Qj, Q10, Q9, b0c Q9, Qk, Q11, Ql, Q12, lA9, mA9]))
     ·exact (b2v (by first | exact b1d | exact b1e (by first | omega | (simp only [nxs] <;> omega)) | assumption | exact b0z (by assumption) (by first | omega | (simp only [go_sem, nxs] <;> omega))))
     ·exact (fun _ => by simp)
     simp only [go_sem, s5, s7, Q0, Q2, Q1, Qb, Qd, Qe, oF9, bF9, ne_eq, nF9, and_self, b2z Qa Qj, b2z Qx Q10, b2z Qa Qk, b2z Qx Q11, b2z Qa Ql, b2z Qx Q12, b0b v1, b0b v5, b0b v1_1, b0b v5_1, b0b v7, b0b v1_2, b0b v7_1, b0b v7_2]
     refine hK _ _ ?_
     clear hK K
     simp only [b0m, b0n]
     exact J7 l13 v1_2 (nxs h.nx) _ _ s1 s2 (by first | (simp only [go_sem, s5, lA9, mA9]; done) | rfl) s18 s19 (b3n Q8 (by intro j hj  hl; first | rfl | simp only [go_sem, hl, b50 Qg j hj, b3z hj Q3, b3z hj Q4, b3z hj Q5, b50 Qn j hj, b2z Qa (b50 Qn j hj), b50 Q16 j hj, b2z Qx (b50 Q16 j hj), oF9, bF9, ne_eq, nF9, and_self, Q0, Q2, Q1]) (by first | omega | exact Nat.le_refl _ | (simp only [go_sem, nxs] <;> omega))) (by simp only [go_sem, oF9, bF9, ne_eq, nF9, and_self, b0r Qc, Q0, Q2, Q1, b0r Qa, b0r Qx, lA9, mA9]) (by simp only [go_sem]) (by first | assumption | exact b2o Q8 (by first | assumption | omega | (simp only [nxs] <;> omega))) (by intro j hj; first | exact fr j hj | (refine Eq.trans ?_ (fr j hj); first | rfl | simp only [go_sem, Nat.lt_of_lt_of_le hj fx, b5w Qo hj, b6v Qt hj, b6v Qv hj, b6v Qw hj, b5w Qu hj, b2z Qa (b5w Qu hj), c9j Qa (b5w Qu hj), b5w Q1a hj, b2z Qx (b5w Q1a hj), c9j Qx (b5w Q1a hj), oF9, bF9, ne_eq, nF9, and_self])) (by first | exact fx | omega | (simp only [go_sem, nxs] <;> omega)) (by first | assumption | omega | (simp only [nxs] <;> omega)) hm1
    simp only [b1c]
    obtain ⟨b14, hl14, hm1⟩ := b0j hm1
    refine b2b hl14 (fun | (b_7_1, b_7_2, x_122), t, h => ∃ v1_2 : AV, ∃ i7_3 : Nat, ∃ v7_1 : AV, ∃ v7_2 : AV, t 1 = v1_2 ∧ t 2 = .fp [.fs 5 (List.map b0q h_.Combs), .fs 3 (List.map b0p h_.Trains), .fs 3 (List.map b0o h_.Shifts), I h_.Until] 0 ∧ t 5 = v5_1 ∧ t 6 = I x_19 ∧ t 7 = .rp i7 0 0 ∧ t 18 = I (List.length h_.Combs : Int) ∧ t 19 = I x_19 ∧ t 121 = I h_.Until ∧ t 122 = I x_122 ∧ RR h v1_2 hs_1 1 eI open_ ∧ b0l h v5_1 1 (List.map b24 all_5) ∧ h.ob i7 = some (4, [[.rs i7_1 0 (List.length b_7_0), .rs i7_3 0 (List.length b_7_1), v7_1, v7_2]]) ∧ i7 < h.nx ∧ h.ob i7_1 = some (1, List.map eI b_7_0) ∧ i7_1 < h.nx ∧ h.ob i7_3 = some (1, List.map eI b_7_1) ∧ i7_3 < h.nx ∧ b0l h v7_1 1 (List.map eI b_7_2) ∧ b0l h v7_2 1 (List.map b00 b_7_3) ∧ (∀ j, ¬b0a v5_1 j → b0d v1_2 hs_1 j) ∧ b0d v1_2 hs_1 i7 ∧ b0d v1_2 hs_1 i7_1 ∧ b0d v1_2 hs_1 i7_3 ∧ (∀ j, ¬b0a v7_1 j → b0d v1_2 hs_1 j) ∧ (∀ j, ¬b0a v7_2 j → b0d v1_2 hs_1 j) ∧ b0a v5_1 i7 ∧ b0a v5_1 i7_1 ∧ b0a v5_1 i7_3 ∧ (∀ j, ¬b0a v5_1 j → b0a v7_1 j) ∧ (∀ j, ¬b0a v5_1 j → b0a v7_2 j) ∧ ¬i7 = i7_1 ∧ ¬i7 = i7_3 ∧ b0a v7_1 i7 ∧ b0a v7_2 i7 ∧ ¬i7_1 = i7_3 ∧ b0a v7_1 i7_1 ∧ b0a v7_2 i7_1 ∧ b0a v7_1 i7_3 ∧ b0a v7_2 i7_3 ∧ (∀ j, ¬b0a v7_1 j → b0a v7_2 j) ∧ (∀ j, j < h0.nx → h.ob j = h0.ob j) ∧ h0.nx ≤ h.nx ∧ (∀ j, ¬b0a v5_1 j → h0.nx ≤ j) ∧ h0.nx ≤ i7 ∧ h0.nx ≤ i7_1 ∧ h0.nx ≤ i7_3 ∧ (∀ j, ¬b0a v7_1 j → h0.nx ≤ j) ∧ (∀ j, ¬b0a v7_2 j → h0.nx ≤ j)) ?_ ?_
    ·exact ⟨v1_1, i7_2, (.v (.slice none 0 0)), v7, s1, s2, s5, s6, s7, s18, s19, (by first | (simp only [go_sem, lA9, mA9]; done) | rfl), (by first | (simp only [go_sem, lA9, mA9]; done) | rfl), Q8, Qc, Qf, Q0, Qh, Q2, Qi, Q1, b6j, Qa, Qg, Q3, Q4, Q5, c0h, Qn, Qb, Qd, Qe, (by first | exact b38 | exact b39 | assumption | (refine b4a ?_; first | assumption | exact b0z (by assumption) (by first | assumption | omega | (simp only [nxs] <;> omega))) | (refine b2v ?_; first | assumption | exact b0z (by assumption) (by first | assumption | omega | (simp only [nxs] <;> omega)))), Qy, Q6, Q7, (by first | exact b1d | exact b1e (by first | assumption | omega | (simp only [nxs] <;> omega)) | assumption | exact b0z (by assumption) (by first | assumption | omega | (simp only [nxs] <;> omega))), Qj, Q9, (by first | exact b1d | exact b1e (by first | assumption | omega | (simp only [nxs] <;> omega)) | assumption | exact b0z (by assumption) (by first | assumption | omega | (simp only [nxs] <;> omega))), Qk, (by first | exact b1d | exact b1e (by first | assumption | omega | (simp only [nxs] <;> omega)) | assumption | exact b0z (by assumption) (by first | assumption | omega | (simp only [nxs] <;> omega))), Ql, (by first | exact b38 | exact b39 | assumption | (refine b4a ?_; first | assumption | exact b0z (by assumption) (by first | assumption | omega | (simp only [nxs] <;> omega))) | (refine b2v ?_; first | assumption | exact b0z (by assumption) (by first | assumption | omega | (simp only [nxs] <;> omega)))), fr, fx, Qo, Qt, Qv, Qw, c0h, Qu⟩
    ·try clear s1 s2 s5 s6 s7 s18 s19 Q8 Qc Qf Q0 Qh Q2 Qi Q1 Qa Qg Q3 Q4 Q5 Qn Qb Qd Qe Qy Q6 Q7 Qj Q9 Qk Ql fr fx Qo Qt Qv Qw Qu
     rintro ⟨b_7_1, b_7_2, x_122⟩ o t h ⟨v1_2, i7_3, v7_1, v7_2, s1, s2, s5, s6, s7, s18, s19, s121, s122, Q8, Qc, Qf, Q0, Qh, Q2, Qi, Q1, Qa, Qx, Qg, Q3, Q4, Q5, Qn, Q16, Qb, Qd, Qe, Qy, Q19, Q6, Q7, Qj, Q10, Q9, Qk, Q11, Ql, Q12, Q1e, fr, fx, Qo, Qt, Qv, Qw, Qu, Q1a⟩ hm2 hb14
     simp only [b7x] at hm2
     rw [g1g]
     refine b0e fun K hK => ?_
     simp only [go_sem, s121, s122, Q0, Q2, Q1, b0b v1, b0b v5, b0b v1_1, b0b v5_1, b0b v7, b0b v1_2, b0b v7_1, b0b v7_2]
     refine hK _ _ ?_
     clear hK K
     refine b0x fun K15 hK15 => ?_
     simp only [go_sem]
     refine b0u (fun hc16 => ?_) (fun hc16 => ?_)
     ·rw [b1b hc16] at hm2
      simp only [b07, b0m, b0n]
      refine hK15 _ _ ?_
      refine b0x fun K17 hK17 => ?_
      have J18 : ∀ (b_7_1_1 : List Int) (b_7_2_1 : List Int) (v1_3 : AV) (i7_4 : Nat) (i7_5 : Nat) (v7_3 : AV) (t : Slots) (h : Heap), t 1 = v1_3 → t 2 = .fp [.fs 5 (List.map b0q h_.Combs), .fs 3 (List.map b0p h_.Trains), .fs 3 (List.map b0o h_.Shifts), I h_.Until] 0 → t 5 = v5_1 → t 6 = I x_19 → t 7 = .rp i7 0 0 → t 18 = I (List.length h_.Combs : Int) → t 19 = I x_19 → t 121 = I h_.Until → t 122 = I x_122 → RR h v1_3 hs_1 1 eI open_ → b0l h v5_1 1 (List.map b24 all_5) → h.ob i7 = some (4, [[.rs i7_1 0 (List.length b_7_0), .rs i7_4 0 (List.length b_7_1_1), .rs i7_5 0 (List.length b_7_2_1), v7_3]]) → i7 < h.nx → h.ob i7_1 = some (1, List.map eI b_7_0) → i7_1 < h.nx → h.ob i7_4 = some (1, List.map eI b_7_1_1) → i7_4 < h.nx → h.ob i7_5 = some (1, List.map eI b_7_2_1) → i7_5 < h.nx → b0l h v7_3 1 (List.map b00 b_7_3) → (∀ j, ¬b0a v5_1 j → b0d v1_3 hs_1 j) → b0d v1_3 hs_1 i7 → b0d v1_3 hs_1 i7_1 → b0d v1_3 hs_1 i7_4 → b0d v1_3 hs_1 i7_5 → (∀ j, ¬b0a v7_3 j → b0d v1_3 hs_1 j) → b0a v5_1 i7 → b0a v5_1 i7_1 → b0a v5_1 i7_4 → b0a v5_1 i7_5 → (∀ j, ¬b0a v5_1 j → b0a v7_3 j) → ¬i7 = i7_1 → ¬i7 = i7_4 → ¬i7 = i7_5 → b0a v7_3 i7 → ¬i7_1 = i7_4 → ¬i7_1 = i7_5 → b0a v7_3 i7_1 → ¬i7_4 = i7_5 → b0a v7_3 i7_4 → b0a v7_3 i7_5 → (∀ j, j < h0.nx → h.ob j = h0.ob j) → h0.nx ≤ h.nx → (∀ j, ¬b0a v5_1 j → h0.nx ≤ j) → h0.nx ≤ i7 → h0.nx ≤ i7_1 → h0.nx ≤ i7_4 → h0.nx ≤ i7_5 → (∀ j, ¬b0a v7_3 j → h0.nx ≤ j) → c0u x_122 b_7_1_1 b_7_2_1 = some o → K17 t h := by
       try clear s1 s2 s5 s6 s7 s18 s19 s121 s122 Q8 Qc Qf Q0 Qh Q2 Qi Q1 Qa Qx Qg Q3 Q4 Q5 Qn Q16 Qb Qd Qe Qy Q19 Q6 Q7 Qj Q10 Q9 Qk Q11 Ql Q12 Q1e fr fx Qo Qt Qv Qw Qu Q1a
       intro b_7_1_1 b_7_2_1 v1_3 i7_4 i7_5 v7_3 t h s1 s2 s5 s6 s7 s18 s19 s121 s122 Q8 Qc Qf Q0 Qh Q2 Qi Q1 Q1i Q1h Qx Qg Q3 Q4 Q5 Q1j Q16 Qb Qd Qe Q1l Q19 Q6 Q7 Q1m Q10 Q9 Q1n Q11 Q1o Q12 Q1q fr fx Qo Qt Qv Qw Qu Q1a hm2
       refine hK17 _ _ ?_
       unfold c0u at hm2
       refine b1o fun K hK => ?_
       simp only [go_sem, s122, Q0, Q2, Q1, Q1h, b0b v1, b0b v5, b0b v1_1, b0b v5_1, b0b v7, b0b v1_2, b0b v7_1, b0b v7_2, b0b v1_3, b0b v7_3]
       refine hK _ _ ?_
       clear hK K
       simp only [b0m, b0n]
       obtain rfl := sI9 hm2
       refine ⟨_, rfl, ?_⟩
       exact ⟨v1_3, i7_4, (.rs i7_5 0 (List.length b_7_2_1)), v7_3, s1, s2, s5, s6, s7, s18, s19, s121, (by first | (simp only [go_sem, s122, lA9, mA9]; done) | rfl), Q8, Qc, Qf, Q0, Qh, Q2, Qi, Q1, (b3i (by simp only [go_sem, Q1i, Q1h, lA9, mA9]) (by first | rfl | simp only [go_sem, lA9, mA9]) (by simp only [go_sem, Q1h])), Qx, Qg, Q3, Q4, Q5, (c0i Q1j), Q16, Qb, Qd, Qe, (by first | exact b38 | exact b39 | assumption | (refine b4a ?_; first | assumption | exact b0z (by assumption) (by first | assumption | omega | (simp only [nxs] <;> omega))) | (refine b2v ?_; first | assumption | exact b0z (by assumption) (by first | assumption | omega | (simp only [nxs] <;> omega)))), Q19, Q6, Q7, (by first | exact b1d | exact b1e (by first | assumption | omega | (simp only [nxs] <;> omega)) | assumption | exact b0z (by assumption) (by first | assumption | omega | (simp only [nxs] <;> omega))), Q10, Q9, (by first | exact b1d | exact b1e (by first | assumption | omega | (simp only [nxs] <;> omega)) | assumption | exact b0z (by assumption) (by first | assumption | omega | (simp only [nxs] <;> omega))), Q11, (by first | exact b1d | exact b1e (by first | assumption | omega | (simp only [nxs] <;> omega)) | assumption | exact b0z (by assumption) (by first | assumption | omega | (simp only [nxs] <;> omega))), Q12, (by first | exact b38 | exact b39 | assumption | (refine b4a ?_; first | assumption | exact b0z (by assumption) (by first | assumption | omega | (simp only [nxs] <;> omega))) | (refine b2v ?_; first | assumption | exact b0z (by assumption) (by first | assumption | omega | (simp only [nxs] <;> omega)))), fr, fx, Qo, Qt, Qv, Qw, (c5s Qu), Q1a⟩
      simp only [b1c]
      refine b0e fun K hK => ?_
      simp only [go_sem, s122, Q0, Q2, Q1, b0b v1, b0b v5, b0b v1_1, b0b v5_1, b0b v7, b0b v1_2, b0b v7_1, b0b v7_2]
      refine hK _ _ ?_
      clear hK K
      refine b0e fun K hK => ?_
      simp only [go_sem, Q0, Q2, Q1, b0b v1, b0b v5, b0b v1_1, b0b v5_1, b0b v7, b0b v1_2, b0b v7_1, b0b v7_2]
      refine hK _ _ ?_
      clear hK K
      refine b04 ?_
      refine b0e fun K hK => ?_
      simp only [go_sem, Q0, Q2, Q1, b0b v1, b0b v5, b0b v1_1, b0b v5_1, b0b v7, b0b v1_2, b0b v7_1, b0b v7_2]
      refine hK _ _ ?_
      clear hK K
      refine b0x fun K19 hK19 => ?_
      have J20 : ∀ (most_14 : Int) (v7_3 : AV) (t : Slots) (h : Heap), t 1 = v1_2 → t 2 = .fp [.fs 5 (List.map b0q h_.Combs), .fs 3 (List.map b0p h_.Trains), .fs 3 (List.map b0o h_.Shifts), I h_.Until] 0 → t 5 = v5_1 → t 6 = I x_19 → t 7 = .rp i7 0 0 → t 13 = I x_122 → t 14 = I most_14 → t 18 = I (List.length h_.Combs : Int) → t 19 = I x_19 → t 121 = I h_.Until → t 122 = I x_122 → RR h v1_2 hs_1 1 eI open_ → b0l h v5_1 1 (List.map b24 all_5) → h.ob i7 = some (4, [[.rs i7_1 0 (List.length b_7_0), .rs i7_3 0 (List.length b_7_1), v7_1, v7_3]]) → i7 < h.nx → h.ob i7_1 = some (1, List.map eI b_7_0) → i7_1 < h.nx → h.ob i7_3 = some (1, List.map eI b_7_1) → i7_3 < h.nx → b0l h v7_1 1 (List.map eI b_7_2) → b0l h v7_3 1 (List.map b00 b_7_3) → (∀ j, ¬b0a v5_1 j → b0d v1_2 hs_1 j) → b0d v1_2 hs_1 i7 → b0d v1_2 hs_1 i7_1 → b0d v1_2 hs_1 i7_3 → (∀ j, ¬b0a v7_1 j → b0d v1_2 hs_1 j) → (∀ j, ¬b0a v7_3 j → b0d v1_2 hs_1 j) → b0a v5_1 i7 → b0a v5_1 i7_1 → b0a v5_1 i7_3 → (∀ j, ¬b0a v5_1 j → b0a v7_1 j) → (∀ j, ¬b0a v5_1 j → b0a v7_3 j) → ¬i7 = i7_1 → ¬i7 = i7_3 → b0a v7_1 i7 → b0a v7_3 i7 → ¬i7_1 = i7_3 → b0a v7_1 i7_1 → b0a v7_3 i7_1 → b0a v7_1 i7_3 → b0a v7_3 i7_3 → (∀ j, ¬b0a v7_1 j → b0a v7_3 j) → (∀ j, j < h0.nx → h.ob j = h0.ob j) → h0.nx ≤ h.nx → (∀ j, ¬b0a v5_1 j → h0.nx ≤ j) → h0.nx ≤ i7 → h0.nx ≤ i7_1 → h0.nx ≤ i7_3 → (∀ j, ¬b0a v7_1 j → h0.nx ≤ j) → (∀ j, ¬b0a v7_3 j → h0.nx ≤ j) → c0v open_ x_19 b_7_1 b_7_2 x_122 most_14 = some o → K19 t h := by
       try clear s1 s2 s5 s6 s7 s18 s19 s121 s122 Q8 Qc Qf Q0 Qh Q2 Qi Q1 Qa Qx Qg Q3 Q4 Q5 Qn Q16 Qb Qd Qe Qy Q19 Q6 Q7 Qj Q10 Q9 Qk Q11 Ql Q12 Q1e fr fx Qo Qt Qv Qw Qu Q1a
       intro most_14 v7_3 t h s1 s2 s5 s6 s7 s13 s14 s18 s19 s121 s122 Q8 Qc Qf Q0 Qh Q2 Qi Q1 Qa Qx Qg Q3 Q4 Q5 Qn Q16 Qb Qd Qe Qy Q19 Q6 Q7 Qj Q10 Q9 Qk Q11 Ql Q12 Q1e fr fx Qo Qt Qv Qw Qu Q1a hm2
       refine hK19 _ _ ?_
       unfold c0v at hm2
       obtain ⟨l22, h_l22, hm2⟩ := b0j hm2
       refine b0e fun K hK => ?_
       simp only [go_sem, s7, s14, Qf, Q0, Qh, Q2, Qi, Q1, Qb, Qd, Qe, Q6, b0c Q6, Q7, b0c Q7, Qj, Q10, Q9, b0c Q9, Qk, Q11, Ql, Q12, b0b v1, b0b v5, b0b v1_1, b0b v5_1, b0b v7, b0b v1_2, b0b v7_1, b0b v7_2, b0b v7_3]
       refine b4b (f := eI) (l := b_7_2) (m := ([most_14])) ?_ ?_ ?_ ?_ h_l22 ?_
       ·exact (b1j Qa (by intro j hj hl; first | rfl | simp only [go_sem, hl, b0h (Qn j hj), b20 Qy j hj, b1g hj Qj, b1g hj Qk, b1g hj Ql, Q1e j hj]) (by first | omega | exact Nat.le_refl _ | (simp only [go_sem, nxs] <;> omega)))
       ·exact (b4l (by simp only [go_sem, b08 Q8, b0r Qc, Qf, Q0, Qh, Q2, Qi, Q1, b0r Qa, b0r Qx, b0h Q3, b0h Q4, b0h Q5, Qb, Qd, Qe, Q6, b0c Q6, Q7, b0c Q7, Qj, Q10, Q9, b0c Q9, Qk, Q11, Ql, Q12, lA9, mA9]) (by simp only [go_sem, b08 Q8, b0r Qc, Qf, Q0, Qh, Q2, Qi, Q1, b0r Qa, b0r Qx, b0h Q3, b0h Q4, b0h Q5, Qb, Qd, Qe, Q6, b0c Q6, Q7, b0c Q7, Qj, Q10, Q9, b0c Q9, Qk, Q11, Ql, Q12, lA9, mA9]))
       ·exact (b2v (by first | exact b1d | exact b1e (by first | omega | (simp only [nxs] <;> omega)) | assumption | exact b0z (by assumption) (by first | omega | (simp only [go_sem, nxs] <;> omega))))
       ·exact (fun _ => by simp)
       simp only [go_sem, s7, s14, Qf, Q0, Qh, Q2, Qi, Q1, Qb, Qd, Qe, Q6, b0c Q6, Q7, b0c Q7, Qj, Q10, Q9, b0c Q9, Qk, Q11, Ql, Q12, b0b v1, b0b v5, b0b v1_1, b0b v5_1, b0b v7, b0b v1_2, b0b v7_1, b0b v7_2, b0b v7_3]
       refine hK _ _ ?_
       clear hK K
       obtain ⟨x27, h_x27, hm2⟩ := b0j hm2
       have h_x270 := b06 h_x27
       have h_x271 := b09 h_x27
       obtain ⟨x28, h_x28, hm2⟩ := b0j hm2
       have h_x280 := b06 h_x28
       have h_x281 := b09 h_x28
       obtain ⟨iqp946, rfl, Q1f, Q1d⟩ := b6m Q8 h_x28
       obtain ⟨wp947, hw_wp947, os_wp947⟩ := b6l Q8 h_x28
       obtain ⟨x29, h_x29, hm2⟩ := b0j hm2
       have h_x290 := b06 h_x29
       have h_x291 := b09 h_x29
       obtain ⟨irp948, rfl, obr_irp948, ltr_irp948⟩ := b6i os_wp947 h_x29
       obtain ⟨l30, h_l30, hm2⟩ := b0j hm2
       refine b8t (fun t h => ∃ v1_3 : AV, ∃ i7_4 : Nat, ∃ i7_5 : Nat, t 1 = v1_3 ∧ t 2 = .fp [.fs 5 (List.map b0q h_.Combs), .fs 3 (List.map b0p h_.Trains), .fs 3 (List.map b0o h_.Shifts), I h_.Until] 0 ∧ t 5 = v5_1 ∧ t 6 = I x_19 ∧ t 7 = .rp i7 0 0 ∧ t 18 = I (List.length h_.Combs : Int) ∧ t 19 = I x_19 ∧ t 121 = I h_.Until ∧ t 122 = I x_122 ∧ RR h v1_3 hs_1 1 eI open_ ∧ b0l h v5_1 1 (List.map b24 all_5) ∧ h.ob i7 = some (4, [[.rs i7_1 0 (List.length b_7_0), .rs i7_4 0 (List.length l30), .rs i7_5 0 (List.length l22), v7_3]]) ∧ i7 < h.nx ∧ h.ob i7_1 = some (1, List.map eI b_7_0) ∧ i7_1 < h.nx ∧ h.ob i7_4 = some (1, List.map eI l30) ∧ i7_4 < h.nx ∧ h.ob i7_5 = some (1, List.map eI l22) ∧ i7_5 < h.nx ∧ b0l h v7_3 1 (List.map b00 b_7_3) ∧ (∀ j, ¬b0a v5_1 j → b0d v1_3 hs_1 j) ∧ b0d v1_3 hs_1 i7 ∧ b0d v1_3 hs_1 i7_1 ∧ b0d v1_3 hs_1 i7_4 ∧ b0d v1_3 hs_1 i7_5 ∧ (∀ j, ¬b0a v7_3 j → b0d v1_3 hs_1 j) ∧ b0a v5_1 i7 ∧ b0a v5_1 i7_1 ∧ b0a v5_1 i7_4 ∧ b0a v5_1 i7_5 ∧ (∀ j, ¬b0a v5_1 j → b0a v7_3 j) ∧ ¬i7 = i7_1 ∧ ¬i7 = i7_4 ∧ ¬i7 = i7_5 ∧ b0a v7_3 i7 ∧ ¬i7_1 = i7_4 ∧ ¬i7_1 = i7_5 ∧ b0a v7_3 i7_1 ∧ ¬i7_4 = i7_5 ∧ b0a v7_3 i7_4 ∧ b0a v7_3 i7_5 ∧ (∀ j, j < h0.nx → h.ob j = h0.ob j) ∧ h0.nx ≤ h.nx ∧ (∀ j, ¬b0a v5_1 j → h0.nx ≤ j) ∧ h0.nx ≤ i7 ∧ h0.nx ≤ i7_1 ∧ h0.nx ≤ i7_4 ∧ h0.nx ≤ i7_5 ∧ (∀ j, ¬b0a v7_3 j → h0.nx ≤ j)) (fun K hK => ?_) ?_
       ·simp only [go_sem, s1, b3o Q8, s6, s7, s13, s14, Q1f, Q1d, Qf, Q0, Qh, Q2, Qi, Q1, b1f Qg, b1p Qg hw_wp947, b0i (Q3), b0c (b0i (Q3)), b0t (Q3) hw_wp947, b0c (b0t (Q3) hw_wp947), b0i (Q4), b0c (b0i (Q4)), b0t (Q4) hw_wp947, b0c (b0t (Q4) hw_wp947), b0i (Q5), b0c (b0i (Q5)), b0t (Q5) hw_wp947, b0c (b0t (Q5) hw_wp947), b1f Qn, b1p Qn hw_wp947, b1f Q16, b1p Q16 hw_wp947, Qb, Qd, Qe, Q6, b0c Q6, Q7, b0c Q7, Qj, Q10, Q9, b0c Q9, Qk, Q11, Ql, Q12, b0v h_x27, b0w h_x27, h_x270, h_x271, b0v h_x28, b0w h_x28, h_x280, h_x281, b0v hw_wp947, b0w hw_wp947, b4u os_wp947, b0v h_x29, b0w h_x29, h_x290, h_x291, obr_irp948, ltr_irp948, b0b v1, b0b v5, b0b v1_1, b0b v5_1, b0b v7, b0b v7_1, b0b v7_2, b0b v7_3]
        refine b4b (f := eI) (l := b_7_1) (m := ([wr (x27 + (mn most_14 x29))])) ?_ ?_ ?_ ?_ h_l30 ?_
        ·exact (b3i (by simp only [go_sem, b08 Q8, b0r Qc, Qf, Q0, Qh, Q2, Qi, Q1, b0r Qa, b0r Qx, b1f Qg, b1p Qg hw_wp947, b0h Q3, b0i (Q3), b0c (b0i (Q3)), b0t (Q3) hw_wp947, b0c (b0t (Q3) hw_wp947), b0h Q4, b0i (Q4), b0c (b0i (Q4)), b0t (Q4) hw_wp947, b0c (b0t (Q4) hw_wp947), b0h Q5, b0i (Q5), b0c (b0i (Q5)), b0t (Q5) hw_wp947, b0c (b0t (Q5) hw_wp947), b1f Qn, b1p Qn hw_wp947, b1f Q16, b1p Q16 hw_wp947, Qb, Qd, Qe, Q6, b0c Q6, Q7, b0c Q7, Qj, Q10, Q9, b0c Q9, Qk, Q11, Ql, Q12, Q1f, Q1d, b2j Q8 hw_wp947, b0c (b2j Q8 hw_wp947), lA9, mA9]) (by simp only [go_sem, b08 Q8, b0r Qc, Qf, Q0, Qh, Q2, Qi, Q1, b0r Qa, b0r Qx, b1f Qg, b1p Qg hw_wp947, b0h Q3, b0i (Q3), b0c (b0i (Q3)), b0t (Q3) hw_wp947, b0c (b0t (Q3) hw_wp947), b0h Q4, b0i (Q4), b0c (b0i (Q4)), b0t (Q4) hw_wp947, b0c (b0t (Q4) hw_wp947), b0h Q5, b0i (Q5), b0c (b0i (Q5)), b0t (Q5) hw_wp947, b0c (b0t (Q5) hw_wp947), b1f Qn, b1p Qn hw_wp947, b1f Q16, b1p Q16 hw_wp947, Qb, Qd, Qe, Q6, b0c Q6, Q7, b0c Q7, Qj, Q10, Q9, b0c Q9, Qk, Q11, Ql, Q12, Q1f, Q1d, b2j Q8 hw_wp947, b0c (b2j Q8 hw_wp947), lA9, mA9]) (by simp only [go_sem, Q0, Q2, Q1, Q1d]))
        ·exact (b4l (by simp only [go_sem, b08 Q8, b0r Qc, Qf, Q0, Qh, Q2, Qi, Q1, b0r Qa, b0r Qx, b1f Qg, b1p Qg hw_wp947, b0h Q3, b0i (Q3), b0c (b0i (Q3)), b0t (Q3) hw_wp947, b0c (b0t (Q3) hw_wp947), b0h Q4, b0i (Q4), b0c (b0i (Q4)), b0t (Q4) hw_wp947, b0c (b0t (Q4) hw_wp947), b0h Q5, b0i (Q5), b0c (b0i (Q5)), b0t (Q5) hw_wp947, b0c (b0t (Q5) hw_wp947), b1f Qn, b1p Qn hw_wp947, b1f Q16, b1p Q16 hw_wp947, Qb, Qd, Qe, Q6, b0c Q6, Q7, b0c Q7, Qj, Q10, Q9, b0c Q9, Qk, Q11, Ql, Q12, Q1f, Q1d, b2j Q8 hw_wp947, b0c (b2j Q8 hw_wp947), lA9, mA9]) (by simp only [go_sem, b08 Q8, b0r Qc, Qf, Q0, Qh, Q2, Qi, Q1, b0r Qa, b0r Qx, b1f Qg, b1p Qg hw_wp947, b0h Q3, b0i (Q3), b0c (b0i (Q3)), b0t (Q3) hw_wp947, b0c (b0t (Q3) hw_wp947), b0h Q4, b0i (Q4), b0c (b0i (Q4)), b0t (Q4) hw_wp947, b0c (b0t (Q4) hw_wp947), b0h Q5, b0i (Q5), b0c (b0i (Q5)), b0t (Q5) hw_wp947, b0c (b0t (Q5) hw_wp947), b1f Qn, b1p Qn hw_wp947, b1f Q16, b1p Q16 hw_wp947, Qb, Qd, Qe, Q6, b0c Q6, Q7, b0c Q7, Qj, Q10, Q9, b0c Q9, Qk, Q11, Ql, Q12, Q1f, Q1d, b2j Q8 hw_wp947, b0c (b2j Q8 hw_wp947), lA9, mA9]))
        ·exact (b2v (by first | exact b1d | exact b1e (by first | omega | (simp only [nxs] <;> omega)) | assumption | exact b0z (by assumption) (by first | omega | (simp only [go_sem, nxs] <;> omega))))
        ·exact (fun _ => by simp)
        simp only [go_sem, s1, b3o Q8, s6, s7, s13, s14, Q1f, Q1d, Qf, Q0, Qh, Q2, Qi, Q1, b1f Qg, b1p Qg hw_wp947, b0i (Q3), b0c (b0i (Q3)), b0t (Q3) hw_wp947, b0c (b0t (Q3) hw_wp947), b0i (Q4), b0c (b0i (Q4)), b0t (Q4) hw_wp947, b0c (b0t (Q4) hw_wp947), b0i (Q5), b0c (b0i (Q5)), b0t (Q5) hw_wp947, b0c (b0t (Q5) hw_wp947), b1f Qn, b1p Qn hw_wp947, b1f Q16, b1p Q16 hw_wp947, Qb, Qd, Qe, Q6, b0c Q6, Q7, b0c Q7, Qj, Q10, Q9, b0c Q9, Qk, Q11, Ql, Q12, b0v h_x27, b0w h_x27, h_x270, h_x271, b0v h_x28, b0w h_x28, h_x280, h_x281, b0v hw_wp947, b0w hw_wp947, b4u os_wp947, b0v h_x29, b0w h_x29, h_x290, h_x291, obr_irp948, ltr_irp948, b0b v1, b0b v5, b0b v1_1, b0b v5_1, b0b v7, b0b v7_1, b0b v7_2, b0b v7_3]
        exact hK _ _ ⟨(.rs iqp946 0 (List.length open_)), (nxs (nxs (nxs h.nx))), (nxs h.nx), (by first | (simp only [go_sem, s1, lA9, mA9]; done) | rfl), s2, s5, s6, s7, s18, s19, s121, s122, (b3n Q8 (by intro j hj  hl; first | rfl | simp only [go_sem, hl, b3z hj Q3, b3z hj Q5, b50 Qn j hj, Q0, Q1]) (by first | omega | exact Nat.le_refl _ | (simp only [go_sem, nxs] <;> omega))), (b1j Qc (by intro j hj hl; first | rfl | simp only [go_sem, hl, Q0, Q1, b1g hj Qb, b1g hj Qe, Qy j hj]) (by first | omega | exact Nat.le_refl _ | (simp only [go_sem, nxs] <;> omega))), (by simp only [go_sem, Qf, Q0, Q1, b0r Qa, Q7, b0c Q7, Qj, lA9, mA9]), (by simp only [go_sem, Q0]), (by simp only [go_sem, Q0, Qh, Q2, Q1, b0r Qa, Q6, b0c Q6, Q9, b0c Q9, Qk, lA9, mA9]), (by simp only [go_sem, Q2]), (by simp only [go_sem, Q0, Q1, b0r Qa, lA9, mA9]), (by simp only [go_sem]), (by simp only [go_sem, Q0, Q1, b0r Qa, lA9, mA9]), (by simp only [go_sem]), (b1j Qx (by intro j hj hl; first | rfl | simp only [go_sem, hl, Q0, Q1, b1g hj Q10, b1g hj Q12, b20 Q1e j hj]) (by first | omega | exact Nat.le_refl _ | (simp only [go_sem, nxs] <;> omega))), Qg, Q3, Q4, (by first | assumption | exact b2o Q8 (by first | assumption | omega | (simp only [nxs] <;> omega))), (by first | assumption | exact b2o Q8 (by first | assumption | omega | (simp only [nxs] <;> omega))), Q16, Qb, Qd, (by first | exact b1d | exact b1e (by first | assumption | omega | (simp only [nxs] <;> omega)) | assumption | exact b0z (by assumption) (by first | assumption | omega | (simp only [nxs] <;> omega))), (by first | exact b1d | exact b1e (by first | assumption | omega | (simp only [nxs] <;> omega)) | assumption | exact b0z (by assumption) (by first | assumption | omega | (simp only [nxs] <;> omega))), Q19, Q6, (by first | first | assumption | omega | (simp only [nxs] <;> omega)), (by first | first | assumption | omega | (simp only [nxs] <;> omega)), Q10, (by first | first | assumption | omega | (simp only [nxs] <;> omega)), (by first | first | assumption | omega | (simp only [nxs] <;> omega)), Q11, (by first | first | assumption | omega | (simp only [nxs] <;> omega)), (by first | exact b1d | exact b1e (by first | assumption | omega | (simp only [nxs] <;> omega)) | assumption | exact b0z (by assumption) (by first | assumption | omega | (simp only [nxs] <;> omega))), (by first | exact b1d | exact b1e (by first | assumption | omega | (simp only [nxs] <;> omega)) | assumption | exact b0z (by assumption) (by first | assumption | omega | (simp only [nxs] <;> omega))), (by intro j hj; first | exact fr j hj | (refine Eq.trans ?_ (fr j hj); first | rfl | simp only [go_sem, Nat.lt_of_lt_of_le hj fx, b6v Qt hj, b6v Qw hj, b5w Qu hj])), (by first | exact fx | omega | (simp only [go_sem, nxs] <;> omega)), Qo, Qt, Qv, (by first | assumption | omega | (simp only [nxs] <;> omega)), (by first | assumption | omega | (simp only [nxs] <;> omega)), Q1a⟩
       ·try clear s1 s2 s5 s6 s7 s13 s14 s18 s19 s121 s122 Q8 Qc Qf Q0 Qh Q2 Qi Q1 Qa Qx Qg Q3 Q4 Q5 Qn Q16 Qb Qd Qe Qy Q19 Q6 Q7 Qj Q10 Q9 Qk Q11 Ql Q12 Q1e fr fx Qo Qt Qv Qw Qu Q1a Q1f Q1d
        rintro t h ⟨v1_3, i7_4, i7_5, s1, s2, s5, s6, s7, s18, s19, s121, s122, Q8, Qc, Qf, Q0, Qh, Q2, Qi, Q1, Q1i, Q1h, Qx, Qg, Q3, Q4, Q5, Q1j, Q16, Qb, Qd, Qe, Q1l, Q19, Q6, Q7, Q1m, Q10, Q9, Q1n, Q11, Q1o, Q12, Q1q, fr, fx, Qo, Qt, Qv, Qw, Qu, Q1a⟩
        simp only [b0m, b0n]
        exact J18 l30 l22 v1_3 i7_4 i7_5 v7_3 _ _ s1 s2 s5 s6 s7 s18 s19 s121 s122 Q8 Qc Qf Q0 Qh Q2 Qi Q1 Q1i Q1h Qx Qg Q3 Q4 Q5 Q1j Q16 Qb Qd Qe Q1l Q19 Q6 Q7 Q1m Q10 Q9 Q1n Q11 Q1o Q12 Q1q fr fx Qo Qt Qv Qw Qu Q1a hm2
      simp only [b1c]
      obtain ⟨b31, hl31, hm2⟩ := b0j hm2
      refine b2b hl31 (fun | (most_14, x_127), t, h => ∃ v7_3 : AV, t 1 = v1_2 ∧ t 2 = .fp [.fs 5 (List.map b0q h_.Combs), .fs 3 (List.map b0p h_.Trains), .fs 3 (List.map b0o h_.Shifts), I h_.Until] 0 ∧ t 5 = v5_1 ∧ t 6 = I x_19 ∧ t 7 = .rp i7 0 0 ∧ t 13 = I x_122 ∧ t 14 = I most_14 ∧ t 18 = I (List.length h_.Combs : Int) ∧ t 19 = I x_19 ∧ t 121 = I h_.Until ∧ t 122 = I x_122 ∧ t 126 = I (wr (x_122 + 1)) ∧ t 127 = I x_127 ∧ RR h v1_2 hs_1 1 eI open_ ∧ b0l h v5_1 1 (List.map b24 all_5) ∧ h.ob i7 = some (4, [[.rs i7_1 0 (List.length b_7_0), .rs i7_3 0 (List.length b_7_1), v7_1, v7_3]]) ∧ i7 < h.nx ∧ h.ob i7_1 = some (1, List.map eI b_7_0) ∧ i7_1 < h.nx ∧ h.ob i7_3 = some (1, List.map eI b_7_1) ∧ i7_3 < h.nx ∧ b0l h v7_1 1 (List.map eI b_7_2) ∧ b0l h v7_3 1 (List.map b00 b_7_3) ∧ (∀ j, ¬b0a v5_1 j → b0d v1_2 hs_1 j) ∧ b0d v1_2 hs_1 i7 ∧ b0d v1_2 hs_1 i7_1 ∧ b0d v1_2 hs_1 i7_3 ∧ (∀ j, ¬b0a v7_1 j → b0d v1_2 hs_1 j) ∧ (∀ j, ¬b0a v7_3 j → b0d v1_2 hs_1 j) ∧ b0a v5_1 i7 ∧ b0a v5_1 i7_1 ∧ b0a v5_1 i7_3 ∧ (∀ j, ¬b0a v5_1 j → b0a v7_1 j) ∧ (∀ j, ¬b0a v5_1 j → b0a v7_3 j) ∧ ¬i7 = i7_1 ∧ ¬i7 = i7_3 ∧ b0a v7_1 i7 ∧ b0a v7_3 i7 ∧ ¬i7_1 = i7_3 ∧ b0a v7_1 i7_1 ∧ b0a v7_3 i7_1 ∧ b0a v7_1 i7_3 ∧ b0a v7_3 i7_3 ∧ (∀ j, ¬b0a v7_1 j → b0a v7_3 j) ∧ (∀ j, j < h0.nx → h.ob j = h0.ob j) ∧ h0.nx ≤ h.nx ∧ (∀ j, ¬b0a v5_1 j → h0.nx ≤ j) ∧ h0.nx ≤ i7 ∧ h0.nx ≤ i7_1 ∧ h0.nx ≤ i7_3 ∧ (∀ j, ¬b0a v7_1 j → h0.nx ≤ j) ∧ (∀ j, ¬b0a v7_3 j → h0.nx ≤ j)) ?_ ?_
      ·exact ⟨v7_2, s1, s2, s5, s6, s7, (by first | (simp only [go_sem, lA9, mA9]; done) | rfl), (by first | (simp only [go_sem, lA9, mA9]; done) | rfl), s18, s19, s121, s122, (by first | (simp only [go_sem, lA9, mA9]; done) | rfl), (by first | (simp only [go_sem, lA9, mA9]; done) | rfl), Q8, Qc, Qf, Q0, Qh, Q2, Qi, Q1, Qa, Qx, Qg, Q3, Q4, Q5, Qn, Q16, Qb, Qd, Qe, Qy, Q19, Q6, Q7, Qj, Q10, Q9, Qk, Q11, Ql, Q12, Q1e, fr, fx, Qo, Qt, Qv, Qw, Qu, Q1a⟩
      ·try clear s1 s2 s5 s6 s7 s18 s19 s121 s122 Q8 Qc Qf Q0 Qh Q2 Qi Q1 Qa Qx Qg Q3 Q4 Q5 Qn Q16 Qb Qd Qe Qy Q19 Q6 Q7 Qj Q10 Q9 Qk Q11 Ql Q12 Q1e fr fx Qo Qt Qv Qw Qu Q1a
       rintro ⟨most_14, x_127⟩ o t h ⟨v7_3, s1, s2, s5, s6, s7, s13, s14, s18, s19, s121, s122, s126, s127, Q8, Qc, Qf, Q0, Qh, Q2, Qi, Q1, Qa, Qx, Qg, Q3, Q4, Q5, Qn, Q16, Qb, Qd, Qe, Qy, Q19, Q6, Q7, Qj, Q10, Q9, Qk, Q11, Ql, Q12, Q1e, fr, fx, Qo, Qt, Qv, Qw, Qu, Q1a⟩ hm3 hb31
       simp only [b7w] at hm3
       rw [g1f]
       refine b0e fun K hK => ?_
       simp only [go_sem, s126, s127, Q0, Q2, Q1, b0b v1, b0b v5, b0b v1_1, b0b v5_1, b0b v7, b0b v1_2, b0b v7_1, b0b v7_2, b0b v7_3]
       refine hK _ _ ?_
       clear hK K
       refine b0x fun K32 hK32 => ?_
       simp only [go_sem]
       refine b0u (fun hc33 => ?_) (fun hc33 => ?_)
       ·rw [b1b hc33] at hm3
        simp only [b07, b0m, b0n]
        refine hK32 _ _ ?_
        refine b0x fun K34 hK34 => ?_
        simp only [b1c]
        refine b0e fun K hK => ?_
        simp only [go_sem, s127, Q0, Q2, Q1, b0b v1, b0b v5, b0b v1_1, b0b v5_1, b0b v7, b0b v1_2, b0b v7_1, b0b v7_2, b0b v7_3]
        refine hK _ _ ?_
        clear hK K
        obtain ⟨x40, h_x40, hm3⟩ := b0j hm3
        have h_x400 := b06 h_x40
        have h_x401 := b09 h_x40
        obtain ⟨iq41, rfl, Q1r, Q1p⟩ := b6i Qx h_x40
        obtain ⟨x42, h_x42, hm3⟩ := b0j hm3
        have h_x420 := b06 h_x42
        have h_x421 := b09 h_x42
        obtain ⟨x43, h_x43, hm3⟩ := b0j hm3
        have h_x430 := b06 h_x43
        have h_x431 := b09 h_x43
        obtain ⟨x44, h_x44, hm3⟩ := b0j hm3
        have h_x440 := b06 h_x44
        have h_x441 := b09 h_x44
        refine b1o fun K hK => ?_
        simp only [go_sem, s7, s13, s14, Qf, Q0, Qh, Q2, Qi, Q1, Q1r, Q1p, Qb, Qd, Qe, Q6, b0c Q6, Q7, b0c Q7, Qj, Q10, Q9, b0c Q9, Qk, Q11, Ql, Q12, b0v h_x40, b0w h_x40, h_x400, h_x401, b0v h_x42, b0w h_x42, h_x420, h_x421, b0v h_x43, b0w h_x43, h_x430, h_x431, b0v h_x44, b0w h_x44, h_x440, h_x441, b0b v1, b0b v5, b0b v1_1, b0b v5_1, b0b v7, b0b v1_2, b0b v7_1, b0b v7_2]
        refine hK _ _ ?_
        clear hK K
        simp only [b0m, b0n]
        refine hK34 _ _ ?_
        refine b1o fun K hK => ?_
        simp only [go_sem, s127, Q0, Q2, Q1, Q1p, b0b v1, b0b v5, b0b v1_1, b0b v5_1, b0b v7, b0b v1_2, b0b v7_1, b0b v7_2]
        refine hK _ _ ?_
        clear hK K
        simp only [b0m, b0n]
        obtain rfl := sI9 hm3
        refine ⟨_, rfl, ?_⟩
        exact ⟨(.rs iq41 0 (List.length b_7_3)), s1, s2, s5, s6, s7, s13, (by first | (simp only [go_sem, s14, lA9, mA9]; done) | rfl), s18, s19, s121, s122, s126, (by first | (simp only [go_sem, s127, lA9, mA9]; done) | rfl), Q8, Qc, (by simp only [go_sem, Qf, Q0, lA9, mA9]), (by simp only [go_sem, Q0]), Qh, Q2, Qi, Q1, Qa, (b3i (by simp only [go_sem, Q1r, Q1p, lA9, mA9]) (by first | rfl | simp only [go_sem, lA9, mA9]) (by simp only [go_sem, Q1p])), Qg, Q3, Q4, Q5, Qn, Q16, Qb, Qd, Qe, Qy, Q19, Q6, Q7, Qj, Q10, Q9, Qk, Q11, Ql, Q12, Q1e, fr, fx, Qo, Qt, Qv, Qw, Qu, Q1a⟩
       ·rw [b1a hc33] at hm3
        simp only [b1z, b2a, b19, b11, b0m, b0n, Nat.reduceEqDiff, nF9]
        obtain rfl := sI9 hm3
        obtain rfl := hb31 _ rfl
        try dsimp only at hm2
        exact J20 most_14 v7_3 _ _ s1 s2 s5 s6 s7 s13 s14 s18 s19 s121 s122 Q8 Qc Qf Q0 Qh Q2 Qi Q1 Qa Qx Qg Q3 Q4 Q5 Qn Q16 Qb Qd Qe Qy Q19 Q6 Q7 Qj Q10 Q9 Qk Q11 Ql Q12 Q1e fr fx Qo Qt Qv Qw Qu Q1a hm2
     ·rw [b1a hc16] at hm2
      simp only [b1z, b2a, b19, b11, b0m, b0n, Nat.reduceEqDiff, nF9]
      obtain rfl := sI9 hm2
      obtain rfl := hb14 _ rfl
      try dsimp only at hm1
      exact J11 b_7_1 b_7_2 v1_2 i7_3 v7_1 v7_2 _ _ s1 s2 s5 s7 s18 s19 Q8 Qc Qf Q0 Qh Q2 Qi Q1 Qa Qx Qg Q3 Q4 Q5 Qn Q16 Qb Qd Qe Qy Q19 Q6 Q7 Qj Q10 Q9 Qk Q11 Ql Q12 Q1e fr fx Qo Qt Qv Qw Qu Q1a hm1
   simp only [b1c]
   obtain ⟨b47, hl47, hm1⟩ := b0j hm1
   refine b2b hl47 (fun | (b_7_0, b_7_3, x_28), t, h => ∃ v1_1 : AV, ∃ v5_1 : AV, ∃ i7 : Nat, ∃ i7_1 : Nat, ∃ i7_2 : Nat, ∃ v7 : AV, t 1 = v1_1 ∧ t 2 = .fp [.fs 5 (List.map b0q h_.Combs), .fs 3 (List.map b0p h_.Trains), .fs 3 (List.map b0o h_.Shifts), I h_.Until] 0 ∧ t 5 = v5_1 ∧ t 6 = I x_19 ∧ t 7 = .rp i7 0 0 ∧ t 18 = I (List.length h_.Combs : Int) ∧ t 19 = I x_19 ∧ t 27 = I h_.Until ∧ t 28 = I x_28 ∧ RR h v1_1 hs_1 1 eI open_ ∧ b0l h v5_1 1 (List.map b24 all_5) ∧ h.ob i7 = some (4, [[.rs i7_1 0 (List.length b_7_0), .rs i7_2 0 (List.length ([0])), .v (.slice none 0 0), v7]]) ∧ i7 < h.nx ∧ h.ob i7_1 = some (1, List.map eI b_7_0) ∧ i7_1 < h.nx ∧ h.ob i7_2 = some (1, List.map eI ([0])) ∧ i7_2 < h.nx ∧ b0l h v7 1 (List.map b00 b_7_3) ∧ (∀ j, ¬b0a v5_1 j → b0d v1_1 hs_1 j) ∧ b0d v1_1 hs_1 i7 ∧ b0d v1_1 hs_1 i7_1 ∧ b0d v1_1 hs_1 i7_2 ∧ (∀ j, ¬b0a v7 j → b0d v1_1 hs_1 j) ∧ b0a v5_1 i7 ∧ b0a v5_1 i7_1 ∧ b0a v5_1 i7_2 ∧ (∀ j, ¬b0a v5_1 j → b0a v7 j) ∧ ¬i7 = i7_1 ∧ ¬i7 = i7_2 ∧ b0a v7 i7 ∧ ¬i7_1 = i7_2 ∧ b0a v7 i7_1 ∧ b0a v7 i7_2 ∧ (∀ j, j < h0.nx → h.ob j = h0.ob j) ∧ h0.nx ≤ h.nx ∧ (∀ j, ¬b0a v5_1 j → h0.nx ≤ j) ∧ h0.nx ≤ i7 ∧ h0.nx ≤ i7_1 ∧ h0.nx ≤ i7_2 ∧ (∀ j, ¬b0a v7 j → h0.nx ≤ j)) ?_ ?_
   ·exact ⟨v1, v5, (nxs (nxs h.nx)), h.nx, (nxs h.nx), (.v (.slice none 0 0)), s1, s2, s5, (by first | (simp only [go_sem, lA9, mA9]; done) | rfl), (by first | (simp only [go_sem, lA9, mA9]; done) | rfl), s18, s19, (by first | (simp only [go_sem, lA9, mA9]; done) | rfl), (by first | (simp only [go_sem, lA9, mA9]; done) | rfl), (b3n Q8 (by intro j hj  hl; first | rfl | simp only [go_sem, hl]) (by first | omega | exact Nat.le_refl _ | (simp only [go_sem, nxs] <;> omega))), (b1j Qc (by intro j hj hl; first | rfl | simp only [go_sem, hl]) (by first | omega | exact Nat.le_refl _ | (simp only [go_sem, nxs] <;> omega))), (by simp only [go_sem, lA9, mA9]), (by simp only [go_sem]), (by simp only [go_sem, lA9, mA9]), (by simp only [go_sem]), (by simp only [go_sem, lA9, mA9]), (by simp only [go_sem]), b6j, Qg, (by first | assumption | exact b2o Q8 (by first | assumption | omega | (simp only [nxs] <;> omega))), (by first | assumption | exact b2o Q8 (by first | assumption | omega | (simp only [nxs] <;> omega))), (by first | assumption | exact b2o Q8 (by first | assumption | omega | (simp only [nxs] <;> omega))), c0h, (by first | exact b1d | exact b1e (by first | assumption | omega | (simp only [nxs] <;> omega)) | assumption | exact b0z (by assumption) (by first | assumption | omega | (simp only [nxs] <;> omega))), (by first | exact b1d | exact b1e (by first | assumption | omega | (simp only [nxs] <;> omega)) | assumption | exact b0z (by assumption) (by first | assumption | omega | (simp only [nxs] <;> omega))), (by first | exact b1d | exact b1e (by first | assumption | omega | (simp only [nxs] <;> omega)) | assumption | exact b0z (by assumption) (by first | assumption | omega | (simp only [nxs] <;> omega))), (by first | exact b38 | exact b39 | assumption | (refine b4a ?_; first | assumption | exact b0z (by assumption) (by first | assumption | omega | (simp only [nxs] <;> omega))) | (refine b2v ?_; first | assumption | exact b0z (by assumption) (by first | assumption | omega | (simp only [nxs] <;> omega)))), (by first | first | assumption | omega | (simp only [nxs] <;> omega)), (by first | first | assumption | omega | (simp only [nxs] <;> omega)), (by first | exact b1d | exact b1e (by first | assumption | omega | (simp only [nxs] <;> omega)) | assumption | exact b0z (by assumption) (by first | assumption | omega | (simp only [nxs] <;> omega))), (by first | first | assumption | omega | (simp only [nxs] <;> omega)), (by first | exact b1d | exact b1e (by first | assumption | omega | (simp only [nxs] <;> omega)) | assumption | exact b0z (by assumption) (by first | assumption | omega | (simp only [nxs] <;> omega))), (by first | exact b1d | exact b1e (by first | assumption | omega | (simp only [nxs] <;> omega)) | assumption | exact b0z (by assumption) (by first | assumption | omega | (simp only [nxs] <;> omega))), (by intro j hj; first | exact fr j hj | (refine Eq.trans ?_ (fr j hj); first | rfl | simp only [go_sem, Nat.lt_of_lt_of_le hj fx])), (by first | exact fx | omega | (simp only [go_sem, nxs] <;> omega)), Qo, (by first | assumption | omega | (simp only [nxs] <;> omega)), (by first | assumption | omega | (simp only [nxs] <;> omega)), (by first | assumption | omega | (simp only [nxs] <;> omega)), c0h⟩
   ·try clear s1 s2 s5 s18 s19 Q8 Qc Qg fr fx Qo
    rintro ⟨b_7_0, b_7_3, x_28⟩ o t h ⟨v1_1, v5_1, i7, i7_1, i7_2, v7, s1, s2, s5, s6, s7, s18, s19, s27, s28, Q8, Qc, Qf, Q0, Qh, Q2, Qi, Q1, Qa, Qg, Q3, Q4, Q5, Qn, Qb, Qd, Qe, Qy, Q6, Q7, Qj, Q9, Qk, Ql, fr, fx, Qo, Qt, Qv, Qw, Qu⟩ hm2 hb47
    simp only [b7v] at hm2
    rw [g1e]
    refine b0e fun K hK => ?_
    simp only [go_sem, s27, s28, Q0, Q2, Q1, b0b v1, b0b v5, b0b v1_1, b0b v5_1, b0b v7]
    refine hK _ _ ?_
    clear hK K
    refine b0x fun K48 hK48 => ?_
    simp only [go_sem]
    refine b0u (fun hc49 => ?_) (fun hc49 => ?_)
    ·rw [b1b hc49] at hm2
     simp only [b07, b0m, b0n]
     refine hK48 _ _ ?_
     refine b0x fun K50 hK50 => ?_
     have J51 : ∀ (b_7_0_1 : List Int) (b_7_3_1 : List (List Int)) (v1_2 : AV) (v5_2 : AV) (i7_3 : Nat) (i7_4 : Nat) (t : Slots) (h : Heap), t 1 = v1_2 → t 2 = .fp [.fs 5 (List.map b0q h_.Combs), .fs 3 (List.map b0p h_.Trains), .fs 3 (List.map b0o h_.Shifts), I h_.Until] 0 → t 5 = v5_2 → t 6 = I x_19 → t 7 = .rp i7 0 0 → t 18 = I (List.length h_.Combs : Int) → t 19 = I x_19 → t 27 = I h_.Until → t 28 = I x_28 → RR h v1_2 hs_1 1 eI open_ → b0l h v5_2 1 (List.map b24 all_5) → h.ob i7 = some (4, [[.rs i7_3 0 (List.length b_7_0_1), .rs i7_2 0 (List.length ([0])), .v (.slice none 0 0), .rs i7_4 0 (List.length b_7_3_1)]]) → i7 < h.nx → h.ob i7_3 = some (1, List.map eI b_7_0_1) → i7_3 < h.nx → h.ob i7_2 = some (1, List.map eI ([0])) → i7_2 < h.nx → h.ob i7_4 = some (1, List.map b00 b_7_3_1) → i7_4 < h.nx → (∀ j, ¬b0a v5_2 j → b0d v1_2 hs_1 j) → b0d v1_2 hs_1 i7 → b0d v1_2 hs_1 i7_3 → b0d v1_2 hs_1 i7_2 → b0d v1_2 hs_1 i7_4 → b0a v5_2 i7 → b0a v5_2 i7_3 → b0a v5_2 i7_2 → b0a v5_2 i7_4 → ¬i7 = i7_3 → ¬i7 = i7_2 → ¬i7 = i7_4 → ¬i7_3 = i7_2 → ¬i7_3 = i7_4 → ¬i7_2 = i7_4 → (∀ j, j < h0.nx → h.ob j = h0.ob j) → h0.nx ≤ h.nx → (∀ j, ¬b0a v5_2 j → h0.nx ≤ j) → h0.nx ≤ i7 → h0.nx ≤ i7_3 → h0.nx ≤ i7_2 → h0.nx ≤ i7_4 → c0w x_28 b_7_0_1 b_7_3_1 = some o → K50 t h := by
      try clear s1 s2 s5 s6 s7 s18 s19 s27 s28 Q8 Qc Qf Q0 Qh Q2 Qi Q1 Qa Qg Q3 Q4 Q5 Qn Qb Qd Qe Qy Q6 Q7 Qj Q9 Qk Ql fr fx Qo Qt Qv Qw Qu
      intro b_7_0_1 b_7_3_1 v1_2 v5_2 i7_3 i7_4 t h s1 s2 s5 s6 s7 s18 s19 s27 s28 Q8 Qc Qf Q0 Qh Q2 Qi Q1 Q1i Q1h Qg Q3 Q4 Q5 Q1j Qb Qd Qe Q1l Q6 Q7 Q1m Q9 Q1n Q1o fr fx Qo Qt Qv Qw Qu hm2
      refine hK50 _ _ ?_
      unfold c0w at hm2
      refine b1o fun K hK => ?_
      simp only [go_sem, s28, Q0, Q2, Q1, Q1h, b0b v1, b0b v5, b0b v1_1, b0b v5_1, b0b v7, b0b v1_2, b0b v5_2]
      refine hK _ _ ?_
      clear hK K
      simp only [b0m, b0n]
      obtain rfl := sI9 hm2
      refine ⟨_, rfl, ?_⟩
      exact ⟨v1_2, v5_2, i7, i7_3, i7_2, (.rs i7_4 0 (List.length b_7_3_1)), s1, s2, s5, s6, s7, s18, s19, s27, (by first | (simp only [go_sem, s28, lA9, mA9]; done) | rfl), Q8, Qc, Qf, Q0, Qh, Q2, Qi, Q1, (b3i (by simp only [go_sem, Q1i, Q1h, lA9, mA9]) (by first | rfl | simp only [go_sem, lA9, mA9]) (by simp only [go_sem, Q1h])), Qg, Q3, Q4, Q5, (c0i Q1j), Qb, Qd, Qe, (by first | exact b38 | exact b39 | assumption | (refine b4a ?_; first | assumption | exact b0z (by assumption) (by first | assumption | omega | (simp only [nxs] <;> omega))) | (refine b2v ?_; first | assumption | exact b0z (by assumption) (by first | assumption | omega | (simp only [nxs] <;> omega)))), Q6, Q7, (by first | exact b1d | exact b1e (by first | assumption | omega | (simp only [nxs] <;> omega)) | assumption | exact b0z (by assumption) (by first | assumption | omega | (simp only [nxs] <;> omega))), Q9, (by first | exact b1d | exact b1e (by first | assumption | omega | (simp only [nxs] <;> omega)) | assumption | exact b0z (by assumption) (by first | assumption | omega | (simp only [nxs] <;> omega))), (by first | exact b1d | exact b1e (by first | assumption | omega | (simp only [nxs] <;> omega)) | assumption | exact b0z (by assumption) (by first | assumption | omega | (simp only [nxs] <;> omega))), fr, fx, Qo, Qt, Qv, Qw, (c5s Qu)⟩
     simp only [b1c]
     refine b0e fun K hK => ?_
     simp only [go_sem, s28, Q0, Q2, Q1, b0b v1, b0b v5, b0b v1_1, b0b v5_1, b0b v7]
     refine hK _ _ ?_
     clear hK K
     obtain ⟨l53, h_l53, hm2⟩ := b0j hm2
     refine b0e fun K hK => ?_
     simp only [go_sem, s2, Q0, Q2, Q1, b0b v1, b0b v5, b0b v1_1, b0b v5_1, b0b v7]
     refine b76 (f := eI) (z := 0) rfl h_l53 ?_
     simp only [go_sem, s2, Q0, Q2, Q1, b0b v1, b0b v5, b0b v1_1, b0b v5_1, b0b v7]
     refine hK _ _ ?_
     clear hK K
     refine b04 ?_
     refine b0e fun K hK => ?_
     simp only [go_sem, Q0, Q2, Q1, b0b v1, b0b v5, b0b v1_1, b0b v5_1, b0b v7]
     refine hK _ _ ?_
     clear hK K
     refine b0x fun K54 hK54 => ?_
     have J55 : ∀ (row_9 : List Int) (v5_2 : AV) (i9 : Nat) (t : Slots) (h : Heap), t 1 = v1_1 → t 2 = .fp [.fs 5 (List.map b0q h_.Combs), .fs 3 (List.map b0p h_.Trains), .fs 3 (List.map b0o h_.Shifts), I h_.Until] 0 → t 5 = v5_2 → t 6 = I x_19 → t 7 = .rp i7 0 0 → t 8 = I x_28 → t 9 = .rs i9 0 (List.length row_9) → t 18 = I (List.length h_.Combs : Int) → t 19 = I x_19 → t 27 = I h_.Until → t 28 = I x_28 → RR h v1_1 hs_1 1 eI open_ → b0l h v5_2 1 (List.map b24 all_5) → h.ob i7 = some (4, [[.rs i7_1 0 (List.length b_7_0), .rs i7_2 0 (List.length ([0])), .v (.slice none 0 0), v7]]) → i7 < h.nx → h.ob i7_1 = some (1, List.map eI b_7_0) → i7_1 < h.nx → h.ob i7_2 = some (1, List.map eI ([0])) → i7_2 < h.nx → b0l h v7 1 (List.map b00 b_7_3) → h.ob i9 = some (1, List.map eI row_9) → i9 < h.nx → (∀ j, ¬b0a v5_2 j → b0d v1_1 hs_1 j) → b0d v1_1 hs_1 i7 → b0d v1_1 hs_1 i7_1 → b0d v1_1 hs_1 i7_2 → (∀ j, ¬b0a v7 j → b0d v1_1 hs_1 j) → b0d v1_1 hs_1 i9 → b0a v5_2 i7 → b0a v5_2 i7_1 → b0a v5_2 i7_2 → (∀ j, ¬b0a v5_2 j → b0a v7 j) → b0a v5_2 i9 → ¬i7 = i7_1 → ¬i7 = i7_2 → b0a v7 i7 → ¬i7 = i9 → ¬i7_1 = i7_2 → b0a v7 i7_1 → ¬i7_1 = i9 → b0a v7 i7_2 → ¬i7_2 = i9 → b0a v7 i9 → (∀ j, j < h0.nx → h.ob j = h0.ob j) → h0.nx ≤ h.nx → (∀ j, ¬b0a v5_2 j → h0.nx ≤ j) → h0.nx ≤ i7 → h0.nx ≤ i7_1 → h0.nx ≤ i7_2 → (∀ j, ¬b0a v7 j → h0.nx ≤ j) → h0.nx ≤ i9 → c0x open_ x_19 b_7_0 b_7_3 x_28 row_9 = some o → K54 t h := by
      try clear s1 s2 s5 s6 s7 s18 s19 s27 s28 Q8 Qc Qf Q0 Qh Q2 Qi Q1 Qa Qg Q3 Q4 Q5 Qn Qb Qd Qe Qy Q6 Q7 Qj Q9 Qk Ql fr fx Qo Qt Qv Qw Qu
      intro row_9 v5_2 i9 t h s1 s2 s5 s6 s7 s8 s9 s18 s19 s27 s28 Q8 Qc Qf Q0 Qh Q2 Qi Q1 Qa Q15 Qm Qg Q3 Q4 Q5 Qn Qs Qb Qd Qe Qy Q13 Q6 Q7 Qj Qp Q9 Qk Qr Ql Qq Q14 fr fx Qo Qt Qv Qw Qu Q1b hm2
      refine hK54 _ _ ?_
      unfold c0x at hm2
      refine b04 ?_
      refine c5l (s := 9) (v := .rs i9 0 (List.length row_9)) (f := eI) (l := row_9) (by simp only [go_sem, s9, b08 Q8, b0r Qc, Qf, Q0, Qh, Q2, Qi, Q1, b0r Qa, Q15, Qm, b0h Q3, b0h Q4, b0h Q5, b0h Qs, Qb, Qd, Qe, Q13, Q6, b0c Q6, Q7, b0c Q7, Qj, Qp, b0c Qp, Q9, b0c Q9, Qk, Qr, b0c Qr, Ql, Qq, b0c Qq, Q14, lA9, mA9]) (b3i (by simp only [go_sem, s9, b08 Q8, b0r Qc, Qf, Q0, Qh, Q2, Qi, Q1, b0r Qa, Q15, Qm, b0h Q3, b0h Q4, b0h Q5, b0h Qs, Qb, Qd, Qe, Q13, Q6, b0c Q6, Q7, b0c Q7, Qj, Qp, b0c Qp, Q9, b0c Q9, Qk, Qr, b0c Qr, Ql, Qq, b0c Qq, Q14, lA9, mA9]) (by simp only [go_sem, s9, b08 Q8, b0r Qc, Qf, Q0, Qh, Q2, Qi, Q1, b0r Qa, Q15, Qm, b0h Q3, b0h Q4, b0h Q5, b0h Qs, Qb, Qd, Qe, Q13, Q6, b0c Q6, Q7, b0c Q7, Qj, Qp, b0c Qp, Q9, b0c Q9, Qk, Qr, b0c Qr, Ql, Qq, b0c Qq, Q14, lA9, mA9]) (by simp only [go_sem, Q0, Q2, Q1, Qm])) b3f b6x ?_
      simp only [c5q, c5r]
      obtain ⟨l57, h_l57, hm2⟩ := b0j hm2
      refine b0e fun K hK => ?_
      simp only [go_sem, s7, s9, Qf, Q0, Qh, Q2, Qi, Q1, Qm, Qb, Qd, Qe, Q6, b0c Q6, Q7, b0c Q7, Qj, Qp, b0c Qp, Q9, b0c Q9, Qk, Qr, b0c Qr, Ql, Qq, b0c Qq, Q14, b0b v1, b0b v5, b0b v1_1, b0b v5_1, b0b v7, b0b v5_2]
      refine b4b (f := b00) (l := b_7_3) (m := ([row_9])) ?_ ?_ ?_ ?_ h_l57 ?_
      ·exact (b1j Qa (by intro j hj hl; first | rfl | simp only [go_sem, hl, b0h (Qn j hj), b20 Qy j hj, b1g hj Qj, b1g hj Qk, b1g hj Ql, b1g hj Q14]) (by first | omega | exact Nat.le_refl _ | (simp only [go_sem, nxs] <;> omega)))
      ·exact (b4l (by simp only [go_sem, b08 Q8, b0r Qc, Qf, Q0, Qh, Q2, Qi, Q1, b0r Qa, Q15, Qm, b0h Q3, b0h Q4, b0h Q5, b0h Qs, Qb, Qd, Qe, Q13, Q6, b0c Q6, Q7, b0c Q7, Qj, Qp, b0c Qp, Q9, b0c Q9, Qk, Qr, b0c Qr, Ql, Qq, b0c Qq, Q14, lA9, mA9]) (by simp only [go_sem, b08 Q8, b0r Qc, Qf, Q0, Qh, Q2, Qi, Q1, b0r Qa, Q15, Qm, b0h Q3, b0h Q4, b0h Q5, b0h Qs, Qb, Qd, Qe, Q13, Q6, b0c Q6, Q7, b0c Q7, Qj, Qp, b0c Qp, Q9, b0c Q9, Qk, Qr, b0c Qr, Ql, Qq, b0c Qq, Q14, lA9, mA9]))
      ·exact (b2v (by first | exact b1d | exact b1e (by first | omega | (simp only [nxs] <;> omega)) | assumption | exact b0z (by assumption) (by first | omega | (simp only [go_sem, nxs] <;> omega))))
      ·exact (fun _ => by simp)
      simp only [go_sem, s7, s9, Qf, Q0, Qh, Q2, Qi, Q1, Qm, Qb, Qd, Qe, Q6, b0c Q6, Q7, b0c Q7, Qj, Qp, b0c Qp, Q9, b0c Q9, Qk, Qr, b0c Qr, Ql, Qq, b0c Qq, Q14, b0b v1, b0b v5, b0b v1_1, b0b v5_1, b0b v7, b0b v5_2]
      refine hK _ _ ?_
      clear hK K
      obtain ⟨x62, h_x62, hm2⟩ := b0j hm2
      have h_x620 := b06 h_x62
      have h_x621 := b09 h_x62
      obtain ⟨x63, h_x63, hm2⟩ := b0j hm2
      have h_x630 := b06 h_x63
      have h_x631 := b09 h_x63
      obtain ⟨iqp982, rfl, Q1f, Q1d⟩ := b6m Q8 h_x63
      obtain ⟨wp983, hw_wp983, os_wp983⟩ := b6l Q8 h_x63
      obtain ⟨x64, h_x64, hm2⟩ := b0j hm2
      have h_x640 := b06 h_x64
      have h_x641 := b09 h_x64
      obtain ⟨irp984, rfl, obr_irp984, ltr_irp984⟩ := b6i os_wp983 h_x64
      obtain ⟨l65, h_l65, hm2⟩ := b0j hm2
      refine b8t (fun t h => ∃ v1_2 : AV, ∃ i7_3 : Nat, ∃ i7_4 : Nat, t 1 = v1_2 ∧ t 2 = .fp [.fs 5 (List.map b0q h_.Combs), .fs 3 (List.map b0p h_.Trains), .fs 3 (List.map b0o h_.Shifts), I h_.Until] 0 ∧ t 5 = v5_2 ∧ t 6 = I x_19 ∧ t 7 = .rp i7 0 0 ∧ t 18 = I (List.length h_.Combs : Int) ∧ t 19 = I x_19 ∧ t 27 = I h_.Until ∧ t 28 = I x_28 ∧ RR h v1_2 hs_1 1 eI open_ ∧ b0l h v5_2 1 (List.map b24 all_5) ∧ h.ob i7 = some (4, [[.rs i7_3 0 (List.length l65), .rs i7_2 0 (List.length ([0])), .v (.slice none 0 0), .rs i7_4 0 (List.length l57)]]) ∧ i7 < h.nx ∧ h.ob i7_3 = some (1, List.map eI l65) ∧ i7_3 < h.nx ∧ h.ob i7_2 = some (1, List.map eI ([0])) ∧ i7_2 < h.nx ∧ h.ob i7_4 = some (1, List.map b00 l57) ∧ i7_4 < h.nx ∧ (∀ j, ¬b0a v5_2 j → b0d v1_2 hs_1 j) ∧ b0d v1_2 hs_1 i7 ∧ b0d v1_2 hs_1 i7_3 ∧ b0d v1_2 hs_1 i7_2 ∧ b0d v1_2 hs_1 i7_4 ∧ b0a v5_2 i7 ∧ b0a v5_2 i7_3 ∧ b0a v5_2 i7_2 ∧ b0a v5_2 i7_4 ∧ ¬i7 = i7_3 ∧ ¬i7 = i7_2 ∧ ¬i7 = i7_4 ∧ ¬i7_3 = i7_2 ∧ ¬i7_3 = i7_4 ∧ ¬i7_2 = i7_4 ∧ (∀ j, j < h0.nx → h.ob j = h0.ob j) ∧ h0.nx ≤ h.nx ∧ (∀ j, ¬b0a v5_2 j → h0.nx ≤ j) ∧ h0.nx ≤ i7 ∧ h0.nx ≤ i7_3 ∧ h0.nx ≤ i7_2 ∧ h0.nx ≤ i7_4) (fun K hK => ?_) ?_
      ·simp only [go_sem, s1, b3o Q8, s6, s7, s8, Q1f, Q1d, Qf, Q0, Qh, Q2, Qi, Q1, Qm, b1f Qg, b1p Qg hw_wp983, b0i (Q3), b0c (b0i (Q3)), b0t (Q3) hw_wp983, b0c (b0t (Q3) hw_wp983), b0i (Q4), b0c (b0i (Q4)), b0t (Q4) hw_wp983, b0c (b0t (Q4) hw_wp983), b0i (Q5), b0c (b0i (Q5)), b0t (Q5) hw_wp983, b0c (b0t (Q5) hw_wp983), b1f Qn, b1p Qn hw_wp983, b0i (Qs), b0c (b0i (Qs)), b0t (Qs) hw_wp983, b0c (b0t (Qs) hw_wp983), Qb, Qd, Qe, Q6, b0c Q6, Q7, b0c Q7, Qj, Qp, b0c Qp, Q9, b0c Q9, Qk, Qr, b0c Qr, Ql, Qq, b0c Qq, b0v h_x62, b0w h_x62, h_x620, h_x621, b0v h_x63, b0w h_x63, h_x630, h_x631, b0v hw_wp983, b0w hw_wp983, b4u os_wp983, b0v h_x64, b0w h_x64, h_x640, h_x641, obr_irp984, ltr_irp984, b0b v1, b0b v5, b0b v5_1, b0b v7, b0b v5_2]
       refine b4b (f := eI) (l := b_7_0) (m := ([wr (x62 + x64)])) ?_ ?_ ?_ ?_ h_l65 ?_
       ·exact (b3i (by simp only [go_sem, b08 Q8, b0r Qc, Qf, Q0, Qh, Q2, Qi, Q1, b0r Qa, Q15, Qm, b1f Qg, b1p Qg hw_wp983, b0h Q3, b0i (Q3), b0c (b0i (Q3)), b0t (Q3) hw_wp983, b0c (b0t (Q3) hw_wp983), b0h Q4, b0i (Q4), b0c (b0i (Q4)), b0t (Q4) hw_wp983, b0c (b0t (Q4) hw_wp983), b0h Q5, b0i (Q5), b0c (b0i (Q5)), b0t (Q5) hw_wp983, b0c (b0t (Q5) hw_wp983), b1f Qn, b1p Qn hw_wp983, b0h Qs, b0i (Qs), b0c (b0i (Qs)), b0t (Qs) hw_wp983, b0c (b0t (Qs) hw_wp983), Qb, Qd, Qe, Q13, Q6, b0c Q6, Q7, b0c Q7, Qj, Qp, b0c Qp, Q9, b0c Q9, Qk, Qr, b0c Qr, Ql, Qq, b0c Qq, Q14, Q1f, Q1d, b2j Q8 hw_wp983, b0c (b2j Q8 hw_wp983), lA9, mA9]) (by simp only [go_sem, b08 Q8, b0r Qc, Qf, Q0, Qh, Q2, Qi, Q1, b0r Qa, Q15, Qm, b1f Qg, b1p Qg hw_wp983, b0h Q3, b0i (Q3), b0c (b0i (Q3)), b0t (Q3) hw_wp983, b0c (b0t (Q3) hw_wp983), b0h Q4, b0i (Q4), b0c (b0i (Q4)), b0t (Q4) hw_wp983, b0c (b0t (Q4) hw_wp983), b0h Q5, b0i (Q5), b0c (b0i (Q5)), b0t (Q5) hw_wp983, b0c (b0t (Q5) hw_wp983), b1f Qn, b1p Qn hw_wp983, b0h Qs, b0i (Qs), b0c (b0i (Qs)), b0t (Qs) hw_wp983, b0c (b0t (Qs) hw_wp983), Qb, Qd, Qe, Q13, Q6, b0c Q6, Q7, b0c Q7, Qj, Qp, b0c Qp, Q9, b0c Q9, Qk, Qr, b0c Qr, Ql, Qq, b0c Qq, Q14, Q1f, Q1d, b2j Q8 hw_wp983, b0c (b2j Q8 hw_wp983), lA9, mA9]) (by simp only [go_sem, Q0, Q2, Q1, Qm, Q1d]))
       ·exact (b4l (by simp only [go_sem, b08 Q8, b0r Qc, Qf, Q0, Qh, Q2, Qi, Q1, b0r Qa, Q15, Qm, b1f Qg, b1p Qg hw_wp983, b0h Q3, b0i (Q3), b0c (b0i (Q3)), b0t (Q3) hw_wp983, b0c (b0t (Q3) hw_wp983), b0h Q4, b0i (Q4), b0c (b0i (Q4)), b0t (Q4) hw_wp983, b0c (b0t (Q4) hw_wp983), b0h Q5, b0i (Q5), b0c (b0i (Q5)), b0t (Q5) hw_wp983, b0c (b0t (Q5) hw_wp983), b1f Qn, b1p Qn hw_wp983, b0h Qs, b0i (Qs), b0c (b0i (Qs)), b0t (Qs) hw_wp983, b0c (b0t (Qs) hw_wp983), Qb, Qd, Qe, Q13, Q6, b0c Q6, Q7, b0c Q7, Qj, Qp, b0c Qp, Q9, b0c Q9, Qk, Qr, b0c Qr, Ql, Qq, b0c Qq, Q14, Q1f, Q1d, b2j Q8 hw_wp983, b0c (b2j Q8 hw_wp983), lA9, mA9]) (by simp only [go_sem, b08 Q8, b0r Qc, Qf, Q0, Qh, Q2, Qi, Q1, b0r Qa, Q15, Qm, b1f Qg, b1p Qg hw_wp983, b0h Q3, b0i (Q3), b0c (b0i (Q3)), b0t (Q3) hw_wp983, b0c (b0t (Q3) hw_wp983), b0h Q4, b0i (Q4), b0c (b0i (Q4)), b0t (Q4) hw_wp983, b0c (b0t (Q4) hw_wp983), b0h Q5, b0i (Q5), b0c (b0i (Q5)), b0t (Q5) hw_wp983, b0c (b0t (Q5) hw_wp983), b1f Qn, b1p Qn hw_wp983, b0h Qs, b0i (Qs), b0c (b0i (Qs)), b0t (Qs) hw_wp983, b0c (b0t (Qs) hw_wp983), Qb, Qd, Qe, Q13, Q6, b0c Q6, Q7, b0c Q7, Qj, Qp, b0c Qp, Q9, b0c Q9, Qk, Qr, b0c Qr, Ql, Qq, b0c Qq, Q14, Q1f, Q1d, b2j Q8 hw_wp983, b0c (b2j Q8 hw_wp983), lA9, mA9]))
       ·exact (b2v (by first | exact b1d | exact b1e (by first | omega | (simp only [nxs] <;> omega)) | assumption | exact b0z (by assumption) (by first | omega | (simp only [go_sem, nxs] <;> omega))))
       ·exact (fun _ => by simp)
       simp only [go_sem, s1, b3o Q8, s6, s7, s8, Q1f, Q1d, Qf, Q0, Qh, Q2, Qi, Q1, Qm, b1f Qg, b1p Qg hw_wp983, b0i (Q3), b0c (b0i (Q3)), b0t (Q3) hw_wp983, b0c (b0t (Q3) hw_wp983), b0i (Q4), b0c (b0i (Q4)), b0t (Q4) hw_wp983, b0c (b0t (Q4) hw_wp983), b0i (Q5), b0c (b0i (Q5)), b0t (Q5) hw_wp983, b0c (b0t (Q5) hw_wp983), b1f Qn, b1p Qn hw_wp983, b0i (Qs), b0c (b0i (Qs)), b0t (Qs) hw_wp983, b0c (b0t (Qs) hw_wp983), Qb, Qd, Qe, Q6, b0c Q6, Q7, b0c Q7, Qj, Qp, b0c Qp, Q9, b0c Q9, Qk, Qr, b0c Qr, Ql, Qq, b0c Qq, b0v h_x62, b0w h_x62, h_x620, h_x621, b0v h_x63, b0w h_x63, h_x630, h_x631, b0v hw_wp983, b0w hw_wp983, b4u os_wp983, b0v h_x64, b0w h_x64, h_x640, h_x641, obr_irp984, ltr_irp984, b0b v1, b0b v5, b0b v5_1, b0b v7, b0b v5_2]
       exact hK _ _ ⟨(.rs iqp982 0 (List.length open_)), (nxs (nxs (nxs h.nx))), (nxs h.nx), (by first | (simp only [go_sem, s1, lA9, mA9]; done) | rfl), s2, s5, s6, s7, s18, s19, s27, s28, (b3n Q8 (by intro j hj  hl; first | rfl | simp only [go_sem, hl, b3z hj Q3, b3z hj Q4, b50 Qn j hj, b3z hj Qs, Q0, Q2, Qm]) (by first | omega | exact Nat.le_refl _ | (simp only [go_sem, nxs] <;> omega))), (b1j Qc (by intro j hj hl; first | rfl | simp only [go_sem, hl, Q0, Q2, Qm, b1g hj Qb, b1g hj Qd, Qy j hj, b1g hj Q13]) (by first | omega | exact Nat.le_refl _ | (simp only [go_sem, nxs] <;> omega))), (by simp only [go_sem, Qf, Q0, Q2, b0r Qa, Qm, Q6, b0c Q6, Qj, Qp, b0c Qp, lA9, mA9]), (by simp only [go_sem, Q0]), (by simp only [go_sem, Q0, Q2, b0r Qa, Qm, lA9, mA9]), (by simp only [go_sem]), (by simp only [go_sem, Q0, Q2, Qi, Q1, b0r Qa, Qm, Q7, b0c Q7, Q9, b0c Q9, Ql, Qq, b0c Qq, lA9, mA9]), (by simp only [go_sem, Q1]), (by simp only [go_sem, Q0, Q2, b0r Qa, Qm, lA9, mA9]), (by simp only [go_sem]), Qg, Q3, (by first | assumption | exact b2o Q8 (by first | assumption | omega | (simp only [nxs] <;> omega))), Q5, (by first | assumption | exact b2o Q8 (by first | assumption | omega | (simp only [nxs] <;> omega))), Qb, (by first | exact b1d | exact b1e (by first | assumption | omega | (simp only [nxs] <;> omega)) | assumption | exact b0z (by assumption) (by first | assumption | omega | (simp only [nxs] <;> omega))), Qe, (by first | exact b1d | exact b1e (by first | assumption | omega | (simp only [nxs] <;> omega)) | assumption | exact b0z (by assumption) (by first | assumption | omega | (simp only [nxs] <;> omega))), (by first | first | assumption | omega | (simp only [nxs] <;> omega)), Q7, (by first | first | assumption | omega | (simp only [nxs] <;> omega)), (by first | first | assumption | omega | (simp only [nxs] <;> omega)), (by first | first | assumption | omega | (simp only [nxs] <;> omega)), (by first | first | assumption | omega | (simp only [nxs] <;> omega)), (by intro j hj; first | exact fr j hj | (refine Eq.trans ?_ (fr j hj); first | rfl | simp only [go_sem, Nat.lt_of_lt_of_le hj fx, b6v Qt hj, b6v Qv hj, b5w Qu hj, b6v Q1b hj])), (by first | exact fx | omega | (simp only [go_sem, nxs] <;> omega)), Qo, Qt, (by first | assumption | omega | (simp only [nxs] <;> omega)), Qw, (by first | assumption | omega | (simp only [nxs] <;> omega))⟩
      ·try clear s1 s2 s5 s6 s7 s8 s9 s18 s19 s27 s28 Q8 Qc Qf Q0 Qh Q2 Qi Q1 Qa Q15 Qm Qg Q3 Q4 Q5 Qn Qs Qb Qd Qe Qy Q13 Q6 Q7 Qj Qp Q9 Qk Qr Ql Qq Q14 fr fx Qo Qt Qv Qw Qu Q1b Q1f Q1d
       rintro t h ⟨v1_2, i7_3, i7_4, s1, s2, s5, s6, s7, s18, s19, s27, s28, Q8, Qc, Qf, Q0, Qh, Q2, Qi, Q1, Q1i, Q1h, Qg, Q3, Q4, Q5, Q1j, Qb, Qd, Qe, Q1l, Q6, Q7, Q1m, Q9, Q1n, Q1o, fr, fx, Qo, Qt, Qv, Qw, Qu⟩
       simp only [b0m, b0n]
       exact J51 l65 l57 v1_2 v5_2 i7_3 i7_4 _ _ s1 s2 s5 s6 s7 s18 s19 s27 s28 Q8 Qc Qf Q0 Qh Q2 Qi Q1 Q1i Q1h Qg Q3 Q4 Q5 Q1j Qb Qd Qe Q1l Q6 Q7 Q1m Q9 Q1n Q1o fr fx Qo Qt Qv Qw Qu hm2
     simp only [b1c]
     obtain ⟨b66, hl66, hm2⟩ := b0j hm2
     refine b2b hl66 (fun | (row_9, t_10), t, h => ∃ v5_2 : AV, ∃ i9 : Nat, t 1 = v1_1 ∧ t 2 = .fp [.fs 5 (List.map b0q h_.Combs), .fs 3 (List.map b0p h_.Trains), .fs 3 (List.map b0o h_.Shifts), I h_.Until] 0 ∧ t 5 = v5_2 ∧ t 6 = I x_19 ∧ t 7 = .rp i7 0 0 ∧ t 8 = I x_28 ∧ t 9 = .rs i9 0 (List.length row_9) ∧ t 10 = I t_10 ∧ t 18 = I (List.length h_.Combs : Int) ∧ t 19 = I x_19 ∧ t 27 = I h_.Until ∧ t 28 = I x_28 ∧ RR h v1_1 hs_1 1 eI open_ ∧ b0l h v5_2 1 (List.map b24 all_5) ∧ h.ob i7 = some (4, [[.rs i7_1 0 (List.length b_7_0), .rs i7_2 0 (List.length ([0])), .v (.slice none 0 0), v7]]) ∧ i7 < h.nx ∧ h.ob i7_1 = some (1, List.map eI b_7_0) ∧ i7_1 < h.nx ∧ h.ob i7_2 = some (1, List.map eI ([0])) ∧ i7_2 < h.nx ∧ b0l h v7 1 (List.map b00 b_7_3) ∧ h.ob i9 = some (1, List.map eI row_9) ∧ i9 < h.nx ∧ (∀ j, ¬b0a v5_2 j → b0d v1_1 hs_1 j) ∧ b0d v1_1 hs_1 i7 ∧ b0d v1_1 hs_1 i7_1 ∧ b0d v1_1 hs_1 i7_2 ∧ (∀ j, ¬b0a v7 j → b0d v1_1 hs_1 j) ∧ b0d v1_1 hs_1 i9 ∧ b0a v5_2 i7 ∧ b0a v5_2 i7_1 ∧ b0a v5_2 i7_2 ∧ (∀ j, ¬b0a v5_2 j → b0a v7 j) ∧ b0a v5_2 i9 ∧ ¬i7 = i7_1 ∧ ¬i7 = i7_2 ∧ b0a v7 i7 ∧ ¬i7 = i9 ∧ ¬i7_1 = i7_2 ∧ b0a v7 i7_1 ∧ ¬i7_1 = i9 ∧ b0a v7 i7_2 ∧ ¬i7_2 = i9 ∧ b0a v7 i9 ∧ (∀ j, j < h0.nx → h.ob j = h0.ob j) ∧ h0.nx ≤ h.nx ∧ (∀ j, ¬b0a v5_2 j → h0.nx ≤ j) ∧ h0.nx ≤ i7 ∧ h0.nx ≤ i7_1 ∧ h0.nx ≤ i7_2 ∧ (∀ j, ¬b0a v7 j → h0.nx ≤ j) ∧ h0.nx ≤ i9) ?_ ?_
     ·exact ⟨v5_1, h.nx, s1, s2, s5, s6, s7, (by first | (simp only [go_sem, lA9, mA9]; done) | rfl), (by first | (simp only [go_sem, lA9, mA9]; done) | rfl), (by first | (simp only [go_sem, lA9, mA9]; done) | rfl), s18, s19, s27, s28, (b3n Q8 (by intro j hj  hl; first | rfl | simp only [go_sem, hl]) (by first | omega | exact Nat.le_refl _ | (simp only [go_sem, nxs] <;> omega))), (b1j Qc (by intro j hj hl; first | rfl | simp only [go_sem, hl]) (by first | omega | exact Nat.le_refl _ | (simp only [go_sem, nxs] <;> omega))), (by simp only [go_sem, Qf, Q0, lA9, mA9]), (by simp only [go_sem, Q0]), (by simp only [go_sem, Qh, Q2, lA9, mA9]), (by simp only [go_sem, Q2]), (by simp only [go_sem, Qi, Q1, lA9, mA9]), (by simp only [go_sem, Q1]), (b1j Qa (by intro j hj hl; first | rfl | simp only [go_sem, hl]) (by first | omega | exact Nat.le_refl _ | (simp only [go_sem, nxs] <;> omega))), (by simp only [go_sem, lA9, mA9]), (by simp only [go_sem]), Qg, Q3, Q4, Q5, Qn, (by first | assumption | exact b2o Q8 (by first | assumption | omega | (simp only [nxs] <;> omega))), Qb, Qd, Qe, Qy, (by first | exact b1d | exact b1e (by first | assumption | omega | (simp only [nxs] <;> omega)) | assumption | exact b0z (by assumption) (by first | assumption | omega | (simp only [nxs] <;> omega))), Q6, Q7, Qj, (by first | first | assumption | omega | (simp only [nxs] <;> omega)), Q9, Qk, (by first | first | assumption | omega | (simp only [nxs] <;> omega)), Ql, (by first | first | assumption | omega | (simp only [nxs] <;> omega)), (by first | exact b1d | exact b1e (by first | assumption | omega | (simp only [nxs] <;> omega)) | assumption | exact b0z (by assumption) (by first | assumption | omega | (simp only [nxs] <;> omega))), (by intro j hj; first | exact fr j hj | (refine Eq.trans ?_ (fr j hj); first | rfl | simp only [go_sem, Nat.lt_of_lt_of_le hj fx])), (by first | exact fx | omega | (simp only [go_sem, nxs] <;> omega)), Qo, Qt, Qv, Qw, Qu, (by first | assumption | omega | (simp only [nxs] <;> omega))⟩
     ·try clear s1 s2 s5 s6 s7 s18 s19 s27 s28 Q8 Qc Qf Q0 Qh Q2 Qi Q1 Qa Qg Q3 Q4 Q5 Qn Qb Qd Qe Qy Q6 Q7 Qj Q9 Qk Ql fr fx Qo Qt Qv Qw Qu
      rintro ⟨row_9, t_10⟩ o t h ⟨v5_2, i9, s1, s2, s5, s6, s7, s8, s9, s10, s18, s19, s27, s28, Q8, Qc, Qf, Q0, Qh, Q2, Qi, Q1, Qa, Q15, Qm, Qg, Q3, Q4, Q5, Qn, Qs, Qb, Qd, Qe, Qy, Q13, Q6, Q7, Qj, Qp, Q9, Qk, Qr, Ql, Qq, Q14, fr, fx, Qo, Qt, Qv, Qw, Qu, Q1b⟩ hm3 hb66
      simp only [b7u] at hm3
      rw [g1d]
      refine b04 ?_
      refine b0e fun K hK => ?_
      simp only [go_sem, s2, s10, Q0, Q2, Q1, Qm, b0b v1, b0b v5, b0b v1_1, b0b v5_1, b0b v7, b0b v5_2]
      refine hK _ _ ?_
      clear hK K
      refine b0x fun K67 hK67 => ?_
      simp only [go_sem]
      refine b0u (fun hc68 => ?_) (fun hc68 => ?_)
      ·rw [b1b hc68] at hm3
       simp only [b07, b0m, b0n]
       refine hK67 _ _ ?_
       refine b0x fun K69 hK69 => ?_
       have J70 : ∀ (row_9_1 : List Int) (v5_3 : AV) (t : Slots) (h : Heap), t 1 = v1_1 → t 2 = .fp [.fs 5 (List.map b0q h_.Combs), .fs 3 (List.map b0p h_.Trains), .fs 3 (List.map b0o h_.Shifts), I h_.Until] 0 → t 5 = v5_3 → t 6 = I x_19 → t 7 = .rp i7 0 0 → t 8 = I x_28 → t 9 = .rs i9 0 (List.length row_9_1) → t 10 = I t_10 → t 18 = I (List.length h_.Combs : Int) → t 19 = I x_19 → t 27 = I h_.Until → t 28 = I x_28 → RR h v1_1 hs_1 1 eI open_ → b0l h v5_3 1 (List.map b24 all_5) → h.ob i7 = some (4, [[.rs i7_1 0 (List.length b_7_0), .rs i7_2 0 (List.length ([0])), .v (.slice none 0 0), v7]]) → i7 < h.nx → h.ob i7_1 = some (1, List.map eI b_7_0) → i7_1 < h.nx → h.ob i7_2 = some (1, List.map eI ([0])) → i7_2 < h.nx → b0l h v7 1 (List.map b00 b_7_3) → h.ob i9 = some (1, List.map eI row_9_1) → i9 < h.nx → (∀ j, ¬b0a v5_3 j → b0d v1_1 hs_1 j) → b0d v1_1 hs_1 i7 → b0d v1_1 hs_1 i7_1 → b0d v1_1 hs_1 i7_2 → (∀ j, ¬b0a v7 j → b0d v1_1 hs_1 j) → b0d v1_1 hs_1 i9 → b0a v5_3 i7 → b0a v5_3 i7_1 → b0a v5_3 i7_2 → (∀ j, ¬b0a v5_3 j → b0a v7 j) → b0a v5_3 i9 → ¬i7 = i7_1 → ¬i7 = i7_2 → b0a v7 i7 → ¬i7 = i9 → ¬i7_1 = i7_2 → b0a v7 i7_1 → ¬i7_1 = i9 → b0a v7 i7_2 → ¬i7_2 = i9 → b0a v7 i9 → (∀ j, j < h0.nx → h.ob j = h0.ob j) → h0.nx ≤ h.nx → (∀ j, ¬b0a v5_3 j → h0.nx ≤ j) → h0.nx ≤ i7 → h0.nx ≤ i7_1 → h0.nx ≤ i7_2 → (∀ j, ¬b0a v7 j → h0.nx ≤ j) → h0.nx ≤ i9 → c0z t_10 row_9_1 = some o → K69 t h := by
        try clear s1 s2 s5 s6 s7 s8 s9 s10 s18 s19 s27 s28 Q8 Qc Qf Q0 Qh Q2 Qi Q1 Qa Q15 Qm Qg Q3 Q4 Q5 Qn Qs Qb Qd Qe Qy Q13 Q6 Q7 Qj Qp Q9 Qk Qr Ql Qq Q14 fr fx Qo Qt Qv Qw Qu Q1b
        intro row_9_1 v5_3 t h s1 s2 s5 s6 s7 s8 s9 s10 s18 s19 s27 s28 Q8 Qc Qf Q0 Qh Q2 Qi Q1 Qa Q15 Qm Qg Q3 Q4 Q5 Qn Qs Qb Qd Qe Qy Q13 Q6 Q7 Qj Qp Q9 Qk Qr Ql Qq Q14 fr fx Qo Qt Qv Qw Qu Q1b hm3
        refine hK69 _ _ ?_
        unfold c0z at hm3
        refine b1o fun K hK => ?_
        simp only [go_sem, s10, Q0, Q2, Q1, Qm, b0b v1, b0b v5, b0b v1_1, b0b v5_1, b0b v7, b0b v5_2, b0b v5_3]
        refine hK _ _ ?_
        clear hK K
        simp only [b0m, b0n]
        obtain rfl := sI9 hm3
        refine ⟨_, rfl, ?_⟩
        exact ⟨v5_3, i9, s1, s2, s5, s6, s7, s8, (by first | exact s9 | simp only [go_sem, s9, lA9, mA9]), (by first | (simp only [go_sem, s10, lA9, mA9]; done) | rfl), s18, s19, s27, s28, Q8, Qc, Qf, Q0, Qh, Q2, Qi, Q1, Qa, Q15, Qm, Qg, Q3, Q4, Q5, Qn, Qs, Qb, Qd, Qe, Qy, Q13, Q6, Q7, Qj, Qp, Q9, Qk, Qr, Ql, Qq, Q14, fr, fx, Qo, Qt, Qv, Qw, Qu, Q1b⟩
       simp only [b1c]
       obtain ⟨y73, h_y73, hm3⟩ := b0j hm3
       obtain ⟨x74, h_x74, hm3⟩ := b0j hm3
       have h_x740 := b06 h_x74
       have h_x741 := b09 h_x74
       refine b0e fun K hK => ?_
       simp only [go_sem, s2, s6, s8, s9, s10, Q15, Qm, Q0, Q2, Q1, Q13, Qp, b0c Qp, Qr, b0c Qr, Qq, b0c Qq, Q14, b0v h_x74, b0w h_x74, h_x740, h_x741, b0b v1, b0b v5, b0b v1_1, b0b v5_1, b0b v7, b0b v5_2]
       refine b1u (d08 h_ x_19 x_28 t_10 _ h_y73) ?_
       simp only [go_sem, s2, s6, s8, s9, s10, Q15, Qm, Q0, Q2, Q1, Q13, Qp, b0c Qp, Qr, b0c Qr, Qq, b0c Qq, Q14, b0v h_x74, b0w h_x74, h_x740, h_x741, b0b v1, b0b v5, b0b v1_1, b0b v5_1, b0b v7, b0b v5_2]
       refine hK _ _ ?_
       clear hK K
       obtain ⟨l76, h_l76, hm3⟩ := b0j hm3
       refine b0e fun K hK => ?_
       simp only [go_sem, s2, s6, Q0, Q2, Q1, Qm, b0b v1, b0b v5, b0b v1_1, b0b v5_1, b0b v7, b0b v5_2]
       refine j1m (f := b0q) (l := h_.Combs) (lo := none) (hi := some x_19) h_l76 ?_
       simp only [go_sem, s2, s6, Q0, Q2, Q1, Qm, b0b v1, b0b v5, b0b v1_1, b0b v5_1, b0b v7, b0b v5_2]
       refine hK _ _ ?_
       clear hK K
       simp only [b1c]
       obtain ⟨b77, hl77, hm3⟩ := b0j hm3
       refine b2b hl77 (fun | (row_9_1, x_54), t, h => ∃ v5_3 : AV, t 1 = v1_1 ∧ t 2 = .fp [.fs 5 (List.map b0q h_.Combs), .fs 3 (List.map b0p h_.Trains), .fs 3 (List.map b0o h_.Shifts), I h_.Until] 0 ∧ t 5 = v5_3 ∧ t 6 = I x_19 ∧ t 7 = .rp i7 0 0 ∧ t 8 = I x_28 ∧ t 9 = .rs i9 0 (List.length row_9_1) ∧ t 10 = I t_10 ∧ t 18 = I (List.length h_.Combs : Int) ∧ t 19 = I x_19 ∧ t 27 = I h_.Until ∧ t 28 = I x_28 ∧ t 52 = .fs 5 (List.map b0q l76) ∧ t 53 = I (List.length l76 : Int) ∧ t 54 = I x_54 ∧ RR h v1_1 hs_1 1 eI open_ ∧ b0l h v5_3 1 (List.map b24 all_5) ∧ h.ob i7 = some (4, [[.rs i7_1 0 (List.length b_7_0), .rs i7_2 0 (List.length ([0])), .v (.slice none 0 0), v7]]) ∧ i7 < h.nx ∧ h.ob i7_1 = some (1, List.map eI b_7_0) ∧ i7_1 < h.nx ∧ h.ob i7_2 = some (1, List.map eI ([0])) ∧ i7_2 < h.nx ∧ b0l h v7 1 (List.map b00 b_7_3) ∧ h.ob i9 = some (1, List.map eI row_9_1) ∧ i9 < h.nx ∧ (∀ j, ¬b0a v5_3 j → b0d v1_1 hs_1 j) ∧ b0d v1_1 hs_1 i7 ∧ b0d v1_1 hs_1 i7_1 ∧ b0d v1_1 hs_1 i7_2 ∧ (∀ j, ¬b0a v7 j → b0d v1_1 hs_1 j) ∧ b0d v1_1 hs_1 i9 ∧ b0a v5_3 i7 ∧ b0a v5_3 i7_1 ∧ b0a v5_3 i7_2 ∧ (∀ j, ¬b0a v5_3 j → b0a v7 j) ∧ b0a v5_3 i9 ∧ ¬i7 = i7_1 ∧ ¬i7 = i7_2 ∧ b0a v7 i7 ∧ ¬i7 = i9 ∧ ¬i7_1 = i7_2 ∧ b0a v7 i7_1 ∧ ¬i7_1 = i9 ∧ b0a v7 i7_2 ∧ ¬i7_2 = i9 ∧ b0a v7 i9 ∧ (∀ j, j < h0.nx → h.ob j = h0.ob j) ∧ h0.nx ≤ h.nx ∧ (∀ j, ¬b0a v5_3 j → h0.nx ≤ j) ∧ h0.nx ≤ i7 ∧ h0.nx ≤ i7_1 ∧ h0.nx ≤ i7_2 ∧ (∀ j, ¬b0a v7 j → h0.nx ≤ j) ∧ h0.nx ≤ i9) ?_ ?_
       ·exact ⟨v5_2, s1, s2, s5, s6, s7, s8, (by first | exact s9 | simp only [go_sem, s9, lA9, mA9]), s10, s18, s19, s27, s28, (by first | (simp only [go_sem, lA9, mA9]; done) | rfl), (by first | (simp only [go_sem, lA9, mA9]; done) | rfl), (by first | (simp only [go_sem, lA9, mA9]; done) | rfl), (b3n Q8 (by intro j hj  hl; first | rfl | simp only [go_sem, hl, b3z hj Qs, Qm]) (by first | omega | exact Nat.le_refl _ | (simp only [go_sem, nxs] <;> omega))), (b1j Qc (by intro j hj hl; first | rfl | simp only [go_sem, hl, Qm, b1g hj Q13]) (by first | omega | exact Nat.le_refl _ | (simp only [go_sem, nxs] <;> omega))), (by simp only [go_sem, Qf, Q0, Qm, Qp, b0c Qp, lA9, mA9]), (by simp only [go_sem, Q0]), (by simp only [go_sem, Qh, Q2, Qm, Qr, b0c Qr, lA9, mA9]), (by simp only [go_sem, Q2]), (by simp only [go_sem, Qi, Q1, Qm, Qq, b0c Qq, lA9, mA9]), (by simp only [go_sem, Q1]), (b1j Qa (by intro j hj hl; first | rfl | simp only [go_sem, hl, Qm, b1g hj Q14]) (by first | omega | exact Nat.le_refl _ | (simp only [go_sem, nxs] <;> omega))), (by simp only [go_sem, Q15, Qm, lA9, mA9]), (by simp only [go_sem, Qm]), Qg, Q3, Q4, Q5, Qn, Qs, Qb, Qd, Qe, Qy, Q13, Q6, Q7, Qj, Qp, Q9, Qk, Qr, Ql, Qq, Q14, (by intro j hj; first | exact fr j hj | (refine Eq.trans ?_ (fr j hj); first | rfl | simp only [go_sem, Nat.lt_of_lt_of_le hj fx, b6v Q1b hj])), (by first | exact fx | omega | (simp only [go_sem, nxs] <;> omega)), Qo, Qt, Qv, Qw, Qu, Q1b⟩
       ·try clear s1 s2 s5 s6 s7 s8 s9 s10 s18 s19 s27 s28 Q8 Qc Qf Q0 Qh Q2 Qi Q1 Qa Q15 Qm Qg Q3 Q4 Q5 Qn Qs Qb Qd Qe Qy Q13 Q6 Q7 Qj Qp Q9 Qk Qr Ql Qq Q14 fr fx Qo Qt Qv Qw Qu Q1b
        rintro ⟨row_9_1, x_54⟩ o t h ⟨v5_3, s1, s2, s5, s6, s7, s8, s9, s10, s18, s19, s27, s28, s52, s53, s54, Q8, Qc, Qf, Q0, Qh, Q2, Qi, Q1, Qa, Q15, Qm, Qg, Q3, Q4, Q5, Qn, Qs, Qb, Qd, Qe, Qy, Q13, Q6, Q7, Qj, Qp, Q9, Qk, Qr, Ql, Qq, Q14, fr, fx, Qo, Qt, Qv, Qw, Qu, Q1b⟩ hm4 hb77
        simp only [b80] at hm4
        rw [g1c]
        refine b0e fun K hK => ?_
        simp only [go_sem, s53, s54, Q0, Q2, Q1, Qm, b0b v1, b0b v5, b0b v1_1, b0b v5_1, b0b v7, b0b v5_2, b0b v5_3]
        refine hK _ _ ?_
        clear hK K
        refine b0x fun K78 hK78 => ?_
        simp only [go_sem]
        refine b0u (fun hc79 => ?_) (fun hc79 => ?_)
        ·rw [b1b hc79] at hm4
         simp only [b07, b0m, b0n]
         refine hK78 _ _ ?_
         refine b0x fun K80 hK80 => ?_
         have J81 : ∀ (row_9_2 : List Int) (v5_4 : AV) (t : Slots) (h : Heap), t 1 = v1_1 → t 2 = .fp [.fs 5 (List.map b0q h_.Combs), .fs 3 (List.map b0p h_.Trains), .fs 3 (List.map b0o h_.Shifts), I h_.Until] 0 → t 5 = v5_4 → t 6 = I x_19 → t 7 = .rp i7 0 0 → t 8 = I x_28 → t 9 = .rs i9 0 (List.length row_9_2) → t 10 = I t_10 → t 18 = I (List.length h_.Combs : Int) → t 19 = I x_19 → t 27 = I h_.Until → t 28 = I x_28 → t 52 = .fs 5 (List.map b0q l76) → t 53 = I (List.length l76 : Int) → t 54 = I x_54 → RR h v1_1 hs_1 1 eI open_ → b0l h v5_4 1 (List.map b24 all_5) → h.ob i7 = some (4, [[.rs i7_1 0 (List.length b_7_0), .rs i7_2 0 (List.length ([0])), .v (.slice none 0 0), v7]]) → i7 < h.nx → h.ob i7_1 = some (1, List.map eI b_7_0) → i7_1 < h.nx → h.ob i7_2 = some (1, List.map eI ([0])) → i7_2 < h.nx → b0l h v7 1 (List.map b00 b_7_3) → h.ob i9 = some (1, List.map eI row_9_2) → i9 < h.nx → (∀ j, ¬b0a v5_4 j → b0d v1_1 hs_1 j) → b0d v1_1 hs_1 i7 → b0d v1_1 hs_1 i7_1 → b0d v1_1 hs_1 i7_2 → (∀ j, ¬b0a v7 j → b0d v1_1 hs_1 j) → b0d v1_1 hs_1 i9 → b0a v5_4 i7 → b0a v5_4 i7_1 → b0a v5_4 i7_2 → (∀ j, ¬b0a v5_4 j → b0a v7 j) → b0a v5_4 i9 → ¬i7 = i7_1 → ¬i7 = i7_2 → b0a v7 i7 → ¬i7 = i9 → ¬i7_1 = i7_2 → b0a v7 i7_1 → ¬i7_1 = i9 → b0a v7 i7_2 → ¬i7_2 = i9 → b0a v7 i9 → (∀ j, j < h0.nx → h.ob j = h0.ob j) → h0.nx ≤ h.nx → (∀ j, ¬b0a v5_4 j → h0.nx ≤ j) → h0.nx ≤ i7 → h0.nx ≤ i7_1 → h0.nx ≤ i7_2 → (∀ j, ¬b0a v7 j → h0.nx ≤ j) → h0.nx ≤ i9 → b7y x_54 row_9_2 = some o → K80 t h := by
          try clear s1 s2 s5 s6 s7 s8 s9 s10 s18 s19 s27 s28 s52 s53 s54 Q8 Qc Qf Q0 Qh Q2 Qi Q1 Qa Q15 Qm Qg Q3 Q4 Q5 Qn Qs Qb Qd Qe Qy Q13 Q6 Q7 Qj Qp Q9 Qk Qr Ql Qq Q14 fr fx Qo Qt Qv Qw Qu Q1b
          intro row_9_2 v5_4 t h s1 s2 s5 s6 s7 s8 s9 s10 s18 s19 s27 s28 s52 s53 s54 Q8 Qc Qf Q0 Qh Q2 Qi Q1 Qa Q15 Qm Qg Q3 Q4 Q5 Qn Qs Qb Qd Qe Qy Q13 Q6 Q7 Qj Qp Q9 Qk Qr Ql Qq Q14 fr fx Qo Qt Qv Qw Qu Q1b hm4
          refine hK80 _ _ ?_
          unfold b7y at hm4
          refine b1o fun K hK => ?_
          simp only [go_sem, s54, Q0, Q2, Q1, Qm, b0b v1, b0b v5, b0b v1_1, b0b v5_1, b0b v7, b0b v5_2, b0b v5_3, b0b v5_4]
          refine hK _ _ ?_
          clear hK K
          simp only [b0m, b0n]
          obtain rfl := sI9 hm4
          refine ⟨_, rfl, ?_⟩
          exact ⟨v5_4, s1, s2, s5, s6, s7, s8, (by first | exact s9 | simp only [go_sem, s9, lA9, mA9]), s10, s18, s19, s27, s28, s52, s53, (by first | (simp only [go_sem, s54, lA9, mA9]; done) | rfl), Q8, Qc, Qf, Q0, Qh, Q2, Qi, Q1, Qa, Q15, Qm, Qg, Q3, Q4, Q5, Qn, Qs, Qb, Qd, Qe, Qy, Q13, Q6, Q7, Qj, Qp, Q9, Qk, Qr, Ql, Qq, Q14, fr, fx, Qo, Qt, Qv, Qw, Qu, Q1b⟩
         simp only [b1c]
         obtain ⟨x83, h_x83, hm4⟩ := b0j hm4
         have h_x830 := b06 h_x83
         have h_x831 := b09 h_x83
         refine b0e fun K hK => ?_
         simp only [go_sem, s52, s54, Q0, Q2, Q1, Qm, b0v h_x83, b0w h_x83, h_x830, h_x831, b0b v1, b0b v5, b0b v1_1, b0b v5_1, b0b v7, b0b v5_2, b0b v5_3]
         refine hK _ _ ?_
         clear hK K
         refine b0e fun K hK => ?_
         simp only [go_sem, s6, Q0, Q2, Q1, Qm, b0b v1, b0b v5, b0b v1_1, b0b v5_1, b0b v7, b0b v5_2, b0b v5_3]
         refine hK _ _ ?_
         clear hK K
         simp only [go_sem]
         refine b0u (fun hc84 => ?_) (fun hc84 => ?_)
         ·rw [b1b hc84] at hm4
          obtain ⟨x89, h_x89, hm4⟩ := b0j hm4
          have h_x890 := b06 h_x89
          have h_x891 := b09 h_x89
          obtain ⟨x90, h_x90, hm4⟩ := b0j hm4
          have h_x900 := b06 h_x90
          have h_x901 := b09 h_x90
          obtain ⟨iq91, rfl, Q17, Qz⟩ := b6i Qc h_x90
          obtain ⟨y92, h_y92, hm4⟩ := b0j hm4
          refine b1o fun K hK => ?_
          simp only [go_sem, s5, s8, s9, s10, Q17, Qz, Q15, Qm, Q0, Q2, Q1, Qb, Qd, Qe, Q13, Qp, b0c Qp, Qr, b0c Qr, Qq, b0c Qq, Q14, b0v h_x89, b0w h_x89, h_x890, h_x891, b0v h_x90, b0w h_x90, h_x900, h_x901, b0b v1, b0b v5, b0b v1_1, b0b v5_1, b0b v7, b0b v5_2]
          refine b1u (d03 x90 (wr (x_28 - x83.Walk.High)) (wr (t_10 - x83.Walk.Low)) _ h_y92) ?_
          simp only [go_sem, s5, s8, s9, s10, Q17, Qz, Q15, Qm, Q0, Q2, Q1, Qb, Qd, Qe, Q13, Qp, b0c Qp, Qr, b0c Qr, Qq, b0c Qq, Q14, b0v h_x89, b0w h_x89, h_x890, h_x891, b0v h_x90, b0w h_x90, h_x900, h_x901, b0b v1, b0b v5, b0b v1_1, b0b v5_1, b0b v7, b0b v5_2]
          refine hK _ _ ?_
          clear hK K
          simp only [b0m, b0n]
          exact J81 (List.set row_9_1 (Int.toNat t_10) (wr (x89 + y92))) (.rs iq91 0 (List.length all_5)) _ _ s1 s2 (by first | (simp only [go_sem, s5, lA9, mA9]; done) | rfl) s6 s7 s8 (by first | exact s9 | simp only [go_sem, s9, lA9, mA9]) s10 s18 s19 s27 s28 s52 s53 s54 (b3n Q8 (by intro j hj  hl; first | rfl | simp only [go_sem, hl, b3z hj Qs, Qm]) (by first | omega | exact Nat.le_refl _ | (simp only [go_sem, nxs] <;> omega))) (b3i (by simp only [go_sem, Qm, Q13, d86 Q13, b0c (d86 Q13), Q17, Qz, lA9, mA9]) (by first | rfl | simp only [go_sem, lA9, mA9]) (by simp only [go_sem, Qz])) (by simp only [go_sem, Qf, Q0, Qm, Qp, b0c Qp, lA9, mA9]) (by simp only [go_sem, Q0]) (by simp only [go_sem, Qh, Q2, Qm, Qr, b0c Qr, lA9, mA9]) (by simp only [go_sem, Q2]) (by simp only [go_sem, Qi, Q1, Qm, Qq, b0c Qq, lA9, mA9]) (by simp only [go_sem, Q1]) (b1j Qa (by intro j hj hl; first | rfl | simp only [go_sem, hl, Qm, b1g hj Q14]) (by first | omega | exact Nat.le_refl _ | (simp only [go_sem, nxs] <;> omega))) (by simp only [go_sem, Q15, Qm, lA9, mA9]) (by simp only [go_sem, Qm]) Qg Q3 Q4 Q5 Qn Qs Qb Qd Qe Qy Q13 Q6 Q7 Qj Qp Q9 Qk Qr Ql Qq Q14 (by intro j hj; first | exact fr j hj | (refine Eq.trans ?_ (fr j hj); first | rfl | simp only [go_sem, Nat.lt_of_lt_of_le hj fx, b6v Q1b hj])) (by first | exact fx | omega | (simp only [go_sem, nxs] <;> omega)) Qo Qt Qv Qw Qu Q1b hm4
         ·rw [b1a hc84] at hm4
          simp only [b07, b0m, b0n]
          exact J81 row_9_1 v5_3 _ _ s1 s2 s5 s6 s7 s8 (by first | exact s9 | simp only [go_sem, s9, lA9, mA9]) s10 s18 s19 s27 s28 s52 s53 s54 (b3n Q8 (by intro j hj  hl; first | rfl | simp only [go_sem, hl]) (by first | omega | exact Nat.le_refl _ | (simp only [go_sem, nxs] <;> omega))) (b1j Qc (by intro j hj hl; first | rfl | simp only [go_sem, hl]) (by first | omega | exact Nat.le_refl _ | (simp only [go_sem, nxs] <;> omega))) (by simp only [go_sem, Qf, Q0, lA9, mA9]) (by simp only [go_sem, Q0]) (by simp only [go_sem, Qh, Q2, lA9, mA9]) (by simp only [go_sem, Q2]) (by simp only [go_sem, Qi, Q1, lA9, mA9]) (by simp only [go_sem, Q1]) (b1j Qa (by intro j hj hl; first | rfl | simp only [go_sem, hl]) (by first | omega | exact Nat.le_refl _ | (simp only [go_sem, nxs] <;> omega))) (by simp only [go_sem, Q15, Qm, lA9, mA9]) (by simp only [go_sem, Qm]) Qg Q3 Q4 Q5 Qn Qs Qb Qd Qe Qy Q13 Q6 Q7 Qj Qp Q9 Qk Qr Ql Qq Q14 (by intro j hj; first | exact fr j hj | (refine Eq.trans ?_ (fr j hj); first | rfl | simp only [go_sem, Nat.lt_of_lt_of_le hj fx])) (by first | exact fx | omega | (simp only [go_sem, nxs] <;> omega)) Qo Qt Qv Qw Qu Q1b hm4
        ·rw [b1a hc79] at hm4
         simp only [b1z, b2a, b19, b11, b0m, b0n, Nat.reduceEqDiff, nF9]
         obtain rfl := sI9 hm4
         obtain rfl := hb77 _ rfl
         try dsimp only at hm3
         exact J70 row_9_1 v5_3 _ _ s1 s2 s5 s6 s7 s8 (by first | exact s9 | simp only [go_sem, s9, lA9, mA9]) s10 s18 s19 s27 s28 Q8 Qc Qf Q0 Qh Q2 Qi Q1 Qa Q15 Qm Qg Q3 Q4 Q5 Qn Qs Qb Qd Qe Qy Q13 Q6 Q7 Qj Qp Q9 Qk Qr Ql Qq Q14 fr fx Qo Qt Qv Qw Qu Q1b hm3
      ·rw [b1a hc68] at hm3
       simp only [b1z, b2a, b19, b11, b0m, b0n, Nat.reduceEqDiff, nF9]
       obtain rfl := sI9 hm3
       obtain rfl := hb66 _ rfl
       try dsimp only at hm2
       exact J55 row_9 v5_2 i9 _ _ s1 s2 s5 s6 s7 s8 (by first | exact s9 | simp only [go_sem, s9, lA9, mA9]) s18 s19 s27 s28 Q8 Qc Qf Q0 Qh Q2 Qi Q1 Qa Q15 Qm Qg Q3 Q4 Q5 Qn Qs Qb Qd Qe Qy Q13 Q6 Q7 Qj Qp Q9 Qk Qr Ql Qq Q14 fr fx Qo Qt Qv Qw Qu Q1b hm2
    ·rw [b1a hc49] at hm2
     simp only [b1z, b2a, b19, b11, b0m, b0n, Nat.reduceEqDiff, nF9]
     obtain rfl := sI9 hm2
     obtain rfl := hb47 _ rfl
     try dsimp only at hm1
     exact J9 b_7_0 b_7_3 v1_1 v5_1 i7 i7_1 i7_2 v7 _ _ s1 s2 s5 s6 s7 s18 s19 Q8 Qc Qf Q0 Qh Q2 Qi Q1 Qa Qg Q3 Q4 Q5 Qn Qb Qd Qe Qy Q6 Q7 Qj Q9 Qk Ql fr fx Qo Qt Qv Qw Qu hm1
  ·rw [b1a hc5] at hm1
   simp only [b1z, b2a, b19, b11, b0m, b0n, Nat.reduceEqDiff, nF9]
   obtain rfl := sI9 hm1
   obtain rfl := hb3 _ rfl
   try dsimp only at hm0
   exact J2 all_5 v5 _ _ s5 Qc fr fx Qo hm0
theorem d08 (hf : Has O "newel/halls.brought" x_halls_brought) : c76 O := by
 intro h_ comb from_ to_ r hm0
 unfold b82 at hm0
 refine b2u hf rfl (b0f (.agg _ (b0f (b0y fun a _ => b2n a) (b0f (b0y fun a _ => b2m a) (b0f (b0y fun a _ => b2q a) (b0f (b0k _) b03))))) (b0f (b0k _) (b0f (b0k _) (b0f (b0k _) b03)))) (b0k _) ?_
 refine b2p (fun t h => t 0 = .agg [.fs 5 (List.map b0q h_.Combs), .fs 3 (List.map b0p h_.Trains), .fs 3 (List.map b0o h_.Shifts), I h_.Until] ∧ t 1 = I comb ∧ t 2 = I from_ ∧ t 3 = I to_) ⟨rfl, rfl, rfl, rfl⟩ fun t h ⟨s0, s1, s2, s3⟩ => ?_
 simp only [x_halls_brought]
 refine b0e fun K hK => ?_
 simp only [go_sem, s0]
 refine hK _ _ ?_
 clear hK K
 refine b04 ?_
 refine b0e fun K hK => ?_
 simp only [go_sem]
 refine hK _ _ ?_
 clear hK K
 refine b0x fun K1 hK1 => ?_
 have J2 : ∀ (sum_8 : Int) (t : Slots) (h : Heap), t 8 = I sum_8 → c3c sum_8 = some r → K1 t h := by
  intro sum_8 t h s8 hm0
  refine hK1 _ _ ?_
  unfold c3c at hm0
  refine b0e fun K hK => ?_
  simp only [go_sem, s8]
  refine hK _ _ ?_
  clear hK K
  simp only [b1k, b1m, b1l, b1n]
  obtain rfl := sI9 hm0
  exact b2h (by simp only [go_sem, s8, lA9, mA9]) (b0k _)
 simp only [b1c]
 obtain ⟨b3, hl3, hm0⟩ := b0j hm0
 refine b2b hl3 (fun | (sum_8, x_16), t, h => t 1 = I comb ∧ t 2 = I from_ ∧ t 3 = I to_ ∧ t 8 = I sum_8 ∧ t 14 = .fs 3 (List.map b0p h_.Trains) ∧ t 15 = I (List.length h_.Trains : Int) ∧ t 16 = I x_16) ?_ ?_
 ·exact ⟨s1, s2, s3, (by first | (simp only [go_sem, lA9, mA9]; done) | rfl), (by first | (simp only [go_sem, lA9, mA9]; done) | rfl), (by first | (simp only [go_sem, lA9, mA9]; done) | rfl), (by first | (simp only [go_sem, lA9, mA9]; done) | rfl)⟩
 ·rintro ⟨sum_8, x_16⟩ o t h ⟨s1, s2, s3, s8, s14, s15, s16⟩ hm1 hb3
  simp only [b84] at hm1
  rw [g1j]
  refine b0e fun K hK => ?_
  simp only [go_sem, s15, s16]
  refine hK _ _ ?_
  clear hK K
  refine b0x fun K4 hK4 => ?_
  simp only [go_sem]
  refine b0u (fun hc5 => ?_) (fun hc5 => ?_)
  ·rw [b1b hc5] at hm1
   simp only [b07, b0m, b0n]
   refine hK4 _ _ ?_
   refine b0x fun K6 hK6 => ?_
   have J7 : ∀ (sum_8_1 : Int) (t : Slots) (h : Heap), t 1 = I comb → t 2 = I from_ → t 3 = I to_ → t 8 = I sum_8_1 → t 14 = .fs 3 (List.map b0p h_.Trains) → t 15 = I (List.length h_.Trains : Int) → t 16 = I x_16 → b70 x_16 sum_8_1 = some o → K6 t h := by
    intro sum_8_1 t h s1 s2 s3 s8 s14 s15 s16 hm1
    refine hK6 _ _ ?_
    unfold b70 at hm1
    refine b1o fun K hK => ?_
    simp only [go_sem, s16]
    refine hK _ _ ?_
    clear hK K
    simp only [b0m, b0n]
    obtain rfl := sI9 hm1
    refine ⟨_, rfl, ?_⟩
    exact ⟨s1, s2, s3, s8, s14, s15, (by first | (simp only [go_sem, s16, lA9, mA9]; done) | rfl)⟩
   simp only [b1c]
   obtain ⟨x9, h_x9, hm1⟩ := b0j hm1
   have h_x90 := b06 h_x9
   have h_x91 := b09 h_x9
   refine b0e fun K hK => ?_
   simp only [go_sem, s14, s16, b0v h_x9, b0w h_x9, h_x90, h_x91]
   refine hK _ _ ?_
   clear hK K
   refine b04 ?_
   refine b2t (fun t h => ∃ i10 : Nat, t 1 = I comb ∧ t 2 = I from_ ∧ t 3 = I to_ ∧ t 8 = I sum_8 ∧ t 10 = .rp i10 0 0 ∧ t 14 = .fs 3 (List.map b0p h_.Trains) ∧ t 15 = I (List.length h_.Trains : Int) ∧ t 16 = I x_16 ∧ t 31 = B ((decide (x9.At.High < from_)) || (decide (to_ < x9.At.Low))) ∧ h.ob i10 = some (3, [[I x9.At.Low, I x9.At.High, .fs 3 (List.map b21 x9.Crowds)]]) ∧ i10 < h.nx) (fun K hK => ?_) ?_
   ·simp only [go_sem, s2, s3]
    refine b0u (fun hg10 => ?_) (fun hg10 => ?_)
    ·simp only [go_sem, s2, s3, hg10]
     exact hK _ _ ⟨h.nx, s1, s2, s3, s8, (by first | (simp only [go_sem, hg10, lA9, mA9]; done) | rfl), s14, s15, s16, (by first | (simp only [go_sem, hg10, lA9, mA9]; done) | rfl), (by simp only [go_sem, hg10, lA9, mA9]), (by simp only [go_sem])⟩
    ·simp only [go_sem, s2, s3, hg10]
     exact hK _ _ ⟨h.nx, s1, s2, s3, s8, (by first | (simp only [go_sem, hg10, lA9, mA9]; done) | rfl), s14, s15, s16, (by first | (simp only [go_sem, hg10, lA9, mA9]; done) | rfl), (by simp only [go_sem, hg10, lA9, mA9]), (by simp only [go_sem])⟩
   ·rintro t h ⟨i10, s1, s2, s3, s8, s10, s14, s15, s16, s31, Q1s, Q1t⟩
    refine b0x fun K11 hK11 => ?_
    simp only [go_sem, s31]
    refine b0u (fun hc12 => ?_) (fun hc12 => ?_)
    ·rw [b1b hc12] at hm1
     simp only [b1z, b2a, b19, b11, b0m, b0n, Nat.reduceEqDiff, nF9]
     exact J7 sum_8 _ _ s1 s2 s3 s8 s14 s15 s16 hm1
    ·rw [b1a hc12] at hm1
     simp only [b07, b0m, b0n]
     refine hK11 _ _ ?_
     refine b0e fun K hK => ?_
     simp only [go_sem, s10, Q1s, Q1t]
     refine hK _ _ ?_
     clear hK K
     simp only [b1c]
     obtain ⟨b13, hl13, hm1⟩ := b0j hm1
     refine b2b hl13 (fun | (sum_8_1, x_35), t, h => t 1 = I comb ∧ t 2 = I from_ ∧ t 3 = I to_ ∧ t 8 = I sum_8_1 ∧ t 14 = .fs 3 (List.map b0p h_.Trains) ∧ t 15 = I (List.length h_.Trains : Int) ∧ t 16 = I x_16 ∧ t 33 = .fs 3 (List.map b21 x9.Crowds) ∧ t 34 = I (List.length x9.Crowds : Int) ∧ t 35 = I x_35) ?_ ?_
     ·exact ⟨s1, s2, s3, s8, s14, s15, s16, (by first | (simp only [go_sem, lA9, mA9]; done) | rfl), (by first | (simp only [go_sem, lA9, mA9]; done) | rfl), (by first | (simp only [go_sem, lA9, mA9]; done) | rfl)⟩
     ·try clear s1 s2 s3 s8 s10 s14 s15 s16 s31 Q1s Q1t
      rintro ⟨sum_8_1, x_35⟩ o t h ⟨s1, s2, s3, s8, s14, s15, s16, s33, s34, s35⟩ hm2 hb13
      simp only [b83] at hm2
      rw [g1i]
      refine b0e fun K hK => ?_
      simp only [go_sem, s34, s35]
      refine hK _ _ ?_
      clear hK K
      refine b0x fun K14 hK14 => ?_
      simp only [go_sem]
      refine b0u (fun hc15 => ?_) (fun hc15 => ?_)
      ·rw [b1b hc15] at hm2
       simp only [b07, b0m, b0n]
       refine hK14 _ _ ?_
       refine b0x fun K16 hK16 => ?_
       have J17 : ∀ (sum_8_2 : Int) (t : Slots) (h : Heap), t 1 = I comb → t 2 = I from_ → t 3 = I to_ → t 8 = I sum_8_2 → t 14 = .fs 3 (List.map b0p h_.Trains) → t 15 = I (List.length h_.Trains : Int) → t 16 = I x_16 → t 33 = .fs 3 (List.map b21 x9.Crowds) → t 34 = I (List.length x9.Crowds : Int) → t 35 = I x_35 → b7z x_35 sum_8_2 = some o → K16 t h := by
        try clear s1 s2 s3 s8 s14 s15 s16 s33 s34 s35
        intro sum_8_2 t h s1 s2 s3 s8 s14 s15 s16 s33 s34 s35 hm2
        refine hK16 _ _ ?_
        unfold b7z at hm2
        refine b1o fun K hK => ?_
        simp only [go_sem, s35]
        refine hK _ _ ?_
        clear hK K
        simp only [b0m, b0n]
        obtain rfl := sI9 hm2
        refine ⟨_, rfl, ?_⟩
        exact ⟨s1, s2, s3, s8, s14, s15, s16, s33, s34, (by first | (simp only [go_sem, s35, lA9, mA9]; done) | rfl)⟩
       simp only [b1c]
       obtain ⟨x19, h_x19, hm2⟩ := b0j hm2
       have h_x190 := b06 h_x19
       have h_x191 := b09 h_x19
       refine b0e fun K hK => ?_
       simp only [go_sem, s33, s35, b0v h_x19, b0w h_x19, h_x190, h_x191]
       refine hK _ _ ?_
       clear hK K
       refine b0e fun K hK => ?_
       simp only [go_sem, s1]
       refine hK _ _ ?_
       clear hK K
       simp only [go_sem]
       refine b0u (fun hc20 => ?_) (fun hc20 => ?_)
       ·rw [b1b hc20] at hm2
        refine b1o fun K hK => ?_
        simp only [go_sem, s8]
        refine hK _ _ ?_
        clear hK K
        simp only [b0m, b0n]
        exact J17 (wr (sum_8_1 + x19.People.High)) _ _ s1 s2 s3 (by first | (simp only [go_sem, s8, lA9, mA9]; done) | rfl) s14 s15 s16 s33 s34 s35 hm2
       ·rw [b1a hc20] at hm2
        simp only [b07, b0m, b0n]
        exact J17 sum_8_1 _ _ s1 s2 s3 s8 s14 s15 s16 s33 s34 s35 hm2
      ·rw [b1a hc15] at hm2
       simp only [b1z, b2a, b19, b11, b0m, b0n, Nat.reduceEqDiff, nF9]
       obtain rfl := sI9 hm2
       obtain rfl := hb13 _ rfl
       try dsimp only at hm1
       exact J7 sum_8_1 _ _ s1 s2 s3 s8 s14 s15 s16 hm1
  ·rw [b1a hc5] at hm1
   simp only [b1z, b2a, b19, b11, b0m, b0n, Nat.reduceEqDiff, nF9]
   obtain rfl := sI9 hm1
   obtain rfl := hb3 _ rfl
   try dsimp only at hm0
   exact J2 sum_8 _ _ s8 hm0
theorem c3o (hf : Has O "newel/halls.check" x_halls_check) (c3m : c4t O) (d1l : c8n O) (d09 : c77 O) : c4v O := by
 intro h_ comb ticks r hm0
 unfold b6f at hm0
 refine b2u hf rfl (b0f (.agg _ (b0f (b0y fun a _ => b2n a) (b0f (b0y fun a _ => b2m a) (b0f (b0y fun a _ => b2q a) (b0f (b0k _) b03))))) (b0f (b0k _) (b0f (b0y fun a _ => b3f a) b03))) (b0k _) ?_
 refine b2p (fun t h => t 0 = .agg [.fs 5 (List.map b0q h_.Combs), .fs 3 (List.map b0p h_.Trains), .fs 3 (List.map b0o h_.Shifts), I h_.Until] ∧ t 1 = I comb ∧ t 2 = .fs 1 (List.map eI ticks)) ⟨rfl, rfl, rfl⟩ fun t h ⟨s0, s1, s2⟩ => ?_
 simp only [x_halls_check]
 refine b0e fun K hK => ?_
 simp only [go_sem, s0]
 refine hK _ _ ?_
 clear hK K
 refine b04 ?_
 obtain ⟨y2, h_y2, hm0⟩ := b0j hm0
 refine b0e fun K hK => ?_
 simp only [go_sem]
 refine b1u (c3m h_ _ h_y2) ?_
 simp only [go_sem]
 refine hK _ _ ?_
 clear hK K
 refine b04 ?_
 refine b0e fun K hK => ?_
 simp only [go_sem]
 refine hK _ _ ?_
 clear hK K
 refine b0x fun K3 hK3 => ?_
 simp only [go_sem]
 refine b0u (fun hc4 => ?_) (fun hc4 => ?_)
 ·rw [b1b hc4] at hm0
  refine b0e fun K hK => ?_
  simp only [go_sem]
  refine hK _ _ ?_
  clear hK K
  simp only [b1k, b1m, b1l, b1n]
  obtain rfl := sI9 hm0
  exact b2h (by simp only [go_sem, lA9, mA9]) (b0k _)
 ·rw [b1a hc4] at hm0
  simp only [b07, b0m, b0n]
  refine hK3 _ _ ?_
  refine b04 ?_
  obtain ⟨c10, h_c10, hm0⟩ := b0j hm0
  refine b2t (fun t h => t 26 = B c10) (fun K hK => ?_) ?_
  ·simp only [go_sem, s1, s2]
   refine b0u (fun hg11 => ?_) (fun hg11 => ?_)
   ·simp only [hg11, Bool.not_true, Bool.not_false, eq_self, if_true, if_false, Bool.true_or, Bool.or_true, Bool.false_or, Bool.or_false, Bool.true_and, Bool.and_true, Bool.false_and, Bool.and_false, Bool.false_eq_true] at h_c10
    obtain rfl := sI9 h_c10
    simp only [go_sem, s1, s2, hg11]
    exact hK _ _ (by first | (simp only [go_sem, hg11, lA9, mA9]; done) | rfl)
   ·simp only [go_sem, s1, s2, hg11]
    refine b0u (fun hg12 => ?_) (fun hg12 => ?_)
    ·simp only [hg11, hg12, Bool.not_true, Bool.not_false, eq_self, if_true, if_false, Bool.true_or, Bool.or_true, Bool.false_or, Bool.or_false, Bool.true_and, Bool.and_true, Bool.false_and, Bool.and_false, Bool.false_eq_true] at h_c10
     obtain rfl := sI9 h_c10
     simp only [go_sem, s1, s2, hg11, hg12]
     exact hK _ _ (by first | (simp only [go_sem, hg11, hg12, lA9, mA9]; done) | rfl)
    ·simp only [hg11, hg12, Bool.not_true, Bool.not_false, eq_self, if_true, if_false, Bool.true_or, Bool.or_true, Bool.false_or, Bool.or_false, Bool.true_and, Bool.and_true, Bool.false_and, Bool.and_false, Bool.false_eq_true] at h_c10
     obtain ⟨y9, h_y9, h_c10⟩ := b0j h_c10
     obtain rfl := sI9 h_c10
     simp only [go_sem, s1, s2, hg11, hg12]
     refine b1u (d1l ticks "newel/halls.check$1" [] [.fp [.fs 5 (List.map b0q h_.Combs), .fs 3 (List.map b0p h_.Trains), .fs 3 (List.map b0o h_.Shifts), I h_.Until] 0] (fun z8 => some (b7a z8 h_)) (.fn _ _ _ b03 (b0f (.fp _ _ (b0f (b0y fun a _ => b2n a) (b0f (b0y fun a _ => b2m a) (b0f (b0y fun a _ => b2q a) (b0f (b0k _) b03))))) b03)) (fun z0 y hz => by cases hz; exact d09 z0 h_) _ h_y9) ?_
     simp only [go_sem, s1, s2, hg11, hg12]
     exact hK _ _ (by first | (simp only [go_sem, hg11, hg12, lA9, mA9]; done) | rfl)
  ·rintro t h s26
   refine b0x fun K13 hK13 => ?_
   simp only [go_sem, s26]
   refine b0u (fun hc14 => ?_) (fun hc14 => ?_)
   ·rw [b1b hc14] at hm0
    refine b0e fun K hK => ?_
    simp only [go_sem]
    refine hK _ _ ?_
    clear hK K
    simp only [b1k, b1m, b1l, b1n]
    obtain rfl := sI9 hm0
    exact b2h (by simp only [go_sem, lA9, mA9]) (b0k _)
   ·rw [b1a hc14] at hm0
    simp only [b07, b0m, b0n]
    refine hK13 _ _ ?_
    refine b0e fun K hK => ?_
    simp only [go_sem]
    refine hK _ _ ?_
    clear hK K
    simp only [b1k, b1m, b1l, b1n]
    obtain rfl := sI9 hm0
    exact b2h (by simp only [go_sem, lA9, mA9]) (b0k _)
theorem d09 (hf : Has O "newel/halls.check$1" x_halls_checkD1) : c77 O := by
 intro t_ c0
 generalize hm0 : b7a t_ c0 = r
 unfold b7a at hm0
 refine b2u hf rfl (b0f (b0k _) (b0f (.fp _ _ (b0f (b0y fun a _ => b2n a) (b0f (b0y fun a _ => b2m a) (b0f (b0y fun a _ => b2q a) (b0f (b0k _) b03))))) b03)) (b0k _) ?_
 refine b2p (fun t h => t 0 = I t_ ∧ t 1 = .fp [.fs 5 (List.map b0q c0.Combs), .fs 3 (List.map b0p c0.Trains), .fs 3 (List.map b0o c0.Shifts), I c0.Until] 0) ⟨rfl, rfl⟩ fun t h ⟨s0, s1⟩ => ?_
 simp only [x_halls_checkD1]
 refine b0e fun K hK => ?_
 simp only [go_sem]
 refine hK _ _ ?_
 clear hK K
 refine b2t (fun t h => t 3 = B ((decide (t_ < 0)) || (decide (c0.Until ≤ t_)))) (fun K hK => ?_) ?_
 ·simp only [go_sem, s0, s1]
  refine b0u (fun hg1 => ?_) (fun hg1 => ?_)
  ·simp only [go_sem, s0, s1, hg1]
   exact hK _ _ (by first | (simp only [go_sem, hg1, lA9, mA9]; done) | rfl)
  ·simp only [go_sem, s0, s1, hg1]
   exact hK _ _ (by first | (simp only [go_sem, hg1, lA9, mA9]; done) | rfl)
 ·rintro t h s3
  simp only [b1k, b1m, b1l, b1n]
  obtain rfl := hm0
  exact b2h (by simp only [go_sem, s3, lA9, mA9]) (b0k _)
theorem b9e (hf : Has O "newel/halls.in" x_halls_in) : c4w O := by
 intro n s
 generalize hm0 : b4s n s = r
 unfold b4s at hm0
 refine b2u hf rfl (b0f (b0k _) (b0f (.agg _ (b0f (b0k _) (b0f (b0k _) b03))) b03)) (b0k _) ?_
 refine b2p (fun t h => t 0 = I n ∧ t 1 = .agg [I s.Low, I s.High]) ⟨rfl, rfl⟩ fun t h ⟨s0, s1⟩ => ?_
 simp only [x_halls_in]
 refine b0e fun K hK => ?_
 simp only [go_sem, s1]
 refine hK _ _ ?_
 clear hK K
 refine b2t (fun t h => t 4 = B ((decide (s.Low ≤ n)) && (decide (n ≤ s.High)))) (fun K hK => ?_) ?_
 ·simp only [go_sem, s0]
  refine b0u (fun hg1 => ?_) (fun hg1 => ?_)
  ·simp only [go_sem, s0, hg1]
   exact hK _ _ (by first | (simp only [go_sem, hg1, lA9, mA9]; done) | rfl)
  ·simp only [go_sem, s0, hg1]
   exact hK _ _ (by first | (simp only [go_sem, hg1, lA9, mA9]; done) | rfl)
 ·rintro t h s4
  simp only [b1k, b1m, b1l, b1n]
  obtain rfl := hm0
  exact b2h (by simp only [go_sem, s4, lA9, mA9]) (b0k _)
theorem d1a (hf : Has O "newel/halls.isComb" x_halls_isComb) (b9e : c4w O) (b9g : c4y O) : c78 O := by
 intro h_ i r hm0
 unfold b85 at hm0
 refine b2u hf rfl (b0f (.agg _ (b0f (b0y fun a _ => b2n a) (b0f (b0y fun a _ => b2m a) (b0f (b0y fun a _ => b2q a) (b0f (b0k _) b03))))) (b0f (b0k _) b03)) (b0k _) ?_
 refine b2p (fun t h => t 0 = .agg [.fs 5 (List.map b0q h_.Combs), .fs 3 (List.map b0p h_.Trains), .fs 3 (List.map b0o h_.Shifts), I h_.Until] ∧ t 1 = I i) ⟨rfl, rfl⟩ fun t h ⟨s0, s1⟩ => ?_
 simp only [x_halls_isComb]
 refine b0e fun K hK => ?_
 simp only [go_sem, s0]
 refine hK _ _ ?_
 clear hK K
 obtain ⟨x2, h_x2, hm0⟩ := b0j hm0
 have h_x20 := b06 h_x2
 have h_x21 := b09 h_x2
 refine b0e fun K hK => ?_
 simp only [go_sem, s1, b0v h_x2, b0w h_x2, h_x20, h_x21]
 refine hK _ _ ?_
 clear hK K
 refine b2t (fun t h => t 4 = B ((((b4s x2.Rate (Span.mk 0 1000)) && (b4s x2.Limit (Span.mk 0 100000))) && ((decide (x2.Next = (-1))) || ((decide (i < x2.Next)) && (decide (x2.Next < (List.length h_.Combs : Int)))))) && (b43 x2.Walk 1 20))) (fun K hK => ?_) ?_
 ·simp only [go_sem, s1]
  refine b1u (b9e x2.Rate (Span.mk 0 1000)) ?_
  simp only [go_sem, s1]
  refine b0u (fun hg3 => ?_) (fun hg3 => ?_)
  ·simp only [go_sem, s1, hg3]
   refine b1u (b9e x2.Limit (Span.mk 0 100000)) ?_
   simp only [go_sem, s1, hg3]
   refine b0u (fun hg4 => ?_) (fun hg4 => ?_)
   ·simp only [go_sem, s1, hg3, hg4]
    refine b0u (fun hg5 => ?_) (fun hg5 => ?_)
    ·simp only [go_sem, s1, hg3, hg4, hg5]
     refine b1u (b9g x2.Walk 1 20) ?_
     simp only [go_sem, s1, hg3, hg4, hg5]
     exact hK _ _ (by first | (simp only [go_sem, hg3, hg4, hg5, lA9, mA9]; done) | rfl)
    ·simp only [go_sem, s1, hg3, hg4, hg5]
     refine b0u (fun hg6 => ?_) (fun hg6 => ?_)
     ·simp only [go_sem, s1, hg3, hg4, hg5, hg6]
      refine b0u (fun hg7 => ?_) (fun hg7 => ?_)
      ·simp only [go_sem, s1, hg3, hg4, hg5, hg6, hg7]
       refine b1u (b9g x2.Walk 1 20) ?_
       simp only [go_sem, s1, hg3, hg4, hg5, hg6, hg7]
       exact hK _ _ (by first | (simp only [go_sem, hg3, hg4, hg5, hg6, hg7, lA9, mA9]; done) | rfl)
      ·simp only [go_sem, s1, hg3, hg4, hg5, hg6, hg7]
       exact hK _ _ (by first | (simp only [go_sem, hg3, hg4, hg5, hg6, hg7, lA9, mA9]; done) | rfl)
     ·simp only [go_sem, s1, hg3, hg4, hg5, hg6]
      exact hK _ _ (by first | (simp only [go_sem, hg3, hg4, hg5, hg6, lA9, mA9]; done) | rfl)
   ·simp only [go_sem, s1, hg3, hg4]
    exact hK _ _ (by first | (simp only [go_sem, hg3, hg4, lA9, mA9]; done) | rfl)
  ·simp only [go_sem, s1, hg3]
   exact hK _ _ (by first | (simp only [go_sem, hg3, lA9, mA9]; done) | rfl)
 ·rintro t h s4
  simp only [b1k, b1m, b1l, b1n]
  obtain rfl := sI9 hm0
  exact b2h (by simp only [go_sem, s4, lA9, mA9]) (b0k _)
theorem d1b (hf : Has O "newel/halls.isTrain" x_halls_isTrain) (b9g : c4y O) : c79 O := by
 intro h_ t_ r hm0
 unfold b86 at hm0
 refine b2u hf rfl (b0f (.agg _ (b0f (b0y fun a _ => b2n a) (b0f (b0y fun a _ => b2m a) (b0f (b0y fun a _ => b2q a) (b0f (b0k _) b03))))) (b0f (.agg _ (b0f (b0k _) (b0f (b0k _) (b0f (b0y fun a _ => c25 a) b03)))) b03)) (b0k _) ?_
 refine b2p (fun t h => t 0 = .agg [.fs 5 (List.map b0q h_.Combs), .fs 3 (List.map b0p h_.Trains), .fs 3 (List.map b0o h_.Shifts), I h_.Until] ∧ t 1 = .agg [I t_.At.Low, I t_.At.High, .fs 3 (List.map b21 t_.Crowds)]) ⟨rfl, rfl⟩ fun t h ⟨s0, s1⟩ => ?_
 simp only [x_halls_isTrain]
 refine b0e fun K hK => ?_
 simp only [go_sem, s0, s1]
 refine hK _ _ ?_
 clear hK K
 refine b0e fun K hK => ?_
 simp only [go_sem]
 refine hK _ _ ?_
 clear hK K
 refine b04 ?_
 refine b0e fun K hK => ?_
 simp only [go_sem]
 refine hK _ _ ?_
 clear hK K
 refine b0x fun K1 hK1 => ?_
 have J2 : ∀ (t : Slots) (h : Heap), t 2 = .fp [.fs 5 (List.map b0q h_.Combs), .fs 3 (List.map b0p h_.Trains), .fs 3 (List.map b0o h_.Shifts), I h_.Until] 0 → t 3 = .fp [I t_.At.Low, I t_.At.High, .fs 3 (List.map b21 t_.Crowds)] 0 → c01 h_ t_ = some r → K1 t h := by
  intro t h s2 s3 hm0
  refine hK1 _ _ ?_
  unfold c01 at hm0
  refine b2t (fun t h => t 4 = B ((b43 t_.At 0 (wr (h_.Until - 1))) && (decide ((List.length t_.Crowds : Int) ≤ 4)))) (fun K hK => ?_) ?_
  ·simp only [go_sem, s2, s3]
   refine b1u (b9g t_.At 0 (wr (h_.Until - 1))) ?_
   simp only [go_sem, s2, s3]
   refine b0u (fun hg3 => ?_) (fun hg3 => ?_)
   ·simp only [go_sem, s2, s3, hg3]
    exact hK _ _ (by first | (simp only [go_sem, hg3, lA9, mA9]; done) | rfl)
   ·simp only [go_sem, s2, s3, hg3]
    exact hK _ _ (by first | (simp only [go_sem, hg3, lA9, mA9]; done) | rfl)
  ·rintro t h s4
   simp only [b1k, b1m, b1l, b1n]
   obtain rfl := sI9 hm0
   exact b2h (by simp only [go_sem, s4, lA9, mA9]) (b0k _)
 simp only [b1c]
 obtain ⟨b4, hl4, hm0⟩ := b0j hm0
 refine b2b hl4 (fun | (last_5, x_11), t, h => t 2 = .fp [.fs 5 (List.map b0q h_.Combs), .fs 3 (List.map b0p h_.Trains), .fs 3 (List.map b0o h_.Shifts), I h_.Until] 0 ∧ t 3 = .fp [I t_.At.Low, I t_.At.High, .fs 3 (List.map b21 t_.Crowds)] 0 ∧ t 5 = I last_5 ∧ t 9 = .fs 3 (List.map b21 t_.Crowds) ∧ t 10 = I (List.length t_.Crowds : Int) ∧ t 11 = I x_11) ?_ ?_
 ·exact ⟨(by first | (simp only [go_sem, lA9, mA9]; done) | rfl), (by first | (simp only [go_sem, lA9, mA9]; done) | rfl), (by first | (simp only [go_sem, lA9, mA9]; done) | rfl), (by first | (simp only [go_sem, lA9, mA9]; done) | rfl), (by first | (simp only [go_sem, lA9, mA9]; done) | rfl), (by first | (simp only [go_sem, lA9, mA9]; done) | rfl)⟩
 ·rintro ⟨last_5, x_11⟩ o t h ⟨s2, s3, s5, s9, s10, s11⟩ hm1 hb4
  simp only [b6w] at hm1
  rw [g1k]
  refine b0e fun K hK => ?_
  simp only [go_sem, s10, s11]
  refine hK _ _ ?_
  clear hK K
  refine b0x fun K5 hK5 => ?_
  simp only [go_sem]
  refine b0u (fun hc6 => ?_) (fun hc6 => ?_)
  ·rw [b1b hc6] at hm1
   simp only [b07, b0m, b0n]
   refine hK5 _ _ ?_
   refine b0x fun K7 hK7 => ?_
   simp only [b1c]
   obtain ⟨x9, h_x9, hm1⟩ := b0j hm1
   have h_x90 := b06 h_x9
   have h_x91 := b09 h_x9
   refine b0e fun K hK => ?_
   simp only [go_sem, s9, s11, b0v h_x9, b0w h_x9, h_x90, h_x91]
   refine hK _ _ ?_
   clear hK K
   refine b04 ?_
   refine b2t (fun t h => ∃ i7 : Nat, t 2 = .fp [.fs 5 (List.map b0q h_.Combs), .fs 3 (List.map b0p h_.Trains), .fs 3 (List.map b0o h_.Shifts), I h_.Until] 0 ∧ t 3 = .fp [I t_.At.Low, I t_.At.High, .fs 3 (List.map b21 t_.Crowds)] 0 ∧ t 7 = .rp i7 0 0 ∧ t 9 = .fs 3 (List.map b21 t_.Crowds) ∧ t 10 = I (List.length t_.Crowds : Int) ∧ t 11 = I x_11 ∧ t 32 = B (((decide (x9.Comb ≤ last_5)) || (decide ((List.length h_.Combs : Int) ≤ x9.Comb))) || (!(b43 x9.People 0 1000))) ∧ h.ob i7 = some (3, [[I x9.Comb, I x9.People.Low, I x9.People.High]]) ∧ i7 < h.nx) (fun K hK => ?_) ?_
   ·simp only [go_sem, s2, s5]
    refine b0u (fun hg10 => ?_) (fun hg10 => ?_)
    ·simp only [go_sem, s2, s5, hg10]
     exact hK _ _ ⟨h.nx, s2, s3, (by first | (simp only [go_sem, hg10, lA9, mA9]; done) | rfl), s9, s10, s11, (by first | (simp only [go_sem, hg10, lA9, mA9]; done) | rfl), (by simp only [go_sem, hg10, lA9, mA9]), (by simp only [go_sem])⟩
    ·simp only [go_sem, s2, s5, hg10]
     refine b0u (fun hg11 => ?_) (fun hg11 => ?_)
     ·simp only [go_sem, s2, s5, hg10, hg11]
      exact hK _ _ ⟨h.nx, s2, s3, (by first | (simp only [go_sem, hg10, hg11, lA9, mA9]; done) | rfl), s9, s10, s11, (by first | (simp only [go_sem, hg10, hg11, lA9, mA9]; done) | rfl), (by simp only [go_sem, hg10, hg11, lA9, mA9]), (by simp only [go_sem])⟩
     ·simp only [go_sem, s2, s5, hg10, hg11]
      refine b1u (b9g x9.People 0 1000) ?_
      simp only [go_sem, s2, s5, hg10, hg11]
      exact hK _ _ ⟨h.nx, s2, s3, (by first | (simp only [go_sem, hg10, hg11, lA9, mA9]; done) | rfl), s9, s10, s11, (by first | (simp only [go_sem, hg10, hg11, lA9, mA9]; done) | rfl), (by simp only [go_sem, hg10, hg11, lA9, mA9]), (by simp only [go_sem])⟩
   ·rintro t h ⟨i7, s2, s3, s7, s9, s10, s11, s32, Qf, Q0⟩
    refine b0x fun K12 hK12 => ?_
    simp only [go_sem, s32]
    refine b0u (fun hc13 => ?_) (fun hc13 => ?_)
    ·rw [b1b hc13] at hm1
     refine b0e fun K hK => ?_
     simp only [go_sem, Q0]
     refine hK _ _ ?_
     clear hK K
     simp only [b1k, b1m, b1l, b1n]
     obtain rfl := sI9 hm1
     obtain rfl := hb4 _ rfl
     try dsimp only at hm0
     obtain rfl := sI9 hm0
     exact b2h (by simp only [go_sem, Qf, Q0, lA9, mA9]) (b0k _)
    ·rw [b1a hc13] at hm1
     simp only [b07, b0m, b0n]
     refine hK12 _ _ ?_
     refine b1o fun K hK => ?_
     simp only [go_sem, s7, Qf, Q0]
     refine hK _ _ ?_
     clear hK K
     simp only [b0m, b0n]
     refine hK7 _ _ ?_
     refine b1o fun K hK => ?_
     simp only [go_sem, s11, Q0]
     refine hK _ _ ?_
     clear hK K
     simp only [b0m, b0n]
     obtain rfl := sI9 hm1
     refine ⟨_, rfl, ?_⟩
     exact ⟨s2, s3, (by first | (simp only [go_sem, lA9, mA9]; done) | rfl), s9, s10, (by first | (simp only [go_sem, s11, lA9, mA9]; done) | rfl)⟩
  ·rw [b1a hc6] at hm1
   simp only [b1z, b2a, b19, b11, b0m, b0n, Nat.reduceEqDiff, nF9]
   obtain rfl := sI9 hm1
   obtain rfl := hb4 _ rfl
   try dsimp only at hm0
   exact J2  _ _ s2 s3 hm0
theorem b9f (hf : Has O "newel/halls.open" x_halls_open) (d1d : c8b O) : c2d O := by
 intro h_ h0 r hm0
 unfold b5y at hm0
 refine d58 hf rfl ?_
 refine b2p (fun t h => t 0 = .agg [.fs 5 (List.map b0q h_.Combs), .fs 3 (List.map b0p h_.Trains), .fs 3 (List.map b0o h_.Shifts), I h_.Until] ∧ (∀ j, j < h0.nx → h.ob j = h0.ob j) ∧ h0.nx ≤ h.nx) ⟨rfl, fun _ _ => rfl, Nat.le_refl _⟩ fun t h ⟨s0, fr, fx⟩ => ?_
 simp only [x_halls_open]
 refine b0e fun K hK => ?_
 simp only [go_sem, s0]
 refine hK _ _ ?_
 clear hK K
 refine b04 ?_
 refine b0e fun K hK => ?_
 simp only [go_sem]
 refine hK _ _ ?_
 clear hK K
 refine b0x fun K1 hK1 => ?_
 have J2 : ∀ (out_2 : List (List Int)) (v2 : AV) (hs2 : List AV) (t : Slots) (h : Heap), t 2 = v2 → RR h v2 hs2 1 eI out_2 → (∀ j, j < h0.nx → h.ob j = h0.ob j) → h0.nx ≤ h.nx → (∀ j, ¬b0d v2 hs2 j → h0.nx ≤ j) → c3e out_2 = some r → K1 t h := by
  intro out_2 v2 hs2 t h s2 Q1c fr fx Q1k hm0
  refine hK1 _ _ ?_
  unfold c3e at hm0
  refine b0e fun K hK => ?_
  simp only [go_sem, s2, b3o Q1c, b0b v2]
  refine hK _ _ ?_
  clear hK K
  simp only [b1k, b1m, b1l, b1n]
  obtain rfl := sI9 hm0
  exact d95 (Post := fun v h => ∃ hs, RR h v hs 1 eI out_2 ∧ (∀ j, j < h0.nx → h.ob j = h0.ob j) ∧ h0.nx ≤ h.nx ∧ ∀ j, ¬b0d v hs j → h0.nx ≤ j) (v := v2) (by simp only [go_sem, s2, b08 Q1c, lA9, mA9]) ⟨hs2, Q1c, fr, fx, Q1k⟩
 simp only [b1c]
 obtain ⟨b3, hl3, hm0⟩ := b0j hm0
 refine b2b hl3 (fun | (out_2, x_7), t, h => ∃ v2 : AV, ∃ hs2 : List AV, t 1 = .fp [.fs 5 (List.map b0q h_.Combs), .fs 3 (List.map b0p h_.Trains), .fs 3 (List.map b0o h_.Shifts), I h_.Until] 0 ∧ t 2 = v2 ∧ t 6 = I (List.length h_.Combs : Int) ∧ t 7 = I x_7 ∧ RR h v2 hs2 1 eI out_2 ∧ (∀ j, j < h0.nx → h.ob j = h0.ob j) ∧ h0.nx ≤ h.nx ∧ (∀ j, ¬b0d v2 hs2 j → h0.nx ≤ j)) ?_ ?_
 ·exact ⟨nilS, [], (by first | (simp only [go_sem, lA9, mA9]; done) | rfl), (by first | (simp only [go_sem, lA9, mA9]; done) | rfl), (by first | (simp only [go_sem, lA9, mA9]; done) | rfl), (by first | (simp only [go_sem, lA9, mA9]; done) | rfl), j8q, fr, fx, (fun _ hj => absurd j79 hj)⟩
 ·rintro ⟨out_2, x_7⟩ o t h ⟨v2, hs2, s1, s2, s6, s7, Q1c, fr, fx, Q1k⟩ hm1 hb3
  simp only [b88] at hm1
  rw [g1l]
  refine b0e fun K hK => ?_
  simp only [go_sem, s6, s7, b0b v2]
  refine hK _ _ ?_
  clear hK K
  refine b0x fun K4 hK4 => ?_
  simp only [go_sem]
  refine b0u (fun hc5 => ?_) (fun hc5 => ?_)
  ·rw [b1b hc5] at hm1
   simp only [b07, b0m, b0n]
   refine hK4 _ _ ?_
   refine b0x fun K6 hK6 => ?_
   simp only [b1c]
   refine b0e fun K hK => ?_
   simp only [go_sem, s7, b0b v2]
   refine hK _ _ ?_
   clear hK K
   obtain ⟨y9, h_y9, hm1⟩ := b0j hm1
   obtain ⟨l10, h_l10, hm1⟩ := b0j hm1
   refine b2t (fun t h => ∃ v2_1 : AV, ∃ hs2_1 : List AV, t 1 = .fp [.fs 5 (List.map b0q h_.Combs), .fs 3 (List.map b0p h_.Trains), .fs 3 (List.map b0o h_.Shifts), I h_.Until] 0 ∧ t 2 = v2_1 ∧ t 6 = I (List.length h_.Combs : Int) ∧ t 7 = I x_7 ∧ RR h v2_1 hs2_1 1 eI l10 ∧ (∀ j, j < h0.nx → h.ob j = h0.ob j) ∧ h0.nx ≤ h.nx ∧ (∀ j, ¬b0d v2_1 hs2_1 j → h0.nx ≤ j)) (fun K hK => ?_) ?_
   ·simp only [go_sem, s1, s2, b3o Q1c, b0b v2]
    refine g9z (e := eI) (l := y9) ?_ (d1d h_ x_7 _ h_y9) ?_
    ·exact .cons (.refl _ (.agg _ (b0f (b0y fun a _ => b2n a) (b0f (b0y fun a _ => b2m a) (b0f (b0y fun a _ => b2q a) (b0f (b0k _) b03)))))) (.cons (.refl _ (b0k _)) (.nil))
    simp only [go_sem, s1, s2, b3o Q1c, b0b v2]
    refine g85 (f := eI) (sz := 1) (rows := out_2) (hs := hs2) (u := .rs h.nx 0 (List.length y9)) ?_ ?_ ?_ h_l10 ?_
    ·exact (b3n Q1c (by intro j hj  hl; first | rfl | simp only [go_sem, hl]) (by first | omega | exact Nat.le_refl _ | (simp only [go_sem, nxs] <;> omega)))
    ·exact (by simp only [go_sem, b08 Q1c, lA9, mA9])
    ·exact (b2o Q1c (by first | assumption | omega | (simp only [nxs] <;> omega)))
    simp only [go_sem, s1, s2, b3o Q1c, b0b v2]
    exact hK _ _ ⟨(.rs (nxs (nxs h.nx)) 0 (List.length l10)), (hs2 ++ [.rs h.nx 0 (List.length y9)]), s1, (by first | (simp only [go_sem, s2, lA9, mA9]; done) | rfl), s6, s7, (j8o (h := h) Q1c h_l10 (by simp only [go_sem, b08 Q1c, lA9, mA9]) rfl (by simp only [go_sem]) (b3i (by simp only [go_sem, b08 Q1c, lA9, mA9]) (by simp only [go_sem, b08 Q1c, lA9, mA9]) (by simp only [go_sem])) (c0i (by first | assumption | exact b2o Q1c (by first | omega | (simp only [nxs] <;> omega)))) (by first | omega | exact Nat.le_refl _ | (simp only [go_sem, nxs] <;> omega)) (by first | exact b1d | exact b1e (by first | assumption | omega | (simp only [nxs] <;> omega))) (by intro j hj h2 hl; first | rfl | simp only [go_sem, h2, hl]) (by first | omega | exact Nat.le_refl _ | (simp only [go_sem, nxs] <;> omega))), (by intro j hj; first | exact fr j hj | (refine Eq.trans ?_ (fr j hj); first | rfl | simp only [go_sem, Nat.lt_of_lt_of_le hj fx, b0h (g7p Q1k hj)])), (by first | exact fx | omega | (simp only [go_sem, nxs] <;> omega)), (g7o Q1k (by first | assumption | omega | (simp only [nxs] <;> omega)) (c5s (by first | assumption | omega | (simp only [nxs] <;> omega))))⟩
   ·rintro t h ⟨v2_1, hs2_1, s1, s2, s6, s7, Q1c, fr, fx, Q1k⟩
    refine g58 ?_
    refine g57 ?_
    simp only [b07, b0m, b0n]
    refine hK6 _ _ ?_
    refine b1o fun K hK => ?_
    simp only [go_sem, s7, b0b v2, b0b v2_1]
    refine hK _ _ ?_
    clear hK K
    simp only [b0m, b0n]
    obtain rfl := sI9 hm1
    refine ⟨_, rfl, ?_⟩
    exact ⟨v2_1, hs2_1, s1, s2, s6, (by first | (simp only [go_sem, s7, lA9, mA9]; done) | rfl), (b3n Q1c (by intro j hj  hl; first | rfl | simp only [go_sem, hl]) (by first | omega | exact Nat.le_refl _ | (simp only [go_sem, nxs] <;> omega))), (by intro j hj; first | exact fr j hj | (refine Eq.trans ?_ (fr j hj); first | rfl | simp only [go_sem, Nat.lt_of_lt_of_le hj fx])), (by first | exact fx | omega | (simp only [go_sem, nxs] <;> omega)), Q1k⟩
  ·rw [b1a hc5] at hm1
   simp only [b1z, b2a, b19, b11, b0m, b0n, Nat.reduceEqDiff, nF9]
   obtain rfl := sI9 hm1
   obtain rfl := hb3 _ rfl
   try dsimp only at hm0
   exact J2 out_2 v2 hs2 _ _ s2 Q1c fr fx Q1k hm0
theorem c3p (hf : Has O "newel/halls.over" x_halls_over) (c3u : c43 O) (d1c : c8a O) : c4x O := by
 intro h_ all r hm0
 unfold b71 at hm0
 refine b2u hf rfl (b0f (.agg _ (b0f (b0y fun a _ => b2n a) (b0f (b0y fun a _ => b2m a) (b0f (b0y fun a _ => b2q a) (b0f (b0k _) b03))))) (b0f (b0y fun a _ => d4n a) b03)) (b0y fun a _ => c0m a) ?_
 refine b2p (fun t h => t 0 = .agg [.fs 5 (List.map b0q h_.Combs), .fs 3 (List.map b0p h_.Trains), .fs 3 (List.map b0o h_.Shifts), I h_.Until] ∧ t 1 = .fs 1 (List.map b24 all)) ⟨rfl, rfl⟩ fun t h ⟨s0, s1⟩ => ?_
 simp only [x_halls_over]
 refine b0e fun K hK => ?_
 simp only [go_sem, s0]
 refine hK _ _ ?_
 clear hK K
 refine b04 ?_
 refine b0e fun K hK => ?_
 simp only [go_sem, s1]
 refine hK _ _ ?_
 clear hK K
 refine b0x fun K1 hK1 => ?_
 have J2 : ∀ (out_4 : List (Int × Int)) (v4 : AV) (t : Slots) (h : Heap), t 4 = v4 → b0l h v4 2 (List.map b35 out_4) → c3f out_4 = some r → K1 t h := by
  intro out_4 v4 t h s4 Q1g hm0
  refine hK1 _ _ ?_
  unfold c3f at hm0
  refine b0e fun K hK => ?_
  simp only [go_sem, s4, b0b v4]
  refine hK _ _ ?_
  clear hK K
  simp only [b1k, b1m, b1l, b1n]
  obtain rfl := sI9 hm0
  exact c87 (v := v4) (by simp only [go_sem, s4, b0r Q1g, lA9, mA9]) (b5j (f := b35) (l := out_4) (b1j Q1g (by intro j hj hl; first | rfl | simp only [go_sem, hl]) (by first | omega | exact Nat.le_refl _ | (simp only [go_sem, nxs] <;> omega))) c0m d8r)
 simp only [b1c]
 obtain ⟨b3, hl3, hm0⟩ := b0j hm0
 refine b2b hl3 (fun | (out_4, x_10), t, h => ∃ v4 : AV, t 2 = .fp [.fs 5 (List.map b0q h_.Combs), .fs 3 (List.map b0p h_.Trains), .fs 3 (List.map b0o h_.Shifts), I h_.Until] 0 ∧ t 4 = v4 ∧ t 8 = .fs 1 (List.map b24 all) ∧ t 9 = I (List.length all : Int) ∧ t 10 = I x_10 ∧ b0l h v4 2 (List.map b35 out_4)) ?_ ?_
 ·exact ⟨(.v (.slice none 0 0)), (by first | (simp only [go_sem, lA9, mA9]; done) | rfl), (by first | (simp only [go_sem, lA9, mA9]; done) | rfl), (by first | (simp only [go_sem, lA9, mA9]; done) | rfl), (by first | (simp only [go_sem, lA9, mA9]; done) | rfl), (by first | (simp only [go_sem, lA9, mA9]; done) | rfl), b6j⟩
 ·rintro ⟨out_4, x_10⟩ o t h ⟨v4, s2, s4, s8, s9, s10, Q1g⟩ hm1 hb3
  simp only [b89] at hm1
  rw [g1m]
  refine b0e fun K hK => ?_
  simp only [go_sem, s9, s10, b0b v4]
  refine hK _ _ ?_
  clear hK K
  refine b0x fun K4 hK4 => ?_
  simp only [go_sem]
  refine b0u (fun hc5 => ?_) (fun hc5 => ?_)
  ·rw [b1b hc5] at hm1
   simp only [b07, b0m, b0n]
   refine hK4 _ _ ?_
   refine b0x fun K6 hK6 => ?_
   have J7 : ∀ (out_4_1 : List (Int × Int)) (v4_1 : AV) (t : Slots) (h : Heap), t 2 = .fp [.fs 5 (List.map b0q h_.Combs), .fs 3 (List.map b0p h_.Trains), .fs 3 (List.map b0o h_.Shifts), I h_.Until] 0 → t 4 = v4_1 → t 8 = .fs 1 (List.map b24 all) → t 9 = I (List.length all : Int) → t 10 = I x_10 → b0l h v4_1 2 (List.map b35 out_4_1) → b72 x_10 out_4_1 = some o → K6 t h := by
    intro out_4_1 v4_1 t h s2 s4 s8 s9 s10 Q1g hm1
    refine hK6 _ _ ?_
    unfold b72 at hm1
    refine b1o fun K hK => ?_
    simp only [go_sem, s10, b0b v4, b0b v4_1]
    refine hK _ _ ?_
    clear hK K
    simp only [b0m, b0n]
    obtain rfl := sI9 hm1
    refine ⟨_, rfl, ?_⟩
    exact ⟨v4_1, s2, s4, s8, s9, (by first | (simp only [go_sem, s10, lA9, mA9]; done) | rfl), Q1g⟩
   simp only [b1c]
   obtain ⟨x9, h_x9, hm1⟩ := b0j hm1
   have h_x90 := b06 h_x9
   have h_x91 := b09 h_x9
   refine b0e fun K hK => ?_
   simp only [go_sem, s8, s10, b0v h_x9, b0w h_x9, h_x90, h_x91, b0b v4]
   refine hK _ _ ?_
   clear hK K
   obtain ⟨y13, h_y13, hm1⟩ := b0j hm1
   refine b0e fun K hK => ?_
   simp only [go_sem, s2, b0b v4]
   refine d0v ?_ (c3u x9.most "newel/halls.over$1" [] [.fp [.fs 5 (List.map b0q h_.Combs), .fs 3 (List.map b0p h_.Trains), .fs 3 (List.map b0o h_.Shifts), I h_.Until] 0, .fp [I x_10] 0] (fun z12 => b7b z12 h_ x_10) (.fn _ _ _ b03 (b0f (.fp _ _ (b0f (b0y fun a _ => b2n a) (b0f (b0y fun a _ => b2m a) (b0f (b0y fun a _ => b2q a) (b0f (b0k _) b03))))) (b0f (.fp _ _ (b0f (b0k _) b03)) b03))) (fun z0 y hz => d1c z0 h_ x_10 y hz) _ h_y13) (.v _) ?_
   ·exact .cons (.refl _ (b0y fun a _ => b3f a)) (.cons (g64 (.nil) (.cons (.refl _ (.fp _ _ (b0f (b0y fun a _ => b2n a) (b0f (b0y fun a _ => b2m a) (b0f (b0y fun a _ => b2q a) (b0f (b0k _) b03)))))) (.cons (d4o (id := h.nx) (sz := 1) (xs := [I x_10]) (by simp only [go_sem, b0r Q1g]) (.cons (.refl _ (b0k _)) (.nil))) (.nil)))) (.nil))
   simp only [go_sem, s2, b0b v4]
   refine hK _ _ ?_
   clear hK K
   refine b0e fun K hK => ?_
   simp only [go_sem, b0b v4]
   refine hK _ _ ?_
   clear hK K
   simp only [go_sem]
   refine b0u (fun hc14 => ?_) (fun hc14 => ?_)
   ·rw [b1b hc14] at hm1
    obtain ⟨l16, h_l16, hm1⟩ := b0j hm1
    refine b1o fun K hK => ?_
    simp only [go_sem, s4, b0b v4]
    refine b4b (f := b35) (l := out_4) (m := ([(x_10, y13)])) ?_ ?_ ?_ ?_ h_l16 ?_
    ·exact (b1j Q1g (by intro j hj hl; first | rfl | simp only [go_sem, hl]) (by first | omega | exact Nat.le_refl _ | (simp only [go_sem, nxs] <;> omega)))
    ·exact (b4l (by simp only [go_sem, b0r Q1g, lA9, mA9]) (by simp only [go_sem, b0r Q1g, lA9, mA9]))
    ·exact (b2v (by first | exact b1d | exact b1e (by first | omega | (simp only [nxs] <;> omega)) | assumption | exact b0z (by assumption) (by first | omega | (simp only [go_sem, nxs] <;> omega))))
    ·exact (fun _ => by simp)
    simp only [go_sem, s4, b0b v4]
    refine hK _ _ ?_
    clear hK K
    simp only [b0m, b0n]
    exact J7 l16 (.rs (nxs (nxs h.nx)) 0 (List.length l16)) _ _ s2 (by first | (simp only [go_sem, s4, lA9, mA9]; done) | rfl) s8 s9 s10 (b3i (by simp only [go_sem, b0r Q1g, lA9, mA9]) (by first | rfl | simp only [go_sem, lA9, mA9]) (by simp only [go_sem])) hm1
   ·rw [b1a hc14] at hm1
    simp only [b07, b0m, b0n]
    exact J7 out_4 v4 _ _ s2 s4 s8 s9 s10 (b1j Q1g (by intro j hj hl; first | rfl | simp only [go_sem, hl]) (by first | omega | exact Nat.le_refl _ | (simp only [go_sem, nxs] <;> omega))) hm1
  ·rw [b1a hc5] at hm1
   simp only [b1z, b2a, b19, b11, b0m, b0n, Nat.reduceEqDiff, nF9]
   obtain rfl := sI9 hm1
   obtain rfl := hb3 _ rfl
   try dsimp only at hm0
   exact J2 out_4 v4 _ _ s4 Q1g hm0
theorem d1c (hf : Has O "newel/halls.over$1" x_halls_overD1) : c8a O := by
 intro n c0 c1 r hm0
 unfold b7b at hm0
 refine b2u hf rfl (b0f (b0k _) (b0f (.fp _ _ (b0f (b0y fun a _ => b2n a) (b0f (b0y fun a _ => b2m a) (b0f (b0y fun a _ => b2q a) (b0f (b0k _) b03))))) (b0f (.fp _ _ (b0f (b0k _) b03)) b03))) (b0k _) ?_
 refine b2p (fun t h => t 0 = I n ∧ t 1 = .fp [.fs 5 (List.map b0q c0.Combs), .fs 3 (List.map b0p c0.Trains), .fs 3 (List.map b0o c0.Shifts), I c0.Until] 0 ∧ t 2 = .fp [I c1] 0) ⟨rfl, rfl, rfl⟩ fun t h ⟨s0, s1, s2⟩ => ?_
 simp only [x_halls_overD1]
 refine b0e fun K hK => ?_
 simp only [go_sem]
 refine hK _ _ ?_
 clear hK K
 obtain ⟨x2, h_x2, hm0⟩ := b0j hm0
 have h_x20 := b06 h_x2
 have h_x21 := b09 h_x2
 refine b0e fun K hK => ?_
 simp only [go_sem, s0, s1, s2, b0v h_x2, b0w h_x2, h_x20, h_x21]
 refine hK _ _ ?_
 clear hK K
 simp only [b1k, b1m, b1l, b1n]
 obtain rfl := sI9 hm0
 exact b2h (by simp only [go_sem, lA9, mA9]) (b0k _)
theorem d1d (hf : Has O "newel/halls.rates" x_halls_rates) : c8b O := by
 intro h_ comb r hm0
 unfold b9a at hm0
 refine g6y hf rfl (b0f (.agg _ (b0f (b0y fun a _ => b2n a) (b0f (b0y fun a _ => b2m a) (b0f (b0y fun a _ => b2q a) (b0f (b0k _) b03))))) (b0f (b0k _) b03)) (by first | exact d9q | exact d9p) ?_
 refine b2p (fun t h => t 0 = .agg [.fs 5 (List.map b0q h_.Combs), .fs 3 (List.map b0p h_.Trains), .fs 3 (List.map b0o h_.Shifts), I h_.Until] ∧ t 1 = I comb) ⟨rfl, rfl⟩ fun t h ⟨s0, s1⟩ => ?_
 simp only [x_halls_rates]
 refine b0e fun K hK => ?_
 simp only [go_sem, s0]
 refine hK _ _ ?_
 clear hK K
 obtain ⟨l2, h_l2, hm0⟩ := b0j hm0
 refine b0e fun K hK => ?_
 simp only [go_sem]
 refine b76 (f := eI) (z := 0) rfl h_l2 ?_
 simp only [go_sem]
 refine hK _ _ ?_
 clear hK K
 obtain ⟨x4, h_x4, hm0⟩ := b0j hm0
 have h_x40 := b06 h_x4
 have h_x41 := b09 h_x4
 refine b0e fun K hK => ?_
 simp only [go_sem, s1, b0v h_x4, b0w h_x4, h_x40, h_x41]
 refine hK _ _ ?_
 clear hK K
 refine b04 ?_
 refine b0e fun K hK => ?_
 simp only [go_sem]
 refine hK _ _ ?_
 clear hK K
 refine b0x fun K5 hK5 => ?_
 have J6 : ∀ (out_5 : List Int) (i5 : Nat) (t : Slots) (h : Heap), t 5 = .rs i5 0 (List.length out_5) → h.ob i5 = some (1, List.map eI out_5) → i5 < h.nx → c3g out_5 = some r → K5 t h := by
  intro out_5 i5 t h s5 Q17 Qz hm0
  refine hK5 _ _ ?_
  unfold c3g at hm0
  refine b0e fun K hK => ?_
  simp only [go_sem, s5, Q17, Qz]
  refine hK _ _ ?_
  clear hK K
  simp only [b1k, b1m, b1l, b1n]
  obtain rfl := sI9 hm0
  exact g6h (id := i5) (by simp only [go_sem, lA9, mA9]) (by simp only [go_sem, Q17, Qz, lA9, mA9]) (by first | exact d9q | exact d9p)
 simp only [b1c]
 obtain ⟨b7, hl7, hm0⟩ := b0j hm0
 refine b2b hl7 (fun | (out_5, now_6, at_7, x_20), t, h => ∃ i5 : Nat, t 1 = I comb ∧ t 2 = .fp [.fs 5 (List.map b0q h_.Combs), .fs 3 (List.map b0p h_.Trains), .fs 3 (List.map b0o h_.Shifts), I h_.Until] 0 ∧ t 5 = .rs i5 0 (List.length out_5) ∧ t 6 = I now_6 ∧ t 7 = I at_7 ∧ t 19 = I ((List.length l2 : Nat) : Int) ∧ t 20 = I x_20 ∧ h.ob i5 = some (1, List.map eI out_5) ∧ i5 < h.nx) ?_ ?_
 ·exact ⟨h.nx, s1, (by first | (simp only [go_sem, lA9, mA9]; done) | rfl), (by first | (simp only [go_sem, lA9, mA9]; done) | rfl), (by first | (simp only [go_sem, lA9, mA9]; done) | rfl), (by first | (simp only [go_sem, lA9, mA9]; done) | rfl), (by first | (simp only [go_sem, lA9, mA9]; done) | rfl), (by first | (simp only [go_sem, lA9, mA9]; done) | rfl), (by simp only [go_sem, lA9, mA9]), (by simp only [go_sem])⟩
 ·rintro ⟨out_5, now_6, at_7, x_20⟩ o t h ⟨i5, s1, s2, s5, s6, s7, s19, s20, Q17, Qz⟩ hm1 hb7
  simp only [b9b] at hm1
  rw [g1o]
  refine b0e fun K hK => ?_
  simp only [go_sem, s19, s20, Qz]
  refine hK _ _ ?_
  clear hK K
  refine b0x fun K8 hK8 => ?_
  simp only [go_sem]
  refine b0u (fun hc9 => ?_) (fun hc9 => ?_)
  ·rw [b1b hc9] at hm1
   simp only [b07, b0m, b0n]
   refine hK8 _ _ ?_
   refine b0x fun K10 hK10 => ?_
   have J11 : ∀ (out_5_1 : List Int) (now_6_1 : Int) (at_7_1 : Int) (t : Slots) (h : Heap), t 1 = I comb → t 2 = .fp [.fs 5 (List.map b0q h_.Combs), .fs 3 (List.map b0p h_.Trains), .fs 3 (List.map b0o h_.Shifts), I h_.Until] 0 → t 5 = .rs i5 0 (List.length out_5_1) → t 6 = I now_6_1 → t 7 = I at_7_1 → t 19 = I ((List.length l2 : Nat) : Int) → t 20 = I x_20 → h.ob i5 = some (1, List.map eI out_5_1) → i5 < h.nx → c02 x_20 out_5_1 now_6_1 at_7_1 = some o → K10 t h := by
    try clear s1 s2 s5 s6 s7 s19 s20 Q17 Qz
    intro out_5_1 now_6_1 at_7_1 t h s1 s2 s5 s6 s7 s19 s20 Q17 Qz hm1
    refine hK10 _ _ ?_
    unfold c02 at hm1
    refine b1o fun K hK => ?_
    simp only [go_sem, s20, Qz]
    refine hK _ _ ?_
    clear hK K
    simp only [b0m, b0n]
    obtain rfl := sI9 hm1
    refine ⟨_, rfl, ?_⟩
    exact ⟨i5, s1, s2, (by first | exact s5 | simp only [go_sem, s5, lA9, mA9]), s6, s7, s19, (by first | (simp only [go_sem, s20, lA9, mA9]; done) | rfl), Q17, Qz⟩
   simp only [b1c]
   refine b0e fun K hK => ?_
   simp only [go_sem, s20, Qz]
   refine hK _ _ ?_
   clear hK K
   refine b0x fun K12 hK12 => ?_
   have J13 : ∀ (now_6_1 : Int) (at_7_1 : Int) (t : Slots) (h : Heap), t 1 = I comb → t 2 = .fp [.fs 5 (List.map b0q h_.Combs), .fs 3 (List.map b0p h_.Trains), .fs 3 (List.map b0o h_.Shifts), I h_.Until] 0 → t 5 = .rs i5 0 (List.length out_5) → t 6 = I now_6_1 → t 7 = I at_7_1 → t 8 = I x_20 → t 19 = I ((List.length l2 : Nat) : Int) → t 20 = I x_20 → h.ob i5 = some (1, List.map eI out_5) → i5 < h.nx → c03 out_5 x_20 now_6_1 at_7_1 = some o → K12 t h := by
    try clear s1 s2 s5 s6 s7 s19 s20 Q17 Qz
    intro now_6_1 at_7_1 t h s1 s2 s5 s6 s7 s8 s19 s20 Q17 Qz hm1
    refine hK12 _ _ ?_
    unfold c03 at hm1
    obtain ⟨x15, h_x15, hm1⟩ := b0j hm1
    have h_x150 := b06 h_x15
    have h_x151 := b09 h_x15
    refine b1o fun K hK => ?_
    simp only [go_sem, s5, s6, s8, Q17, Qz, b0v h_x15, b0w h_x15, h_x150, h_x151]
    refine hK _ _ ?_
    clear hK K
    simp only [b0m, b0n]
    exact J11 (List.set out_5 (Int.toNat x_20) now_6_1) now_6_1 at_7_1 _ _ s1 s2 (by first | exact s5 | simp only [go_sem, s5, lA9, mA9]) s6 s7 s19 s20 (by simp only [go_sem, Q17, Qz, lA9, mA9]) (by simp only [go_sem, Qz]) hm1
   simp only [b1c]
   obtain ⟨b16, hl16, hm1⟩ := b0j hm1
   refine b2b hl16 (fun | (now_6_1, at_7_1), t, h => t 1 = I comb ∧ t 2 = .fp [.fs 5 (List.map b0q h_.Combs), .fs 3 (List.map b0p h_.Trains), .fs 3 (List.map b0o h_.Shifts), I h_.Until] 0 ∧ t 5 = .rs i5 0 (List.length out_5) ∧ t 6 = I now_6_1 ∧ t 7 = I at_7_1 ∧ t 8 = I x_20 ∧ t 19 = I ((List.length l2 : Nat) : Int) ∧ t 20 = I x_20 ∧ h.ob i5 = some (1, List.map eI out_5) ∧ i5 < h.nx) ?_ ?_
   ·exact ⟨s1, s2, (by first | exact s5 | simp only [go_sem, s5, lA9, mA9]), s6, s7, (by first | (simp only [go_sem, lA9, mA9]; done) | rfl), s19, s20, Q17, Qz⟩
   ·try clear s1 s2 s5 s6 s7 s19 s20 Q17 Qz
    rintro ⟨now_6_1, at_7_1⟩ o t h ⟨s1, s2, s5, s6, s7, s8, s19, s20, Q17, Qz⟩ hm2 hb16
    simp only [b73] at hm2
    rw [g1n]
    refine b04 ?_
    obtain ⟨c20, h_c20, hm2⟩ := b0j hm2
    refine b2t (fun t h => t 1 = I comb ∧ t 2 = .fp [.fs 5 (List.map b0q h_.Combs), .fs 3 (List.map b0p h_.Trains), .fs 3 (List.map b0o h_.Shifts), I h_.Until] 0 ∧ t 5 = .rs i5 0 (List.length out_5) ∧ t 6 = I now_6_1 ∧ t 7 = I at_7_1 ∧ t 8 = I x_20 ∧ t 19 = I ((List.length l2 : Nat) : Int) ∧ t 20 = I x_20 ∧ t 37 = B c20 ∧ h.ob i5 = some (1, List.map eI out_5) ∧ i5 < h.nx) (fun K hK => ?_) ?_
    ·simp only [go_sem, s2, s7, s8, Qz]
     refine b0u (fun hg21 => ?_) (fun hg21 => ?_)
     ·simp only [hg21, Bool.not_true, Bool.not_false, eq_self, if_true, if_false, Bool.true_or, Bool.or_true, Bool.false_or, Bool.or_false, Bool.true_and, Bool.and_true, Bool.false_and, Bool.and_false, Bool.false_eq_true] at h_c20
      obtain ⟨x19, h_x19, h_c20⟩ := b0j h_c20
      have h_x190 := b06 h_x19
      have h_x191 := b09 h_x19
      obtain rfl := sI9 h_c20
      simp only [go_sem, s2, s7, s8, Qz, b0v h_x19, b0w h_x19, h_x190, h_x191, hg21]
      exact hK _ _ ⟨s1, s2, (by first | exact s5 | simp only [go_sem, s5, lA9, mA9]), s6, s7, s8, s19, s20, (by first | (simp only [go_sem, hg21, lA9, mA9]; done) | rfl), Q17, Qz⟩
     ·simp only [hg21, Bool.not_true, Bool.not_false, eq_self, if_true, if_false, Bool.true_or, Bool.or_true, Bool.false_or, Bool.or_false, Bool.true_and, Bool.and_true, Bool.false_and, Bool.and_false, Bool.false_eq_true] at h_c20
      obtain rfl := sI9 h_c20
      simp only [go_sem, s2, s7, s8, Qz, hg21]
      exact hK _ _ ⟨s1, s2, (by first | exact s5 | simp only [go_sem, s5, lA9, mA9]), s6, s7, s8, s19, s20, (by first | (simp only [go_sem, hg21, lA9, mA9]; done) | rfl), Q17, Qz⟩
    ·try clear s1 s2 s5 s6 s7 s8 s19 s20 Q17 Qz
     rintro t h ⟨s1, s2, s5, s6, s7, s8, s19, s20, s37, Q17, Qz⟩
     refine b0x fun K22 hK22 => ?_
     simp only [go_sem, s37]
     refine b0u (fun hc23 => ?_) (fun hc23 => ?_)
     ·rw [b1b hc23] at hm2
      simp only [b07, b0m, b0n]
      refine hK22 _ _ ?_
      refine b0x fun K24 hK24 => ?_
      have J25 : ∀ (now_6_2 : Int) (t : Slots) (h : Heap), t 1 = I comb → t 2 = .fp [.fs 5 (List.map b0q h_.Combs), .fs 3 (List.map b0p h_.Trains), .fs 3 (List.map b0o h_.Shifts), I h_.Until] 0 → t 5 = .rs i5 0 (List.length out_5) → t 6 = I now_6_2 → t 7 = I at_7_1 → t 8 = I x_20 → t 19 = I ((List.length l2 : Nat) : Int) → t 20 = I x_20 → h.ob i5 = some (1, List.map eI out_5) → i5 < h.nx → b9c at_7_1 now_6_2 = some o → K24 t h := by
       try clear s1 s2 s5 s6 s7 s8 s19 s20 s37 Q17 Qz
       intro now_6_2 t h s1 s2 s5 s6 s7 s8 s19 s20 Q17 Qz hm2
       refine hK24 _ _ ?_
       unfold b9c at hm2
       refine b1o fun K hK => ?_
       simp only [go_sem, s7, Qz]
       refine hK _ _ ?_
       clear hK K
       simp only [b0m, b0n]
       obtain rfl := sI9 hm2
       refine ⟨_, rfl, ?_⟩
       exact ⟨s1, s2, (by first | exact s5 | simp only [go_sem, s5, lA9, mA9]), s6, (by first | (simp only [go_sem, s7, lA9, mA9]; done) | rfl), s8, s19, s20, Q17, Qz⟩
      simp only [b1c]
      obtain ⟨x27, h_x27, hm2⟩ := b0j hm2
      have h_x270 := b06 h_x27
      have h_x271 := b09 h_x27
      refine b0e fun K hK => ?_
      simp only [go_sem, s1, s2, s7, Qz, b0v h_x27, b0w h_x27, h_x270, h_x271]
      refine hK _ _ ?_
      clear hK K
      simp only [go_sem]
      refine b0u (fun hc28 => ?_) (fun hc28 => ?_)
      ·rw [b1b hc28] at hm2
       refine b1o fun K hK => ?_
       simp only [go_sem, s2, s7, Qz, b0v h_x27, b0w h_x27, h_x270, h_x271]
       refine hK _ _ ?_
       clear hK K
       simp only [b0m, b0n]
       exact J25 x27.Rate _ _ s1 s2 (by first | exact s5 | simp only [go_sem, s5, lA9, mA9]) (by first | (simp only [go_sem, s6, lA9, mA9]; done) | rfl) s7 s8 s19 s20 Q17 Qz hm2
      ·rw [b1a hc28] at hm2
       simp only [b07, b0m, b0n]
       exact J25 now_6_1 _ _ s1 s2 (by first | exact s5 | simp only [go_sem, s5, lA9, mA9]) s6 s7 s8 s19 s20 Q17 Qz hm2
     ·rw [b1a hc23] at hm2
      simp only [b1z, b2a, b19, b11, b0m, b0n, Nat.reduceEqDiff, nF9]
      obtain rfl := sI9 hm2
      obtain rfl := hb16 _ rfl
      try dsimp only at hm1
      exact J13 now_6_1 at_7_1 _ _ s1 s2 (by first | exact s5 | simp only [go_sem, s5, lA9, mA9]) s6 s7 s8 s19 s20 Q17 Qz hm1
  ·rw [b1a hc9] at hm1
   simp only [b1z, b2a, b19, b11, b0m, b0n, Nat.reduceEqDiff, nF9]
   obtain rfl := sI9 hm1
   obtain rfl := hb7 _ rfl
   try dsimp only at hm0
   exact J6 out_5 i5 _ _ (by first | exact s5 | simp only [go_sem, s5, lA9, mA9]) Q17 Qz hm0
theorem b9g (hf : Has O "newel/halls.span" x_halls_span) : c4y O := by
 intro s low high
 generalize hm0 : b43 s low high = r
 unfold b43 at hm0
 refine b2u hf rfl (b0f (.agg _ (b0f (b0k _) (b0f (b0k _) b03))) (b0f (b0k _) (b0f (b0k _) b03))) (b0k _) ?_
 refine b2p (fun t h => t 0 = .agg [I s.Low, I s.High] ∧ t 1 = I low ∧ t 2 = I high) ⟨rfl, rfl, rfl⟩ fun t h ⟨s0, s1, s2⟩ => ?_
 simp only [x_halls_span]
 refine b0e fun K hK => ?_
 simp only [go_sem, s0]
 refine hK _ _ ?_
 clear hK K
 refine b2t (fun t h => t 6 = B (((decide (low ≤ s.Low)) && (decide (s.Low ≤ s.High))) && (decide (s.High ≤ high)))) (fun K hK => ?_) ?_
 ·simp only [go_sem, s1, s2]
  refine b0u (fun hg1 => ?_) (fun hg1 => ?_)
  ·simp only [go_sem, s1, s2, hg1]
   refine b0u (fun hg2 => ?_) (fun hg2 => ?_)
   ·simp only [go_sem, s1, s2, hg1, hg2]
    exact hK _ _ (by first | (simp only [go_sem, hg1, hg2, lA9, mA9]; done) | rfl)
   ·simp only [go_sem, s1, s2, hg1, hg2]
    exact hK _ _ (by first | (simp only [go_sem, hg1, hg2, lA9, mA9]; done) | rfl)
  ·simp only [go_sem, s1, s2, hg1]
   exact hK _ _ (by first | (simp only [go_sem, hg1, lA9, mA9]; done) | rfl)
 ·rintro t h s6
  simp only [b1k, b1m, b1l, b1n]
  obtain rfl := hm0
  exact b2h (by simp only [go_sem, s6, lA9, mA9]) (b0k _)
theorem c6i (hf : Has O "newel/newellaw06.Example" x_l06_Example) : c8c O := by
 intro _
 generalize hm0 : l06_Example = r
 unfold l06_Example at hm0
 refine b2u hf rfl b03 (.agg _ (b0f (b0y fun a _ => b2n a) (b0f (b0y fun a _ => b2m a) (b0f (b0y fun a _ => b2q a) (b0f (b0k _) b03))))) ?_
 refine b2p (fun t h => True) trivial fun t h _ => ?_
 simp only [x_l06_Example]
 refine b0e fun K hK => ?_
 simp only [go_sem]
 refine hK _ _ ?_
 clear hK K
 refine b0e fun K hK => ?_
 simp only [go_sem]
 refine hK _ _ ?_
 clear hK K
 simp only [b1k, b1m, b1l, b1n]
 obtain rfl := hm0
 exact c2v (id := h.nx) (m := 4) (cs := [.rs (nxs h.nx) 0 (2), .rs (nxs (nxs (nxs (nxs h.nx)))) 0 2, .v (.slice none 0 0), I 20]) (by simp only [go_sem, lA9, mA9]) (by simp only [go_sem, lA9, mA9]) rfl (c24 (.cons (b6u (f := b0q) (l := ([(Comb.mk 3 12 1 (Span.mk 2 3)), (Comb.mk 2 10 (-1) (Span.mk 1 1))])) (id := (nxs h.nx)) (by simp only [go_sem, lA9, mA9]) (by first | rfl | simp only [go_sem, lA9, mA9]) b2n d8s) (.cons (g65 (id := (nxs (nxs (nxs (nxs h.nx))))) (sz := 3) (rows := [[I 2, I 4, .rs (nxs (nxs h.nx)) 0 (1)], [I 5, I 5, .rs (nxs (nxs (nxs h.nx))) 0 (2)]]) (by simp only [go_sem]) rfl (.cons (.cons (.refl _ (b0k _)) (.cons (.refl _ (b0k _)) (.cons (b6u (f := b21) (l := ([(Crowd.mk 0 (Span.mk 6 10))])) (id := (nxs (nxs h.nx))) (by simp only [go_sem, lA9, mA9]) (by first | rfl | simp only [go_sem, lA9, mA9]) c25 d8t) (.nil)))) (.cons (.cons (.refl _ (b0k _)) (.cons (.refl _ (b0k _)) (.cons (b6u (f := b21) (l := ([(Crowd.mk 0 (Span.mk 0 4)), (Crowd.mk 1 (Span.mk 3 3))])) (id := (nxs (nxs (nxs h.nx)))) (by simp only [go_sem, lA9, mA9]) (by first | rfl | simp only [go_sem, lA9, mA9]) c25 d8t) (.nil)))) (.nil))) (by intro d hd; obtain ⟨x, _, rfl⟩ := List.mem_map.1 hd; exact j2a x)) (.cons (.nil _) (.cons (.refl _ (b0k _)) (.nil))))))
theorem d1e (hf : Has O "newel/newellaw06.Far" x_l06_Far) : c8d O := by
 intro h_ r hm0
 unfold c3v at hm0
 refine b2u hf rfl (b0f (.agg _ (b0f (b0y fun a _ => b2n a) (b0f (b0y fun a _ => b2m a) (b0f (b0y fun a _ => b2q a) (b0f (b0k _) b03))))) b03) (b0k _) ?_
 refine b2p (fun t h => t 0 = .agg [.fs 5 (List.map b0q h_.Combs), .fs 3 (List.map b0p h_.Trains), .fs 3 (List.map b0o h_.Shifts), I h_.Until]) rfl fun t h s0 => ?_
 simp only [x_l06_Far]
 refine b0e fun K hK => ?_
 simp only [go_sem, s0]
 refine hK _ _ ?_
 clear hK K
 refine b04 ?_
 refine b2t (fun t h => t 1 = .fp [.fs 5 (List.map b0q h_.Combs), .fs 3 (List.map b0p h_.Trains), .fs 3 (List.map b0o h_.Shifts), I h_.Until] 0 ∧ t 29 = B ((((decide (12 < (List.length h_.Combs : Int))) || (decide (20 < (List.length h_.Trains : Int)))) || (decide (40 < (List.length h_.Shifts : Int)))) || ((decide (40 < h_.Until)) && (decide (h_.Until ≤ 100))))) (fun K hK => ?_) ?_
 ·simp only [go_sem]
  refine b0u (fun hg1 => ?_) (fun hg1 => ?_)
  ·simp only [go_sem, hg1]
   exact hK _ _ ⟨(by first | (simp only [go_sem, hg1, lA9, mA9]; done) | rfl), (by first | (simp only [go_sem, hg1, lA9, mA9]; done) | rfl)⟩
  ·simp only [go_sem, hg1]
   refine b0u (fun hg2 => ?_) (fun hg2 => ?_)
   ·simp only [go_sem, hg1, hg2]
    exact hK _ _ ⟨(by first | (simp only [go_sem, hg1, hg2, lA9, mA9]; done) | rfl), (by first | (simp only [go_sem, hg1, hg2, lA9, mA9]; done) | rfl)⟩
   ·simp only [go_sem, hg1, hg2]
    refine b0u (fun hg3 => ?_) (fun hg3 => ?_)
    ·simp only [go_sem, hg1, hg2, hg3]
     exact hK _ _ ⟨(by first | (simp only [go_sem, hg1, hg2, hg3, lA9, mA9]; done) | rfl), (by first | (simp only [go_sem, hg1, hg2, hg3, lA9, mA9]; done) | rfl)⟩
    ·simp only [go_sem, hg1, hg2, hg3]
     refine b0u (fun hg4 => ?_) (fun hg4 => ?_)
     ·simp only [go_sem, hg1, hg2, hg3, hg4]
      exact hK _ _ ⟨(by first | (simp only [go_sem, hg1, hg2, hg3, hg4, lA9, mA9]; done) | rfl), (by first | (simp only [go_sem, hg1, hg2, hg3, hg4, lA9, mA9]; done) | rfl)⟩
     ·simp only [go_sem, hg1, hg2, hg3, hg4]
      exact hK _ _ ⟨(by first | (simp only [go_sem, hg1, hg2, hg3, hg4, lA9, mA9]; done) | rfl), (by first | (simp only [go_sem, hg1, hg2, hg3, hg4, lA9, mA9]; done) | rfl)⟩
 ·rintro t h ⟨s1, s29⟩
  refine b0x fun K5 hK5 => ?_
  simp only [go_sem, s29]
  refine b0u (fun hc6 => ?_) (fun hc6 => ?_)
  ·rw [b1b hc6] at hm0
   refine b0e fun K hK => ?_
   simp only [go_sem]
   refine hK _ _ ?_
   clear hK K
   simp only [b1k, b1m, b1l, b1n]
   obtain rfl := sI9 hm0
   exact b2h (by simp only [go_sem, lA9, mA9]) (b0k _)
  ·rw [b1a hc6] at hm0
   simp only [b07, b0m, b0n]
   refine hK5 _ _ ?_
   refine b04 ?_
   refine b0e fun K hK => ?_
   simp only [go_sem]
   refine hK _ _ ?_
   clear hK K
   refine b0x fun K7 hK7 => ?_
   have J8 : ∀ (t : Slots) (h : Heap), d1n = some r → K7 t h := by
    intro t h hm0
    refine hK7 _ _ ?_
    unfold d1n at hm0
    refine b0e fun K hK => ?_
    simp only [go_sem]
    refine hK _ _ ?_
    clear hK K
    simp only [b1k, b1m, b1l, b1n]
    obtain rfl := sI9 hm0
    exact b2h (by simp only [go_sem, lA9, mA9]) (b0k _)
   simp only [b1c]
   obtain ⟨b9, hl9, hm0⟩ := b0j hm0
   refine b2b hl9 (fun | i_3, t, h => t 1 = .fp [.fs 5 (List.map b0q h_.Combs), .fs 3 (List.map b0p h_.Trains), .fs 3 (List.map b0o h_.Shifts), I h_.Until] 0 ∧ t 3 = I i_3) ?_ ?_
   ·exact ⟨s1, (by first | (simp only [go_sem, lA9, mA9]; done) | rfl)⟩
   ·rintro i_3 o t h ⟨s1, s3⟩ hm1 hb9
    simp only [c1b] at hm1
    rw [g1p]
    refine b04 ?_
    refine b0e fun K hK => ?_
    simp only [go_sem, s1, s3]
    refine hK _ _ ?_
    clear hK K
    refine b0x fun K10 hK10 => ?_
    simp only [go_sem]
    refine b0u (fun hc11 => ?_) (fun hc11 => ?_)
    ·rw [b1b hc11] at hm1
     simp only [b07, b0m, b0n]
     refine hK10 _ _ ?_
     refine b0x fun K12 hK12 => ?_
     simp only [b1c]
     obtain ⟨x14, h_x14, hm1⟩ := b0j hm1
     have h_x140 := b06 h_x14
     have h_x141 := b09 h_x14
     refine b0e fun K hK => ?_
     simp only [go_sem, s1, s3, b0v h_x14, b0w h_x14, h_x140, h_x141]
     refine hK _ _ ?_
     clear hK K
     simp only [go_sem]
     refine b0u (fun hc15 => ?_) (fun hc15 => ?_)
     ·rw [b1b hc15] at hm1
      refine b0e fun K hK => ?_
      simp only [go_sem]
      refine hK _ _ ?_
      clear hK K
      simp only [b1k, b1m, b1l, b1n]
      obtain rfl := sI9 hm1
      obtain rfl := hb9 _ rfl
      try dsimp only at hm0
      obtain rfl := sI9 hm0
      exact b2h (by simp only [go_sem, lA9, mA9]) (b0k _)
     ·rw [b1a hc15] at hm1
      simp only [b07, b0m, b0n]
      refine hK12 _ _ ?_
      refine b1o fun K hK => ?_
      simp only [go_sem, s3]
      refine hK _ _ ?_
      clear hK K
      simp only [b0m, b0n]
      obtain rfl := sI9 hm1
      refine ⟨_, rfl, ?_⟩
      exact ⟨s1, (by first | (simp only [go_sem, s3, lA9, mA9]; done) | rfl)⟩
    ·rw [b1a hc11] at hm1
     simp only [b1z, b2a, b19, b11, b0m, b0n, Nat.reduceEqDiff, nF9]
     obtain rfl := sI9 hm1
     obtain rfl := hb9 _ rfl
     try dsimp only at hm0
     exact J8  _ _  hm0
theorem c3s (hf : Has O "newel/newelref06.comb" x_r06_comb) (b44 : c2e O) : c41 O := by
 intro h_ n
 generalize hm0 : b7h h_ n = r
 unfold b7h at hm0
 refine b2u hf rfl (b0f (.agg _ (b0f (b0y fun a _ => b2n a) (b0f (b0y fun a _ => b2m a) (b0f (b0y fun a _ => b2q a) (b0f (b0k _) b03))))) (b0f (b0k _) b03)) (b0k _) ?_
 refine b2p (fun t h => t 0 = .agg [.fs 5 (List.map b0q h_.Combs), .fs 3 (List.map b0p h_.Trains), .fs 3 (List.map b0o h_.Shifts), I h_.Until] ∧ t 1 = I n) ⟨rfl, rfl⟩ fun t h ⟨s0, s1⟩ => ?_
 simp only [x_r06_comb]
 refine b0e fun K hK => ?_
 simp only [go_sem, s0]
 refine hK _ _ ?_
 clear hK K
 refine b0e fun K hK => ?_
 simp only [go_sem, s1]
 refine b1u (b44 n 0 (wr ((List.length h_.Combs : Int) - 1))) ?_
 simp only [go_sem, s1]
 refine hK _ _ ?_
 clear hK K
 simp only [b1k, b1m, b1l, b1n]
 obtain rfl := hm0
 exact b2h (by simp only [go_sem, lA9, mA9]) (b0k _)
end Go.Nw.HM
