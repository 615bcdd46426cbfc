/- That the texts make what their models say: printed by a program. -/
import Derived.Test.YtkoonfmgmgfmdaaDoorTM
set_option linter.all false
set_option linter.unusedVariables false
set_option linter.unusedSimpArgs false
set_option linter.unusedSectionVars false
namespace Go.Nw.TM
open Go.Nw.Top
set_option linter.unusedSimpArgs false
set_option linter.unusedVariables false
set_option maxHeartbeats 4000000
variable {O : Orac}
theorem c94 (hf : Has O "(*newel/halls.bound).passes" x___halls_bound__passes) : c7k O := by
 intro b from_ to_ r hm0
 unfold c1f at hm0
 refine b10 hf rfl (b0e (.fp _ _ (b0e (b0w fun a _ => b2n a) (b0e (b0w fun a _ => b2n a) (b0e (b0w fun a _ => b2n a) (b0e (b0w fun a _ => b41 a) b0x))))) (b0e (b0g _) (b0e (b0g _) b0x))) (b0g _) ?_
 refine b1s (fun t h => t 0 = .fp [.fs 1 (List.map eI b.rates), .fs 1 (List.map eI b.flow), .fs 1 (List.map eI b.most), .fs 1 (List.map b0s b.come)] 0 ∧ t 1 = I from_ ∧ t 2 = I to_) ⟨rfl, rfl, rfl⟩ fun t h ⟨s0, s1, s2⟩ => ?_
 simp only [x___halls_bound__passes]
 refine b0b fun K hK => ?_
 simp only [go_sem]
 refine hK _ _ ?_
 clear hK K
 refine b05 ?_
 refine b1r (fun t h => t 0 = .fp [.fs 1 (List.map eI b.rates), .fs 1 (List.map eI b.flow), .fs 1 (List.map eI b.most), .fs 1 (List.map b0s b.come)] 0 ∧ t 1 = I from_ ∧ t 2 = I to_ ∧ t 16 = B ((decide (to_ < from_)) || (decide (to_ < 0)))) (fun K hK => ?_) ?_
 ·simp only [go_sem, s1, s2]
  refine b0k (fun hg1 => ?_) (fun hg1 => ?_)
  ·simp only [go_sem, s1, s2, hg1]
   exact hK _ _ ⟨s0, s1, s2, (by first | (simp only [go_sem, hg1, lA9, mA9]; done) | rfl)⟩
  ·simp only [go_sem, s1, s2, hg1]
   exact hK _ _ ⟨s0, s1, s2, (by first | (simp only [go_sem, hg1, lA9, mA9]; done) | rfl)⟩
 ·rintro t h ⟨s0, s1, s2, s16⟩
  refine b0o fun K2 hK2 => ?_
  simp only [go_sem, s16]
  refine b0k (fun hc3 => ?_) (fun hc3 => ?_)
  ·rw [b00 hc3] at hm0
   refine b0b fun K hK => ?_
   simp only [go_sem]
   refine hK _ _ ?_
   clear hK K
   simp only [b01, b03, b02, b04]
   obtain rfl := sI9 hm0
   exact b1e (by simp only [go_sem, lA9, mA9]) (b0g _)
  ·rw [b0z hc3] at hm0
   simp only [b0y, b0i, b0j]
   refine hK2 _ _ ?_
   refine b0b fun K hK => ?_
   simp only [go_sem, s1]
   refine hK _ _ ?_
   clear hK K
   obtain ⟨x8, h_x8, hm0⟩ := b0h hm0
   have h_x80 := b06 h_x8
   have h_x81 := b08 h_x8
   obtain ⟨x9, h_x9, hm0⟩ := b0h hm0
   have h_x90 := b06 h_x9
   have h_x91 := b08 h_x9
   obtain ⟨x10, h_x10, hm0⟩ := b0h hm0
   have h_x100 := b06 h_x10
   have h_x101 := b08 h_x10
   obtain ⟨x11, h_x11, hm0⟩ := b0h hm0
   have h_x110 := b06 h_x11
   have h_x111 := b08 h_x11
   refine b0b fun K hK => ?_
   simp only [go_sem, s0, s1, s2, b0p h_x8, b0q h_x8, h_x80, h_x81, b0p h_x9, b0q h_x9, h_x90, h_x91, b0p h_x10, b0q h_x10, h_x100, h_x101, b0p h_x11, b0q h_x11, h_x110, h_x111]
   refine hK _ _ ?_
   clear hK K
   refine b05 ?_
   refine b0b fun K hK => ?_
   simp only [go_sem, s1]
   refine hK _ _ ?_
   clear hK K
   refine b0o fun K12 hK12 => ?_
   have J13 : ∀ (least_7 : Int) (t : Slots) (h : Heap), t 7 = I least_7 → c4e least_7 = some r → K12 t h := by
    intro least_7 t h s7 hm0
    refine hK12 _ _ ?_
    unfold c4e at hm0
    refine b0b fun K hK => ?_
    simp only [go_sem, s7]
    refine hK _ _ ?_
    clear hK K
    simp only [b01, b03, b02, b04]
    obtain rfl := sI9 hm0
    exact b1e (by simp only [go_sem, lA9, mA9]) (b0g _)
   simp only [b1c]
   obtain ⟨b14, hl14, hm0⟩ := b0h hm0
   refine b1z hl14 (fun | (least_7, k_8), t, h => t 0 = .fp [.fs 1 (List.map eI b.rates), .fs 1 (List.map eI b.flow), .fs 1 (List.map eI b.most), .fs 1 (List.map b0s b.come)] 0 ∧ t 1 = I (mx from_ 0) ∧ t 2 = I to_ ∧ t 7 = I least_7 ∧ t 8 = I k_8) ?_ ?_
   ·exact ⟨s0, (by first | (simp only [go_sem, s1, lA9, mA9]; done) | rfl), s2, (by first | (simp only [go_sem, lA9, mA9]; done) | rfl), (by first | (simp only [go_sem, lA9, mA9]; done) | rfl)⟩
   ·rintro ⟨least_7, k_8⟩ o t h ⟨s0, s1, s2, s7, s8⟩ hm1 hb14
    simp only [c1g] at hm1
    rw [d9v]
    refine b05 ?_
    refine b0b fun K hK => ?_
    simp only [go_sem, s2, s8]
    refine hK _ _ ?_
    clear hK K
    refine b0o fun K15 hK15 => ?_
    simp only [go_sem]
    refine b0k (fun hc16 => ?_) (fun hc16 => ?_)
    ·rw [b00 hc16] at hm1
     simp only [b0y, b0i, b0j]
     refine hK15 _ _ ?_
     refine b0o fun K17 hK17 => ?_
     simp only [b1c]
     refine b0b fun K hK => ?_
     simp only [go_sem]
     refine hK _ _ ?_
     clear hK K
     refine b05 ?_
     refine b0b fun K hK => ?_
     simp only [go_sem, s2, s8]
     refine hK _ _ ?_
     clear hK K
     refine b0o fun K18 hK18 => ?_
     have J19 : ∀ (behind_9 : Int) (t : Slots) (h : Heap), t 0 = .fp [.fs 1 (List.map eI b.rates), .fs 1 (List.map eI b.flow), .fs 1 (List.map eI b.most), .fs 1 (List.map b0s b.come)] 0 → t 1 = I (mx from_ 0) → t 2 = I to_ → t 7 = I least_7 → t 8 = I k_8 → t 9 = I behind_9 → b88 b from_ least_7 k_8 behind_9 = some o → K18 t h := by
      intro behind_9 t h s0 s1 s2 s7 s8 s9 hm1
      refine hK18 _ _ ?_
      unfold b88 at hm1
      obtain ⟨x23, h_x23, hm1⟩ := b0h hm1
      have h_x230 := b06 h_x23
      have h_x231 := b08 h_x23
      obtain ⟨x24, h_x24, hm1⟩ := b0h hm1
      have h_x240 := b06 h_x24
      have h_x241 := b08 h_x24
      obtain ⟨x25, h_x25, hm1⟩ := b0h hm1
      have h_x250 := b06 h_x25
      have h_x251 := b08 h_x25
      refine b1m fun K hK => ?_
      simp only [go_sem, s0, s1, s7, s8, s9, b0p h_x23, b0q h_x23, h_x230, h_x231, b0p h_x24, b0q h_x24, h_x240, h_x241, b0p h_x25, b0q h_x25, h_x250, h_x251]
      refine hK _ _ ?_
      clear hK K
      simp only [b0i, b0j]
      refine hK17 _ _ ?_
      refine b1m fun K hK => ?_
      simp only [go_sem, s8]
      refine hK _ _ ?_
      clear hK K
      simp only [b0i, b0j]
      obtain rfl := sI9 hm1
      refine ⟨_, rfl, ?_⟩
      exact ⟨s0, s1, s2, (by first | (simp only [go_sem, s7, lA9, mA9]; done) | rfl), (by first | (simp only [go_sem, s8, lA9, mA9]; done) | rfl)⟩
     simp only [go_sem]
     refine b0k (fun hc26 => ?_) (fun hc26 => ?_)
     ·rw [b00 hc26] at hm1
      obtain ⟨x29, h_x29, hm1⟩ := b0h hm1
      have h_x290 := b06 h_x29
      have h_x291 := b08 h_x29
      obtain ⟨x30, h_x30, hm1⟩ := b0h hm1
      have h_x300 := b06 h_x30
      have h_x301 := b08 h_x30
      refine b1m fun K hK => ?_
      simp only [go_sem, s0, s2, s8, b0p h_x29, b0q h_x29, h_x290, h_x291, b0p h_x30, b0q h_x30, h_x300, h_x301]
      refine hK _ _ ?_
      clear hK K
      simp only [b0i, b0j]
      exact J19 x30 _ _ s0 s1 s2 s7 s8 (by first | (simp only [go_sem, lA9, mA9]; done) | rfl) hm1
     ·rw [b0z hc26] at hm1
      simp only [b0y, b0i, b0j]
      exact J19 0 _ _ s0 s1 s2 s7 s8 (by first | (simp only [go_sem, lA9, mA9]; done) | rfl) hm1
    ·rw [b0z hc16] at hm1
     simp only [b1t, b1w, b1v, b1u, b0i, b0j, Nat.reduceEqDiff, nF9]
     obtain rfl := sI9 hm1
     obtain rfl := hb14 _ rfl
     try dsimp only at hm0
     exact J13 least_7 _ _ s7 hm0
theorem c95 (hf : Has O "cmp.Compare[int]" x_cmp_Compare_int_) (c54 : c7m O) : c7l O := by
 intro x y
 generalize hm0 : b6h x y = r
 unfold b6h at hm0
 refine b10 hf rfl (b0e (b0g _) (b0e (b0g _) b0x)) (b0g _) ?_
 refine b1s (fun t h => t 0 = I x ∧ t 1 = I y) ⟨rfl, rfl⟩ fun t h ⟨s0, s1⟩ => ?_
 simp only [x_cmp_Compare_int_]
 refine b0b fun K hK => ?_
 simp only [go_sem]
 refine hK _ _ ?_
 clear hK K
 refine b0b fun K hK => ?_
 simp only [go_sem, s0]
 refine b1g (c54 x) ?_
 simp only [go_sem, s0]
 refine hK _ _ ?_
 clear hK K
 refine b0b fun K hK => ?_
 simp only [go_sem, s1]
 refine b1g (c54 y) ?_
 simp only [go_sem, s1]
 refine hK _ _ ?_
 clear hK K
 refine b05 ?_
 refine b0b fun K hK => ?_
 simp only [go_sem]
 refine hK _ _ ?_
 clear hK K
 refine b0o fun K1 hK1 => ?_
 simp only [go_sem]
 refine b0k (fun hc2 => ?_) (fun hc2 => ?_)
 ·rw [b00 hc2] at hm0
  refine b05 ?_
  refine b0b fun K hK => ?_
  simp only [go_sem]
  refine hK _ _ ?_
  clear hK K
  refine b0o fun K3 hK3 => ?_
  simp only [go_sem]
  refine b0k (fun hc4 => ?_) (fun hc4 => ?_)
  ·rw [b00 hc4] at hm0
   refine b0b fun K hK => ?_
   simp only [go_sem]
   refine hK _ _ ?_
   clear hK K
   simp only [b01, b03, b02, b04]
   obtain rfl := hm0
   exact b1e (by simp only [go_sem, lA9, mA9]) (b0g _)
  ·rw [b0z hc4] at hm0
   simp only [b0y, b0i, b0j]
   refine hK3 _ _ ?_
   refine b0b fun K hK => ?_
   simp only [go_sem]
   refine hK _ _ ?_
   clear hK K
   simp only [b01, b03, b02, b04]
   obtain rfl := hm0
   exact b1e (by simp only [go_sem, lA9, mA9]) (b0g _)
 ·rw [b0z hc2] at hm0
  simp only [b0y, b0i, b0j]
  refine hK1 _ _ ?_
  refine b05 ?_
  refine b0b fun K hK => ?_
  simp only [go_sem]
  refine hK _ _ ?_
  clear hK K
  refine b0o fun K5 hK5 => ?_
  simp only [go_sem]
  refine b0k (fun hc6 => ?_) (fun hc6 => ?_)
  ·rw [b00 hc6] at hm0
   refine b0b fun K hK => ?_
   simp only [go_sem]
   refine hK _ _ ?_
   clear hK K
   simp only [b01, b03, b02, b04]
   obtain rfl := hm0
   exact b1e (by simp only [go_sem, lA9, mA9]) (b0g _)
  ·rw [b0z hc6] at hm0
   simp only [b0y, b0i, b0j]
   refine hK5 _ _ ?_
   refine b05 ?_
   refine b0b fun K hK => ?_
   simp only [go_sem, s0, s1]
   refine hK _ _ ?_
   clear hK K
   refine b0o fun K7 hK7 => ?_
   simp only [go_sem]
   refine b0k (fun hc8 => ?_) (fun hc8 => ?_)
   ·rw [b00 hc8] at hm0
    refine b0b fun K hK => ?_
    simp only [go_sem]
    refine hK _ _ ?_
    clear hK K
    simp only [b01, b03, b02, b04]
    obtain rfl := hm0
    exact b1e (by simp only [go_sem, lA9, mA9]) (b0g _)
   ·rw [b0z hc8] at hm0
    simp only [b0y, b0i, b0j]
    refine hK7 _ _ ?_
    refine b05 ?_
    refine b0b fun K hK => ?_
    simp only [go_sem, s0, s1]
    refine hK _ _ ?_
    clear hK K
    refine b0o fun K9 hK9 => ?_
    simp only [go_sem]
    refine b0k (fun hc10 => ?_) (fun hc10 => ?_)
    ·rw [b00 hc10] at hm0
     refine b0b fun K hK => ?_
     simp only [go_sem]
     refine hK _ _ ?_
     clear hK K
     simp only [b01, b03, b02, b04]
     obtain rfl := hm0
     exact b1e (by simp only [go_sem, lA9, mA9]) (b0g _)
    ·rw [b0z hc10] at hm0
     simp only [b0y, b0i, b0j]
     refine hK9 _ _ ?_
     refine b0b fun K hK => ?_
     simp only [go_sem]
     refine hK _ _ ?_
     clear hK K
     simp only [b01, b03, b02, b04]
     obtain rfl := hm0
     exact b1e (by simp only [go_sem, lA9, mA9]) (b0g _)
theorem c54 (hf : Has O "cmp.isNaN[int]" x_cmp_isNaN_int_) : c7m O := by
 intro x
 generalize hm0 : b6i x = r
 unfold b6i at hm0
 refine b10 hf rfl (b0e (b0g _) b0x) (b0g _) ?_
 refine b1s (fun t h => t 0 = I x) rfl fun t h s0 => ?_
 simp only [x_cmp_isNaN_int_]
 refine b0b fun K hK => ?_
 simp only [go_sem]
 refine hK _ _ ?_
 clear hK K
 refine b0b fun K hK => ?_
 simp only [go_sem, s0]
 refine hK _ _ ?_
 clear hK K
 simp only [b01, b03, b02, b04]
 obtain rfl := hm0
 exact b1e (by simp only [go_sem, lA9, mA9]) (b0g _)
theorem c96 (hf : Has O "newel/faults.Liars" x_faults_Liars) (c2s : c31 O) (c2r : c3z O) (c97 : c7p O) (c0i : c30 O) : c7n O := by
 intro l r hm0
 unfold b9n at hm0
 refine b10 hf rfl (b0e (b0w fun a _ => b6k a) b0x) (.tup _ (b0e (b0w fun a _ => b2n a) (b0e (b0g _) b0x))) ?_
 refine b1s (fun t h => t 0 = .fs 4 (List.map b17 l)) rfl fun t h s0 => ?_
 simp only [x_faults_Liars]
 refine b0b fun K hK => ?_
 simp only [go_sem]
 refine hK _ _ ?_
 clear hK K
 refine b05 ?_
 obtain ⟨y2, h_y2, hm0⟩ := b0h hm0
 refine b0b fun K hK => ?_
 simp only [go_sem, s0]
 refine b1g (c2s l _ h_y2) ?_
 simp only [go_sem, s0]
 refine hK _ _ ?_
 clear hK K
 refine b05 ?_
 refine b0b fun K hK => ?_
 simp only [go_sem]
 refine hK _ _ ?_
 clear hK K
 refine b0o fun K3 hK3 => ?_
 simp only [go_sem]
 refine b0k (fun hc4 => ?_) (fun hc4 => ?_)
 ·rw [b00 hc4] at hm0
  refine b0b fun K hK => ?_
  simp only [go_sem]
  refine hK _ _ ?_
  clear hK K
  simp only [b01, b03, b02, b04]
  obtain rfl := sI9 hm0
  exact c1p (v := .v (.slice none 0 0)) (u := I y2) (by simp only [go_sem, lA9, mA9]) (by simp only [go_sem, lA9, mA9]) (.nil _) (.refl _ (b0g _))
 ·rw [b0z hc4] at hm0
  simp only [b0y, b0i, b0j]
  refine hK3 _ _ ?_
  obtain ⟨q6, h_q6, hm0⟩ := b0h hm0
  refine b0b fun K hK => ?_
  simp only [go_sem, s0, g8t h_q6]
  refine hK _ _ ?_
  clear hK K
  refine b05 ?_
  refine b0b fun K hK => ?_
  simp only [go_sem]
  refine hK _ _ ?_
  clear hK K
  refine b0o fun K7 hK7 => ?_
  have J8 : ∀ (best_5 : Int) (t : Slots) (h : Heap), t 5 = I best_5 → c4v best_5 = some r → K7 t h := by
   intro best_5 t h s5 hm0
   refine hK7 _ _ ?_
   unfold c4v at hm0
   obtain ⟨y10, h_y10, hm0⟩ := b0h hm0
   refine b0b fun K hK => ?_
   simp only [go_sem, s5]
   refine b1g (c0i best_5 _ h_y10) ?_
   simp only [go_sem, s5]
   refine hK _ _ ?_
   clear hK K
   simp only [b01, b03, b02, b04]
   obtain rfl := sI9 hm0
   exact d3u (by simp only [go_sem, lA9, mA9]) (by simp only [go_sem, lA9, mA9]) (b0w fun a _ => b2n a) (b0g _)
  simp only [b1c]
  obtain ⟨b11, hl11, hm0⟩ := b0h hm0
  refine b1z hl11 (fun | (best_5, x_19), t, h => t 0 = .fs 4 (List.map b17 l) ∧ t 5 = I best_5 ∧ t 18 = I (wr (q6 - 1)) ∧ t 19 = I x_19) ?_ ?_
  ·exact ⟨s0, (by first | (simp only [go_sem, lA9, mA9]; done) | rfl), (by first | (simp only [go_sem, lA9, mA9]; done) | rfl), (by first | (simp only [go_sem, lA9, mA9]; done) | rfl)⟩
  ·rintro ⟨best_5, x_19⟩ o t h ⟨s0, s5, s18, s19⟩ hm1 hb11
   simp only [c1u] at hm1
   rw [d9w]
   refine b0b fun K hK => ?_
   simp only [go_sem, s18, s19]
   refine hK _ _ ?_
   clear hK K
   refine b0o fun K12 hK12 => ?_
   simp only [go_sem]
   refine b0k (fun hc13 => ?_) (fun hc13 => ?_)
   ·rw [b00 hc13] at hm1
    simp only [b0y, b0i, b0j]
    refine hK12 _ _ ?_
    refine b0o fun K14 hK14 => ?_
    have J15 : ∀ (best_5_1 : Int) (t : Slots) (h : Heap), t 0 = .fs 4 (List.map b17 l) → t 5 = I best_5_1 → t 18 = I (wr (q6 - 1)) → t 19 = I x_19 → b8c x_19 best_5_1 = some o → K14 t h := by
     intro best_5_1 t h s0 s5 s18 s19 hm1
     refine hK14 _ _ ?_
     unfold b8c at hm1
     refine b1m fun K hK => ?_
     simp only [go_sem, s19]
     refine hK _ _ ?_
     clear hK K
     simp only [b0i, b0j]
     obtain rfl := sI9 hm1
     refine ⟨_, rfl, ?_⟩
     exact ⟨s0, s5, s18, (by first | (simp only [go_sem, s19, lA9, mA9]; done) | rfl)⟩
    simp only [b1c]
    refine b0b fun K hK => ?_
    simp only [go_sem, s19]
    refine hK _ _ ?_
    clear hK K
    obtain ⟨y17, h_y17, hm1⟩ := b0h hm1
    refine b0b fun K hK => ?_
    simp only [go_sem, s0]
    refine b1g (c2r l x_19 _ h_y17) ?_
    simp only [go_sem, s0]
    refine hK _ _ ?_
    clear hK K
    obtain ⟨c21, h_c21, hm1⟩ := b0h hm1
    refine b1r (fun t h => t 0 = .fs 4 (List.map b17 l) ∧ t 5 = I best_5 ∧ t 6 = I x_19 ∧ t 18 = I (wr (q6 - 1)) ∧ t 19 = I x_19 ∧ t 33 = B c21) (fun K hK => ?_) ?_
    ·simp only [go_sem, s5]
     refine b0k (fun hg22 => ?_) (fun hg22 => ?_)
     ·simp only [hg22, Bool.not_true, Bool.not_false, eq_self, if_true, if_false, Bool.true_or, Bool.or_true, Bool.false_or, Bool.or_false, Bool.true_and, Bool.and_true, Bool.false_and, Bool.and_false, Bool.false_eq_true] at h_c21
      obtain ⟨y20, h_y20, h_c21⟩ := b0h h_c21
      obtain rfl := sI9 h_c21
      simp only [go_sem, s5, hg22]
      refine b1g (c97 x_19 best_5 _ h_y20) ?_
      simp only [go_sem, s5, hg22]
      exact hK _ _ ⟨s0, s5, (by first | (simp only [go_sem, hg22, lA9, mA9]; done) | rfl), s18, s19, (by first | (simp only [go_sem, hg22, lA9, mA9]; done) | rfl)⟩
     ·simp only [hg22, Bool.not_true, Bool.not_false, eq_self, if_true, if_false, Bool.true_or, Bool.or_true, Bool.false_or, Bool.or_false, Bool.true_and, Bool.and_true, Bool.false_and, Bool.and_false, Bool.false_eq_true] at h_c21
      obtain rfl := sI9 h_c21
      simp only [go_sem, s5, hg22]
      exact hK _ _ ⟨s0, s5, (by first | (simp only [go_sem, hg22, lA9, mA9]; done) | rfl), s18, s19, (by first | (simp only [go_sem, hg22, lA9, mA9]; done) | rfl)⟩
    ·rintro t h ⟨s0, s5, s6, s18, s19, s33⟩
     simp only [go_sem, s33]
     refine b0k (fun hc23 => ?_) (fun hc23 => ?_)
     ·rw [b00 hc23] at hm1
      refine b1m fun K hK => ?_
      simp only [go_sem, s6]
      refine hK _ _ ?_
      clear hK K
      simp only [b0i, b0j]
      exact J15 x_19 _ _ s0 (by first | (simp only [go_sem, s5, lA9, mA9]; done) | rfl) s18 s19 hm1
     ·rw [b0z hc23] at hm1
      simp only [b0y, b0i, b0j]
      exact J15 best_5 _ _ s0 s5 s18 s19 hm1
   ·rw [b0z hc13] at hm1
    simp only [b1t, b1w, b1v, b1u, b0i, b0j, Nat.reduceEqDiff, nF9]
    obtain rfl := sI9 hm1
    obtain rfl := hb11 _ rfl
    try dsimp only at hm0
    exact J8 best_5 _ _ s5 hm0
theorem c55 (hf : Has O "newel/faults.Truth" x_faults_Truth) (c2s : c31 O) (c2r : c3z O) : c7o O := by
 intro l r hm0
 unfold b8d at hm0
 refine b10 hf rfl (b0e (b0w fun a _ => b6k a) b0x) (.tup _ (b0e (.agg _ (b0e (b0g _) (b0e (b0g _) b0x))) (b0e (b0g _) b0x))) ?_
 refine b1s (fun t h => t 0 = .fs 4 (List.map b17 l)) rfl fun t h s0 => ?_
 simp only [x_faults_Truth]
 refine b0b fun K hK => ?_
 simp only [go_sem]
 refine hK _ _ ?_
 clear hK K
 refine b05 ?_
 obtain ⟨y2, h_y2, hm0⟩ := b0h hm0
 refine b0b fun K hK => ?_
 simp only [go_sem, s0]
 refine b1g (c2s l _ h_y2) ?_
 simp only [go_sem, s0]
 refine hK _ _ ?_
 clear hK K
 refine b05 ?_
 refine b0b fun K hK => ?_
 simp only [go_sem]
 refine hK _ _ ?_
 clear hK K
 refine b0o fun K3 hK3 => ?_
 simp only [go_sem]
 refine b0k (fun hc4 => ?_) (fun hc4 => ?_)
 ·rw [b00 hc4] at hm0
  refine b0b fun K hK => ?_
  simp only [go_sem]
  refine hK _ _ ?_
  clear hK K
  simp only [b01, b03, b02, b04]
  obtain rfl := sI9 hm0
  exact c4o (id := h.nx) (m := 2) (cs := [I 0, I 0]) (u := I y2) (by simp only [go_sem, lA9, mA9]) (by simp only [go_sem, lA9, mA9]) rfl (by simp only [go_sem, lA9, mA9]) (.refl _ (.agg _ (b0e (b0g _) (b0e (b0g _) b0x)))) (.refl _ (b0g _))
 ·rw [b0z hc4] at hm0
  simp only [b0y, b0i, b0j]
  refine hK3 _ _ ?_
  obtain ⟨y6, h_y6, hm0⟩ := b0h hm0
  refine b0b fun K hK => ?_
  simp only [go_sem, s0]
  refine b1g (c2r l 0 _ h_y6) ?_
  simp only [go_sem, s0]
  refine hK _ _ ?_
  clear hK K
  refine b05 ?_
  refine b1r (fun t h => ∃ i2 : Nat, ∃ i5 : Nat, t 2 = .rp i2 0 0 ∧ t 5 = .rp i5 0 0 ∧ t 24 = B ((decide ((List.length l : Int) = 0)) || (!y6.2)) ∧ h.ob i2 = some (2, [[I 0, I 0]]) ∧ i2 < h.nx ∧ h.ob i5 = some (2, [[I y6.1.Low, I y6.1.High]]) ∧ i5 < h.nx ∧ ¬i2 = i5) (fun K hK => ?_) ?_
  ·simp only [go_sem, s0]
   refine b0k (fun hg7 => ?_) (fun hg7 => ?_)
   ·simp only [go_sem, s0, hg7]
    exact hK _ _ ⟨h.nx, (nxs h.nx), (by first | (simp only [go_sem, hg7, lA9, mA9]; done) | rfl), (by first | (simp only [go_sem, hg7, lA9, mA9]; done) | rfl), (by first | (simp only [go_sem, hg7, lA9, mA9]; done) | rfl), (by simp only [go_sem, hg7, lA9, mA9]), (by simp only [go_sem]), (by simp only [go_sem, hg7, lA9, mA9]), (by simp only [go_sem]), (by first | first | assumption | omega | (simp only [nxs] <;> omega))⟩
   ·simp only [go_sem, s0, hg7]
    exact hK _ _ ⟨h.nx, (nxs h.nx), (by first | (simp only [go_sem, hg7, lA9, mA9]; done) | rfl), (by first | (simp only [go_sem, hg7, lA9, mA9]; done) | rfl), (by first | (simp only [go_sem, hg7, lA9, mA9]; done) | rfl), (by simp only [go_sem, hg7, lA9, mA9]), (by simp only [go_sem]), (by simp only [go_sem, hg7, lA9, mA9]), (by simp only [go_sem]), (by first | first | assumption | omega | (simp only [nxs] <;> omega))⟩
  ·rintro t h ⟨i2, i5, s2, s5, s24, Qe, Qf, Q3, Q2, Qb⟩
   refine b0o fun K8 hK8 => ?_
   simp only [go_sem, s24]
   refine b0k (fun hc9 => ?_) (fun hc9 => ?_)
   ·rw [b00 hc9] at hm0
    refine b0b fun K hK => ?_
    simp only [go_sem, s2, Qe, Qf, Q2, Qb, b0f Qb]
    refine hK _ _ ?_
    clear hK K
    simp only [b01, b03, b02, b04]
    obtain rfl := sI9 hm0
    exact c4o (id := i2) (m := 2) (cs := [I 0, I 0]) (u := I 3) (by simp only [go_sem, s2, Qe, Qf, Q3, Q2, Qb, b0f Qb, lA9, mA9]) (by simp only [go_sem, s2, Qe, Qf, Q3, Q2, Qb, b0f Qb, lA9, mA9]) rfl (by simp only [go_sem, s2, Qe, Qf, Q3, Q2, Qb, b0f Qb, lA9, mA9]) (.refl _ (.agg _ (b0e (b0g _) (b0e (b0g _) b0x)))) (.refl _ (b0g _))
   ·rw [b0z hc9] at hm0
    simp only [b0y, b0i, b0j]
    refine hK8 _ _ ?_
    refine b0b fun K hK => ?_
    simp only [go_sem, s2, s5, Qe, Qf, Q3, Q2, Qb, b0f Qb]
    refine hK _ _ ?_
    clear hK K
    simp only [b01, b03, b02, b04]
    obtain rfl := sI9 hm0
    exact c4o (id := i2) (m := 2) (cs := [I y6.1.Low, I y6.1.High]) (u := I 0) (by simp only [go_sem, s2, Qe, Qf, Q3, Q2, Qb, b0f Qb, lA9, mA9]) (by simp only [go_sem, s2, Qe, Qf, Q3, Q2, Qb, b0f Qb, lA9, mA9]) rfl (by simp only [go_sem, s2, Qe, Qf, Q3, Q2, Qb, b0f Qb, lA9, mA9]) (.refl _ (.agg _ (b0e (b0g _) (b0e (b0g _) b0x)))) (.refl _ (b0g _))
theorem c2r (hf : Has O "newel/faults.common" x_faults_common) : c3z O := by
 intro l out r hm0
 unfold b9o at hm0
 refine b10 hf rfl (b0e (b0w fun a _ => b6k a) (b0e (b0g _) b0x)) (.tup _ (b0e (.agg _ (b0e (b0g _) (b0e (b0g _) b0x))) (b0e (b0g _) b0x))) ?_
 refine b1s (fun t h => t 0 = .fs 4 (List.map b17 l) ∧ t 1 = I out) ⟨rfl, rfl⟩ fun t h ⟨s0, s1⟩ => ?_
 simp only [x_faults_common]
 refine b0b fun K hK => ?_
 simp only [go_sem]
 refine hK _ _ ?_
 clear hK K
 refine b0b fun K hK => ?_
 simp only [go_sem]
 refine hK _ _ ?_
 clear hK K
 refine b05 ?_
 refine b0b fun K hK => ?_
 simp only [go_sem, s0]
 refine hK _ _ ?_
 clear hK K
 refine b0o fun K1 hK1 => ?_
 have J2 : ∀ (s_6_0 : Int) (s_6_1 : Int) (i4 : Nat) (i6 : Nat) (t : Slots) (h : Heap), t 4 = .rp i4 0 0 → t 6 = .rp i6 0 0 → h.ob i4 = some (2, [[I 0, I 0]]) → i4 < h.nx → h.ob i6 = some (2, [[I s_6_0, I s_6_1]]) → i6 < h.nx → ¬i4 = i6 → c87 s_6_0 s_6_1 = some r → K1 t h := by
  intro s_6_0 s_6_1 i4 i6 t h s4 s6 Qc Q7 Q9 Q4 Q6 hm0
  refine hK1 _ _ ?_
  unfold c87 at hm0
  refine b05 ?_
  refine g4w (s := 6) (id := i6) (n := 2) (cs := [I s_6_0, I s_6_1]) (by simp only [go_sem, s6, Qc, Q7, Q9, Q4, Q6, b0f Q6, lA9, mA9]) (by simp only [go_sem, s6, Qc, Q7, Q9, Q4, Q6, b0f Q6, lA9, mA9]) (b0e (b0g _) (b0e (b0g _) b0x)) ?_
  refine b0b fun K hK => ?_
  simp only [go_sem, s4, s6, Qc, Q7, Q4, Q6, b0f Q6]
  refine hK _ _ ?_
  clear hK K
  simp only [b01, b03, b02, b04]
  obtain rfl := sI9 hm0
  exact c4o (id := i4) (m := 2) (cs := [I s_6_0, I s_6_1]) (u := B (decide (s_6_0 ≤ s_6_1))) (by simp only [go_sem, s4, Qc, Q7, Q9, Q4, Q6, b0f Q6, lA9, mA9]) (by simp only [go_sem, s4, Qc, Q7, Q9, Q4, Q6, b0f Q6, lA9, mA9]) rfl (by simp only [go_sem, s4, Qc, Q7, Q9, Q4, Q6, b0f Q6, lA9, mA9]) (.refl _ (.agg _ (b0e (b0g _) (b0e (b0g _) b0x)))) (.refl _ (b0g _))
 simp only [b1c]
 obtain ⟨b3, hl3, hm0⟩ := b0h hm0
 refine b1z hl3 (fun | (s_6_0, s_6_1, x_13), t, h => ∃ i4 : Nat, ∃ i6 : Nat, t 1 = I out ∧ t 4 = .rp i4 0 0 ∧ t 6 = .rp i6 0 0 ∧ t 11 = .fs 4 (List.map b17 l) ∧ t 12 = I (List.length l : Int) ∧ t 13 = I x_13 ∧ h.ob i4 = some (2, [[I 0, I 0]]) ∧ i4 < h.nx ∧ h.ob i6 = some (2, [[I s_6_0, I s_6_1]]) ∧ i6 < h.nx ∧ ¬i4 = i6) ?_ ?_
 ·exact ⟨h.nx, (nxs h.nx), s1, (by first | (simp only [go_sem, lA9, mA9]; done) | rfl), (by first | (simp only [go_sem, lA9, mA9]; done) | rfl), (by first | (simp only [go_sem, lA9, mA9]; done) | rfl), (by first | (simp only [go_sem, lA9, mA9]; done) | rfl), (by first | (simp only [go_sem, lA9, mA9]; done) | rfl), (by simp only [go_sem, lA9, mA9]), (by simp only [go_sem]), (by simp only [go_sem, lA9, mA9]), (by simp only [go_sem]), (by first | first | assumption | omega | (simp only [nxs] <;> omega))⟩
 ·rintro ⟨s_6_0, s_6_1, x_13⟩ o t h ⟨i4, i6, s1, s4, s6, s11, s12, s13, Qc, Q7, Q9, Q4, Q6⟩ hm1 hb3
  simp only [c1v] at hm1
  rw [d9x]
  refine b0b fun K hK => ?_
  simp only [go_sem, s12, s13, Q7, Q4]
  refine hK _ _ ?_
  clear hK K
  refine b0o fun K4 hK4 => ?_
  simp only [go_sem]
  refine b0k (fun hc5 => ?_) (fun hc5 => ?_)
  ·rw [b00 hc5] at hm1
   simp only [b0y, b0i, b0j]
   refine hK4 _ _ ?_
   refine b0o fun K6 hK6 => ?_
   have J7 : ∀ (s_6_0_1 : Int) (s_6_1_1 : Int) (t : Slots) (h : Heap), t 1 = I out → t 4 = .rp i4 0 0 → t 6 = .rp i6 0 0 → t 11 = .fs 4 (List.map b17 l) → t 12 = I (List.length l : Int) → t 13 = I x_13 → h.ob i4 = some (2, [[I 0, I 0]]) → i4 < h.nx → h.ob i6 = some (2, [[I s_6_0_1, I s_6_1_1]]) → i6 < h.nx → ¬i4 = i6 → b9p x_13 s_6_0_1 s_6_1_1 = some o → K6 t h := by
    try clear s1 s4 s6 s11 s12 s13 Qc Q7 Q9 Q4 Q6
    intro s_6_0_1 s_6_1_1 t h s1 s4 s6 s11 s12 s13 Qc Q7 Q9 Q4 Q6 hm1
    refine hK6 _ _ ?_
    unfold b9p at hm1
    refine b1m fun K hK => ?_
    simp only [go_sem, s13, Q7, Q4]
    refine hK _ _ ?_
    clear hK K
    simp only [b0i, b0j]
    obtain rfl := sI9 hm1
    refine ⟨_, rfl, ?_⟩
    exact ⟨i4, i6, s1, s4, s6, s11, s12, (by first | (simp only [go_sem, s13, lA9, mA9]; done) | rfl), Qc, Q7, Q9, Q4, Q6⟩
   simp only [b1c]
   obtain ⟨x9, h_x9, hm1⟩ := b0h hm1
   have h_x90 := b06 h_x9
   have h_x91 := b08 h_x9
   refine b0b fun K hK => ?_
   simp only [go_sem, s11, s13, Q7, Q4, b0p h_x9, b0q h_x9, h_x90, h_x91]
   refine hK _ _ ?_
   clear hK K
   obtain ⟨q11, h_q11, hm1⟩ := b0h hm1
   refine b0b fun K hK => ?_
   simp only [go_sem, s1, Q7, Q4, b7e h_q11]
   refine hK _ _ ?_
   clear hK K
   simp only [go_sem]
   refine b0k (fun hc12 => ?_) (fun hc12 => ?_)
   ·rw [b00 hc12] at hm1
    refine b0b fun K hK => ?_
    simp only [go_sem, Q7, Q4]
    refine hK _ _ ?_
    clear hK K
    refine b1m fun K hK => ?_
    simp only [go_sem, s6, Q9, Q4, Q7, Q6, b0f Q6]
    refine hK _ _ ?_
    clear hK K
    simp only [b0i, b0j]
    exact J7 (mx s_6_0 (wr (x9.Says - (wr (x9.Error + (wr (x9.Drift * x9.Days))))))) (mn s_6_1 (wr (x9.Says + (wr (x9.Error + (wr (x9.Drift * x9.Days))))))) _ _ s1 s4 s6 s11 s12 s13 (by simp only [go_sem, Qc, Q7, Q4, Q6, b0f Q6, lA9, mA9]) (by simp only [go_sem, Q7]) (by simp only [go_sem, Q9, Q4, lA9, mA9]) (by simp only [go_sem, Q4]) Q6 hm1
   ·rw [b0z hc12] at hm1
    simp only [b0y, b0i, b0j]
    exact J7 s_6_0 s_6_1 _ _ s1 s4 s6 s11 s12 s13 (by simp only [go_sem, Qc, Q7, lA9, mA9]) (by simp only [go_sem, Q7]) (by simp only [go_sem, Q9, Q4, lA9, mA9]) (by simp only [go_sem, Q4]) Q6 hm1
  ·rw [b0z hc5] at hm1
   simp only [b1t, b1w, b1v, b1u, b0i, b0j, Nat.reduceEqDiff, nF9]
   obtain rfl := sI9 hm1
   obtain rfl := hb3 _ rfl
   try dsimp only at hm0
   exact J2 s_6_0 s_6_1 i4 i6 _ _ s4 s6 Qc Q7 Q9 Q4 Q6 hm0
theorem c97 (hf : Has O "newel/faults.fewer" x_faults_fewer) (c56 : c74 O) (c0i : c30 O) (d0r : c8e O) : c7p O := by
 intro a b r hm0
 unfold c1w at hm0
 refine b10 hf rfl (b0e (b0g _) (b0e (b0g _) b0x)) (b0g _) ?_
 refine b1s (fun t h => t 0 = I a ∧ t 1 = I b) ⟨rfl, rfl⟩ fun t h ⟨s0, s1⟩ => ?_
 simp only [x_faults_fewer]
 refine b0b fun K hK => ?_
 simp only [go_sem]
 refine hK _ _ ?_
 clear hK K
 refine b05 ?_
 obtain ⟨y3, h_y3, hm0⟩ := b0h hm0
 obtain ⟨y4, h_y4, hm0⟩ := b0h hm0
 refine b0b fun K hK => ?_
 simp only [go_sem, s0, s1]
 refine b1g (c56 (IntKind.wrap .u64 a) _ h_y3) ?_
 simp only [go_sem, s0, s1]
 refine b1g (c56 (IntKind.wrap .u64 b) _ h_y4) ?_
 simp only [go_sem, s0, s1]
 refine hK _ _ ?_
 clear hK K
 refine b05 ?_
 refine b0b fun K hK => ?_
 simp only [go_sem]
 refine hK _ _ ?_
 clear hK K
 refine b0o fun K5 hK5 => ?_
 simp only [go_sem]
 refine b0k (fun hc6 => ?_) (fun hc6 => ?_)
 ·rw [b00 hc6] at hm0
  refine b0b fun K hK => ?_
  simp only [go_sem]
  refine hK _ _ ?_
  clear hK K
  simp only [b01, b03, b02, b04]
  obtain rfl := sI9 hm0
  exact b1e (by simp only [go_sem, lA9, mA9]) (b0g _)
 ·rw [b0z hc6] at hm0
  simp only [b0y, b0i, b0j]
  refine hK5 _ _ ?_
  obtain ⟨y10, h_y10, hm0⟩ := b0h hm0
  obtain ⟨y11, h_y11, hm0⟩ := b0h hm0
  obtain ⟨y12, h_y12, hm0⟩ := b0h hm0
  refine b0b fun K hK => ?_
  simp only [go_sem, s0, s1]
  refine b1g (c0i a _ h_y10) ?_
  simp only [go_sem, s0, s1]
  refine b1g (c0i b _ h_y11) ?_
  simp only [go_sem, s0, s1]
  refine b1g (d0r y10 y11 _ h_y12) ?_
  simp only [go_sem, s0, s1]
  refine hK _ _ ?_
  clear hK K
  simp only [b01, b03, b02, b04]
  obtain rfl := sI9 hm0
  exact b1e (by simp only [go_sem, lA9, mA9]) (b0g _)
theorem c0i (hf : Has O "newel/faults.members" x_faults_members) (d0m : c76 O) : c30 O := by
 intro set r hm0
 unfold b63 at hm0
 refine b10 hf rfl (b0e (b0g _) b0x) (b0w fun a _ => b2n a) ?_
 refine b1s (fun t h => t 0 = I set) rfl fun t h s0 => ?_
 simp only [x_faults_members]
 refine b0b fun K hK => ?_
 simp only [go_sem]
 refine hK _ _ ?_
 clear hK K
 refine b0b fun K hK => ?_
 simp only [go_sem]
 refine hK _ _ ?_
 clear hK K
 refine b0o fun K1 hK1 => ?_
 have J2 : ∀ (l_3 : List Int) (v3 : AV) (t : Slots) (h : Heap), t 3 = v3 → b1k h v3 1 (List.map eI l_3) → c1x l_3 = some r → K1 t h := by
  intro l_3 v3 t h s3 Qg hm0
  refine hK1 _ _ ?_
  unfold c1x at hm0
  refine b0b fun K hK => ?_
  simp only [go_sem, s3, b0a v3]
  refine hK _ _ ?_
  clear hK K
  simp only [b01, b03, b02, b04]
  obtain rfl := sI9 hm0
  exact g45 (v := v3) (by simp only [go_sem, b1i Qg, lA9, mA9]) (c4z (f := eI) (l := l_3) (b25 Qg (by intro j hj hl; first | rfl | simp only [go_sem, hl]) (by first | omega | exact Nat.le_refl _ | (simp only [go_sem, nxs] <;> omega))) b2n c0n)
 simp only [b1c]
 obtain ⟨b3, hl3, hm0⟩ := b0h hm0
 refine b1z hl3 (fun | (set_0, l_3), t, h => ∃ v3 : AV, t 0 = I set_0 ∧ t 3 = v3 ∧ b1k h v3 1 (List.map eI l_3)) ?_ ?_
 ·exact ⟨(.v (.slice none 0 0)), s0, (by first | (simp only [go_sem, lA9, mA9]; done) | rfl), c6m⟩
 ·rintro ⟨set_0, l_3⟩ o t h ⟨v3, s0, s3, Qg⟩ hm1 hb3
  simp only [c4w] at hm1
  rw [d9y]
  refine b05 ?_
  refine b0b fun K hK => ?_
  simp only [go_sem, s0, b0a v3]
  refine hK _ _ ?_
  clear hK K
  refine b0o fun K4 hK4 => ?_
  simp only [go_sem]
  refine b0k (fun hc5 => ?_) (fun hc5 => ?_)
  ·rw [b00 hc5] at hm1
   simp only [b0y, b0i, b0j]
   refine hK4 _ _ ?_
   refine b0o fun K6 hK6 => ?_
   simp only [b1c]
   obtain ⟨y9, h_y9, hm1⟩ := b0h hm1
   obtain ⟨l10, h_l10, hm1⟩ := b0h hm1
   refine b1m fun K hK => ?_
   simp only [go_sem, s0, s3, b0a v3]
   refine b1g (d0m (IntKind.wrap .u64 set_0) _ h_y9) ?_
   simp only [go_sem, s0, s3, b0a v3]
   refine b7d (f := eI) (l := l_3) (m := ([y9])) ?_ ?_ ?_ ?_ h_l10 ?_
   ·exact (b25 Qg (by intro j hj hl; first | rfl | simp only [go_sem, hl]) (by first | omega | exact Nat.le_refl _ | (simp only [go_sem, nxs] <;> omega)))
   ·exact (b8r (by simp only [go_sem, b1i Qg, lA9, mA9]) (by simp only [go_sem, b1i Qg, lA9, mA9]))
   ·exact (b45 (by first | exact b2i | exact b2j (by first | omega | (simp only [nxs] <;> omega)) | assumption | exact b1x (by assumption) (by first | omega | (simp only [go_sem, nxs] <;> omega))))
   ·exact (fun _ => by simp)
   simp only [go_sem, s0, s3, b0a v3]
   refine hK _ _ ?_
   clear hK K
   simp only [b0i, b0j]
   refine hK6 _ _ ?_
   refine b1m fun K hK => ?_
   simp only [go_sem, s0, b0a v3]
   refine hK _ _ ?_
   clear hK K
   simp only [b0i, b0j]
   obtain rfl := sI9 hm1
   refine ⟨_, rfl, ?_⟩
   exact ⟨(.rs (nxs h.nx) 0 (List.length l10)), (by first | (simp only [go_sem, s0, lA9, mA9]; done) | rfl), (by first | (simp only [go_sem, s3, lA9, mA9]; done) | rfl), (b4f (by simp only [go_sem, b1i Qg, lA9, mA9]) (by first | rfl | simp only [go_sem, lA9, mA9]) (by simp only [go_sem]))⟩
  ·rw [b0z hc5] at hm1
   simp only [b1t, b1w, b1v, b1u, b0i, b0j, Nat.reduceEqDiff, nF9]
   obtain rfl := sI9 hm1
   obtain rfl := hb3 _ rfl
   try dsimp only at hm0
   exact J2 l_3 v3 _ _ s3 Qg hm0
theorem c2s (hf : Has O "newel/faults.readings" x_faults_readings) (c0j : c7q O) : c31 O := by
 intro l r hm0
 unfold b8e at hm0
 refine b10 hf rfl (b0e (b0w fun a _ => b6k a) b0x) (b0g _) ?_
 refine b1s (fun t h => t 0 = .fs 4 (List.map b17 l)) rfl fun t h s0 => ?_
 simp only [x_faults_readings]
 refine b0b fun K hK => ?_
 simp only [go_sem]
 refine hK _ _ ?_
 clear hK K
 refine b05 ?_
 refine b0b fun K hK => ?_
 simp only [go_sem, s0]
 refine hK _ _ ?_
 clear hK K
 refine b0o fun K1 hK1 => ?_
 simp only [go_sem]
 refine b0k (fun hc2 => ?_) (fun hc2 => ?_)
 ·rw [b00 hc2] at hm0
  refine b0b fun K hK => ?_
  simp only [go_sem]
  refine hK _ _ ?_
  clear hK K
  simp only [b01, b03, b02, b04]
  obtain rfl := sI9 hm0
  exact b1e (by simp only [go_sem, lA9, mA9]) (b0g _)
 ·rw [b0z hc2] at hm0
  simp only [b0y, b0i, b0j]
  refine hK1 _ _ ?_
  refine b05 ?_
  refine b0b fun K hK => ?_
  simp only [go_sem, s0]
  refine hK _ _ ?_
  clear hK K
  refine b0o fun K3 hK3 => ?_
  have J4 : ∀ (t : Slots) (h : Heap), c9b = some r → K3 t h := by
   intro t h hm0
   refine hK3 _ _ ?_
   unfold c9b at hm0
   refine b0b fun K hK => ?_
   simp only [go_sem]
   refine hK _ _ ?_
   clear hK K
   simp only [b01, b03, b02, b04]
   obtain rfl := sI9 hm0
   exact b1e (by simp only [go_sem, lA9, mA9]) (b0g _)
  simp only [b1c]
  obtain ⟨b5, hl5, hm0⟩ := b0h hm0
  refine b1z hl5 (fun | x_10, t, h => t 8 = .fs 4 (List.map b17 l) ∧ t 9 = I (List.length l : Int) ∧ t 10 = I x_10) ?_ ?_
  ·exact ⟨(by first | (simp only [go_sem, lA9, mA9]; done) | rfl), (by first | (simp only [go_sem, lA9, mA9]; done) | rfl), (by first | (simp only [go_sem, lA9, mA9]; done) | rfl)⟩
  ·rintro x_10 o t h ⟨s8, s9, s10⟩ hm1 hb5
   simp only [b9q] at hm1
   rw [d9z]
   refine b0b fun K hK => ?_
   simp only [go_sem, s9, s10]
   refine hK _ _ ?_
   clear hK K
   refine b0o fun K6 hK6 => ?_
   simp only [go_sem]
   refine b0k (fun hc7 => ?_) (fun hc7 => ?_)
   ·rw [b00 hc7] at hm1
    simp only [b0y, b0i, b0j]
    refine hK6 _ _ ?_
    refine b0o fun K8 hK8 => ?_
    simp only [b1c]
    obtain ⟨x10, h_x10, hm1⟩ := b0h hm1
    have h_x100 := b06 h_x10
    have h_x101 := b08 h_x10
    refine b0b fun K hK => ?_
    simp only [go_sem, s8, s10, b0p h_x10, b0q h_x10, h_x100, h_x101]
    refine hK _ _ ?_
    clear hK K
    refine b1r (fun t h => t 8 = .fs 4 (List.map b17 l) ∧ t 9 = I (List.length l : Int) ∧ t 10 = I x_10 ∧ t 35 = B ((((!(b4z x10.Says (-100000) 100000)) || (!(b4z x10.Error 0 1000))) || (!(b4z x10.Drift 0 1000))) || (!(b4z x10.Days 0 1000)))) (fun K hK => ?_) ?_
    ·simp only [go_sem]
     refine b1g (c0j x10.Says (-100000) 100000) ?_
     simp only [go_sem]
     refine b0k (fun hg11 => ?_) (fun hg11 => ?_)
     ·simp only [go_sem, hg11]
      exact hK _ _ ⟨s8, s9, s10, (by first | (simp only [go_sem, hg11, lA9, mA9]; done) | rfl)⟩
     ·simp only [go_sem, hg11]
      refine b1g (c0j x10.Error 0 1000) ?_
      simp only [go_sem, hg11]
      refine b0k (fun hg12 => ?_) (fun hg12 => ?_)
      ·simp only [go_sem, hg11, hg12]
       exact hK _ _ ⟨s8, s9, s10, (by first | (simp only [go_sem, hg11, hg12, lA9, mA9]; done) | rfl)⟩
      ·simp only [go_sem, hg11, hg12]
       refine b1g (c0j x10.Drift 0 1000) ?_
       simp only [go_sem, hg11, hg12]
       refine b0k (fun hg13 => ?_) (fun hg13 => ?_)
       ·simp only [go_sem, hg11, hg12, hg13]
        exact hK _ _ ⟨s8, s9, s10, (by first | (simp only [go_sem, hg11, hg12, hg13, lA9, mA9]; done) | rfl)⟩
       ·simp only [go_sem, hg11, hg12, hg13]
        refine b1g (c0j x10.Days 0 1000) ?_
        simp only [go_sem, hg11, hg12, hg13]
        exact hK _ _ ⟨s8, s9, s10, (by first | (simp only [go_sem, hg11, hg12, hg13, lA9, mA9]; done) | rfl)⟩
    ·rintro t h ⟨s8, s9, s10, s35⟩
     simp only [go_sem, s35]
     refine b0k (fun hc14 => ?_) (fun hc14 => ?_)
     ·rw [b00 hc14] at hm1
      refine b0b fun K hK => ?_
      simp only [go_sem]
      refine hK _ _ ?_
      clear hK K
      simp only [b01, b03, b02, b04]
      obtain rfl := sI9 hm1
      obtain rfl := hb5 _ rfl
      try dsimp only at hm0
      obtain rfl := sI9 hm0
      exact b1e (by simp only [go_sem, lA9, mA9]) (b0g _)
     ·rw [b0z hc14] at hm1
      simp only [b0y, b0i, b0j]
      refine hK8 _ _ ?_
      refine b1m fun K hK => ?_
      simp only [go_sem, s10]
      refine hK _ _ ?_
      clear hK K
      simp only [b0i, b0j]
      obtain rfl := sI9 hm1
      refine ⟨_, rfl, ?_⟩
      exact ⟨s8, s9, (by first | (simp only [go_sem, s10, lA9, mA9]; done) | rfl)⟩
   ·rw [b0z hc7] at hm1
    simp only [b1t, b1w, b1v, b1u, b0i, b0j, Nat.reduceEqDiff, nF9]
    obtain rfl := sI9 hm1
    obtain rfl := hb5 _ rfl
    try dsimp only at hm0
    exact J4  _ _  hm0
theorem c0j (hf : Has O "newel/faults.within" x_faults_within) : c7q O := by
 intro n low high
 generalize hm0 : b4z n low high = r
 unfold b4z at hm0
 refine b10 hf rfl (b0e (b0g _) (b0e (b0g _) (b0e (b0g _) b0x))) (b0g _) ?_
 refine b1s (fun t h => t 0 = I n ∧ t 1 = I low ∧ t 2 = I high) ⟨rfl, rfl, rfl⟩ fun t h ⟨s0, s1, s2⟩ => ?_
 simp only [x_faults_within]
 refine b0b fun K hK => ?_
 simp only [go_sem]
 refine hK _ _ ?_
 clear hK K
 refine b1r (fun t h => t 6 = B ((decide (low ≤ n)) && (decide (n ≤ high)))) (fun K hK => ?_) ?_
 ·simp only [go_sem, s0, s1, s2]
  refine b0k (fun hg1 => ?_) (fun hg1 => ?_)
  ·simp only [go_sem, s0, s1, s2, hg1]
   exact hK _ _ (by first | (simp only [go_sem, hg1, lA9, mA9]; done) | rfl)
  ·simp only [go_sem, s0, s1, s2, hg1]
   exact hK _ _ (by first | (simp only [go_sem, hg1, lA9, mA9]; done) | rfl)
 ·rintro t h s6
  simp only [b01, b03, b02, b04]
  obtain rfl := hm0
  exact b1e (by simp only [go_sem, s6, lA9, mA9]) (b0g _)
theorem c2t (hf : Has O "newel/halls.Check" x_halls_Check) (d0f : c7y O) (d0s : c8f O) (c98 : c7r O) (b5j : b83 O) : c32 O := by
 intro h_ r hm0
 unfold b5h at hm0
 refine b10 hf rfl (b0e (.agg _ (b0e (b0w fun a _ => b3h a) (b0e (b0w fun a _ => b3b a) (b0e (b0w fun a _ => b3i a) (b0e (b0g _) b0x))))) b0x) (b0g _) ?_
 refine b1s (fun t h => t 0 = .agg [.fs 5 (List.map b0u h_.Combs), .fs 3 (List.map b0r h_.Trains), .fs 3 (List.map b0v h_.Shifts), I h_.Until]) rfl fun t h s0 => ?_
 simp only [x_halls_Check]
 refine b0b fun K hK => ?_
 simp only [go_sem, s0]
 refine hK _ _ ?_
 clear hK K
 refine b05 ?_
 refine b1r (fun t h => t 1 = .fp [.fs 5 (List.map b0u h_.Combs), .fs 3 (List.map b0r h_.Trains), .fs 3 (List.map b0v h_.Shifts), I h_.Until] 0 ∧ t 37 = B ((((((decide (h_.Until < 1)) || (decide (100 < h_.Until))) || (decide ((List.length h_.Combs : Int) < 1))) || (decide (8 < (List.length h_.Combs : Int)))) || (decide (12 < (List.length h_.Trains : Int)))) || (decide (20 < (List.length h_.Shifts : Int))))) (fun K hK => ?_) ?_
 ·simp only [go_sem]
  refine b0k (fun hg1 => ?_) (fun hg1 => ?_)
  ·simp only [go_sem, hg1]
   exact hK _ _ ⟨(by first | (simp only [go_sem, hg1, lA9, mA9]; done) | rfl), (by first | (simp only [go_sem, hg1, lA9, mA9]; done) | rfl)⟩
  ·simp only [go_sem, hg1]
   refine b0k (fun hg2 => ?_) (fun hg2 => ?_)
   ·simp only [go_sem, hg1, hg2]
    exact hK _ _ ⟨(by first | (simp only [go_sem, hg1, hg2, lA9, mA9]; done) | rfl), (by first | (simp only [go_sem, hg1, hg2, lA9, mA9]; done) | rfl)⟩
   ·simp only [go_sem, hg1, hg2]
    refine b0k (fun hg3 => ?_) (fun hg3 => ?_)
    ·simp only [go_sem, hg1, hg2, hg3]
     exact hK _ _ ⟨(by first | (simp only [go_sem, hg1, hg2, hg3, lA9, mA9]; done) | rfl), (by first | (simp only [go_sem, hg1, hg2, hg3, lA9, mA9]; done) | rfl)⟩
    ·simp only [go_sem, hg1, hg2, hg3]
     refine b0k (fun hg4 => ?_) (fun hg4 => ?_)
     ·simp only [go_sem, hg1, hg2, hg3, hg4]
      exact hK _ _ ⟨(by first | (simp only [go_sem, hg1, hg2, hg3, hg4, lA9, mA9]; done) | rfl), (by first | (simp only [go_sem, hg1, hg2, hg3, hg4, lA9, mA9]; done) | rfl)⟩
     ·simp only [go_sem, hg1, hg2, hg3, hg4]
      refine b0k (fun hg5 => ?_) (fun hg5 => ?_)
      ·simp only [go_sem, hg1, hg2, hg3, hg4, hg5]
       exact hK _ _ ⟨(by first | (simp only [go_sem, hg1, hg2, hg3, hg4, hg5, lA9, mA9]; done) | rfl), (by first | (simp only [go_sem, hg1, hg2, hg3, hg4, hg5, lA9, mA9]; done) | rfl)⟩
      ·simp only [go_sem, hg1, hg2, hg3, hg4, hg5]
       exact hK _ _ ⟨(by first | (simp only [go_sem, hg1, hg2, hg3, hg4, hg5, lA9, mA9]; done) | rfl), (by first | (simp only [go_sem, hg1, hg2, hg3, hg4, hg5, lA9, mA9]; done) | rfl)⟩
 ·rintro t h ⟨s1, s37⟩
  refine b0o fun K6 hK6 => ?_
  simp only [go_sem, s37]
  refine b0k (fun hc7 => ?_) (fun hc7 => ?_)
  ·rw [b00 hc7] at hm0
   refine b0b fun K hK => ?_
   simp only [go_sem]
   refine hK _ _ ?_
   clear hK K
   simp only [b01, b03, b02, b04]
   obtain rfl := sI9 hm0
   exact b1e (by simp only [go_sem, lA9, mA9]) (b0g _)
  ·rw [b0z hc7] at hm0
   simp only [b0y, b0i, b0j]
   refine hK6 _ _ ?_
   refine b05 ?_
   refine b0b fun K hK => ?_
   simp only [go_sem, s1]
   refine hK _ _ ?_
   clear hK K
   refine b0o fun K8 hK8 => ?_
   have J9 : ∀ (t : Slots) (h : Heap), t 1 = .fp [.fs 5 (List.map b0u h_.Combs), .fs 3 (List.map b0r h_.Trains), .fs 3 (List.map b0v h_.Shifts), I h_.Until] 0 → c46 h_ = some r → K8 t h := by
    intro t h s1 hm0
    refine hK8 _ _ ?_
    unfold c46 at hm0
    refine b05 ?_
    obtain ⟨y13, h_y13, hm0⟩ := b0h hm0
    refine b0b fun K hK => ?_
    simp only [go_sem, s1]
    refine b1g (d0s h_.Trains "newel/halls.Check$1" [] [.fp [.fs 5 (List.map b0u h_.Combs), .fs 3 (List.map b0r h_.Trains), .fs 3 (List.map b0v h_.Shifts), I h_.Until] 0] (fun z12 => b9t z12 h_) (.fn _ _ _ b0x (b0e (.fp _ _ (b0e (b0w fun a _ => b3h a) (b0e (b0w fun a _ => b3b a) (b0e (b0w fun a _ => b3i a) (b0e (b0g _) b0x))))) b0x)) (fun z0 y hz => c98 z0 h_ y hz) _ h_y13) ?_
    simp only [go_sem, s1]
    refine hK _ _ ?_
    clear hK K
    refine b0o fun K14 hK14 => ?_
    simp only [go_sem]
    refine b0k (fun hc15 => ?_) (fun hc15 => ?_)
    ·rw [b00 hc15] at hm0
     refine b0b fun K hK => ?_
     simp only [go_sem]
     refine hK _ _ ?_
     clear hK K
     simp only [b01, b03, b02, b04]
     obtain rfl := sI9 hm0
     exact b1e (by simp only [go_sem, lA9, mA9]) (b0g _)
    ·rw [b0z hc15] at hm0
     simp only [b0y, b0i, b0j]
     refine hK14 _ _ ?_
     refine b05 ?_
     refine b0b fun K hK => ?_
     simp only [go_sem, s1]
     refine hK _ _ ?_
     clear hK K
     refine b0o fun K16 hK16 => ?_
     have J17 : ∀ (t : Slots) (h : Heap), c9n = some r → K16 t h := by
      intro t h hm0
      refine hK16 _ _ ?_
      unfold c9n at hm0
      refine b0b fun K hK => ?_
      simp only [go_sem]
      refine hK _ _ ?_
      clear hK K
      simp only [b01, b03, b02, b04]
      obtain rfl := sI9 hm0
      exact b1e (by simp only [go_sem, lA9, mA9]) (b0g _)
     simp only [b1c]
     obtain ⟨b18, hl18, hm0⟩ := b0h hm0
     refine b1z hl18 (fun | x_56, t, h => t 1 = .fp [.fs 5 (List.map b0u h_.Combs), .fs 3 (List.map b0r h_.Trains), .fs 3 (List.map b0v h_.Shifts), I h_.Until] 0 ∧ t 54 = .fs 3 (List.map b0v h_.Shifts) ∧ t 55 = I (List.length h_.Shifts : Int) ∧ t 56 = I x_56) ?_ ?_
     ·exact ⟨s1, (by first | (simp only [go_sem, lA9, mA9]; done) | rfl), (by first | (simp only [go_sem, lA9, mA9]; done) | rfl), (by first | (simp only [go_sem, lA9, mA9]; done) | rfl)⟩
     ·rintro x_56 o t h ⟨s1, s54, s55, s56⟩ hm1 hb18
      simp only [b9u] at hm1
      rw [d90]
      refine b0b fun K hK => ?_
      simp only [go_sem, s55, s56]
      refine hK _ _ ?_
      clear hK K
      refine b0o fun K19 hK19 => ?_
      simp only [go_sem]
      refine b0k (fun hc20 => ?_) (fun hc20 => ?_)
      ·rw [b00 hc20] at hm1
       simp only [b0y, b0i, b0j]
       refine hK19 _ _ ?_
       refine b0o fun K21 hK21 => ?_
       simp only [b1c]
       obtain ⟨x23, h_x23, hm1⟩ := b0h hm1
       have h_x230 := b06 h_x23
       have h_x231 := b08 h_x23
       refine b0b fun K hK => ?_
       simp only [go_sem, s54, s56, b0p h_x23, b0q h_x23, h_x230, h_x231]
       refine hK _ _ ?_
       clear hK K
       obtain ⟨c29, h_c29, hm1⟩ := b0h hm1
       refine b1r (fun t h => t 1 = .fp [.fs 5 (List.map b0u h_.Combs), .fs 3 (List.map b0r h_.Trains), .fs 3 (List.map b0v h_.Shifts), I h_.Until] 0 ∧ t 54 = .fs 3 (List.map b0v h_.Shifts) ∧ t 55 = I (List.length h_.Shifts : Int) ∧ t 56 = I x_56 ∧ t 106 = B (((c29 || (decide (x23.Comb < 0))) || (decide ((List.length h_.Combs : Int) ≤ x23.Comb))) || (!(b3a x23.Rate (Span.mk 0 1000))))) (fun K hK => ?_) ?_
       ·simp only [go_sem, s1]
        refine b0k (fun hg30 => ?_) (fun hg30 => ?_)
        ·simp only [hg30, Bool.not_true, Bool.not_false, eq_self, if_true, if_false, Bool.true_or, Bool.or_true, Bool.false_or, Bool.or_false, Bool.true_and, Bool.and_true, Bool.false_and, Bool.and_false, Bool.false_eq_true] at h_c29
         obtain rfl := sI9 h_c29
         simp only [go_sem, s1, hg30]
         exact hK _ _ ⟨s1, s54, s55, s56, (by first | (simp only [go_sem, hg30, lA9, mA9]; done) | rfl)⟩
        ·simp only [go_sem, s1, hg30]
         refine b0k (fun hg31 => ?_) (fun hg31 => ?_)
         ·simp only [hg30, hg31, Bool.not_true, Bool.not_false, eq_self, if_true, if_false, Bool.true_or, Bool.or_true, Bool.false_or, Bool.or_false, Bool.true_and, Bool.and_true, Bool.false_and, Bool.and_false, Bool.false_eq_true] at h_c29
          obtain rfl := sI9 h_c29
          simp only [go_sem, s1, hg30, hg31]
          exact hK _ _ ⟨s1, s54, s55, s56, (by first | (simp only [go_sem, hg30, hg31, lA9, mA9]; done) | rfl)⟩
         ·simp only [hg30, hg31, Bool.not_true, Bool.not_false, eq_self, if_true, if_false, Bool.true_or, Bool.or_true, Bool.false_or, Bool.or_false, Bool.true_and, Bool.and_true, Bool.false_and, Bool.and_false, Bool.false_eq_true] at h_c29
          obtain ⟨c28, h_c28, h_c29⟩ := b0h h_c29
          obtain rfl := sI9 h_c29
          simp only [go_sem, s1, hg30, hg31]
          refine b0k (fun hg32 => ?_) (fun hg32 => ?_)
          ·simp only [hg30, hg31, hg32, Bool.not_true, Bool.not_false, eq_self, if_true, if_false, Bool.true_or, Bool.or_true, Bool.false_or, Bool.or_false, Bool.true_and, Bool.and_true, Bool.false_and, Bool.and_false, Bool.false_eq_true] at h_c28
           obtain ⟨x27, h_x27, h_c28⟩ := b0h h_c28
           have h_x270 := b06 h_x27
           have h_x271 := b08 h_x27
           obtain rfl := sI9 h_c28
           simp only [go_sem, s1, b0p h_x27, b0q h_x27, h_x270, h_x271, hg30, hg31, hg32]
           refine b0k (fun hg33 => ?_) (fun hg33 => ?_)
           ·simp only [go_sem, s1, b0p h_x27, b0q h_x27, h_x270, h_x271, hg30, hg31, hg32, hg33]
            exact hK _ _ ⟨s1, s54, s55, s56, (by first | (simp only [go_sem, hg30, hg31, hg32, hg33, lA9, mA9]; done) | rfl)⟩
           ·simp only [go_sem, s1, b0p h_x27, b0q h_x27, h_x270, h_x271, hg30, hg31, hg32, hg33]
            refine b0k (fun hg34 => ?_) (fun hg34 => ?_)
            ·simp only [go_sem, s1, b0p h_x27, b0q h_x27, h_x270, h_x271, hg30, hg31, hg32, hg33, hg34]
             exact hK _ _ ⟨s1, s54, s55, s56, (by first | (simp only [go_sem, hg30, hg31, hg32, hg33, hg34, lA9, mA9]; done) | rfl)⟩
            ·simp only [go_sem, s1, b0p h_x27, b0q h_x27, h_x270, h_x271, hg30, hg31, hg32, hg33, hg34]
             refine b0k (fun hg35 => ?_) (fun hg35 => ?_)
             ·simp only [go_sem, s1, b0p h_x27, b0q h_x27, h_x270, h_x271, hg30, hg31, hg32, hg33, hg34, hg35]
              exact hK _ _ ⟨s1, s54, s55, s56, (by first | (simp only [go_sem, hg30, hg31, hg32, hg33, hg34, hg35, lA9, mA9]; done) | rfl)⟩
             ·simp only [go_sem, s1, b0p h_x27, b0q h_x27, h_x270, h_x271, hg30, hg31, hg32, hg33, hg34, hg35]
              refine b1g (b5j x23.Rate (Span.mk 0 1000)) ?_
              simp only [go_sem, s1, b0p h_x27, b0q h_x27, h_x270, h_x271, hg30, hg31, hg32, hg33, hg34, hg35]
              exact hK _ _ ⟨s1, s54, s55, s56, (by first | (simp only [go_sem, hg30, hg31, hg32, hg33, hg34, hg35, lA9, mA9]; done) | rfl)⟩
          ·simp only [hg30, hg31, hg32, Bool.not_true, Bool.not_false, eq_self, if_true, if_false, Bool.true_or, Bool.or_true, Bool.false_or, Bool.or_false, Bool.true_and, Bool.and_true, Bool.false_and, Bool.and_false, Bool.false_eq_true] at h_c28
           obtain rfl := sI9 h_c28
           simp only [go_sem, s1, hg30, hg31, hg32]
           refine b0k (fun hg36 => ?_) (fun hg36 => ?_)
           ·simp only [go_sem, s1, hg30, hg31, hg32, hg36]
            exact hK _ _ ⟨s1, s54, s55, s56, (by first | (simp only [go_sem, hg30, hg31, hg32, hg36, lA9, mA9]; done) | rfl)⟩
           ·simp only [go_sem, s1, hg30, hg31, hg32, hg36]
            refine b0k (fun hg37 => ?_) (fun hg37 => ?_)
            ·simp only [go_sem, s1, hg30, hg31, hg32, hg36, hg37]
             exact hK _ _ ⟨s1, s54, s55, s56, (by first | (simp only [go_sem, hg30, hg31, hg32, hg36, hg37, lA9, mA9]; done) | rfl)⟩
            ·simp only [go_sem, s1, hg30, hg31, hg32, hg36, hg37]
             refine b1g (b5j x23.Rate (Span.mk 0 1000)) ?_
             simp only [go_sem, s1, hg30, hg31, hg32, hg36, hg37]
             exact hK _ _ ⟨s1, s54, s55, s56, (by first | (simp only [go_sem, hg30, hg31, hg32, hg36, hg37, lA9, mA9]; done) | rfl)⟩
       ·rintro t h ⟨s1, s54, s55, s56, s106⟩
        simp only [go_sem, s106]
        refine b0k (fun hc38 => ?_) (fun hc38 => ?_)
        ·rw [b00 hc38] at hm1
         refine b0b fun K hK => ?_
         simp only [go_sem]
         refine hK _ _ ?_
         clear hK K
         simp only [b01, b03, b02, b04]
         obtain rfl := sI9 hm1
         obtain rfl := hb18 _ rfl
         try dsimp only at hm0
         obtain rfl := sI9 hm0
         exact b1e (by simp only [go_sem, lA9, mA9]) (b0g _)
        ·rw [b0z hc38] at hm1
         simp only [b0y, b0i, b0j]
         refine hK21 _ _ ?_
         refine b1m fun K hK => ?_
         simp only [go_sem, s56]
         refine hK _ _ ?_
         clear hK K
         simp only [b0i, b0j]
         obtain rfl := sI9 hm1
         refine ⟨_, rfl, ?_⟩
         exact ⟨s1, s54, s55, (by first | (simp only [go_sem, s56, lA9, mA9]; done) | rfl)⟩
      ·rw [b0z hc20] at hm1
       simp only [b1t, b1w, b1v, b1u, b0i, b0j, Nat.reduceEqDiff, nF9]
       obtain rfl := sI9 hm1
       obtain rfl := hb18 _ rfl
       try dsimp only at hm0
       exact J17  _ _  hm0
   simp only [b1c]
   obtain ⟨b40, hl40, hm0⟩ := b0h hm0
   refine b1z hl40 (fun | x_41, t, h => t 1 = .fp [.fs 5 (List.map b0u h_.Combs), .fs 3 (List.map b0r h_.Trains), .fs 3 (List.map b0v h_.Shifts), I h_.Until] 0 ∧ t 40 = I (List.length h_.Combs : Int) ∧ t 41 = I x_41) ?_ ?_
   ·exact ⟨s1, (by first | (simp only [go_sem, lA9, mA9]; done) | rfl), (by first | (simp only [go_sem, lA9, mA9]; done) | rfl)⟩
   ·rintro x_41 o t h ⟨s1, s40, s41⟩ hm1 hb40
    simp only [b9v] at hm1
    rw [d91]
    refine b0b fun K hK => ?_
    simp only [go_sem, s40, s41]
    refine hK _ _ ?_
    clear hK K
    refine b0o fun K41 hK41 => ?_
    simp only [go_sem]
    refine b0k (fun hc42 => ?_) (fun hc42 => ?_)
    ·rw [b00 hc42] at hm1
     simp only [b0y, b0i, b0j]
     refine hK41 _ _ ?_
     refine b0o fun K43 hK43 => ?_
     simp only [b1c]
     refine b0b fun K hK => ?_
     simp only [go_sem, s41]
     refine hK _ _ ?_
     clear hK K
     obtain ⟨y45, h_y45, hm1⟩ := b0h hm1
     refine b0b fun K hK => ?_
     simp only [go_sem, s1]
     refine b1g (d0f h_ x_41 _ h_y45) ?_
     simp only [go_sem, s1]
     refine hK _ _ ?_
     clear hK K
     simp only [go_sem]
     refine b0k (fun hc46 => ?_) (fun hc46 => ?_)
     ·rw [b00 hc46] at hm1
      refine b0b fun K hK => ?_
      simp only [go_sem]
      refine hK _ _ ?_
      clear hK K
      simp only [b01, b03, b02, b04]
      obtain rfl := sI9 hm1
      obtain rfl := hb40 _ rfl
      try dsimp only at hm0
      obtain rfl := sI9 hm0
      exact b1e (by simp only [go_sem, lA9, mA9]) (b0g _)
     ·rw [b0z hc46] at hm1
      simp only [b0y, b0i, b0j]
      refine hK43 _ _ ?_
      refine b1m fun K hK => ?_
      simp only [go_sem, s41]
      refine hK _ _ ?_
      clear hK K
      simp only [b0i, b0j]
      obtain rfl := sI9 hm1
      refine ⟨_, rfl, ?_⟩
      exact ⟨s1, s40, (by first | (simp only [go_sem, s41, lA9, mA9]; done) | rfl)⟩
    ·rw [b0z hc42] at hm1
     simp only [b1t, b1w, b1v, b1u, b0i, b0j, Nat.reduceEqDiff, nF9]
     obtain rfl := sI9 hm1
     obtain rfl := hb40 _ rfl
     try dsimp only at hm0
     exact J9  _ _ s1 hm0
theorem c98 (hf : Has O "newel/halls.Check$1" x_halls_CheckD1) (d0i : c71 O) : c7r O := by
 intro t_ c0 r hm0
 unfold b9t at hm0
 refine b10 hf rfl (b0e (.agg _ (b0e (b0g _) (b0e (b0g _) (b0e (b0w fun a _ => c9k a) b0x)))) (b0e (.fp _ _ (b0e (b0w fun a _ => b3h a) (b0e (b0w fun a _ => b3b a) (b0e (b0w fun a _ => b3i a) (b0e (b0g _) b0x))))) b0x)) (b0g _) ?_
 refine b1s (fun t h => t 0 = .agg [I t_.At.Low, I t_.At.High, .fs 3 (List.map b2m t_.Crowds)] ∧ t 1 = .fp [.fs 5 (List.map b0u c0.Combs), .fs 3 (List.map b0r c0.Trains), .fs 3 (List.map b0v c0.Shifts), I c0.Until] 0) ⟨rfl, rfl⟩ fun t h ⟨s0, s1⟩ => ?_
 simp only [x_halls_CheckD1]
 refine b0b fun K hK => ?_
 simp only [go_sem, s0]
 refine hK _ _ ?_
 clear hK K
 obtain ⟨y2, h_y2, hm0⟩ := b0h hm0
 refine b0b fun K hK => ?_
 simp only [go_sem, s1]
 refine b1g (d0i c0 t_ _ h_y2) ?_
 simp only [go_sem, s1]
 refine hK _ _ ?_
 clear hK K
 simp only [b01, b03, b02, b04]
 obtain rfl := sI9 hm0
 exact b1e (by simp only [go_sem, lA9, mA9]) (b0g _)
theorem c99 (hf : Has O "newel/halls.Most" x_halls_Most) (d0d : c7w O) (d0j : c72 O) (d0b : c7u O) : c7s O := by
 intro h_ comb r hm0
 unfold c18 at hm0
 refine b10 hf rfl (b0e (.agg _ (b0e (b0w fun a _ => b3h a) (b0e (b0w fun a _ => b3b a) (b0e (b0w fun a _ => b3i a) (b0e (b0g _) b0x))))) (b0e (b0g _) b0x)) (.tup _ (b0e (b0w fun a _ => b2n a) (b0e (b0g _) b0x))) ?_
 refine b1s (fun t h => t 0 = .agg [.fs 5 (List.map b0u h_.Combs), .fs 3 (List.map b0r h_.Trains), .fs 3 (List.map b0v h_.Shifts), I h_.Until] ∧ t 1 = I comb) ⟨rfl, rfl⟩ fun t h ⟨s0, s1⟩ => ?_
 simp only [x_halls_Most]
 refine b0b fun K hK => ?_
 simp only [go_sem, s0]
 refine hK _ _ ?_
 clear hK K
 refine b05 ?_
 obtain ⟨y2, h_y2, hm0⟩ := b0h hm0
 refine b0b fun K hK => ?_
 simp only [go_sem, s1]
 refine g9m ?_ (b0e (.agg _ (b0e (b0w fun a _ => b3h a) (b0e (b0w fun a _ => b3b a) (b0e (b0w fun a _ => b3i a) (b0e (b0g _) b0x))))) (b0e (b0g _) (b0e (b0g _) b0x))) (d0d h_ comb ([]) _ h_y2) ?_
 ·exact .cons (.refl _ (.agg _ (b0e (b0w fun a _ => b3h a) (b0e (b0w fun a _ => b3b a) (b0e (b0w fun a _ => b3i a) (b0e (b0g _) b0x)))))) (.cons (.refl _ (b0g _)) (.cons (.nil _) (.nil)))
 simp only [go_sem, s1]
 refine hK _ _ ?_
 clear hK K
 refine b05 ?_
 refine b0b fun K hK => ?_
 simp only [go_sem]
 refine hK _ _ ?_
 clear hK K
 refine b0o fun K3 hK3 => ?_
 simp only [go_sem]
 refine b0k (fun hc4 => ?_) (fun hc4 => ?_)
 ·rw [b00 hc4] at hm0
  refine b0b fun K hK => ?_
  simp only [go_sem]
  refine hK _ _ ?_
  clear hK K
  simp only [b01, b03, b02, b04]
  obtain rfl := sI9 hm0
  exact c1p (v := .v (.slice none 0 0)) (u := I y2) (by simp only [go_sem, lA9, mA9]) (by simp only [go_sem, lA9, mA9]) (.nil _) (.refl _ (b0g _))
 ·rw [b0z hc4] at hm0
  simp only [b0y, b0i, b0j]
  refine hK3 _ _ ?_
  obtain ⟨y8, h_y8, hm0⟩ := b0h hm0
  obtain ⟨y9, h_y9, hm0⟩ := b0h hm0
  obtain ⟨x10, h_x10, hm0⟩ := b0h hm0
  have h_x100 := b06 h_x10
  have h_x101 := b08 h_x10
  refine b1r (fun t h => t 4 = .fs 1 (List.map eI x10.most) ∧ t 5 = I 0) (fun K hK => ?_) ?_
  ·simp only [go_sem, s1, b0p h_x10, b0q h_x10, h_x100, h_x101]
   refine d52 (d0j h_ _  _ h_y8) ?_
   rintro rv_y8 hq_y8 ⟨rh_y8, rw_y8, fr_y8, fx_y8, ge_y8⟩
   simp only [go_sem, s1, b0p h_x10, b0q h_x10, h_x100, h_x101]
   refine d52 (d0b h_ y8 rv_y8 rh_y8 _ rw_y8 _ h_y9) ?_
   rintro _ hq_y9 ⟨rfl, fr_y9, fx_y9⟩
   simp only [go_sem, s1, b0p h_x10, b0q h_x10, h_x100, h_x101]
   exact hK _ _ ⟨(by first | (simp only [go_sem, lA9, mA9]; done) | rfl), (by first | (simp only [go_sem, lA9, mA9]; done) | rfl)⟩
  ·rintro t h ⟨s4, s5⟩
   simp only [b01, b03, b02, b04]
   obtain rfl := sI9 hm0
   exact d3u (by simp only [go_sem, s4, s5, lA9, mA9]) (by simp only [go_sem, s4, s5, lA9, mA9]) (b0w fun a _ => b2n a) (b0g _)
theorem d0a (hf : Has O "newel/halls.Play" x_halls_Play) (c2t : c32 O) (d0g : c7z O) (c2u : c33 O) : c7t O := by
 intro h_ d r hm0
 unfold c19 at hm0
 refine b10 hf rfl (b0e (.agg _ (b0e (b0w fun a _ => b3h a) (b0e (b0w fun a _ => b3b a) (b0e (b0w fun a _ => b3i a) (b0e (b0g _) b0x))))) (b0e (.agg _ (b0e (b0w fun a _ => b2n a) (b0e (b0w fun a _ => b41 a) (b0e (b0w fun a _ => b41 a) b0x)))) b0x)) (.tup _ (b0e (b0w fun a _ => b41 a) (b0e (b0g _) b0x))) ?_
 refine b1s (fun t h => t 0 = .agg [.fs 5 (List.map b0u h_.Combs), .fs 3 (List.map b0r h_.Trains), .fs 3 (List.map b0v h_.Shifts), I h_.Until] ∧ t 1 = .agg [.fs 1 (List.map eI d.At), .fs 1 (List.map b0s d.People), .fs 1 (List.map b0s d.Walks)]) ⟨rfl, rfl⟩ fun t h ⟨s0, s1⟩ => ?_
 simp only [x_halls_Play]
 refine b0b fun K hK => ?_
 simp only [go_sem, s0, s1]
 refine hK _ _ ?_
 clear hK K
 refine b05 ?_
 obtain ⟨y2, h_y2, hm0⟩ := b0h hm0
 refine b0b fun K hK => ?_
 simp only [go_sem]
 refine b1g (c2t h_ _ h_y2) ?_
 simp only [go_sem]
 refine hK _ _ ?_
 clear hK K
 refine b05 ?_
 refine b0b fun K hK => ?_
 simp only [go_sem]
 refine hK _ _ ?_
 clear hK K
 refine b0o fun K3 hK3 => ?_
 simp only [go_sem]
 refine b0k (fun hc4 => ?_) (fun hc4 => ?_)
 ·rw [b00 hc4] at hm0
  refine b0b fun K hK => ?_
  simp only [go_sem]
  refine hK _ _ ?_
  clear hK K
  simp only [b01, b03, b02, b04]
  obtain rfl := sI9 hm0
  exact c1p (v := .v (.slice none 0 0)) (u := I y2) (by simp only [go_sem, lA9, mA9]) (by simp only [go_sem, lA9, mA9]) (.nil _) (.refl _ (b0g _))
 ·rw [b0z hc4] at hm0
  simp only [b0y, b0i, b0j]
  refine hK3 _ _ ?_
  refine b05 ?_
  obtain ⟨y6, h_y6, hm0⟩ := b0h hm0
  refine b0b fun K hK => ?_
  simp only [go_sem]
  refine b1g (d0g h_ d _ h_y6) ?_
  simp only [go_sem]
  refine hK _ _ ?_
  clear hK K
  refine b0o fun K7 hK7 => ?_
  simp only [go_sem]
  refine b0k (fun hc8 => ?_) (fun hc8 => ?_)
  ·rw [b00 hc8] at hm0
   refine b0b fun K hK => ?_
   simp only [go_sem]
   refine hK _ _ ?_
   clear hK K
   simp only [b01, b03, b02, b04]
   obtain rfl := sI9 hm0
   exact c1p (v := .v (.slice none 0 0)) (u := I 61) (by simp only [go_sem, lA9, mA9]) (by simp only [go_sem, lA9, mA9]) (.nil _) (.refl _ (b0g _))
  ·rw [b0z hc8] at hm0
   simp only [b0y, b0i, b0j]
   refine hK7 _ _ ?_
   refine b0b fun K hK => ?_
   simp only [go_sem]
   refine hK _ _ ?_
   clear hK K
   refine b05 ?_
   refine b0b fun K hK => ?_
   simp only [go_sem]
   refine hK _ _ ?_
   clear hK K
   refine b0o fun K9 hK9 => ?_
   have J10 : ∀ (rows_7 : List (List Int)) (v7 : AV) (hs7 : List AV) (t : Slots) (h : Heap), t 2 = .fp [.fs 5 (List.map b0u h_.Combs), .fs 3 (List.map b0r h_.Trains), .fs 3 (List.map b0v h_.Shifts), I h_.Until] 0 → t 3 = .fp [.fs 1 (List.map eI d.At), .fs 1 (List.map b0s d.People), .fs 1 (List.map b0s d.Walks)] 0 → t 7 = v7 → RR h v7 hs7 1 eI rows_7 → c47 h_ d rows_7 = some r → K9 t h := by
    intro rows_7 v7 hs7 t h s2 s3 s7 Q0 hm0
    refine hK9 _ _ ?_
    unfold c47 at hm0
    refine b05 ?_
    refine b0b fun K hK => ?_
    simp only [go_sem, s2, b0a v7]
    refine hK _ _ ?_
    clear hK K
    refine b0o fun K11 hK11 => ?_
    have J12 : ∀ (rows_7_1 : List (List Int)) (v7_1 : AV) (t : Slots) (h : Heap), t 2 = .fp [.fs 5 (List.map b0u h_.Combs), .fs 3 (List.map b0r h_.Trains), .fs 3 (List.map b0v h_.Shifts), I h_.Until] 0 → t 3 = .fp [.fs 1 (List.map eI d.At), .fs 1 (List.map b0s d.People), .fs 1 (List.map b0s d.Walks)] 0 → t 7 = v7_1 → RR h v7_1 hs7 1 eI rows_7_1 → c48 h_ d rows_7_1 = some r → K11 t h := by
     intro rows_7_1 v7_1 t h s2 s3 s7 Q0 hm0
     refine hK11 _ _ ?_
     unfold c48 at hm0
     obtain ⟨l14, h_l14, hm0⟩ := b0h hm0
     refine b1r (fun t h => ∃ v12 : AV, ∃ hs12 : List AV, t 2 = .fp [.fs 5 (List.map b0u h_.Combs), .fs 3 (List.map b0r h_.Trains), .fs 3 (List.map b0v h_.Shifts), I h_.Until] 0 ∧ t 3 = .fp [.fs 1 (List.map eI d.At), .fs 1 (List.map b0s d.People), .fs 1 (List.map b0s d.Walks)] 0 ∧ t 7 = v7_1 ∧ t 12 = v12 ∧ RR h v7_1 hs7 1 eI rows_7_1 ∧ RR h v12 hs12 1 eI l14 ∧ (∀ j, ¬b0n v12 hs12 j → b0n v7_1 hs7 j)) (fun K hK => ?_) ?_
     ·simp only [go_sem, s2, b0a v7, b0a v7_1]
      refine j0i h_l14 ?_
      simp only [go_sem, s2, b0a v7, b0a v7_1]
      exact hK _ _ ⟨(.rs h.nx 0 (List.length l14)), (List.map (fun _ => nilS) l14), s2, s3, s7, (by first | (simp only [go_sem, lA9, mA9]; done) | rfl), (b3d Q0 (by intro j hj  hl; first | rfl | simp only [go_sem, hl]) (by first | omega | exact Nat.le_refl _ | (simp only [go_sem, nxs] <;> omega))), (j8t (by simp only [go_sem, lA9, mA9]) rfl (by simp only [go_sem]) (j2b h_l14)), (c03 (fun j hj => (j78 (b0f (b5n hj (by first | assumption | exact b3z (by assumption) (by first | assumption | omega | (simp only [nxs] <;> omega))))))))⟩
     ·rintro t h ⟨v12, hs12, s2, s3, s7, s12, Q0, Q1, rs_o7_o12⟩
      refine b05 ?_
      refine b0b fun K hK => ?_
      simp only [go_sem, s2, b0a v7, b0a v7_1, b0a v12]
      refine hK _ _ ?_
      clear hK K
      refine b0o fun K15 hK15 => ?_
      have J16 : ∀ (open_12 : List (List Int)) (v12_1 : AV) (hs12_1 : List AV) (t : Slots) (h : Heap), t 2 = .fp [.fs 5 (List.map b0u h_.Combs), .fs 3 (List.map b0r h_.Trains), .fs 3 (List.map b0v h_.Shifts), I h_.Until] 0 → t 3 = .fp [.fs 1 (List.map eI d.At), .fs 1 (List.map b0s d.People), .fs 1 (List.map b0s d.Walks)] 0 → t 7 = v7_1 → t 12 = v12_1 → RR h v7_1 hs7 1 eI rows_7_1 → RR h v12_1 hs12_1 1 eI open_12 → (∀ j, ¬b0n v12_1 hs12_1 j → b0n v7_1 hs7 j) → c49 h_ d rows_7_1 open_12 = some r → K15 t h := by
       intro open_12 v12_1 hs12_1 t h s2 s3 s7 s12 Q0 Q1 rs_o7_o12 hm0
       refine hK15 _ _ ?_
       unfold c49 at hm0
       refine b05 ?_
       refine b0b fun K hK => ?_
       simp only [go_sem, s7, b3e Q0, b0a v7, b0a v7_1, b0a v12, b0a v12_1]
       refine hK _ _ ?_
       clear hK K
       refine b0o fun K17 hK17 => ?_
       have J18 : ∀ (rows_7_2 : List (List Int)) (v7_2 : AV) (t : Slots) (h : Heap), t 7 = v7_2 → RR h v7_2 hs7 1 eI rows_7_2 → c9o rows_7_2 = some r → K17 t h := by
        intro rows_7_2 v7_2 t h s7 Q0 hm0
        refine hK17 _ _ ?_
        unfold c9o at hm0
        refine b0b fun K hK => ?_
        simp only [go_sem, s7, b3e Q0, b0a v7, b0a v7_1, b0a v12, b0a v12_1, b0a v7_2]
        refine hK _ _ ?_
        clear hK K
        simp only [b01, b03, b02, b04]
        obtain rfl := sI9 hm0
        exact c1p (v := v7_2) (u := I 0) (by simp only [go_sem, b2e Q0, lA9, mA9]) (by simp only [go_sem, b2e Q0, lA9, mA9]) (j8r (e := b0s) (b3d Q0 (by intro j hj  hl; first | rfl | simp only [go_sem, hl]) (by first | omega | exact Nat.le_refl _ | (simp only [go_sem, nxs] <;> omega))) (fun _ => rfl) b2n c0n) (.refl _ (b0g _))
       simp only [b1c]
       obtain ⟨b19, hl19, hm0⟩ := b0h hm0
       refine b1z hl19 (fun | (rows_7_2, x_101), t, h => ∃ v7_2 : AV, ∃ v12_2 : AV, t 2 = .fp [.fs 5 (List.map b0u h_.Combs), .fs 3 (List.map b0r h_.Trains), .fs 3 (List.map b0v h_.Shifts), I h_.Until] 0 ∧ t 3 = .fp [.fs 1 (List.map eI d.At), .fs 1 (List.map b0s d.People), .fs 1 (List.map b0s d.Walks)] 0 ∧ t 7 = v7_2 ∧ t 12 = v12_2 ∧ t 99 = v7_2 ∧ t 100 = I (List.length rows_7_1 : Int) ∧ t 101 = I x_101 ∧ RR h v7_2 hs7 1 eI rows_7_2 ∧ RR h v12_2 hs12_1 1 eI open_12 ∧ (∀ j, ¬b0n v12_2 hs12_1 j → b0n v7_2 hs7 j)) ?_ ?_
       ·exact ⟨v7_1, v12_1, s2, s3, s7, s12, (by first | (simp only [go_sem, lA9, mA9]; done) | rfl), (by first | (simp only [go_sem, lA9, mA9]; done) | rfl), (by first | (simp only [go_sem, lA9, mA9]; done) | rfl), Q0, Q1, (fun j hj => (rs_o7_o12 j hj))⟩
       ·rintro ⟨rows_7_2, x_101⟩ o t h ⟨v7_2, v12_2, s2, s3, s7, s12, s99, s100, s101, Q0, Q1, rs_o7_o12⟩ hm1 hb19
        simp only [c2d] at hm1
        rw [d97]
        refine b0b fun K hK => ?_
        simp only [go_sem, s100, s101, b0a v7, b0a v7_1, b0a v12, b0a v12_1, b0a v7_2, b0a v12_2]
        refine hK _ _ ?_
        clear hK K
        refine b0o fun K20 hK20 => ?_
        simp only [go_sem]
        refine b0k (fun hc21 => ?_) (fun hc21 => ?_)
        ·rw [b00 hc21] at hm1
         simp only [b0y, b0i, b0j]
         refine hK20 _ _ ?_
         refine b0o fun K22 hK22 => ?_
         have J23 : ∀ (rows_7_3 : List (List Int)) (v7_3 : AV) (v12_3 : AV) (t : Slots) (h : Heap), t 2 = .fp [.fs 5 (List.map b0u h_.Combs), .fs 3 (List.map b0r h_.Trains), .fs 3 (List.map b0v h_.Shifts), I h_.Until] 0 → t 3 = .fp [.fs 1 (List.map eI d.At), .fs 1 (List.map b0s d.People), .fs 1 (List.map b0s d.Walks)] 0 → t 7 = v7_3 → t 12 = v12_3 → t 99 = v7_3 → t 100 = I (List.length rows_7_1 : Int) → t 101 = I x_101 → RR h v7_3 hs7 1 eI rows_7_3 → RR h v12_3 hs12_1 1 eI open_12 → (∀ j, ¬b0n v12_3 hs12_1 j → b0n v7_3 hs7 j) → c5a x_101 rows_7_3 = some o → K22 t h := by
          try clear s2 s3 s7 s12 s99 s100 s101 Q0 Q1 rs_o7_o12
          intro rows_7_3 v7_3 v12_3 t h s2 s3 s7 s12 s99 s100 s101 Q0 Q1 rs_o7_o12 hm1
          refine hK22 _ _ ?_
          unfold c5a at hm1
          refine b1m fun K hK => ?_
          simp only [go_sem, s101, b0a v7, b0a v7_1, b0a v12, b0a v12_1, b0a v7_2, b0a v12_2, b0a v7_3, b0a v12_3]
          refine hK _ _ ?_
          clear hK K
          simp only [b0i, b0j]
          obtain rfl := sI9 hm1
          refine ⟨_, rfl, ?_⟩
          exact ⟨v7_3, v12_3, s2, s3, s7, s12, s99, s100, (by first | (simp only [go_sem, s101, lA9, mA9]; done) | rfl), Q0, Q1, (fun j hj => (rs_o7_o12 j hj))⟩
         simp only [b1c]
         obtain ⟨x25, h_x25, hm1⟩ := b0h hm1
         have h_x250 := b06 h_x25
         have h_x251 := b08 h_x25
         obtain ⟨iqp1087, rfl, Qa, Q5⟩ := b7t Q0 h_x25
         obtain ⟨wp1088, hw_wp1088, os_wp1088⟩ := b7s Q0 h_x25
         refine b1r (fun t h => ∃ v7_3 : AV, ∃ w15 : AV, t 2 = .fp [.fs 5 (List.map b0u h_.Combs), .fs 3 (List.map b0r h_.Trains), .fs 3 (List.map b0v h_.Shifts), I h_.Until] 0 ∧ t 3 = .fp [.fs 1 (List.map eI d.At), .fs 1 (List.map b0s d.People), .fs 1 (List.map b0s d.Walks)] 0 ∧ t 7 = v7_3 ∧ t 12 = v12_2 ∧ t 14 = I x_101 ∧ t 15 = w15 ∧ t 99 = v7_3 ∧ t 100 = I (List.length rows_7_1 : Int) ∧ t 101 = I x_101 ∧ RR h v7_3 hs7 1 eI rows_7_2 ∧ RR h v12_2 hs12_1 1 eI open_12 ∧ get hs7 x_101 = some w15 ∧ (∀ j, ¬b0n v12_2 hs12_1 j → b0n v7_3 hs7 j)) (fun K hK => ?_) ?_
         ·simp only [go_sem, s99, b3e Q0, s101, Qa, Q5, b0p h_x25, b0q h_x25, h_x250, h_x251, b0p hw_wp1088, b0q hw_wp1088, b48 os_wp1088, b0a v7, b0a v7_1, b0a v12, b0a v12_1, b0a v12_2]
          exact hK _ _ ⟨(.rs iqp1087 0 (List.length rows_7_2)), wp1088, s2, s3, (by first | (simp only [go_sem, s7, lA9, mA9]; done) | rfl), s12, (by first | (simp only [go_sem, lA9, mA9]; done) | rfl), (by first | (simp only [go_sem, lA9, mA9]; done) | rfl), (by first | (simp only [go_sem, s99, lA9, mA9]; done) | rfl), s100, s101, (b3d Q0 (by intro j hj  hl; first | rfl | simp only [go_sem, hl]) (by first | omega | exact Nat.le_refl _ | (simp only [go_sem, nxs] <;> omega))), Q1, (by first | assumption | simp only [go_sem]), (fun j hj => (rs_o7_o12 j hj))⟩
         ·try clear s2 s3 s7 s12 s99 s100 s101 Q0 Q1 rs_o7_o12 Qa Q5
          rintro t h ⟨v7_3, w15, s2, s3, s7, s12, s14, s15, s99, s100, s101, Q0, Q1, ra_15, rs_o7_o12⟩
          have os_w15 := d8y Q0 ra_15 h_x25
          refine b1r (fun t h => ∃ w106 : AV, t 2 = .fp [.fs 5 (List.map b0u h_.Combs), .fs 3 (List.map b0r h_.Trains), .fs 3 (List.map b0v h_.Shifts), I h_.Until] 0 ∧ t 3 = .fp [.fs 1 (List.map eI d.At), .fs 1 (List.map b0s d.People), .fs 1 (List.map b0s d.Walks)] 0 ∧ t 7 = v7_3 ∧ t 12 = v12_2 ∧ t 14 = I x_101 ∧ t 99 = v7_3 ∧ t 100 = I (List.length rows_7_1 : Int) ∧ t 101 = I x_101 ∧ t 106 = w106 ∧ t 107 = I (List.length x25 : Int) ∧ t 108 = I 0 ∧ RR h v7_3 hs7 1 eI rows_7_2 ∧ RR h v12_2 hs12_1 1 eI open_12 ∧ get hs7 x_101 = some w106 ∧ (∀ j, ¬b0n v12_2 hs12_1 j → b0n v7_3 hs7 j)) (fun K hK => ?_) ?_
          ·simp only [go_sem, s15, b3e Q0, b48 os_w15, b0p h_x25, b0q h_x25, h_x250, h_x251, b0a v7, b0a v7_1, b0a v12, b0a v12_1, b0a v12_2, b0a v7_3, b0a w15]
           exact hK _ _ ⟨w15, s2, s3, s7, s12, s14, s99, s100, s101, (by first | (simp only [go_sem, lA9, mA9]; done) | rfl), (by first | (simp only [go_sem, lA9, mA9]; done) | rfl), (by first | (simp only [go_sem, lA9, mA9]; done) | rfl), (b3d Q0 (by intro j hj  hl; first | rfl | simp only [go_sem, hl]) (by first | omega | exact Nat.le_refl _ | (simp only [go_sem, nxs] <;> omega))), Q1, (by first | assumption | simp only [go_sem]), (fun j hj => (rs_o7_o12 j hj))⟩
          ·try clear s2 s3 s7 s12 s14 s15 s99 s100 s101 Q0 Q1 ra_15 rs_o7_o12
           rintro t h ⟨w106, s2, s3, s7, s12, s14, s99, s100, s101, s106, s107, s108, Q0, Q1, ra_106, rs_o7_o12⟩
           simp only [b1c]
           obtain ⟨b26, hl26, hm1⟩ := b0h hm1
           refine b1z hl26 (fun | (rows_7_3, x_108), t, h => ∃ v7_4 : AV, ∃ v12_3 : AV, ∃ w106_1 : AV, t 2 = .fp [.fs 5 (List.map b0u h_.Combs), .fs 3 (List.map b0r h_.Trains), .fs 3 (List.map b0v h_.Shifts), I h_.Until] 0 ∧ t 3 = .fp [.fs 1 (List.map eI d.At), .fs 1 (List.map b0s d.People), .fs 1 (List.map b0s d.Walks)] 0 ∧ t 7 = v7_4 ∧ t 12 = v12_3 ∧ t 14 = I x_101 ∧ t 99 = v7_4 ∧ t 100 = I (List.length rows_7_1 : Int) ∧ t 101 = I x_101 ∧ t 106 = w106_1 ∧ t 107 = I (List.length x25 : Int) ∧ t 108 = I x_108 ∧ RR h v7_4 hs7 1 eI rows_7_3 ∧ RR h v12_3 hs12_1 1 eI open_12 ∧ get hs7 x_101 = some w106_1 ∧ (∀ j, ¬b0n v12_3 hs12_1 j → b0n v7_4 hs7 j)) ?_ ?_
           ·exact ⟨v7_3, v12_2, w106, s2, s3, s7, s12, s14, s99, s100, s101, s106, s107, s108, Q0, Q1, (by first | assumption | simp only [go_sem]), (fun j hj => (rs_o7_o12 j hj))⟩
           ·try clear s2 s3 s7 s12 s14 s99 s100 s101 s106 s107 s108 Q0 Q1 ra_106 rs_o7_o12
            rintro ⟨rows_7_3, x_108⟩ o t h ⟨v7_4, v12_3, w106_1, s2, s3, s7, s12, s14, s99, s100, s101, s106, s107, s108, Q0, Q1, ra_106, rs_o7_o12⟩ hm2 hb26
            simp only [b9x] at hm2
            rw [d96]
            refine b0b fun K hK => ?_
            simp only [go_sem, s107, s108, b0a v7, b0a v7_1, b0a v12, b0a v12_1, b0a v12_2, b0a v7_3, b0a w15, b0a w106, b0a v7_4, b0a v12_3, b0a w106_1]
            refine hK _ _ ?_
            clear hK K
            refine b0o fun K27 hK27 => ?_
            simp only [go_sem]
            refine b0k (fun hc28 => ?_) (fun hc28 => ?_)
            ·rw [b00 hc28] at hm2
             simp only [b0y, b0i, b0j]
             refine hK27 _ _ ?_
             refine b0o fun K29 hK29 => ?_
             have J30 : ∀ (rows_7_4 : List (List Int)) (v7_5 : AV) (v12_4 : AV) (w106_2 : AV) (t : Slots) (h : Heap), t 2 = .fp [.fs 5 (List.map b0u h_.Combs), .fs 3 (List.map b0r h_.Trains), .fs 3 (List.map b0v h_.Shifts), I h_.Until] 0 → t 3 = .fp [.fs 1 (List.map eI d.At), .fs 1 (List.map b0s d.People), .fs 1 (List.map b0s d.Walks)] 0 → t 7 = v7_5 → t 12 = v12_4 → t 14 = I x_101 → t 99 = v7_5 → t 100 = I (List.length rows_7_1 : Int) → t 101 = I x_101 → t 106 = w106_2 → t 107 = I (List.length x25 : Int) → t 108 = I x_108 → RR h v7_5 hs7 1 eI rows_7_4 → RR h v12_4 hs12_1 1 eI open_12 → get hs7 x_101 = some w106_2 → (∀ j, ¬b0n v12_4 hs12_1 j → b0n v7_5 hs7 j) → b9y x_108 rows_7_4 = some o → K29 t h := by
              try clear s2 s3 s7 s12 s14 s99 s100 s101 s106 s107 s108 Q0 Q1 ra_106 rs_o7_o12
              intro rows_7_4 v7_5 v12_4 w106_2 t h s2 s3 s7 s12 s14 s99 s100 s101 s106 s107 s108 Q0 Q1 ra_106 rs_o7_o12 hm2
              refine hK29 _ _ ?_
              unfold b9y at hm2
              refine b1m fun K hK => ?_
              simp only [go_sem, s108, b0a v7, b0a v7_1, b0a v12, b0a v12_1, b0a v12_2, b0a v7_3, b0a w15, b0a w106, b0a v7_4, b0a v12_3, b0a w106_1, b0a v7_5, b0a v12_4, b0a w106_2]
              refine hK _ _ ?_
              clear hK K
              simp only [b0i, b0j]
              obtain rfl := sI9 hm2
              refine ⟨_, rfl, ?_⟩
              exact ⟨v7_5, v12_4, w106_2, s2, s3, s7, s12, s14, s99, s100, s101, s106, s107, (by first | (simp only [go_sem, s108, lA9, mA9]; done) | rfl), Q0, Q1, (by first | assumption | simp only [go_sem]), (fun j hj => (rs_o7_o12 j hj))⟩
             simp only [b1c]
             obtain ⟨x33, h_x33, hm2⟩ := b0h hm2
             have h_x330 := b06 h_x33
             have h_x331 := b08 h_x33
             have os_w106_1 := d8y Q0 ra_106 h_x33
             obtain ⟨x34, h_x34, hm2⟩ := b0h hm2
             have h_x340 := b06 h_x34
             have h_x341 := b08 h_x34
             obtain ⟨irp1220, rfl, obr_irp1220, ltr_irp1220⟩ := b6r os_w106_1 h_x34
             refine b1r (fun t h => ∃ w106_2 : AV, t 2 = .fp [.fs 5 (List.map b0u h_.Combs), .fs 3 (List.map b0r h_.Trains), .fs 3 (List.map b0v h_.Shifts), I h_.Until] 0 ∧ t 3 = .fp [.fs 1 (List.map eI d.At), .fs 1 (List.map b0s d.People), .fs 1 (List.map b0s d.Walks)] 0 ∧ t 7 = v7_4 ∧ t 12 = v12_3 ∧ t 14 = I x_101 ∧ t 16 = I x_108 ∧ t 17 = I x34 ∧ t 99 = v7_4 ∧ t 100 = I (List.length rows_7_1 : Int) ∧ t 101 = I x_101 ∧ t 106 = w106_2 ∧ t 107 = I (List.length x25 : Int) ∧ t 108 = I x_108 ∧ RR h v7_4 hs7 1 eI rows_7_3 ∧ RR h v12_3 hs12_1 1 eI open_12 ∧ get hs7 x_101 = some w106_2 ∧ (∀ j, ¬b0n v12_3 hs12_1 j → b0n v7_4 hs7 j)) (fun K hK => ?_) ?_
             ·simp only [go_sem, s106, b3e Q0, s108, b0p h_x33, b0q h_x33, h_x330, h_x331, b48 os_w106_1, b0p h_x34, b0q h_x34, h_x340, h_x341, obr_irp1220, ltr_irp1220, b0a v7, b0a v7_1, b0a v12, b0a v12_1, b0a v12_2, b0a v7_3, b0a w15, b0a w106, b0a v7_4, b0a v12_3]
              exact hK _ _ ⟨(.rs irp1220 0 (List.length x33)), s2, s3, s7, s12, s14, (by first | (simp only [go_sem, lA9, mA9]; done) | rfl), (by first | (simp only [go_sem, lA9, mA9]; done) | rfl), s99, s100, s101, (by first | (simp only [go_sem, s106, lA9, mA9]; done) | rfl), s107, s108, (b3d Q0 (by intro j hj  hl; first | rfl | simp only [go_sem, hl]) (by first | omega | exact Nat.le_refl _ | (simp only [go_sem, nxs] <;> omega))), Q1, (by first | assumption | simp only [go_sem]), (fun j hj => (rs_o7_o12 j hj))⟩
             ·try clear s2 s3 s7 s12 s14 s99 s100 s101 s106 s107 s108 Q0 Q1 ra_106 rs_o7_o12
              rintro t h ⟨w106_2, s2, s3, s7, s12, s14, s16, s17, s99, s100, s101, s106, s107, s108, Q0, Q1, ra_106, rs_o7_o12⟩
              obtain ⟨x37, h_x37, hm2⟩ := b0h hm2
              have h_x370 := b06 h_x37
              have h_x371 := b08 h_x37
              obtain ⟨iqp1224, rfl, Qh, Qd⟩ := b7t Q1 h_x37
              obtain ⟨wp1225, hw_wp1225, os_wp1225⟩ := b7s Q1 h_x37
              obtain ⟨x38, h_x38, hm2⟩ := b0h hm2
              have h_x380 := b06 h_x38
              have h_x381 := b08 h_x38
              obtain ⟨irp1226, rfl, obr_irp1226, ltr_irp1226⟩ := b6r os_wp1225 h_x38
              refine b1r (fun t h => ∃ v12_4 : AV, ∃ w106_3 : AV, t 2 = .fp [.fs 5 (List.map b0u h_.Combs), .fs 3 (List.map b0r h_.Trains), .fs 3 (List.map b0v h_.Shifts), I h_.Until] 0 ∧ t 3 = .fp [.fs 1 (List.map eI d.At), .fs 1 (List.map b0s d.People), .fs 1 (List.map b0s d.Walks)] 0 ∧ t 7 = v7_4 ∧ t 12 = v12_4 ∧ t 14 = I x_101 ∧ t 16 = I x_108 ∧ t 17 = I x34 ∧ t 18 = I (mn x34 x38) ∧ t 99 = v7_4 ∧ t 100 = I (List.length rows_7_1 : Int) ∧ t 101 = I x_101 ∧ t 106 = w106_3 ∧ t 107 = I (List.length x25 : Int) ∧ t 108 = I x_108 ∧ RR h v7_4 hs7 1 eI rows_7_3 ∧ RR h v12_4 hs12_1 1 eI open_12 ∧ get hs7 x_101 = some w106_3 ∧ (∀ j, ¬b0n v12_4 hs12_1 j → b0n v7_4 hs7 j)) (fun K hK => ?_) ?_
              ·simp only [go_sem, s12, b3e Q1, s14, s16, s17, Qh, Qd, b0p h_x37, b0q h_x37, h_x370, h_x371, b0p hw_wp1225, b0q hw_wp1225, b48 os_wp1225, b0p h_x38, b0q h_x38, h_x380, h_x381, obr_irp1226, ltr_irp1226, b0a v7, b0a v7_1, b0a v12, b0a v12_1, b0a v12_2, b0a v7_3, b0a w15, b0a w106, b0a v7_4, b0a w106_2]
               exact hK _ _ ⟨(.rs iqp1224 0 (List.length open_12)), w106_2, s2, s3, s7, (by first | (simp only [go_sem, s12, lA9, mA9]; done) | rfl), s14, s16, s17, (by first | (simp only [go_sem, lA9, mA9]; done) | rfl), s99, s100, s101, s106, s107, s108, Q0, (b3d Q1 (by intro j hj  hl; first | rfl | simp only [go_sem, hl]) (by first | omega | exact Nat.le_refl _ | (simp only [go_sem, nxs] <;> omega))), (by first | assumption | simp only [go_sem]), (fun j hj => (rs_o7_o12 j hj))⟩
              ·try clear s2 s3 s7 s12 s14 s16 s17 s99 s100 s101 s106 s107 s108 Q0 Q1 ra_106 rs_o7_o12 Qh Qd
               rintro t h ⟨v12_4, w106_3, s2, s3, s7, s12, s14, s16, s17, s18, s99, s100, s101, s106, s107, s108, Q0, Q1, ra_106, rs_o7_o12⟩
               refine b05 ?_
               refine b0b fun K hK => ?_
               simp only [go_sem, s2, s14, b0a v7, b0a v7_1, b0a v12, b0a v12_1, b0a v12_2, b0a v7_3, b0a w15, b0a w106, b0a v7_4, b0a w106_2, b0a v12_4, b0a w106_3]
               refine hK _ _ ?_
               clear hK K
               refine b0o fun K39 hK39 => ?_
               have J40 : ∀ (rows_7_4 : List (List Int)) (v7_5 : AV) (w106_4 : AV) (t : Slots) (h : Heap), t 2 = .fp [.fs 5 (List.map b0u h_.Combs), .fs 3 (List.map b0r h_.Trains), .fs 3 (List.map b0v h_.Shifts), I h_.Until] 0 → t 3 = .fp [.fs 1 (List.map eI d.At), .fs 1 (List.map b0s d.People), .fs 1 (List.map b0s d.Walks)] 0 → t 7 = v7_5 → t 12 = v12_4 → t 14 = I x_101 → t 16 = I x_108 → t 18 = I (mn x34 x38) → t 99 = v7_5 → t 100 = I (List.length rows_7_1 : Int) → t 101 = I x_101 → t 106 = w106_4 → t 107 = I (List.length x25 : Int) → t 108 = I x_108 → RR h v7_5 hs7 1 eI rows_7_4 → RR h v12_4 hs12_1 1 eI open_12 → get hs7 x_101 = some w106_4 → (∀ j, ¬b0n v12_4 hs12_1 j → b0n v7_5 hs7 j) → b9z h_ d x_101 x_108 x34 x38 rows_7_4 = some o → K39 t h := by
                try clear s2 s3 s7 s12 s14 s16 s17 s18 s99 s100 s101 s106 s107 s108 Q0 Q1 ra_106 rs_o7_o12
                intro rows_7_4 v7_5 w106_4 t h s2 s3 s7 s12 s14 s16 s18 s99 s100 s101 s106 s107 s108 Q0 Q1 ra_106 rs_o7_o12 hm2
                refine hK39 _ _ ?_
                unfold b9z at hm2
                obtain ⟨x44, h_x44, hm2⟩ := b0h hm2
                have h_x440 := b06 h_x44
                have h_x441 := b08 h_x44
                obtain ⟨q45, h_q45, hm2⟩ := b0h hm2
                obtain ⟨x46, h_x46, hm2⟩ := b0h hm2
                have h_x460 := b06 h_x46
                have h_x461 := b08 h_x46
                refine b0b fun K hK => ?_
                simp only [go_sem, s3, s14, s16, b0p h_x44, b0q h_x44, h_x440, h_x441, g8s h_q45, b0p h_x46, b0q h_x46, h_x460, h_x461, b0a v7, b0a v7_1, b0a v12, b0a v12_1, b0a v12_2, b0a v7_3, b0a w15, b0a w106, b0a v7_4, b0a w106_2, b0a v12_4, b0a w106_3, b0a v7_5, b0a w106_4]
                refine hK _ _ ?_
                clear hK K
                obtain ⟨x48, h_x48, hm2⟩ := b0h hm2
                have h_x480 := b06 h_x48
                have h_x481 := b08 h_x48
                refine b0b fun K hK => ?_
                simp only [go_sem, s2, s16, b0p h_x48, b0q h_x48, h_x480, h_x481, b0a v7, b0a v7_1, b0a v12, b0a v12_1, b0a v12_2, b0a v7_3, b0a w15, b0a w106, b0a v7_4, b0a w106_2, b0a v12_4, b0a w106_3, b0a v7_5, b0a w106_4]
                refine hK _ _ ?_
                clear hK K
                refine b1r (fun t h => ∃ w106_5 : AV, t 2 = .fp [.fs 5 (List.map b0u h_.Combs), .fs 3 (List.map b0r h_.Trains), .fs 3 (List.map b0v h_.Shifts), I h_.Until] 0 ∧ t 3 = .fp [.fs 1 (List.map eI d.At), .fs 1 (List.map b0s d.People), .fs 1 (List.map b0s d.Walks)] 0 ∧ t 7 = v7_5 ∧ t 12 = v12_4 ∧ t 14 = I x_101 ∧ t 18 = I (mn x34 x38) ∧ t 19 = I x46 ∧ t 20 = I x48.Next ∧ t 99 = v7_5 ∧ t 100 = I (List.length rows_7_1 : Int) ∧ t 101 = I x_101 ∧ t 106 = w106_5 ∧ t 107 = I (List.length x25 : Int) ∧ t 108 = I x_108 ∧ t 170 = B ((decide (0 ≤ x48.Next)) && (decide ((wr (x_101 + x46)) < h_.Until))) ∧ RR h v7_5 hs7 1 eI rows_7_4 ∧ RR h v12_4 hs12_1 1 eI open_12 ∧ get hs7 x_101 = some w106_5 ∧ (∀ j, ¬b0n v12_4 hs12_1 j → b0n v7_5 hs7 j)) (fun K hK => ?_) ?_
                ·simp only [go_sem, s2, s14, b0a v7, b0a v7_1, b0a v12, b0a v12_1, b0a v12_2, b0a v7_3, b0a w15, b0a w106, b0a v7_4, b0a w106_2, b0a v12_4, b0a w106_3, b0a v7_5, b0a w106_4]
                 refine b0k (fun hg49 => ?_) (fun hg49 => ?_)
                 ·simp only [go_sem, s2, s14, hg49, b0a v7, b0a v7_1, b0a v12, b0a v12_1, b0a v12_2, b0a v7_3, b0a w15, b0a w106, b0a v7_4, b0a w106_2, b0a v12_4, b0a w106_3, b0a v7_5, b0a w106_4]
                  exact hK _ _ ⟨w106_4, s2, s3, s7, s12, s14, s18, (by first | (simp only [go_sem, hg49, lA9, mA9]; done) | rfl), (by first | (simp only [go_sem, hg49, lA9, mA9]; done) | rfl), s99, s100, s101, s106, s107, s108, (by first | (simp only [go_sem, hg49, lA9, mA9]; done) | rfl), Q0, Q1, (by first | assumption | simp only [go_sem]), (fun j hj => (rs_o7_o12 j hj))⟩
                 ·simp only [go_sem, s2, s14, hg49, b0a v7, b0a v7_1, b0a v12, b0a v12_1, b0a v12_2, b0a v7_3, b0a w15, b0a w106, b0a v7_4, b0a w106_2, b0a v12_4, b0a w106_3, b0a v7_5, b0a w106_4]
                  exact hK _ _ ⟨w106_4, s2, s3, s7, s12, s14, s18, (by first | (simp only [go_sem, hg49, lA9, mA9]; done) | rfl), (by first | (simp only [go_sem, hg49, lA9, mA9]; done) | rfl), s99, s100, s101, s106, s107, s108, (by first | (simp only [go_sem, hg49, lA9, mA9]; done) | rfl), Q0, Q1, (by first | assumption | simp only [go_sem]), (fun j hj => (rs_o7_o12 j hj))⟩
                ·try clear s2 s3 s7 s12 s14 s16 s18 s99 s100 s101 s106 s107 s108 Q0 Q1 ra_106 rs_o7_o12
                 rintro t h ⟨w106_5, s2, s3, s7, s12, s14, s18, s19, s20, s99, s100, s101, s106, s107, s108, s170, Q0, Q1, ra_106, rs_o7_o12⟩
                 simp only [go_sem, s170]
                 refine b0k (fun hc50 => ?_) (fun hc50 => ?_)
                 ·rw [b00 hc50] at hm2
                  obtain ⟨x53, h_x53, hm2⟩ := b0h hm2
                  have h_x530 := b06 h_x53
                  have h_x531 := b08 h_x53
                  obtain ⟨iqp1236, rfl, Qa, Q5⟩ := b7t Q0 h_x53
                  obtain ⟨wp1237, hw_wp1237, os_wp1237⟩ := b7s Q0 h_x53
                  obtain ⟨x54, h_x54, hm2⟩ := b0h hm2
                  have h_x540 := b06 h_x54
                  have h_x541 := b08 h_x54
                  obtain ⟨irp1238, rfl, obr_irp1238, ltr_irp1238⟩ := b6r os_wp1237 h_x54
                  refine b76 (fun t h => ∃ v7_6 : AV, ∃ w106_6 : AV, t 2 = .fp [.fs 5 (List.map b0u h_.Combs), .fs 3 (List.map b0r h_.Trains), .fs 3 (List.map b0v h_.Shifts), I h_.Until] 0 ∧ t 3 = .fp [.fs 1 (List.map eI d.At), .fs 1 (List.map b0s d.People), .fs 1 (List.map b0s d.Walks)] 0 ∧ t 7 = v7_6 ∧ t 12 = v12_4 ∧ t 14 = I x_101 ∧ t 99 = v7_6 ∧ t 100 = I (List.length rows_7_1 : Int) ∧ t 101 = I x_101 ∧ t 106 = w106_6 ∧ t 107 = I (List.length x25 : Int) ∧ t 108 = I x_108 ∧ RR h v7_6 hs7 1 eI (List.set rows_7_4 (Int.toNat (wr (x_101 + x46))) (List.set x53 (Int.toNat x48.Next) (wr (x54 + (mn x34 x38))))) ∧ RR h v12_4 hs12_1 1 eI open_12 ∧ get hs7 x_101 = some w106_6 ∧ (∀ j, ¬b0n v12_4 hs12_1 j → b0n v7_6 hs7 j)) (fun K hK => ?_) ?_
                  ·simp only [go_sem, s7, b3e Q0, s14, s18, s19, s20, Qa, Q5, b0p h_x53, b0q h_x53, h_x530, h_x531, b0p hw_wp1237, b0q hw_wp1237, b48 os_wp1237, b0p h_x54, b0q h_x54, h_x540, h_x541, obr_irp1238, ltr_irp1238, b0a v7, b0a v7_1, b0a v12, b0a v12_1, b0a v12_2, b0a v7_3, b0a w15, b0a w106, b0a v7_4, b0a w106_2, b0a v12_4, b0a w106_3, b0a w106_4, b0a w106_5]
                   exact hK _ _ ⟨(.rs iqp1236 0 (List.length rows_7_4)), w106_5, s2, s3, (by first | (simp only [go_sem, s7, lA9, mA9]; done) | rfl), s12, s14, (by first | (simp only [go_sem, s99, lA9, mA9]; done) | rfl), s100, s101, s106, s107, s108, (d1u Q0 h_x53 hw_wp1237 (by simp only [go_sem, b2e Q0, Qa, Q5, b3f Q0 hw_wp1237, b0f (b3f Q0 hw_wp1237), lA9, mA9]) (by simp only [List.length_set]) (by intro j hj hne hl; first | rfl | simp only [go_sem, hne, hl, Q5]) (by first | omega | exact Nat.le_refl _ | (simp only [go_sem, nxs] <;> omega))), (b3d Q1 (by intro j hj  hl; first | rfl | simp only [go_sem, hl, b1f (rs_o7_o12 j hj), b09 (rs_o7_o12 j hj), b0f (b09 (rs_o7_o12 j hj)), b1a (rs_o7_o12 j hj) hw_wp1237, b0f (b1a (rs_o7_o12 j hj) hw_wp1237), Q5]) (by first | omega | exact Nat.le_refl _ | (simp only [go_sem, nxs] <;> omega))), (by first | assumption | simp only [go_sem]), (fun j hj => (rs_o7_o12 j hj))⟩
                  ·try clear s2 s3 s7 s12 s14 s18 s19 s20 s99 s100 s101 s106 s107 s108 s170 Q0 Q1 ra_106 rs_o7_o12 Qa Q5
                   rintro t h ⟨v7_6, w106_6, s2, s3, s7, s12, s14, s99, s100, s101, s106, s107, s108, Q0, Q1, ra_106, rs_o7_o12⟩
                   simp only [b0i, b0j]
                   exact J30 (List.set rows_7_4 (Int.toNat (wr (x_101 + x46))) (List.set x53 (Int.toNat x48.Next) (wr (x54 + (mn x34 x38))))) v7_6 v12_4 w106_6 _ _ s2 s3 s7 s12 s14 s99 s100 s101 s106 s107 s108 Q0 Q1 (by first | assumption | simp only [go_sem]) (fun j hj => (rs_o7_o12 j hj)) hm2
                 ·rw [b0z hc50] at hm2
                  simp only [b0y, b0i, b0j]
                  exact J30 rows_7_4 v7_5 v12_4 w106_5 _ _ s2 s3 s7 s12 s14 s99 s100 s101 s106 s107 s108 Q0 Q1 (by first | assumption | simp only [go_sem]) (fun j hj => (rs_o7_o12 j hj)) hm2
               simp only [go_sem]
               refine b0k (fun hc55 => ?_) (fun hc55 => ?_)
               ·rw [b00 hc55] at hm2
                obtain ⟨x58, h_x58, hm2⟩ := b0h hm2
                have h_x580 := b06 h_x58
                have h_x581 := b08 h_x58
                obtain ⟨iqp1242, rfl, Qa, Q5⟩ := b7t Q0 h_x58
                obtain ⟨wp1243, hw_wp1243, os_wp1243⟩ := b7s Q0 h_x58
                obtain ⟨x59, h_x59, hm2⟩ := b0h hm2
                have h_x590 := b06 h_x59
                have h_x591 := b08 h_x59
                obtain ⟨irp1244, rfl, obr_irp1244, ltr_irp1244⟩ := b6r os_wp1243 h_x59
                refine b76 (fun t h => ∃ v7_5 : AV, ∃ w106_4 : AV, t 2 = .fp [.fs 5 (List.map b0u h_.Combs), .fs 3 (List.map b0r h_.Trains), .fs 3 (List.map b0v h_.Shifts), I h_.Until] 0 ∧ t 3 = .fp [.fs 1 (List.map eI d.At), .fs 1 (List.map b0s d.People), .fs 1 (List.map b0s d.Walks)] 0 ∧ t 7 = v7_5 ∧ t 12 = v12_4 ∧ t 14 = I x_101 ∧ t 16 = I x_108 ∧ t 18 = I (mn x34 x38) ∧ t 99 = v7_5 ∧ t 100 = I (List.length rows_7_1 : Int) ∧ t 101 = I x_101 ∧ t 106 = w106_4 ∧ t 107 = I (List.length x25 : Int) ∧ t 108 = I x_108 ∧ RR h v7_5 hs7 1 eI (List.set rows_7_3 (Int.toNat (wr (x_101 + 1))) (List.set x58 (Int.toNat x_108) (wr (x59 + (wr (x34 - (mn x34 x38))))))) ∧ RR h v12_4 hs12_1 1 eI open_12 ∧ get hs7 x_101 = some w106_4 ∧ (∀ j, ¬b0n v12_4 hs12_1 j → b0n v7_5 hs7 j)) (fun K hK => ?_) ?_
                ·simp only [go_sem, s7, b3e Q0, s14, s16, s17, s18, Qa, Q5, b0p h_x58, b0q h_x58, h_x580, h_x581, b0p hw_wp1243, b0q hw_wp1243, b48 os_wp1243, b0p h_x59, b0q h_x59, h_x590, h_x591, obr_irp1244, ltr_irp1244, b0a v7, b0a v7_1, b0a v12, b0a v12_1, b0a v12_2, b0a v7_3, b0a w15, b0a w106, b0a w106_2, b0a v12_4, b0a w106_3]
                 exact hK _ _ ⟨(.rs iqp1242 0 (List.length rows_7_3)), w106_3, s2, s3, (by first | (simp only [go_sem, s7, lA9, mA9]; done) | rfl), s12, s14, s16, s18, (by first | (simp only [go_sem, s99, lA9, mA9]; done) | rfl), s100, s101, s106, s107, s108, (d1u Q0 h_x58 hw_wp1243 (by simp only [go_sem, b2e Q0, Qa, Q5, b3f Q0 hw_wp1243, b0f (b3f Q0 hw_wp1243), lA9, mA9]) (by simp only [List.length_set]) (by intro j hj hne hl; first | rfl | simp only [go_sem, hne, hl, Q5]) (by first | omega | exact Nat.le_refl _ | (simp only [go_sem, nxs] <;> omega))), (b3d Q1 (by intro j hj  hl; first | rfl | simp only [go_sem, hl, b1f (rs_o7_o12 j hj), b09 (rs_o7_o12 j hj), b0f (b09 (rs_o7_o12 j hj)), b1a (rs_o7_o12 j hj) hw_wp1243, b0f (b1a (rs_o7_o12 j hj) hw_wp1243), Q5]) (by first | omega | exact Nat.le_refl _ | (simp only [go_sem, nxs] <;> omega))), (by first | assumption | simp only [go_sem]), (fun j hj => (rs_o7_o12 j hj))⟩
                ·try clear s2 s3 s7 s12 s14 s16 s17 s18 s99 s100 s101 s106 s107 s108 Q0 Q1 ra_106 rs_o7_o12 Qa Q5
                 rintro t h ⟨v7_5, w106_4, s2, s3, s7, s12, s14, s16, s18, s99, s100, s101, s106, s107, s108, Q0, Q1, ra_106, rs_o7_o12⟩
                 simp only [b0i, b0j]
                 exact J40 (List.set rows_7_3 (Int.toNat (wr (x_101 + 1))) (List.set x58 (Int.toNat x_108) (wr (x59 + (wr (x34 - (mn x34 x38))))))) v7_5 w106_4 _ _ s2 s3 s7 s12 s14 s16 s18 s99 s100 s101 s106 s107 s108 Q0 Q1 (by first | assumption | simp only [go_sem]) (fun j hj => (rs_o7_o12 j hj)) hm2
               ·rw [b0z hc55] at hm2
                simp only [b0y, b0i, b0j]
                exact J40 rows_7_3 v7_4 w106_3 _ _ s2 s3 s7 s12 s14 s16 s18 s99 s100 s101 s106 s107 s108 Q0 Q1 (by first | assumption | simp only [go_sem]) (fun j hj => (rs_o7_o12 j hj)) hm2
            ·rw [b0z hc28] at hm2
             simp only [b1t, b1w, b1v, b1u, b0i, b0j, Nat.reduceEqDiff, nF9]
             obtain rfl := sI9 hm2
             obtain rfl := hb26 _ rfl
             try dsimp only at hm1
             exact J23 rows_7_3 v7_4 v12_3 _ _ s2 s3 s7 s12 s99 s100 s101 Q0 Q1 (fun j hj => (rs_o7_o12 j hj)) hm1
        ·rw [b0z hc21] at hm1
         simp only [b1t, b1w, b1v, b1u, b0i, b0j, Nat.reduceEqDiff, nF9]
         obtain rfl := sI9 hm1
         obtain rfl := hb19 _ rfl
         try dsimp only at hm0
         exact J18 rows_7_2 v7_2 _ _ s7 Q0 hm0
      simp only [b1c]
      obtain ⟨b62, hl62, hm0⟩ := b0h hm0
      refine b1z hl62 (fun | (open_12, x_89), t, h => ∃ v12_1 : AV, ∃ hs12_1 : List AV, t 2 = .fp [.fs 5 (List.map b0u h_.Combs), .fs 3 (List.map b0r h_.Trains), .fs 3 (List.map b0v h_.Shifts), I h_.Until] 0 ∧ t 3 = .fp [.fs 1 (List.map eI d.At), .fs 1 (List.map b0s d.People), .fs 1 (List.map b0s d.Walks)] 0 ∧ t 7 = v7_1 ∧ t 12 = v12_1 ∧ t 88 = I (List.length h_.Combs : Int) ∧ t 89 = I x_89 ∧ RR h v7_1 hs7 1 eI rows_7_1 ∧ RR h v12_1 hs12_1 1 eI open_12 ∧ (∀ j, ¬b0n v12_1 hs12_1 j → b0n v7_1 hs7 j)) ?_ ?_
      ·exact ⟨v12, hs12, s2, s3, s7, s12, (by first | (simp only [go_sem, lA9, mA9]; done) | rfl), (by first | (simp only [go_sem, lA9, mA9]; done) | rfl), Q0, Q1, (fun j hj => (rs_o7_o12 j hj))⟩
      ·rintro ⟨open_12, x_89⟩ o t h ⟨v12_1, hs12_1, s2, s3, s7, s12, s88, s89, Q0, Q1, rs_o7_o12⟩ hm1 hb62
       simp only [c2c] at hm1
       rw [d95]
       refine b0b fun K hK => ?_
       simp only [go_sem, s88, s89, b0a v7, b0a v7_1, b0a v12, b0a v12_1]
       refine hK _ _ ?_
       clear hK K
       refine b0o fun K63 hK63 => ?_
       simp only [go_sem]
       refine b0k (fun hc64 => ?_) (fun hc64 => ?_)
       ·rw [b00 hc64] at hm1
        simp only [b0y, b0i, b0j]
        refine hK63 _ _ ?_
        refine b0o fun K65 hK65 => ?_
        simp only [b1c]
        refine b0b fun K hK => ?_
        simp only [go_sem, s89, b0a v7, b0a v7_1, b0a v12, b0a v12_1]
        refine hK _ _ ?_
        clear hK K
        obtain ⟨y68, h_y68, hm1⟩ := b0h hm1
        obtain ⟨x69, h_x69, hm1⟩ := b0h hm1
        have h_x690 := b06 h_x69
        have h_x691 := b08 h_x69
        obtain ⟨iqp1267, rfl, Qh, Qd⟩ := b7t Q1 h_x69
        obtain ⟨wp1268, hw_wp1268, os_wp1268⟩ := b7s Q1 h_x69
        refine b76 (fun t h => ∃ v12_2 : AV, ∃ hs12_2 : List AV, t 2 = .fp [.fs 5 (List.map b0u h_.Combs), .fs 3 (List.map b0r h_.Trains), .fs 3 (List.map b0v h_.Shifts), I h_.Until] 0 ∧ t 3 = .fp [.fs 1 (List.map eI d.At), .fs 1 (List.map b0s d.People), .fs 1 (List.map b0s d.Walks)] 0 ∧ t 7 = v7_1 ∧ t 12 = v12_2 ∧ t 88 = I (List.length h_.Combs : Int) ∧ t 89 = I x_89 ∧ RR h v7_1 hs7 1 eI rows_7_1 ∧ RR h v12_2 hs12_2 1 eI (List.set open_12 (Int.toNat x_89) y68) ∧ (∀ j, ¬b0n v12_2 hs12_2 j → b0n v7_1 hs7 j)) (fun K hK => ?_) ?_
        ·simp only [go_sem, s2, s12, b3e Q1, Qh, Qd, b0p h_x69, b0q h_x69, h_x690, h_x691, b0p hw_wp1268, b0q hw_wp1268, b48 os_wp1268, b0a v7, b0a v7_1, b0a v12]
         refine d5y (e := eI) (l := y68) ?_ (c2u h_ x_89 _ h_y68) ?_
         ·exact .cons (.refl _ (.agg _ (b0e (b0w fun a _ => b3h a) (b0e (b0w fun a _ => b3b a) (b0e (b0w fun a _ => b3i a) (b0e (b0g _) b0x)))))) (.cons (.refl _ (b0g _)) (.nil))
         simp only [go_sem, s2, s12, b3e Q1, Qh, Qd, b0p h_x69, b0q h_x69, h_x690, h_x691, b0p hw_wp1268, b0q hw_wp1268, b48 os_wp1268, b0a v7, b0a v7_1, b0a v12]
         exact hK _ _ ⟨(.rs iqp1267 0 (List.length open_12)), (List.set hs12_1 (Int.toNat x_89) (.rs h.nx 0 (List.length y68))), s2, s3, s7, (by first | (simp only [go_sem, s12, lA9, mA9]; done) | rfl), s88, s89, (b3d Q0 (by intro j hj  hl; first | rfl | simp only [go_sem, hl, b1f (c03 rs_o7_o12 j hj), b09 (c03 rs_o7_o12 j hj), b0f (b09 (c03 rs_o7_o12 j hj)), Qd]) (by first | omega | exact Nat.le_refl _ | (simp only [go_sem, nxs] <;> omega))), (j8u Q1 h_x69 (by simp only [go_sem, b2e Q1, Qh, Qd, lA9, mA9]) (b4f (by simp only [go_sem, b2e Q1, Qd, lA9, mA9]) (by simp only [go_sem, b2e Q1, Qd, lA9, mA9]) (by simp only [go_sem])) (b9m (by first | assumption | exact b3z Q1 (by first | omega | (simp only [nxs] <;> omega)))) (by intro j hj hne hl; first | rfl | simp only [go_sem, hne, hl, Qd]) (by first | omega | exact Nat.le_refl _ | (simp only [go_sem, nxs] <;> omega))), (c03 (fun j hj => (j8b (c03 rs_o7_o12 j hj) (by first | exact b2i | exact b2j (b0f (b5n hj (by first | assumption | exact b3z (by assumption) (by first | assumption | omega | (simp only [nxs] <;> omega))))) | exact b7q (by assumption) j hj))))⟩
        ·try clear s2 s3 s7 s12 s88 s89 Q0 Q1 rs_o7_o12 Qh Qd
         rintro t h ⟨v12_2, hs12_2, s2, s3, s7, s12, s88, s89, Q0, Q1, rs_o7_o12⟩
         simp only [b0i, b0j]
         refine hK65 _ _ ?_
         refine b1m fun K hK => ?_
         simp only [go_sem, s89, b0a v7, b0a v7_1, b0a v12, b0a v12_2]
         refine hK _ _ ?_
         clear hK K
         simp only [b0i, b0j]
         obtain rfl := sI9 hm1
         refine ⟨_, rfl, ?_⟩
         exact ⟨v12_2, hs12_2, s2, s3, s7, s12, s88, (by first | (simp only [go_sem, s89, lA9, mA9]; done) | rfl), Q0, Q1, (fun j hj => (rs_o7_o12 j hj))⟩
       ·rw [b0z hc64] at hm1
        simp only [b1t, b1w, b1v, b1u, b0i, b0j, Nat.reduceEqDiff, nF9]
        obtain rfl := sI9 hm1
        obtain rfl := hb62 _ rfl
        try dsimp only at hm0
        exact J16 open_12 v12_1 hs12_1 _ _ s2 s3 s7 s12 Q0 Q1 (fun j hj => (rs_o7_o12 j hj)) hm0
    simp only [b1c]
    obtain ⟨b71, hl71, hm0⟩ := b0h hm0
    refine b1z hl71 (fun | (rows_7_1, x_45), t, h => ∃ v7_1 : AV, t 2 = .fp [.fs 5 (List.map b0u h_.Combs), .fs 3 (List.map b0r h_.Trains), .fs 3 (List.map b0v h_.Shifts), I h_.Until] 0 ∧ t 3 = .fp [.fs 1 (List.map eI d.At), .fs 1 (List.map b0s d.People), .fs 1 (List.map b0s d.Walks)] 0 ∧ t 7 = v7_1 ∧ t 43 = .fs 3 (List.map b0r h_.Trains) ∧ t 44 = I (List.length h_.Trains : Int) ∧ t 45 = I x_45 ∧ RR h v7_1 hs7 1 eI rows_7_1) ?_ ?_
    ·exact ⟨v7, s2, s3, s7, (by first | (simp only [go_sem, lA9, mA9]; done) | rfl), (by first | (simp only [go_sem, lA9, mA9]; done) | rfl), (by first | (simp only [go_sem, lA9, mA9]; done) | rfl), Q0⟩
    ·rintro ⟨rows_7_1, x_45⟩ o t h ⟨v7_1, s2, s3, s7, s43, s44, s45, Q0⟩ hm1 hb71
     simp only [b9w] at hm1
     rw [d94]
     refine b0b fun K hK => ?_
     simp only [go_sem, s44, s45, b0a v7, b0a v7_1]
     refine hK _ _ ?_
     clear hK K
     refine b0o fun K72 hK72 => ?_
     simp only [go_sem]
     refine b0k (fun hc73 => ?_) (fun hc73 => ?_)
     ·rw [b00 hc73] at hm1
      simp only [b0y, b0i, b0j]
      refine hK72 _ _ ?_
      refine b0o fun K74 hK74 => ?_
      have J75 : ∀ (rows_7_2 : List (List Int)) (v7_2 : AV) (t : Slots) (h : Heap), t 2 = .fp [.fs 5 (List.map b0u h_.Combs), .fs 3 (List.map b0r h_.Trains), .fs 3 (List.map b0v h_.Shifts), I h_.Until] 0 → t 3 = .fp [.fs 1 (List.map eI d.At), .fs 1 (List.map b0s d.People), .fs 1 (List.map b0s d.Walks)] 0 → t 7 = v7_2 → t 43 = .fs 3 (List.map b0r h_.Trains) → t 44 = I (List.length h_.Trains : Int) → t 45 = I x_45 → RR h v7_2 hs7 1 eI rows_7_2 → c5b x_45 rows_7_2 = some o → K74 t h := by
       intro rows_7_2 v7_2 t h s2 s3 s7 s43 s44 s45 Q0 hm1
       refine hK74 _ _ ?_
       unfold c5b at hm1
       refine b1m fun K hK => ?_
       simp only [go_sem, s45, b0a v7, b0a v7_1, b0a v7_2]
       refine hK _ _ ?_
       clear hK K
       simp only [b0i, b0j]
       obtain rfl := sI9 hm1
       refine ⟨_, rfl, ?_⟩
       exact ⟨v7_2, s2, s3, s7, s43, s44, (by first | (simp only [go_sem, s45, lA9, mA9]; done) | rfl), Q0⟩
      simp only [b1c]
      obtain ⟨x77, h_x77, hm1⟩ := b0h hm1
      have h_x770 := b06 h_x77
      have h_x771 := b08 h_x77
      refine b0b fun K hK => ?_
      simp only [go_sem, s43, s45, b0p h_x77, b0q h_x77, h_x770, h_x771, b0a v7, b0a v7_1]
      refine hK _ _ ?_
      clear hK K
      refine b0b fun K hK => ?_
      simp only [go_sem, b0a v7, b0a v7_1]
      refine hK _ _ ?_
      clear hK K
      simp only [b1c]
      obtain ⟨b78, hl78, hm1⟩ := b0h hm1
      refine b1z hl78 (fun | (rows_7_2, x_53), t, h => ∃ v7_2 : AV, t 2 = .fp [.fs 5 (List.map b0u h_.Combs), .fs 3 (List.map b0r h_.Trains), .fs 3 (List.map b0v h_.Shifts), I h_.Until] 0 ∧ t 3 = .fp [.fs 1 (List.map eI d.At), .fs 1 (List.map b0s d.People), .fs 1 (List.map b0s d.Walks)] 0 ∧ t 7 = v7_2 ∧ t 8 = I x_45 ∧ t 43 = .fs 3 (List.map b0r h_.Trains) ∧ t 44 = I (List.length h_.Trains : Int) ∧ t 45 = I x_45 ∧ t 51 = .fs 3 (List.map b2m x77.Crowds) ∧ t 52 = I (List.length x77.Crowds : Int) ∧ t 53 = I x_53 ∧ RR h v7_2 hs7 1 eI rows_7_2) ?_ ?_
      ·exact ⟨v7_1, s2, s3, s7, (by first | (simp only [go_sem, lA9, mA9]; done) | rfl), s43, s44, s45, (by first | (simp only [go_sem, lA9, mA9]; done) | rfl), (by first | (simp only [go_sem, lA9, mA9]; done) | rfl), (by first | (simp only [go_sem, lA9, mA9]; done) | rfl), (b3d Q0 (by intro j hj  hl; first | rfl | simp only [go_sem, hl]) (by first | omega | exact Nat.le_refl _ | (simp only [go_sem, nxs] <;> omega)))⟩
      ·rintro ⟨rows_7_2, x_53⟩ o t h ⟨v7_2, s2, s3, s7, s8, s43, s44, s45, s51, s52, s53, Q0⟩ hm2 hb78
       simp only [c2b] at hm2
       rw [d93]
       refine b0b fun K hK => ?_
       simp only [go_sem, s52, s53, b0a v7, b0a v7_1, b0a v7_2]
       refine hK _ _ ?_
       clear hK K
       refine b0o fun K79 hK79 => ?_
       simp only [go_sem]
       refine b0k (fun hc80 => ?_) (fun hc80 => ?_)
       ·rw [b00 hc80] at hm2
        simp only [b0y, b0i, b0j]
        refine hK79 _ _ ?_
        refine b0o fun K81 hK81 => ?_
        simp only [b1c]
        obtain ⟨x83, h_x83, hm2⟩ := b0h hm2
        have h_x830 := b06 h_x83
        have h_x831 := b08 h_x83
        refine b0b fun K hK => ?_
        simp only [go_sem, s51, s53, b0p h_x83, b0q h_x83, h_x830, h_x831, b0a v7, b0a v7_1, b0a v7_2]
        refine hK _ _ ?_
        clear hK K
        obtain ⟨x89, h_x89, hm2⟩ := b0h hm2
        have h_x890 := b06 h_x89
        have h_x891 := b08 h_x89
        obtain ⟨x90, h_x90, hm2⟩ := b0h hm2
        have h_x900 := b06 h_x90
        have h_x901 := b08 h_x90
        obtain ⟨iqp1422, rfl, Qa, Q5⟩ := b7t Q0 h_x90
        obtain ⟨wp1423, hw_wp1423, os_wp1423⟩ := b7s Q0 h_x90
        obtain ⟨x91, h_x91, hm2⟩ := b0h hm2
        have h_x910 := b06 h_x91
        have h_x911 := b08 h_x91
        obtain ⟨irp1424, rfl, obr_irp1424, ltr_irp1424⟩ := b6r os_wp1423 h_x91
        obtain ⟨x92, h_x92, hm2⟩ := b0h hm2
        have h_x920 := b06 h_x92
        have h_x921 := b08 h_x92
        obtain ⟨x93, h_x93, hm2⟩ := b0h hm2
        have h_x930 := b06 h_x93
        have h_x931 := b08 h_x93
        refine b76 (fun t h => ∃ v7_3 : AV, t 2 = .fp [.fs 5 (List.map b0u h_.Combs), .fs 3 (List.map b0r h_.Trains), .fs 3 (List.map b0v h_.Shifts), I h_.Until] 0 ∧ t 3 = .fp [.fs 1 (List.map eI d.At), .fs 1 (List.map b0s d.People), .fs 1 (List.map b0s d.Walks)] 0 ∧ t 7 = v7_3 ∧ t 8 = I x_45 ∧ t 43 = .fs 3 (List.map b0r h_.Trains) ∧ t 44 = I (List.length h_.Trains : Int) ∧ t 45 = I x_45 ∧ t 51 = .fs 3 (List.map b2m x77.Crowds) ∧ t 52 = I (List.length x77.Crowds : Int) ∧ t 53 = I x_53 ∧ RR h v7_3 hs7 1 eI (List.set rows_7_2 (Int.toNat x89) (List.set x90 (Int.toNat x83.Comb) (wr (x91 + x93))))) (fun K hK => ?_) ?_
        ·simp only [go_sem, s3, s7, b3e Q0, s8, Qa, Q5, b0p h_x89, b0q h_x89, h_x890, h_x891, b0p h_x90, b0q h_x90, h_x900, h_x901, b0p hw_wp1423, b0q hw_wp1423, b48 os_wp1423, b0p h_x91, b0q h_x91, h_x910, h_x911, obr_irp1424, ltr_irp1424, b0p h_x92, b0q h_x92, h_x920, h_x921, b0p h_x93, b0q h_x93, h_x930, h_x931, b0a v7, b0a v7_1]
         exact hK _ _ ⟨(.rs iqp1422 0 (List.length rows_7_2)), s2, s3, (by first | (simp only [go_sem, s7, lA9, mA9]; done) | rfl), s8, s43, s44, s45, s51, s52, s53, (d1u Q0 h_x90 hw_wp1423 (by simp only [go_sem, b2e Q0, Qa, Q5, b3f Q0 hw_wp1423, b0f (b3f Q0 hw_wp1423), lA9, mA9]) (by simp only [List.length_set]) (by intro j hj hne hl; first | rfl | simp only [go_sem, hne, hl, Q5]) (by first | omega | exact Nat.le_refl _ | (simp only [go_sem, nxs] <;> omega)))⟩
        ·try clear s2 s3 s7 s8 s43 s44 s45 s51 s52 s53 Q0 Qa Q5
         rintro t h ⟨v7_3, s2, s3, s7, s8, s43, s44, s45, s51, s52, s53, Q0⟩
         simp only [b0i, b0j]
         refine hK81 _ _ ?_
         refine b1m fun K hK => ?_
         simp only [go_sem, s53, b0a v7, b0a v7_1, b0a v7_3]
         refine hK _ _ ?_
         clear hK K
         simp only [b0i, b0j]
         obtain rfl := sI9 hm2
         refine ⟨_, rfl, ?_⟩
         exact ⟨v7_3, s2, s3, s7, s8, s43, s44, s45, s51, s52, (by first | (simp only [go_sem, s53, lA9, mA9]; done) | rfl), Q0⟩
       ·rw [b0z hc80] at hm2
        simp only [b1t, b1w, b1v, b1u, b0i, b0j, Nat.reduceEqDiff, nF9]
        obtain rfl := sI9 hm2
        obtain rfl := hb78 _ rfl
        try dsimp only at hm1
        exact J75 rows_7_2 v7_2 _ _ s2 s3 s7 s43 s44 s45 Q0 hm1
     ·rw [b0z hc73] at hm1
      simp only [b1t, b1w, b1v, b1u, b0i, b0j, Nat.reduceEqDiff, nF9]
      obtain rfl := sI9 hm1
      obtain rfl := hb71 _ rfl
      try dsimp only at hm0
      exact J12 rows_7_1 v7_1 _ _ s2 s3 s7 Q0 hm0
   simp only [b1c]
   obtain ⟨b96, hl96, hm0⟩ := b0h hm0
   refine b1z hl96 (fun | (rows_7, x_32), t, h => ∃ v7 : AV, ∃ hs7 : List AV, t 2 = .fp [.fs 5 (List.map b0u h_.Combs), .fs 3 (List.map b0r h_.Trains), .fs 3 (List.map b0v h_.Shifts), I h_.Until] 0 ∧ t 3 = .fp [.fs 1 (List.map eI d.At), .fs 1 (List.map b0s d.People), .fs 1 (List.map b0s d.Walks)] 0 ∧ t 7 = v7 ∧ t 31 = I h_.Until ∧ t 32 = I x_32 ∧ RR h v7 hs7 1 eI rows_7) ?_ ?_
   ·exact ⟨nilS, [], (by first | (simp only [go_sem, lA9, mA9]; done) | rfl), (by first | (simp only [go_sem, lA9, mA9]; done) | rfl), (by first | (simp only [go_sem, lA9, mA9]; done) | rfl), (by first | (simp only [go_sem, lA9, mA9]; done) | rfl), (by first | (simp only [go_sem, lA9, mA9]; done) | rfl), d80⟩
   ·rintro ⟨rows_7, x_32⟩ o t h ⟨v7, hs7, s2, s3, s7, s31, s32, Q0⟩ hm1 hb96
    simp only [c2a] at hm1
    rw [d92]
    refine b0b fun K hK => ?_
    simp only [go_sem, s31, s32, b0a v7]
    refine hK _ _ ?_
    clear hK K
    refine b0o fun K97 hK97 => ?_
    simp only [go_sem]
    refine b0k (fun hc98 => ?_) (fun hc98 => ?_)
    ·rw [b00 hc98] at hm1
     simp only [b0y, b0i, b0j]
     refine hK97 _ _ ?_
     refine b0o fun K99 hK99 => ?_
     simp only [b1c]
     obtain ⟨l102, h_l102, hm1⟩ := b0h hm1
     obtain ⟨l103, h_l103, hm1⟩ := b0h hm1
     refine b76 (fun t h => ∃ v7_1 : AV, ∃ hs7_1 : List AV, t 2 = .fp [.fs 5 (List.map b0u h_.Combs), .fs 3 (List.map b0r h_.Trains), .fs 3 (List.map b0v h_.Shifts), I h_.Until] 0 ∧ t 3 = .fp [.fs 1 (List.map eI d.At), .fs 1 (List.map b0s d.People), .fs 1 (List.map b0s d.Walks)] 0 ∧ t 7 = v7_1 ∧ t 31 = I h_.Until ∧ t 32 = I x_32 ∧ RR h v7_1 hs7_1 1 eI l103) (fun K hK => ?_) ?_
     ·simp only [go_sem, s2, s7, b3e Q0, b0a v7]
      refine c5y (f := eI) (z := 0) rfl h_l102 ?_
      simp only [go_sem, s2, s7, b3e Q0, b0a v7]
      refine d42 (f := eI) (sz := 1) (rows := rows_7) (hs := hs7) (u := .rs h.nx 0 (List.length l102)) ?_ ?_ ?_ h_l103 ?_
      ·exact (b3d Q0 (by intro j hj  hl; first | rfl | simp only [go_sem, hl]) (by first | omega | exact Nat.le_refl _ | (simp only [go_sem, nxs] <;> omega)))
      ·exact (by simp only [go_sem, b2e Q0, lA9, mA9])
      ·exact (b3z Q0 (by first | assumption | omega | (simp only [nxs] <;> omega)))
      simp only [go_sem, s2, s7, b3e Q0, b0a v7]
      exact hK _ _ ⟨(.rs (nxs (nxs h.nx)) 0 (List.length l103)), (hs7 ++ [.rs h.nx 0 (List.length l102)]), s2, s3, (by first | (simp only [go_sem, s7, lA9, mA9]; done) | rfl), s31, s32, (d8z (h := h) Q0 h_l103 (by simp only [go_sem, b2e Q0, lA9, mA9]) rfl (by simp only [go_sem]) (b4f (by simp only [go_sem, b2e Q0, lA9, mA9]) (by simp only [go_sem, b2e Q0, lA9, mA9]) (by simp only [go_sem])) (b9m (by first | assumption | exact b3z Q0 (by first | omega | (simp only [nxs] <;> omega)))) (by first | omega | exact Nat.le_refl _ | (simp only [go_sem, nxs] <;> omega)) (by first | exact b2i | exact b2j (by first | assumption | omega | (simp only [nxs] <;> omega))) (by intro j hj h2 hl; first | rfl | simp only [go_sem, h2, hl]) (by first | omega | exact Nat.le_refl _ | (simp only [go_sem, nxs] <;> omega)))⟩
     ·rintro t h ⟨v7_1, hs7_1, s2, s3, s7, s31, s32, Q0⟩
      simp only [b0i, b0j]
      refine hK99 _ _ ?_
      refine b1m fun K hK => ?_
      simp only [go_sem, s32, b0a v7, b0a v7_1]
      refine hK _ _ ?_
      clear hK K
      simp only [b0i, b0j]
      obtain rfl := sI9 hm1
      refine ⟨_, rfl, ?_⟩
      exact ⟨v7_1, hs7_1, s2, s3, s7, s31, (by first | (simp only [go_sem, s32, lA9, mA9]; done) | rfl), Q0⟩
    ·rw [b0z hc98] at hm1
     simp only [b1t, b1w, b1v, b1u, b0i, b0j, Nat.reduceEqDiff, nF9]
     obtain rfl := sI9 hm1
     obtain rfl := hb96 _ rfl
     try dsimp only at hm0
     exact J10 rows_7 v7 hs7 _ _ s2 s3 s7 Q0 hm0
theorem d0c (hf : Has O "newel/halls.brought" x_halls_brought) : c7v O := by
 intro h_ comb from_ to_ r hm0
 unfold c2g at hm0
 refine b10 hf rfl (b0e (.agg _ (b0e (b0w fun a _ => b3h a) (b0e (b0w fun a _ => b3b a) (b0e (b0w fun a _ => b3i a) (b0e (b0g _) b0x))))) (b0e (b0g _) (b0e (b0g _) (b0e (b0g _) b0x)))) (b0g _) ?_
 refine b1s (fun t h => t 0 = .agg [.fs 5 (List.map b0u h_.Combs), .fs 3 (List.map b0r h_.Trains), .fs 3 (List.map b0v h_.Shifts), I h_.Until] ∧ t 1 = I comb ∧ t 2 = I from_ ∧ t 3 = I to_) ⟨rfl, rfl, rfl, rfl⟩ fun t h ⟨s0, s1, s2, s3⟩ => ?_
 simp only [x_halls_brought]
 refine b0b fun K hK => ?_
 simp only [go_sem, s0]
 refine hK _ _ ?_
 clear hK K
 refine b05 ?_
 refine b0b fun K hK => ?_
 simp only [go_sem]
 refine hK _ _ ?_
 clear hK K
 refine b0o fun K1 hK1 => ?_
 have J2 : ∀ (sum_8 : Int) (t : Slots) (h : Heap), t 8 = I sum_8 → c9q sum_8 = some r → K1 t h := by
  intro sum_8 t h s8 hm0
  refine hK1 _ _ ?_
  unfold c9q at hm0
  refine b0b fun K hK => ?_
  simp only [go_sem, s8]
  refine hK _ _ ?_
  clear hK K
  simp only [b01, b03, b02, b04]
  obtain rfl := sI9 hm0
  exact b1e (by simp only [go_sem, s8, lA9, mA9]) (b0g _)
 simp only [b1c]
 obtain ⟨b3, hl3, hm0⟩ := b0h hm0
 refine b1z hl3 (fun | (sum_8, x_16), t, h => t 1 = I comb ∧ t 2 = I from_ ∧ t 3 = I to_ ∧ t 8 = I sum_8 ∧ t 14 = .fs 3 (List.map b0r h_.Trains) ∧ t 15 = I (List.length h_.Trains : Int) ∧ t 16 = I x_16) ?_ ?_
 ·exact ⟨s1, s2, s3, (by first | (simp only [go_sem, lA9, mA9]; done) | rfl), (by first | (simp only [go_sem, lA9, mA9]; done) | rfl), (by first | (simp only [go_sem, lA9, mA9]; done) | rfl), (by first | (simp only [go_sem, lA9, mA9]; done) | rfl)⟩
 ·rintro ⟨sum_8, x_16⟩ o t h ⟨s1, s2, s3, s8, s14, s15, s16⟩ hm1 hb3
  simp only [c2i] at hm1
  rw [g0f]
  refine b0b fun K hK => ?_
  simp only [go_sem, s15, s16]
  refine hK _ _ ?_
  clear hK K
  refine b0o fun K4 hK4 => ?_
  simp only [go_sem]
  refine b0k (fun hc5 => ?_) (fun hc5 => ?_)
  ·rw [b00 hc5] at hm1
   simp only [b0y, b0i, b0j]
   refine hK4 _ _ ?_
   refine b0o fun K6 hK6 => ?_
   have J7 : ∀ (sum_8_1 : Int) (t : Slots) (h : Heap), t 1 = I comb → t 2 = I from_ → t 3 = I to_ → t 8 = I sum_8_1 → t 14 = .fs 3 (List.map b0r h_.Trains) → t 15 = I (List.length h_.Trains : Int) → t 16 = I x_16 → b97 x_16 sum_8_1 = some o → K6 t h := by
    intro sum_8_1 t h s1 s2 s3 s8 s14 s15 s16 hm1
    refine hK6 _ _ ?_
    unfold b97 at hm1
    refine b1m fun K hK => ?_
    simp only [go_sem, s16]
    refine hK _ _ ?_
    clear hK K
    simp only [b0i, b0j]
    obtain rfl := sI9 hm1
    refine ⟨_, rfl, ?_⟩
    exact ⟨s1, s2, s3, s8, s14, s15, (by first | (simp only [go_sem, s16, lA9, mA9]; done) | rfl)⟩
   simp only [b1c]
   obtain ⟨x9, h_x9, hm1⟩ := b0h hm1
   have h_x90 := b06 h_x9
   have h_x91 := b08 h_x9
   refine b0b fun K hK => ?_
   simp only [go_sem, s14, s16, b0p h_x9, b0q h_x9, h_x90, h_x91]
   refine hK _ _ ?_
   clear hK K
   refine b05 ?_
   refine b1r (fun t h => ∃ i10 : Nat, t 1 = I comb ∧ t 2 = I from_ ∧ t 3 = I to_ ∧ t 8 = I sum_8 ∧ t 10 = .rp i10 0 0 ∧ t 14 = .fs 3 (List.map b0r h_.Trains) ∧ t 15 = I (List.length h_.Trains : Int) ∧ t 16 = I x_16 ∧ t 31 = B ((decide (x9.At.High < from_)) || (decide (to_ < x9.At.Low))) ∧ h.ob i10 = some (3, [[I x9.At.Low, I x9.At.High, .fs 3 (List.map b2m x9.Crowds)]]) ∧ i10 < h.nx) (fun K hK => ?_) ?_
   ·simp only [go_sem, s2, s3]
    refine b0k (fun hg10 => ?_) (fun hg10 => ?_)
    ·simp only [go_sem, s2, s3, hg10]
     exact hK _ _ ⟨h.nx, s1, s2, s3, s8, (by first | (simp only [go_sem, hg10, lA9, mA9]; done) | rfl), s14, s15, s16, (by first | (simp only [go_sem, hg10, lA9, mA9]; done) | rfl), (by simp only [go_sem, hg10, lA9, mA9]), (by simp only [go_sem])⟩
    ·simp only [go_sem, s2, s3, hg10]
     exact hK _ _ ⟨h.nx, s1, s2, s3, s8, (by first | (simp only [go_sem, hg10, lA9, mA9]; done) | rfl), s14, s15, s16, (by first | (simp only [go_sem, hg10, lA9, mA9]; done) | rfl), (by simp only [go_sem, hg10, lA9, mA9]), (by simp only [go_sem])⟩
   ·rintro t h ⟨i10, s1, s2, s3, s8, s10, s14, s15, s16, s31, Qj, Qk⟩
    refine b0o fun K11 hK11 => ?_
    simp only [go_sem, s31]
    refine b0k (fun hc12 => ?_) (fun hc12 => ?_)
    ·rw [b00 hc12] at hm1
     simp only [b1t, b1w, b1v, b1u, b0i, b0j, Nat.reduceEqDiff, nF9]
     exact J7 sum_8 _ _ s1 s2 s3 s8 s14 s15 s16 hm1
    ·rw [b0z hc12] at hm1
     simp only [b0y, b0i, b0j]
     refine hK11 _ _ ?_
     refine b0b fun K hK => ?_
     simp only [go_sem, s10, Qj, Qk]
     refine hK _ _ ?_
     clear hK K
     simp only [b1c]
     obtain ⟨b13, hl13, hm1⟩ := b0h hm1
     refine b1z hl13 (fun | (sum_8_1, x_35), t, h => t 1 = I comb ∧ t 2 = I from_ ∧ t 3 = I to_ ∧ t 8 = I sum_8_1 ∧ t 14 = .fs 3 (List.map b0r h_.Trains) ∧ t 15 = I (List.length h_.Trains : Int) ∧ t 16 = I x_16 ∧ t 33 = .fs 3 (List.map b2m x9.Crowds) ∧ t 34 = I (List.length x9.Crowds : Int) ∧ t 35 = I x_35) ?_ ?_
     ·exact ⟨s1, s2, s3, s8, s14, s15, s16, (by first | (simp only [go_sem, lA9, mA9]; done) | rfl), (by first | (simp only [go_sem, lA9, mA9]; done) | rfl), (by first | (simp only [go_sem, lA9, mA9]; done) | rfl)⟩
     ·try clear s1 s2 s3 s8 s10 s14 s15 s16 s31 Qj Qk
      rintro ⟨sum_8_1, x_35⟩ o t h ⟨s1, s2, s3, s8, s14, s15, s16, s33, s34, s35⟩ hm2 hb13
      simp only [c2h] at hm2
      rw [g0e]
      refine b0b fun K hK => ?_
      simp only [go_sem, s34, s35]
      refine hK _ _ ?_
      clear hK K
      refine b0o fun K14 hK14 => ?_
      simp only [go_sem]
      refine b0k (fun hc15 => ?_) (fun hc15 => ?_)
      ·rw [b00 hc15] at hm2
       simp only [b0y, b0i, b0j]
       refine hK14 _ _ ?_
       refine b0o fun K16 hK16 => ?_
       have J17 : ∀ (sum_8_2 : Int) (t : Slots) (h : Heap), t 1 = I comb → t 2 = I from_ → t 3 = I to_ → t 8 = I sum_8_2 → t 14 = .fs 3 (List.map b0r h_.Trains) → t 15 = I (List.length h_.Trains : Int) → t 16 = I x_16 → t 33 = .fs 3 (List.map b2m x9.Crowds) → t 34 = I (List.length x9.Crowds : Int) → t 35 = I x_35 → b95 x_35 sum_8_2 = some o → K16 t h := by
        try clear s1 s2 s3 s8 s14 s15 s16 s33 s34 s35
        intro sum_8_2 t h s1 s2 s3 s8 s14 s15 s16 s33 s34 s35 hm2
        refine hK16 _ _ ?_
        unfold b95 at hm2
        refine b1m fun K hK => ?_
        simp only [go_sem, s35]
        refine hK _ _ ?_
        clear hK K
        simp only [b0i, b0j]
        obtain rfl := sI9 hm2
        refine ⟨_, rfl, ?_⟩
        exact ⟨s1, s2, s3, s8, s14, s15, s16, s33, s34, (by first | (simp only [go_sem, s35, lA9, mA9]; done) | rfl)⟩
       simp only [b1c]
       obtain ⟨x19, h_x19, hm2⟩ := b0h hm2
       have h_x190 := b06 h_x19
       have h_x191 := b08 h_x19
       refine b0b fun K hK => ?_
       simp only [go_sem, s33, s35, b0p h_x19, b0q h_x19, h_x190, h_x191]
       refine hK _ _ ?_
       clear hK K
       refine b0b fun K hK => ?_
       simp only [go_sem, s1]
       refine hK _ _ ?_
       clear hK K
       simp only [go_sem]
       refine b0k (fun hc20 => ?_) (fun hc20 => ?_)
       ·rw [b00 hc20] at hm2
        refine b1m fun K hK => ?_
        simp only [go_sem, s8]
        refine hK _ _ ?_
        clear hK K
        simp only [b0i, b0j]
        exact J17 (wr (sum_8_1 + x19.People.High)) _ _ s1 s2 s3 (by first | (simp only [go_sem, s8, lA9, mA9]; done) | rfl) s14 s15 s16 s33 s34 s35 hm2
       ·rw [b0z hc20] at hm2
        simp only [b0y, b0i, b0j]
        exact J17 sum_8_1 _ _ s1 s2 s3 s8 s14 s15 s16 s33 s34 s35 hm2
      ·rw [b0z hc15] at hm2
       simp only [b1t, b1w, b1v, b1u, b0i, b0j, Nat.reduceEqDiff, nF9]
       obtain rfl := sI9 hm2
       obtain rfl := hb13 _ rfl
       try dsimp only at hm1
       exact J7 sum_8_1 _ _ s1 s2 s3 s8 s14 s15 s16 hm1
  ·rw [b0z hc5] at hm1
   simp only [b1t, b1w, b1v, b1u, b0i, b0j, Nat.reduceEqDiff, nF9]
   obtain rfl := sI9 hm1
   obtain rfl := hb3 _ rfl
   try dsimp only at hm0
   exact J2 sum_8 _ _ s8 hm0
theorem d0d (hf : Has O "newel/halls.check" x_halls_check) (c2t : c32 O) (c2w : c38 O) (d0e : c7x O) : c7w O := by
 intro h_ comb ticks r hm0
 unfold b98 at hm0
 refine b10 hf rfl (b0e (.agg _ (b0e (b0w fun a _ => b3h a) (b0e (b0w fun a _ => b3b a) (b0e (b0w fun a _ => b3i a) (b0e (b0g _) b0x))))) (b0e (b0g _) (b0e (b0w fun a _ => b2n a) b0x))) (b0g _) ?_
 refine b1s (fun t h => t 0 = .agg [.fs 5 (List.map b0u h_.Combs), .fs 3 (List.map b0r h_.Trains), .fs 3 (List.map b0v h_.Shifts), I h_.Until] ∧ t 1 = I comb ∧ t 2 = .fs 1 (List.map eI ticks)) ⟨rfl, rfl, rfl⟩ fun t h ⟨s0, s1, s2⟩ => ?_
 simp only [x_halls_check]
 refine b0b fun K hK => ?_
 simp only [go_sem, s0]
 refine hK _ _ ?_
 clear hK K
 refine b05 ?_
 obtain ⟨y2, h_y2, hm0⟩ := b0h hm0
 refine b0b fun K hK => ?_
 simp only [go_sem]
 refine b1g (c2t h_ _ h_y2) ?_
 simp only [go_sem]
 refine hK _ _ ?_
 clear hK K
 refine b05 ?_
 refine b0b fun K hK => ?_
 simp only [go_sem]
 refine hK _ _ ?_
 clear hK K
 refine b0o fun K3 hK3 => ?_
 simp only [go_sem]
 refine b0k (fun hc4 => ?_) (fun hc4 => ?_)
 ·rw [b00 hc4] at hm0
  refine b0b fun K hK => ?_
  simp only [go_sem]
  refine hK _ _ ?_
  clear hK K
  simp only [b01, b03, b02, b04]
  obtain rfl := sI9 hm0
  exact b1e (by simp only [go_sem, lA9, mA9]) (b0g _)
 ·rw [b0z hc4] at hm0
  simp only [b0y, b0i, b0j]
  refine hK3 _ _ ?_
  refine b05 ?_
  obtain ⟨c10, h_c10, hm0⟩ := b0h hm0
  refine b1r (fun t h => t 26 = B c10) (fun K hK => ?_) ?_
  ·simp only [go_sem, s1, s2]
   refine b0k (fun hg11 => ?_) (fun hg11 => ?_)
   ·simp only [hg11, Bool.not_true, Bool.not_false, eq_self, if_true, if_false, Bool.true_or, Bool.or_true, Bool.false_or, Bool.or_false, Bool.true_and, Bool.and_true, Bool.false_and, Bool.and_false, Bool.false_eq_true] at h_c10
    obtain rfl := sI9 h_c10
    simp only [go_sem, s1, s2, hg11]
    exact hK _ _ (by first | (simp only [go_sem, hg11, lA9, mA9]; done) | rfl)
   ·simp only [go_sem, s1, s2, hg11]
    refine b0k (fun hg12 => ?_) (fun hg12 => ?_)
    ·simp only [hg11, hg12, Bool.not_true, Bool.not_false, eq_self, if_true, if_false, Bool.true_or, Bool.or_true, Bool.false_or, Bool.or_false, Bool.true_and, Bool.and_true, Bool.false_and, Bool.and_false, Bool.false_eq_true] at h_c10
     obtain rfl := sI9 h_c10
     simp only [go_sem, s1, s2, hg11, hg12]
     exact hK _ _ (by first | (simp only [go_sem, hg11, hg12, lA9, mA9]; done) | rfl)
    ·simp only [hg11, hg12, Bool.not_true, Bool.not_false, eq_self, if_true, if_false, Bool.true_or, Bool.or_true, Bool.false_or, Bool.or_false, Bool.true_and, Bool.and_true, Bool.false_and, Bool.and_false, Bool.false_eq_true] at h_c10
     obtain ⟨y9, h_y9, h_c10⟩ := b0h h_c10
     obtain rfl := sI9 h_c10
     simp only [go_sem, s1, s2, hg11, hg12]
     refine b1g (c2w ticks "newel/halls.check$1" [] [.fp [.fs 5 (List.map b0u h_.Combs), .fs 3 (List.map b0r h_.Trains), .fs 3 (List.map b0v h_.Shifts), I h_.Until] 0] (fun z8 => some (b8i z8 h_)) (.fn _ _ _ b0x (b0e (.fp _ _ (b0e (b0w fun a _ => b3h a) (b0e (b0w fun a _ => b3b a) (b0e (b0w fun a _ => b3i a) (b0e (b0g _) b0x))))) b0x)) (fun z0 y hz => by cases hz; exact d0e z0 h_) _ h_y9) ?_
     simp only [go_sem, s1, s2, hg11, hg12]
     exact hK _ _ (by first | (simp only [go_sem, hg11, hg12, lA9, mA9]; done) | rfl)
  ·rintro t h s26
   refine b0o fun K13 hK13 => ?_
   simp only [go_sem, s26]
   refine b0k (fun hc14 => ?_) (fun hc14 => ?_)
   ·rw [b00 hc14] at hm0
    refine b0b fun K hK => ?_
    simp only [go_sem]
    refine hK _ _ ?_
    clear hK K
    simp only [b01, b03, b02, b04]
    obtain rfl := sI9 hm0
    exact b1e (by simp only [go_sem, lA9, mA9]) (b0g _)
   ·rw [b0z hc14] at hm0
    simp only [b0y, b0i, b0j]
    refine hK13 _ _ ?_
    refine b0b fun K hK => ?_
    simp only [go_sem]
    refine hK _ _ ?_
    clear hK K
    simp only [b01, b03, b02, b04]
    obtain rfl := sI9 hm0
    exact b1e (by simp only [go_sem, lA9, mA9]) (b0g _)
theorem d0e (hf : Has O "newel/halls.check$1" x_halls_checkD1) : c7x O := by
 intro t_ c0
 generalize hm0 : b8i t_ c0 = r
 unfold b8i at hm0
 refine b10 hf rfl (b0e (b0g _) (b0e (.fp _ _ (b0e (b0w fun a _ => b3h a) (b0e (b0w fun a _ => b3b a) (b0e (b0w fun a _ => b3i a) (b0e (b0g _) b0x))))) b0x)) (b0g _) ?_
 refine b1s (fun t h => t 0 = I t_ ∧ t 1 = .fp [.fs 5 (List.map b0u c0.Combs), .fs 3 (List.map b0r c0.Trains), .fs 3 (List.map b0v c0.Shifts), I c0.Until] 0) ⟨rfl, rfl⟩ fun t h ⟨s0, s1⟩ => ?_
 simp only [x_halls_checkD1]
 refine b0b fun K hK => ?_
 simp only [go_sem]
 refine hK _ _ ?_
 clear hK K
 refine b1r (fun t h => t 3 = B ((decide (t_ < 0)) || (decide (c0.Until ≤ t_)))) (fun K hK => ?_) ?_
 ·simp only [go_sem, s0, s1]
  refine b0k (fun hg1 => ?_) (fun hg1 => ?_)
  ·simp only [go_sem, s0, s1, hg1]
   exact hK _ _ (by first | (simp only [go_sem, hg1, lA9, mA9]; done) | rfl)
  ·simp only [go_sem, s0, s1, hg1]
   exact hK _ _ (by first | (simp only [go_sem, hg1, lA9, mA9]; done) | rfl)
 ·rintro t h s3
  simp only [b01, b03, b02, b04]
  obtain rfl := hm0
  exact b1e (by simp only [go_sem, s3, lA9, mA9]) (b0g _)
theorem b5j (hf : Has O "newel/halls.in" x_halls_in) : b83 O := by
 intro n s
 generalize hm0 : b3a n s = r
 unfold b3a at hm0
 refine b10 hf rfl (b0e (b0g _) (b0e (.agg _ (b0e (b0g _) (b0e (b0g _) b0x))) b0x)) (b0g _) ?_
 refine b1s (fun t h => t 0 = I n ∧ t 1 = .agg [I s.Low, I s.High]) ⟨rfl, rfl⟩ fun t h ⟨s0, s1⟩ => ?_
 simp only [x_halls_in]
 refine b0b fun K hK => ?_
 simp only [go_sem, s1]
 refine hK _ _ ?_
 clear hK K
 refine b1r (fun t h => t 4 = B ((decide (s.Low ≤ n)) && (decide (n ≤ s.High)))) (fun K hK => ?_) ?_
 ·simp only [go_sem, s0]
  refine b0k (fun hg1 => ?_) (fun hg1 => ?_)
  ·simp only [go_sem, s0, hg1]
   exact hK _ _ (by first | (simp only [go_sem, hg1, lA9, mA9]; done) | rfl)
  ·simp only [go_sem, s0, hg1]
   exact hK _ _ (by first | (simp only [go_sem, hg1, lA9, mA9]; done) | rfl)
 ·rintro t h s4
  simp only [b01, b03, b02, b04]
  obtain rfl := hm0
  exact b1e (by simp only [go_sem, s4, lA9, mA9]) (b0g _)
theorem d0f (hf : Has O "newel/halls.isComb" x_halls_isComb) (b5j : b83 O) (b8l : c35 O) : c7y O := by
 intro h_ i r hm0
 unfold c2j at hm0
 refine b10 hf rfl (b0e (.agg _ (b0e (b0w fun a _ => b3h a) (b0e (b0w fun a _ => b3b a) (b0e (b0w fun a _ => b3i a) (b0e (b0g _) b0x))))) (b0e (b0g _) b0x)) (b0g _) ?_
 refine b1s (fun t h => t 0 = .agg [.fs 5 (List.map b0u h_.Combs), .fs 3 (List.map b0r h_.Trains), .fs 3 (List.map b0v h_.Shifts), I h_.Until] ∧ t 1 = I i) ⟨rfl, rfl⟩ fun t h ⟨s0, s1⟩ => ?_
 simp only [x_halls_isComb]
 refine b0b fun K hK => ?_
 simp only [go_sem, s0]
 refine hK _ _ ?_
 clear hK K
 obtain ⟨x2, h_x2, hm0⟩ := b0h hm0
 have h_x20 := b06 h_x2
 have h_x21 := b08 h_x2
 refine b0b fun K hK => ?_
 simp only [go_sem, s1, b0p h_x2, b0q h_x2, h_x20, h_x21]
 refine hK _ _ ?_
 clear hK K
 refine b1r (fun t h => t 4 = B ((((b3a x2.Rate (Span.mk 0 1000)) && (b3a x2.Limit (Span.mk 0 100000))) && ((decide (x2.Next = (-1))) || ((decide (i < x2.Next)) && (decide (x2.Next < (List.length h_.Combs : Int)))))) && (b42 x2.Walk 1 20))) (fun K hK => ?_) ?_
 ·simp only [go_sem, s1]
  refine b1g (b5j x2.Rate (Span.mk 0 1000)) ?_
  simp only [go_sem, s1]
  refine b0k (fun hg3 => ?_) (fun hg3 => ?_)
  ·simp only [go_sem, s1, hg3]
   refine b1g (b5j x2.Limit (Span.mk 0 100000)) ?_
   simp only [go_sem, s1, hg3]
   refine b0k (fun hg4 => ?_) (fun hg4 => ?_)
   ·simp only [go_sem, s1, hg3, hg4]
    refine b0k (fun hg5 => ?_) (fun hg5 => ?_)
    ·simp only [go_sem, s1, hg3, hg4, hg5]
     refine b1g (b8l x2.Walk 1 20) ?_
     simp only [go_sem, s1, hg3, hg4, hg5]
     exact hK _ _ (by first | (simp only [go_sem, hg3, hg4, hg5, lA9, mA9]; done) | rfl)
    ·simp only [go_sem, s1, hg3, hg4, hg5]
     refine b0k (fun hg6 => ?_) (fun hg6 => ?_)
     ·simp only [go_sem, s1, hg3, hg4, hg5, hg6]
      refine b0k (fun hg7 => ?_) (fun hg7 => ?_)
      ·simp only [go_sem, s1, hg3, hg4, hg5, hg6, hg7]
       refine b1g (b8l x2.Walk 1 20) ?_
       simp only [go_sem, s1, hg3, hg4, hg5, hg6, hg7]
       exact hK _ _ (by first | (simp only [go_sem, hg3, hg4, hg5, hg6, hg7, lA9, mA9]; done) | rfl)
      ·simp only [go_sem, s1, hg3, hg4, hg5, hg6, hg7]
       exact hK _ _ (by first | (simp only [go_sem, hg3, hg4, hg5, hg6, hg7, lA9, mA9]; done) | rfl)
     ·simp only [go_sem, s1, hg3, hg4, hg5, hg6]
      exact hK _ _ (by first | (simp only [go_sem, hg3, hg4, hg5, hg6, lA9, mA9]; done) | rfl)
   ·simp only [go_sem, s1, hg3, hg4]
    exact hK _ _ (by first | (simp only [go_sem, hg3, hg4, lA9, mA9]; done) | rfl)
  ·simp only [go_sem, s1, hg3]
   exact hK _ _ (by first | (simp only [go_sem, hg3, lA9, mA9]; done) | rfl)
 ·rintro t h s4
  simp only [b01, b03, b02, b04]
  obtain rfl := sI9 hm0
  exact b1e (by simp only [go_sem, s4, lA9, mA9]) (b0g _)
theorem d0g (hf : Has O "newel/halls.isDay" x_halls_isDay) (b5j : b83 O) (c2w : c38 O) (d0h : c70 O) : c7z O := by
 intro h_ d r hm0
 unfold b8j at hm0
 refine b10 hf rfl (b0e (.agg _ (b0e (b0w fun a _ => b3h a) (b0e (b0w fun a _ => b3b a) (b0e (b0w fun a _ => b3i a) (b0e (b0g _) b0x))))) (b0e (.agg _ (b0e (b0w fun a _ => b2n a) (b0e (b0w fun a _ => b41 a) (b0e (b0w fun a _ => b41 a) b0x)))) b0x)) (b0g _) ?_
 refine b1s (fun t h => t 0 = .agg [.fs 5 (List.map b0u h_.Combs), .fs 3 (List.map b0r h_.Trains), .fs 3 (List.map b0v h_.Shifts), I h_.Until] ∧ t 1 = .agg [.fs 1 (List.map eI d.At), .fs 1 (List.map b0s d.People), .fs 1 (List.map b0s d.Walks)]) ⟨rfl, rfl⟩ fun t h ⟨s0, s1⟩ => ?_
 simp only [x_halls_isDay]
 refine b0b fun K hK => ?_
 simp only [go_sem, s0, s1]
 refine hK _ _ ?_
 clear hK K
 refine b05 ?_
 refine b1r (fun t h => t 2 = .fp [.fs 5 (List.map b0u h_.Combs), .fs 3 (List.map b0r h_.Trains), .fs 3 (List.map b0v h_.Shifts), I h_.Until] 0 ∧ t 3 = .fp [.fs 1 (List.map eI d.At), .fs 1 (List.map b0s d.People), .fs 1 (List.map b0s d.Walks)] 0 ∧ t 36 = B (((decide (¬(List.length d.At : Int) = (List.length h_.Trains : Int))) || (decide (¬(List.length d.People : Int) = (List.length h_.Trains : Int)))) || (decide (¬(List.length d.Walks : Int) = (List.length h_.Combs : Int))))) (fun K hK => ?_) ?_
 ·simp only [go_sem]
  refine b0k (fun hg1 => ?_) (fun hg1 => ?_)
  ·simp only [go_sem, hg1]
   exact hK _ _ ⟨(by first | (simp only [go_sem, hg1, lA9, mA9]; done) | rfl), (by first | (simp only [go_sem, hg1, lA9, mA9]; done) | rfl), (by first | (simp only [go_sem, hg1, lA9, mA9]; done) | rfl)⟩
  ·simp only [go_sem, hg1]
   refine b0k (fun hg2 => ?_) (fun hg2 => ?_)
   ·simp only [go_sem, hg1, hg2]
    exact hK _ _ ⟨(by first | (simp only [go_sem, hg1, hg2, lA9, mA9]; done) | rfl), (by first | (simp only [go_sem, hg1, hg2, lA9, mA9]; done) | rfl), (by first | (simp only [go_sem, hg1, hg2, lA9, mA9]; done) | rfl)⟩
   ·simp only [go_sem, hg1, hg2]
    exact hK _ _ ⟨(by first | (simp only [go_sem, hg1, hg2, lA9, mA9]; done) | rfl), (by first | (simp only [go_sem, hg1, hg2, lA9, mA9]; done) | rfl), (by first | (simp only [go_sem, hg1, hg2, lA9, mA9]; done) | rfl)⟩
 ·rintro t h ⟨s2, s3, s36⟩
  refine b0o fun K3 hK3 => ?_
  simp only [go_sem, s36]
  refine b0k (fun hc4 => ?_) (fun hc4 => ?_)
  ·rw [b00 hc4] at hm0
   refine b0b fun K hK => ?_
   simp only [go_sem]
   refine hK _ _ ?_
   clear hK K
   simp only [b01, b03, b02, b04]
   obtain rfl := sI9 hm0
   exact b1e (by simp only [go_sem, lA9, mA9]) (b0g _)
  ·rw [b0z hc4] at hm0
   simp only [b0y, b0i, b0j]
   refine hK3 _ _ ?_
   refine b05 ?_
   refine b0b fun K hK => ?_
   simp only [go_sem, s2]
   refine hK _ _ ?_
   clear hK K
   refine b0o fun K5 hK5 => ?_
   have J6 : ∀ (t : Slots) (h : Heap), t 2 = .fp [.fs 5 (List.map b0u h_.Combs), .fs 3 (List.map b0r h_.Trains), .fs 3 (List.map b0v h_.Shifts), I h_.Until] 0 → t 3 = .fp [.fs 1 (List.map eI d.At), .fs 1 (List.map b0s d.People), .fs 1 (List.map b0s d.Walks)] 0 → c5l h_ d = some r → K5 t h := by
    intro t h s2 s3 hm0
    refine hK5 _ _ ?_
    unfold c5l at hm0
    refine b05 ?_
    refine b0b fun K hK => ?_
    simp only [go_sem, s2]
    refine hK _ _ ?_
    clear hK K
    refine b0o fun K7 hK7 => ?_
    have J8 : ∀ (t : Slots) (h : Heap), c9r = some r → K7 t h := by
     intro t h hm0
     refine hK7 _ _ ?_
     unfold c9r at hm0
     refine b0b fun K hK => ?_
     simp only [go_sem]
     refine hK _ _ ?_
     clear hK K
     simp only [b01, b03, b02, b04]
     obtain rfl := sI9 hm0
     exact b1e (by simp only [go_sem, lA9, mA9]) (b0g _)
    simp only [b1c]
    obtain ⟨b9, hl9, hm0⟩ := b0h hm0
    refine b1z hl9 (fun | x_91, t, h => t 3 = .fp [.fs 1 (List.map eI d.At), .fs 1 (List.map b0s d.People), .fs 1 (List.map b0s d.Walks)] 0 ∧ t 89 = .fs 5 (List.map b0u h_.Combs) ∧ t 90 = I (List.length h_.Combs : Int) ∧ t 91 = I x_91) ?_ ?_
    ·exact ⟨s3, (by first | (simp only [go_sem, lA9, mA9]; done) | rfl), (by first | (simp only [go_sem, lA9, mA9]; done) | rfl), (by first | (simp only [go_sem, lA9, mA9]; done) | rfl)⟩
    ·rintro x_91 o t h ⟨s3, s89, s90, s91⟩ hm1 hb9
     simp only [c0a] at hm1
     rw [g0i]
     refine b0b fun K hK => ?_
     simp only [go_sem, s90, s91]
     refine hK _ _ ?_
     clear hK K
     refine b0o fun K10 hK10 => ?_
     simp only [go_sem]
     refine b0k (fun hc11 => ?_) (fun hc11 => ?_)
     ·rw [b00 hc11] at hm1
      simp only [b0y, b0i, b0j]
      refine hK10 _ _ ?_
      refine b0o fun K12 hK12 => ?_
      simp only [b1c]
      obtain ⟨x14, h_x14, hm1⟩ := b0h hm1
      have h_x140 := b06 h_x14
      have h_x141 := b08 h_x14
      refine b0b fun K hK => ?_
      simp only [go_sem, s89, s91, b0p h_x14, b0q h_x14, h_x140, h_x141]
      refine hK _ _ ?_
      clear hK K
      refine b0b fun K hK => ?_
      simp only [go_sem]
      refine hK _ _ ?_
      clear hK K
      obtain ⟨x19, h_x19, hm1⟩ := b0h hm1
      have h_x190 := b06 h_x19
      have h_x191 := b08 h_x19
      obtain ⟨c22, h_c22, hm1⟩ := b0h hm1
      refine b1r (fun t h => t 3 = .fp [.fs 1 (List.map eI d.At), .fs 1 (List.map b0s d.People), .fs 1 (List.map b0s d.Walks)] 0 ∧ t 89 = .fs 5 (List.map b0u h_.Combs) ∧ t 90 = I (List.length h_.Combs : Int) ∧ t 91 = I x_91 ∧ t 121 = B c22) (fun K hK => ?_) ?_
      ·simp only [go_sem, s3, b0p h_x19, b0q h_x19, h_x190, h_x191]
       refine b0k (fun hg23 => ?_) (fun hg23 => ?_)
       ·simp only [hg23, Bool.not_true, Bool.not_false, eq_self, if_true, if_false, Bool.true_or, Bool.or_true, Bool.false_or, Bool.or_false, Bool.true_and, Bool.and_true, Bool.false_and, Bool.and_false, Bool.false_eq_true] at h_c22
        obtain rfl := sI9 h_c22
        simp only [go_sem, s3, b0p h_x19, b0q h_x19, h_x190, h_x191, hg23]
        exact hK _ _ ⟨s3, s89, s90, s91, (by first | (simp only [go_sem, hg23, lA9, mA9]; done) | rfl)⟩
       ·simp only [go_sem, s3, b0p h_x19, b0q h_x19, h_x190, h_x191, hg23]
        refine b0k (fun hg24 => ?_) (fun hg24 => ?_)
        ·simp only [hg23, hg24, Bool.not_true, Bool.not_false, eq_self, if_true, if_false, Bool.true_or, Bool.or_true, Bool.false_or, Bool.or_false, Bool.true_and, Bool.and_true, Bool.false_and, Bool.and_false, Bool.false_eq_true] at h_c22
         obtain rfl := sI9 h_c22
         simp only [go_sem, s3, b0p h_x19, b0q h_x19, h_x190, h_x191, hg23, hg24]
         exact hK _ _ ⟨s3, s89, s90, s91, (by first | (simp only [go_sem, hg23, hg24, lA9, mA9]; done) | rfl)⟩
        ·simp only [hg23, hg24, Bool.not_true, Bool.not_false, eq_self, if_true, if_false, Bool.true_or, Bool.or_true, Bool.false_or, Bool.or_false, Bool.true_and, Bool.and_true, Bool.false_and, Bool.and_false, Bool.false_eq_true] at h_c22
         obtain ⟨y21, h_y21, h_c22⟩ := b0h h_c22
         obtain rfl := sI9 h_c22
         simp only [go_sem, s3, b0p h_x19, b0q h_x19, h_x190, h_x191, hg23, hg24]
         refine d5x ?_ (c2w x19 "newel/halls.isDay$1" [] [.fp [I x14.Rate, I x14.Limit, I x14.Next, I x14.Walk.Low, I x14.Walk.High] 0] (fun z20 => some (b6l z20 x14)) (.fn _ _ _ b0x (b0e (.fp _ _ (b0e (b0g _) (b0e (b0g _) (b0e (b0g _) (b0e (b0g _) (b0e (b0g _) b0x)))))) b0x)) (fun z0 y hz => by cases hz; exact d0h z0 x14) _ h_y21) (.v _) ?_
         ·exact .cons (.refl _ (b0w fun a _ => b2n a)) (.cons (g6o (.nil) (.cons (d4r (id := h.nx) (sz := 5) (xs := [I x14.Rate, I x14.Limit, I x14.Next, I x14.Walk.Low, I x14.Walk.High]) (by simp only [go_sem]) (.cons (.refl _ (b0g _)) (.cons (.refl _ (b0g _)) (.cons (.refl _ (b0g _)) (.cons (.refl _ (b0g _)) (.cons (.refl _ (b0g _)) (.nil))))))) (.nil))) (.nil))
         simp only [go_sem, s3, b0p h_x19, b0q h_x19, h_x190, h_x191, hg23, hg24]
         exact hK _ _ ⟨s3, s89, s90, s91, (by first | (simp only [go_sem, hg23, hg24, lA9, mA9]; done) | rfl)⟩
      ·rintro t h ⟨s3, s89, s90, s91, s121⟩
       simp only [go_sem, s121]
       refine b0k (fun hc25 => ?_) (fun hc25 => ?_)
       ·rw [b00 hc25] at hm1
        refine b0b fun K hK => ?_
        simp only [go_sem]
        refine hK _ _ ?_
        clear hK K
        simp only [b01, b03, b02, b04]
        obtain rfl := sI9 hm1
        obtain rfl := hb9 _ rfl
        try dsimp only at hm0
        obtain rfl := sI9 hm0
        exact b1e (by simp only [go_sem, lA9, mA9]) (b0g _)
       ·rw [b0z hc25] at hm1
        simp only [b0y, b0i, b0j]
        refine hK12 _ _ ?_
        refine b1m fun K hK => ?_
        simp only [go_sem, s91]
        refine hK _ _ ?_
        clear hK K
        simp only [b0i, b0j]
        obtain rfl := sI9 hm1
        refine ⟨_, rfl, ?_⟩
        exact ⟨s3, s89, s90, (by first | (simp only [go_sem, s91, lA9, mA9]; done) | rfl)⟩
     ·rw [b0z hc11] at hm1
      simp only [b1t, b1w, b1v, b1u, b0i, b0j, Nat.reduceEqDiff, nF9]
      obtain rfl := sI9 hm1
      obtain rfl := hb9 _ rfl
      try dsimp only at hm0
      exact J8  _ _  hm0
   simp only [b1c]
   obtain ⟨b27, hl27, hm0⟩ := b0h hm0
   refine b1z hl27 (fun | x_40, t, h => t 2 = .fp [.fs 5 (List.map b0u h_.Combs), .fs 3 (List.map b0r h_.Trains), .fs 3 (List.map b0v h_.Shifts), I h_.Until] 0 ∧ t 3 = .fp [.fs 1 (List.map eI d.At), .fs 1 (List.map b0s d.People), .fs 1 (List.map b0s d.Walks)] 0 ∧ t 38 = .fs 3 (List.map b0r h_.Trains) ∧ t 39 = I (List.length h_.Trains : Int) ∧ t 40 = I x_40) ?_ ?_
   ·exact ⟨s2, s3, (by first | (simp only [go_sem, lA9, mA9]; done) | rfl), (by first | (simp only [go_sem, lA9, mA9]; done) | rfl), (by first | (simp only [go_sem, lA9, mA9]; done) | rfl)⟩
   ·rintro x_40 o t h ⟨s2, s3, s38, s39, s40⟩ hm1 hb27
    simp only [b99] at hm1
    rw [g0h]
    refine b0b fun K hK => ?_
    simp only [go_sem, s39, s40]
    refine hK _ _ ?_
    clear hK K
    refine b0o fun K28 hK28 => ?_
    simp only [go_sem]
    refine b0k (fun hc29 => ?_) (fun hc29 => ?_)
    ·rw [b00 hc29] at hm1
     simp only [b0y, b0i, b0j]
     refine hK28 _ _ ?_
     refine b0o fun K30 hK30 => ?_
     have J31 : ∀ (t : Slots) (h : Heap), t 2 = .fp [.fs 5 (List.map b0u h_.Combs), .fs 3 (List.map b0r h_.Trains), .fs 3 (List.map b0v h_.Shifts), I h_.Until] 0 → t 3 = .fp [.fs 1 (List.map eI d.At), .fs 1 (List.map b0s d.People), .fs 1 (List.map b0s d.Walks)] 0 → t 38 = .fs 3 (List.map b0r h_.Trains) → t 39 = I (List.length h_.Trains : Int) → t 40 = I x_40 → c5k x_40 = some o → K30 t h := by
      intro t h s2 s3 s38 s39 s40 hm1
      refine hK30 _ _ ?_
      unfold c5k at hm1
      refine b1m fun K hK => ?_
      simp only [go_sem, s40]
      refine hK _ _ ?_
      clear hK K
      simp only [b0i, b0j]
      obtain rfl := sI9 hm1
      refine ⟨_, rfl, ?_⟩
      exact ⟨s2, s3, s38, s39, (by first | (simp only [go_sem, s40, lA9, mA9]; done) | rfl)⟩
     simp only [b1c]
     obtain ⟨x33, h_x33, hm1⟩ := b0h hm1
     have h_x330 := b06 h_x33
     have h_x331 := b08 h_x33
     refine b0b fun K hK => ?_
     simp only [go_sem, s38, s40, b0p h_x33, b0q h_x33, h_x330, h_x331]
     refine hK _ _ ?_
     clear hK K
     refine b05 ?_
     obtain ⟨x37, h_x37, hm1⟩ := b0h hm1
     have h_x370 := b06 h_x37
     have h_x371 := b08 h_x37
     obtain ⟨c39, h_c39, hm1⟩ := b0h hm1
     refine b1r (fun t h => ∃ i6 : Nat, t 2 = .fp [.fs 5 (List.map b0u h_.Combs), .fs 3 (List.map b0r h_.Trains), .fs 3 (List.map b0v h_.Shifts), I h_.Until] 0 ∧ t 3 = .fp [.fs 1 (List.map eI d.At), .fs 1 (List.map b0s d.People), .fs 1 (List.map b0s d.Walks)] 0 ∧ t 5 = I x_40 ∧ t 6 = .rp i6 0 0 ∧ t 38 = .fs 3 (List.map b0r h_.Trains) ∧ t 39 = I (List.length h_.Trains : Int) ∧ t 40 = I x_40 ∧ t 65 = B c39 ∧ h.ob i6 = some (3, [[I x33.At.Low, I x33.At.High, .fs 3 (List.map b2m x33.Crowds)]]) ∧ i6 < h.nx) (fun K hK => ?_) ?_
     ·simp only [go_sem, s3, b0p h_x37, b0q h_x37, h_x370, h_x371]
      refine b1g (b5j x37 x33.At) ?_
      simp only [go_sem, s3, b0p h_x37, b0q h_x37, h_x370, h_x371]
      refine b0k (fun hg40 => ?_) (fun hg40 => ?_)
      ·simp only [hg40, Bool.not_true, Bool.not_false, eq_self, if_true, if_false, Bool.true_or, Bool.or_true, Bool.false_or, Bool.or_false, Bool.true_and, Bool.and_true, Bool.false_and, Bool.and_false, Bool.false_eq_true] at h_c39
       obtain rfl := sI9 h_c39
       simp only [go_sem, s3, b0p h_x37, b0q h_x37, h_x370, h_x371, hg40]
       exact hK _ _ ⟨h.nx, s2, s3, (by first | (simp only [go_sem, hg40, lA9, mA9]; done) | rfl), (by first | (simp only [go_sem, hg40, lA9, mA9]; done) | rfl), s38, s39, s40, (by first | (simp only [go_sem, hg40, lA9, mA9]; done) | rfl), (by simp only [go_sem, hg40, lA9, mA9]), (by simp only [go_sem])⟩
      ·simp only [hg40, Bool.not_true, Bool.not_false, eq_self, if_true, if_false, Bool.true_or, Bool.or_true, Bool.false_or, Bool.or_false, Bool.true_and, Bool.and_true, Bool.false_and, Bool.and_false, Bool.false_eq_true] at h_c39
       obtain ⟨x38, h_x38, h_c39⟩ := b0h h_c39
       have h_x380 := b06 h_x38
       have h_x381 := b08 h_x38
       obtain rfl := sI9 h_c39
       simp only [go_sem, s3, b0p h_x37, b0q h_x37, h_x370, h_x371, b0p h_x38, b0q h_x38, h_x380, h_x381, hg40]
       exact hK _ _ ⟨h.nx, s2, s3, (by first | (simp only [go_sem, hg40, lA9, mA9]; done) | rfl), (by first | (simp only [go_sem, hg40, lA9, mA9]; done) | rfl), s38, s39, s40, (by first | (simp only [go_sem, hg40, lA9, mA9]; done) | rfl), (by simp only [go_sem, hg40, lA9, mA9]), (by simp only [go_sem])⟩
     ·rintro t h ⟨i6, s2, s3, s5, s6, s38, s39, s40, s65, Q9, Q4⟩
      refine b0o fun K41 hK41 => ?_
      simp only [go_sem, s65]
      refine b0k (fun hc42 => ?_) (fun hc42 => ?_)
      ·rw [b00 hc42] at hm1
       refine b0b fun K hK => ?_
       simp only [go_sem, Q4]
       refine hK _ _ ?_
       clear hK K
       simp only [b01, b03, b02, b04]
       obtain rfl := sI9 hm1
       obtain rfl := hb27 _ rfl
       try dsimp only at hm0
       obtain rfl := sI9 hm0
       exact b1e (by simp only [go_sem, Q9, Q4, lA9, mA9]) (b0g _)
      ·rw [b0z hc42] at hm1
       simp only [b0y, b0i, b0j]
       refine hK41 _ _ ?_
       refine b0b fun K hK => ?_
       simp only [go_sem, s6, Q9, Q4]
       refine hK _ _ ?_
       clear hK K
       simp only [b1c]
       obtain ⟨b43, hl43, hm1⟩ := b0h hm1
       refine b1z hl43 (fun | x_69, t, h => t 2 = .fp [.fs 5 (List.map b0u h_.Combs), .fs 3 (List.map b0r h_.Trains), .fs 3 (List.map b0v h_.Shifts), I h_.Until] 0 ∧ t 3 = .fp [.fs 1 (List.map eI d.At), .fs 1 (List.map b0s d.People), .fs 1 (List.map b0s d.Walks)] 0 ∧ t 5 = I x_40 ∧ t 38 = .fs 3 (List.map b0r h_.Trains) ∧ t 39 = I (List.length h_.Trains : Int) ∧ t 40 = I x_40 ∧ t 67 = .fs 3 (List.map b2m x33.Crowds) ∧ t 68 = I (List.length x33.Crowds : Int) ∧ t 69 = I x_69) ?_ ?_
       ·exact ⟨s2, s3, s5, s38, s39, s40, (by first | (simp only [go_sem, lA9, mA9]; done) | rfl), (by first | (simp only [go_sem, lA9, mA9]; done) | rfl), (by first | (simp only [go_sem, lA9, mA9]; done) | rfl)⟩
       ·try clear s2 s3 s5 s6 s38 s39 s40 s65 Q9 Q4
        rintro x_69 o t h ⟨s2, s3, s5, s38, s39, s40, s67, s68, s69⟩ hm2 hb43
        simp only [b7a] at hm2
        rw [g0g]
        refine b0b fun K hK => ?_
        simp only [go_sem, s68, s69]
        refine hK _ _ ?_
        clear hK K
        refine b0o fun K44 hK44 => ?_
        simp only [go_sem]
        refine b0k (fun hc45 => ?_) (fun hc45 => ?_)
        ·rw [b00 hc45] at hm2
         simp only [b0y, b0i, b0j]
         refine hK44 _ _ ?_
         refine b0o fun K46 hK46 => ?_
         simp only [b1c]
         obtain ⟨x48, h_x48, hm2⟩ := b0h hm2
         have h_x480 := b06 h_x48
         have h_x481 := b08 h_x48
         refine b0b fun K hK => ?_
         simp only [go_sem, s67, s69, b0p h_x48, b0q h_x48, h_x480, h_x481]
         refine hK _ _ ?_
         clear hK K
         obtain ⟨x51, h_x51, hm2⟩ := b0h hm2
         have h_x510 := b06 h_x51
         have h_x511 := b08 h_x51
         obtain ⟨x52, h_x52, hm2⟩ := b0h hm2
         have h_x520 := b06 h_x52
         have h_x521 := b08 h_x52
         refine b0b fun K hK => ?_
         simp only [go_sem, s3, s5, b0p h_x51, b0q h_x51, h_x510, h_x511, b0p h_x52, b0q h_x52, h_x520, h_x521]
         refine b1g (b5j x52 x48.People) ?_
         simp only [go_sem, s3, s5, b0p h_x51, b0q h_x51, h_x510, h_x511, b0p h_x52, b0q h_x52, h_x520, h_x521]
         refine hK _ _ ?_
         clear hK K
         simp only [go_sem]
         refine b0k (fun hc53 => ?_) (fun hc53 => ?_)
         ·rw [b00 hc53] at hm2
          refine b0b fun K hK => ?_
          simp only [go_sem]
          refine hK _ _ ?_
          clear hK K
          simp only [b01, b03, b02, b04]
          obtain rfl := sI9 hm2
          obtain rfl := hb43 _ rfl
          try dsimp only at hm1
          obtain rfl := sI9 hm1
          obtain rfl := hb27 _ rfl
          try dsimp only at hm0
          obtain rfl := sI9 hm0
          exact b1e (by simp only [go_sem, lA9, mA9]) (b0g _)
         ·rw [b0z hc53] at hm2
          simp only [b0y, b0i, b0j]
          refine hK46 _ _ ?_
          refine b1m fun K hK => ?_
          simp only [go_sem, s69]
          refine hK _ _ ?_
          clear hK K
          simp only [b0i, b0j]
          obtain rfl := sI9 hm2
          refine ⟨_, rfl, ?_⟩
          exact ⟨s2, s3, s5, s38, s39, s40, s67, s68, (by first | (simp only [go_sem, s69, lA9, mA9]; done) | rfl)⟩
        ·rw [b0z hc45] at hm2
         simp only [b1t, b1w, b1v, b1u, b0i, b0j, Nat.reduceEqDiff, nF9]
         obtain rfl := sI9 hm2
         obtain rfl := hb43 _ rfl
         try dsimp only at hm1
         exact J31  _ _ s2 s3 s38 s39 s40 hm1
    ·rw [b0z hc29] at hm1
     simp only [b1t, b1w, b1v, b1u, b0i, b0j, Nat.reduceEqDiff, nF9]
     obtain rfl := sI9 hm1
     obtain rfl := hb27 _ rfl
     try dsimp only at hm0
     exact J6  _ _ s2 s3 hm0
theorem d0h (hf : Has O "newel/halls.isDay$1" x_halls_isDayD1) (b5j : b83 O) : c70 O := by
 intro n c0
 generalize hm0 : b6l n c0 = r
 unfold b6l at hm0
 refine b10 hf rfl (b0e (b0g _) (b0e (.fp _ _ (b0e (b0g _) (b0e (b0g _) (b0e (b0g _) (b0e (b0g _) (b0e (b0g _) b0x)))))) b0x)) (b0g _) ?_
 refine b1s (fun t h => t 0 = I n ∧ t 1 = .fp [I c0.Rate, I c0.Limit, I c0.Next, I c0.Walk.Low, I c0.Walk.High] 0) ⟨rfl, rfl⟩ fun t h ⟨s0, s1⟩ => ?_
 simp only [x_halls_isDayD1]
 refine b0b fun K hK => ?_
 simp only [go_sem]
 refine hK _ _ ?_
 clear hK K
 refine b0b fun K hK => ?_
 simp only [go_sem, s0, s1]
 refine b1g (b5j n c0.Walk) ?_
 simp only [go_sem, s0, s1]
 refine hK _ _ ?_
 clear hK K
 simp only [b01, b03, b02, b04]
 obtain rfl := hm0
 exact b1e (by simp only [go_sem, lA9, mA9]) (b0g _)
theorem d0i (hf : Has O "newel/halls.isTrain" x_halls_isTrain) (b8l : c35 O) : c71 O := by
 intro h_ t_ r hm0
 unfold c2k at hm0
 refine b10 hf rfl (b0e (.agg _ (b0e (b0w fun a _ => b3h a) (b0e (b0w fun a _ => b3b a) (b0e (b0w fun a _ => b3i a) (b0e (b0g _) b0x))))) (b0e (.agg _ (b0e (b0g _) (b0e (b0g _) (b0e (b0w fun a _ => c9k a) b0x)))) b0x)) (b0g _) ?_
 refine b1s (fun t h => t 0 = .agg [.fs 5 (List.map b0u h_.Combs), .fs 3 (List.map b0r h_.Trains), .fs 3 (List.map b0v h_.Shifts), I h_.Until] ∧ t 1 = .agg [I t_.At.Low, I t_.At.High, .fs 3 (List.map b2m t_.Crowds)]) ⟨rfl, rfl⟩ fun t h ⟨s0, s1⟩ => ?_
 simp only [x_halls_isTrain]
 refine b0b fun K hK => ?_
 simp only [go_sem, s0, s1]
 refine hK _ _ ?_
 clear hK K
 refine b0b fun K hK => ?_
 simp only [go_sem]
 refine hK _ _ ?_
 clear hK K
 refine b05 ?_
 refine b0b fun K hK => ?_
 simp only [go_sem]
 refine hK _ _ ?_
 clear hK K
 refine b0o fun K1 hK1 => ?_
 have J2 : ∀ (t : Slots) (h : Heap), t 2 = .fp [.fs 5 (List.map b0u h_.Combs), .fs 3 (List.map b0r h_.Trains), .fs 3 (List.map b0v h_.Shifts), I h_.Until] 0 → t 3 = .fp [I t_.At.Low, I t_.At.High, .fs 3 (List.map b2m t_.Crowds)] 0 → c5m h_ t_ = some r → K1 t h := by
  intro t h s2 s3 hm0
  refine hK1 _ _ ?_
  unfold c5m at hm0
  refine b1r (fun t h => t 4 = B ((b42 t_.At 0 (wr (h_.Until - 1))) && (decide ((List.length t_.Crowds : Int) ≤ 4)))) (fun K hK => ?_) ?_
  ·simp only [go_sem, s2, s3]
   refine b1g (b8l t_.At 0 (wr (h_.Until - 1))) ?_
   simp only [go_sem, s2, s3]
   refine b0k (fun hg3 => ?_) (fun hg3 => ?_)
   ·simp only [go_sem, s2, s3, hg3]
    exact hK _ _ (by first | (simp only [go_sem, hg3, lA9, mA9]; done) | rfl)
   ·simp only [go_sem, s2, s3, hg3]
    exact hK _ _ (by first | (simp only [go_sem, hg3, lA9, mA9]; done) | rfl)
  ·rintro t h s4
   simp only [b01, b03, b02, b04]
   obtain rfl := sI9 hm0
   exact b1e (by simp only [go_sem, s4, lA9, mA9]) (b0g _)
 simp only [b1c]
 obtain ⟨b4, hl4, hm0⟩ := b0h hm0
 refine b1z hl4 (fun | (last_5, x_11), t, h => t 2 = .fp [.fs 5 (List.map b0u h_.Combs), .fs 3 (List.map b0r h_.Trains), .fs 3 (List.map b0v h_.Shifts), I h_.Until] 0 ∧ t 3 = .fp [I t_.At.Low, I t_.At.High, .fs 3 (List.map b2m t_.Crowds)] 0 ∧ t 5 = I last_5 ∧ t 9 = .fs 3 (List.map b2m t_.Crowds) ∧ t 10 = I (List.length t_.Crowds : Int) ∧ t 11 = I x_11) ?_ ?_
 ·exact ⟨(by first | (simp only [go_sem, lA9, mA9]; done) | rfl), (by first | (simp only [go_sem, lA9, mA9]; done) | rfl), (by first | (simp only [go_sem, lA9, mA9]; done) | rfl), (by first | (simp only [go_sem, lA9, mA9]; done) | rfl), (by first | (simp only [go_sem, lA9, mA9]; done) | rfl), (by first | (simp only [go_sem, lA9, mA9]; done) | rfl)⟩
 ·rintro ⟨last_5, x_11⟩ o t h ⟨s2, s3, s5, s9, s10, s11⟩ hm1 hb4
  simp only [b7b] at hm1
  rw [g0j]
  refine b0b fun K hK => ?_
  simp only [go_sem, s10, s11]
  refine hK _ _ ?_
  clear hK K
  refine b0o fun K5 hK5 => ?_
  simp only [go_sem]
  refine b0k (fun hc6 => ?_) (fun hc6 => ?_)
  ·rw [b00 hc6] at hm1
   simp only [b0y, b0i, b0j]
   refine hK5 _ _ ?_
   refine b0o fun K7 hK7 => ?_
   simp only [b1c]
   obtain ⟨x9, h_x9, hm1⟩ := b0h hm1
   have h_x90 := b06 h_x9
   have h_x91 := b08 h_x9
   refine b0b fun K hK => ?_
   simp only [go_sem, s9, s11, b0p h_x9, b0q h_x9, h_x90, h_x91]
   refine hK _ _ ?_
   clear hK K
   refine b05 ?_
   refine b1r (fun t h => ∃ i7 : Nat, t 2 = .fp [.fs 5 (List.map b0u h_.Combs), .fs 3 (List.map b0r h_.Trains), .fs 3 (List.map b0v h_.Shifts), I h_.Until] 0 ∧ t 3 = .fp [I t_.At.Low, I t_.At.High, .fs 3 (List.map b2m t_.Crowds)] 0 ∧ t 7 = .rp i7 0 0 ∧ t 9 = .fs 3 (List.map b2m t_.Crowds) ∧ t 10 = I (List.length t_.Crowds : Int) ∧ t 11 = I x_11 ∧ t 32 = B (((decide (x9.Comb ≤ last_5)) || (decide ((List.length h_.Combs : Int) ≤ x9.Comb))) || (!(b42 x9.People 0 1000))) ∧ h.ob i7 = some (3, [[I x9.Comb, I x9.People.Low, I x9.People.High]]) ∧ i7 < h.nx) (fun K hK => ?_) ?_
   ·simp only [go_sem, s2, s5]
    refine b0k (fun hg10 => ?_) (fun hg10 => ?_)
    ·simp only [go_sem, s2, s5, hg10]
     exact hK _ _ ⟨h.nx, s2, s3, (by first | (simp only [go_sem, hg10, lA9, mA9]; done) | rfl), s9, s10, s11, (by first | (simp only [go_sem, hg10, lA9, mA9]; done) | rfl), (by simp only [go_sem, hg10, lA9, mA9]), (by simp only [go_sem])⟩
    ·simp only [go_sem, s2, s5, hg10]
     refine b0k (fun hg11 => ?_) (fun hg11 => ?_)
     ·simp only [go_sem, s2, s5, hg10, hg11]
      exact hK _ _ ⟨h.nx, s2, s3, (by first | (simp only [go_sem, hg10, hg11, lA9, mA9]; done) | rfl), s9, s10, s11, (by first | (simp only [go_sem, hg10, hg11, lA9, mA9]; done) | rfl), (by simp only [go_sem, hg10, hg11, lA9, mA9]), (by simp only [go_sem])⟩
     ·simp only [go_sem, s2, s5, hg10, hg11]
      refine b1g (b8l x9.People 0 1000) ?_
      simp only [go_sem, s2, s5, hg10, hg11]
      exact hK _ _ ⟨h.nx, s2, s3, (by first | (simp only [go_sem, hg10, hg11, lA9, mA9]; done) | rfl), s9, s10, s11, (by first | (simp only [go_sem, hg10, hg11, lA9, mA9]; done) | rfl), (by simp only [go_sem, hg10, hg11, lA9, mA9]), (by simp only [go_sem])⟩
   ·rintro t h ⟨i7, s2, s3, s7, s9, s10, s11, s32, Qa, Q5⟩
    refine b0o fun K12 hK12 => ?_
    simp only [go_sem, s32]
    refine b0k (fun hc13 => ?_) (fun hc13 => ?_)
    ·rw [b00 hc13] at hm1
     refine b0b fun K hK => ?_
     simp only [go_sem, Q5]
     refine hK _ _ ?_
     clear hK K
     simp only [b01, b03, b02, b04]
     obtain rfl := sI9 hm1
     obtain rfl := hb4 _ rfl
     try dsimp only at hm0
     obtain rfl := sI9 hm0
     exact b1e (by simp only [go_sem, Qa, Q5, lA9, mA9]) (b0g _)
    ·rw [b0z hc13] at hm1
     simp only [b0y, b0i, b0j]
     refine hK12 _ _ ?_
     refine b1m fun K hK => ?_
     simp only [go_sem, s7, Qa, Q5]
     refine hK _ _ ?_
     clear hK K
     simp only [b0i, b0j]
     refine hK7 _ _ ?_
     refine b1m fun K hK => ?_
     simp only [go_sem, s11, Q5]
     refine hK _ _ ?_
     clear hK K
     simp only [b0i, b0j]
     obtain rfl := sI9 hm1
     refine ⟨_, rfl, ?_⟩
     exact ⟨s2, s3, (by first | (simp only [go_sem, lA9, mA9]; done) | rfl), s9, s10, (by first | (simp only [go_sem, s11, lA9, mA9]; done) | rfl)⟩
  ·rw [b0z hc6] at hm1
   simp only [b1t, b1w, b1v, b1u, b0i, b0j, Nat.reduceEqDiff, nF9]
   obtain rfl := sI9 hm1
   obtain rfl := hb4 _ rfl
   try dsimp only at hm0
   exact J2  _ _ s2 s3 hm0
theorem d0j (hf : Has O "newel/halls.open" x_halls_open) (c2u : c33 O) : c72 O := by
 intro h_ h0 r hm0
 unfold b7c at hm0
 refine d4x hf rfl ?_
 refine b1s (fun t h => t 0 = .agg [.fs 5 (List.map b0u h_.Combs), .fs 3 (List.map b0r h_.Trains), .fs 3 (List.map b0v h_.Shifts), I h_.Until] ∧ (∀ j, j < h0.nx → h.ob j = h0.ob j) ∧ h0.nx ≤ h.nx) ⟨rfl, fun _ _ => rfl, Nat.le_refl _⟩ fun t h ⟨s0, fr, fx⟩ => ?_
 simp only [x_halls_open]
 refine b0b fun K hK => ?_
 simp only [go_sem, s0]
 refine hK _ _ ?_
 clear hK K
 refine b05 ?_
 refine b0b fun K hK => ?_
 simp only [go_sem]
 refine hK _ _ ?_
 clear hK K
 refine b0o fun K1 hK1 => ?_
 have J2 : ∀ (out_2 : List (List Int)) (v2 : AV) (hs2 : List AV) (t : Slots) (h : Heap), t 2 = v2 → RR h v2 hs2 1 eI out_2 → (∀ j, j < h0.nx → h.ob j = h0.ob j) → h0.nx ≤ h.nx → (∀ j, ¬b0n v2 hs2 j → h0.nx ≤ j) → c9s out_2 = some r → K1 t h := by
  intro out_2 v2 hs2 t h s2 Q8 fr fx Qi hm0
  refine hK1 _ _ ?_
  unfold c9s at hm0
  refine b0b fun K hK => ?_
  simp only [go_sem, s2, b3e Q8, b0a v2]
  refine hK _ _ ?_
  clear hK K
  simp only [b01, b03, b02, b04]
  obtain rfl := sI9 hm0
  exact d8w (Post := fun v h => ∃ hs, RR h v hs 1 eI out_2 ∧ (∀ j, j < h0.nx → h.ob j = h0.ob j) ∧ h0.nx ≤ h.nx ∧ ∀ j, ¬b0n v hs j → h0.nx ≤ j) (v := v2) (by simp only [go_sem, s2, b2e Q8, lA9, mA9]) ⟨hs2, Q8, fr, fx, Qi⟩
 simp only [b1c]
 obtain ⟨b3, hl3, hm0⟩ := b0h hm0
 refine b1z hl3 (fun | (out_2, x_7), t, h => ∃ v2 : AV, ∃ hs2 : List AV, t 1 = .fp [.fs 5 (List.map b0u h_.Combs), .fs 3 (List.map b0r h_.Trains), .fs 3 (List.map b0v h_.Shifts), I h_.Until] 0 ∧ t 2 = v2 ∧ t 6 = I (List.length h_.Combs : Int) ∧ t 7 = I x_7 ∧ RR h v2 hs2 1 eI out_2 ∧ (∀ j, j < h0.nx → h.ob j = h0.ob j) ∧ h0.nx ≤ h.nx ∧ (∀ j, ¬b0n v2 hs2 j → h0.nx ≤ j)) ?_ ?_
 ·exact ⟨nilS, [], (by first | (simp only [go_sem, lA9, mA9]; done) | rfl), (by first | (simp only [go_sem, lA9, mA9]; done) | rfl), (by first | (simp only [go_sem, lA9, mA9]; done) | rfl), (by first | (simp only [go_sem, lA9, mA9]; done) | rfl), d80, fr, fx, (fun _ hj => absurd j79 hj)⟩
 ·rintro ⟨out_2, x_7⟩ o t h ⟨v2, hs2, s1, s2, s6, s7, Q8, fr, fx, Qi⟩ hm1 hb3
  simp only [c2l] at hm1
  rw [g0k]
  refine b0b fun K hK => ?_
  simp only [go_sem, s6, s7, b0a v2]
  refine hK _ _ ?_
  clear hK K
  refine b0o fun K4 hK4 => ?_
  simp only [go_sem]
  refine b0k (fun hc5 => ?_) (fun hc5 => ?_)
  ·rw [b00 hc5] at hm1
   simp only [b0y, b0i, b0j]
   refine hK4 _ _ ?_
   refine b0o fun K6 hK6 => ?_
   simp only [b1c]
   refine b0b fun K hK => ?_
   simp only [go_sem, s7, b0a v2]
   refine hK _ _ ?_
   clear hK K
   obtain ⟨y9, h_y9, hm1⟩ := b0h hm1
   obtain ⟨l10, h_l10, hm1⟩ := b0h hm1
   refine b1r (fun t h => ∃ v2_1 : AV, ∃ hs2_1 : List AV, t 1 = .fp [.fs 5 (List.map b0u h_.Combs), .fs 3 (List.map b0r h_.Trains), .fs 3 (List.map b0v h_.Shifts), I h_.Until] 0 ∧ t 2 = v2_1 ∧ t 6 = I (List.length h_.Combs : Int) ∧ t 7 = I x_7 ∧ RR h v2_1 hs2_1 1 eI l10 ∧ (∀ j, j < h0.nx → h.ob j = h0.ob j) ∧ h0.nx ≤ h.nx ∧ (∀ j, ¬b0n v2_1 hs2_1 j → h0.nx ≤ j)) (fun K hK => ?_) ?_
   ·simp only [go_sem, s1, s2, b3e Q8, b0a v2]
    refine d5y (e := eI) (l := y9) ?_ (c2u h_ x_7 _ h_y9) ?_
    ·exact .cons (.refl _ (.agg _ (b0e (b0w fun a _ => b3h a) (b0e (b0w fun a _ => b3b a) (b0e (b0w fun a _ => b3i a) (b0e (b0g _) b0x)))))) (.cons (.refl _ (b0g _)) (.nil))
    simp only [go_sem, s1, s2, b3e Q8, b0a v2]
    refine d42 (f := eI) (sz := 1) (rows := out_2) (hs := hs2) (u := .rs h.nx 0 (List.length y9)) ?_ ?_ ?_ h_l10 ?_
    ·exact (b3d Q8 (by intro j hj  hl; first | rfl | simp only [go_sem, hl]) (by first | omega | exact Nat.le_refl _ | (simp only [go_sem, nxs] <;> omega)))
    ·exact (by simp only [go_sem, b2e Q8, lA9, mA9])
    ·exact (b3z Q8 (by first | assumption | omega | (simp only [nxs] <;> omega)))
    simp only [go_sem, s1, s2, b3e Q8, b0a v2]
    exact hK _ _ ⟨(.rs (nxs (nxs h.nx)) 0 (List.length l10)), (hs2 ++ [.rs h.nx 0 (List.length y9)]), s1, (by first | (simp only [go_sem, s2, lA9, mA9]; done) | rfl), s6, s7, (d8z (h := h) Q8 h_l10 (by simp only [go_sem, b2e Q8, lA9, mA9]) rfl (by simp only [go_sem]) (b4f (by simp only [go_sem, b2e Q8, lA9, mA9]) (by simp only [go_sem, b2e Q8, lA9, mA9]) (by simp only [go_sem])) (b9m (by first | assumption | exact b3z Q8 (by first | omega | (simp only [nxs] <;> omega)))) (by first | omega | exact Nat.le_refl _ | (simp only [go_sem, nxs] <;> omega)) (by first | exact b2i | exact b2j (by first | assumption | omega | (simp only [nxs] <;> omega))) (by intro j hj h2 hl; first | rfl | simp only [go_sem, h2, hl]) (by first | omega | exact Nat.le_refl _ | (simp only [go_sem, nxs] <;> omega))), (by intro j hj; first | exact fr j hj | (refine Eq.trans ?_ (fr j hj); first | rfl | simp only [go_sem, Nat.lt_of_lt_of_le hj fx, b1f (g67 Qi hj)])), (by first | exact fx | omega | (simp only [go_sem, nxs] <;> omega)), (g66 Qi (by first | assumption | omega | (simp only [nxs] <;> omega)) (c41 (by first | assumption | omega | (simp only [nxs] <;> omega))))⟩
   ·rintro t h ⟨v2_1, hs2_1, s1, s2, s6, s7, Q8, fr, fx, Qi⟩
    refine g4x ?_
    refine g4v ?_
    simp only [b0y, b0i, b0j]
    refine hK6 _ _ ?_
    refine b1m fun K hK => ?_
    simp only [go_sem, s7, b0a v2, b0a v2_1]
    refine hK _ _ ?_
    clear hK K
    simp only [b0i, b0j]
    obtain rfl := sI9 hm1
    refine ⟨_, rfl, ?_⟩
    exact ⟨v2_1, hs2_1, s1, s2, s6, (by first | (simp only [go_sem, s7, lA9, mA9]; done) | rfl), (b3d Q8 (by intro j hj  hl; first | rfl | simp only [go_sem, hl]) (by first | omega | exact Nat.le_refl _ | (simp only [go_sem, nxs] <;> omega))), (by intro j hj; first | exact fr j hj | (refine Eq.trans ?_ (fr j hj); first | rfl | simp only [go_sem, Nat.lt_of_lt_of_le hj fx])), (by first | exact fx | omega | (simp only [go_sem, nxs] <;> omega)), Qi⟩
  ·rw [b0z hc5] at hm1
   simp only [b1t, b1w, b1v, b1u, b0i, b0j, Nat.reduceEqDiff, nF9]
   obtain rfl := sI9 hm1
   obtain rfl := hb3 _ rfl
   try dsimp only at hm0
   exact J2 out_2 v2 hs2 _ _ s2 Q8 fr fx Qi hm0
theorem c2u (hf : Has O "newel/halls.rates" x_halls_rates) : c33 O := by
 intro h_ comb r hm0
 unfold c0b at hm0
 refine g6g hf rfl (b0e (.agg _ (b0e (b0w fun a _ => b3h a) (b0e (b0w fun a _ => b3b a) (b0e (b0w fun a _ => b3i a) (b0e (b0g _) b0x))))) (b0e (b0g _) b0x)) (by first | exact d8m | exact d8l) ?_
 refine b1s (fun t h => t 0 = .agg [.fs 5 (List.map b0u h_.Combs), .fs 3 (List.map b0r h_.Trains), .fs 3 (List.map b0v h_.Shifts), I h_.Until] ∧ t 1 = I comb) ⟨rfl, rfl⟩ fun t h ⟨s0, s1⟩ => ?_
 simp only [x_halls_rates]
 refine b0b fun K hK => ?_
 simp only [go_sem, s0]
 refine hK _ _ ?_
 clear hK K
 obtain ⟨l2, h_l2, hm0⟩ := b0h hm0
 refine b0b fun K hK => ?_
 simp only [go_sem]
 refine c5y (f := eI) (z := 0) rfl h_l2 ?_
 simp only [go_sem]
 refine hK _ _ ?_
 clear hK K
 obtain ⟨x4, h_x4, hm0⟩ := b0h hm0
 have h_x40 := b06 h_x4
 have h_x41 := b08 h_x4
 refine b0b fun K hK => ?_
 simp only [go_sem, s1, b0p h_x4, b0q h_x4, h_x40, h_x41]
 refine hK _ _ ?_
 clear hK K
 refine b05 ?_
 refine b0b fun K hK => ?_
 simp only [go_sem]
 refine hK _ _ ?_
 clear hK K
 refine b0o fun K5 hK5 => ?_
 have J6 : ∀ (out_5 : List Int) (i5 : Nat) (t : Slots) (h : Heap), t 5 = .rs i5 0 (List.length out_5) → h.ob i5 = some (1, List.map eI out_5) → i5 < h.nx → c9t out_5 = some r → K5 t h := by
  intro out_5 i5 t h s5 Q3 Q2 hm0
  refine hK5 _ _ ?_
  unfold c9t at hm0
  refine b0b fun K hK => ?_
  simp only [go_sem, s5, Q3, Q2]
  refine hK _ _ ?_
  clear hK K
  simp only [b01, b03, b02, b04]
  obtain rfl := sI9 hm0
  exact g47 (id := i5) (by simp only [go_sem, lA9, mA9]) (by simp only [go_sem, Q3, Q2, lA9, mA9]) (by first | exact d8m | exact d8l)
 simp only [b1c]
 obtain ⟨b7, hl7, hm0⟩ := b0h hm0
 refine b1z hl7 (fun | (out_5, now_6, at_7, x_20), t, h => ∃ i5 : Nat, t 1 = I comb ∧ t 2 = .fp [.fs 5 (List.map b0u h_.Combs), .fs 3 (List.map b0r h_.Trains), .fs 3 (List.map b0v h_.Shifts), I h_.Until] 0 ∧ t 5 = .rs i5 0 (List.length out_5) ∧ t 6 = I now_6 ∧ t 7 = I at_7 ∧ t 19 = I ((List.length l2 : Nat) : Int) ∧ t 20 = I x_20 ∧ h.ob i5 = some (1, List.map eI out_5) ∧ i5 < h.nx) ?_ ?_
 ·exact ⟨h.nx, s1, (by first | (simp only [go_sem, lA9, mA9]; done) | rfl), (by first | (simp only [go_sem, lA9, mA9]; done) | rfl), (by first | (simp only [go_sem, lA9, mA9]; done) | rfl), (by first | (simp only [go_sem, lA9, mA9]; done) | rfl), (by first | (simp only [go_sem, lA9, mA9]; done) | rfl), (by first | (simp only [go_sem, lA9, mA9]; done) | rfl), (by simp only [go_sem, lA9, mA9]), (by simp only [go_sem])⟩
 ·rintro ⟨out_5, now_6, at_7, x_20⟩ o t h ⟨i5, s1, s2, s5, s6, s7, s19, s20, Q3, Q2⟩ hm1 hb7
  simp only [c2m] at hm1
  rw [g0m]
  refine b0b fun K hK => ?_
  simp only [go_sem, s19, s20, Q2]
  refine hK _ _ ?_
  clear hK K
  refine b0o fun K8 hK8 => ?_
  simp only [go_sem]
  refine b0k (fun hc9 => ?_) (fun hc9 => ?_)
  ·rw [b00 hc9] at hm1
   simp only [b0y, b0i, b0j]
   refine hK8 _ _ ?_
   refine b0o fun K10 hK10 => ?_
   have J11 : ∀ (out_5_1 : List Int) (now_6_1 : Int) (at_7_1 : Int) (t : Slots) (h : Heap), t 1 = I comb → t 2 = .fp [.fs 5 (List.map b0u h_.Combs), .fs 3 (List.map b0r h_.Trains), .fs 3 (List.map b0v h_.Shifts), I h_.Until] 0 → t 5 = .rs i5 0 (List.length out_5_1) → t 6 = I now_6_1 → t 7 = I at_7_1 → t 19 = I ((List.length l2 : Nat) : Int) → t 20 = I x_20 → h.ob i5 = some (1, List.map eI out_5_1) → i5 < h.nx → c5n x_20 out_5_1 now_6_1 at_7_1 = some o → K10 t h := by
    try clear s1 s2 s5 s6 s7 s19 s20 Q3 Q2
    intro out_5_1 now_6_1 at_7_1 t h s1 s2 s5 s6 s7 s19 s20 Q3 Q2 hm1
    refine hK10 _ _ ?_
    unfold c5n at hm1
    refine b1m fun K hK => ?_
    simp only [go_sem, s20, Q2]
    refine hK _ _ ?_
    clear hK K
    simp only [b0i, b0j]
    obtain rfl := sI9 hm1
    refine ⟨_, rfl, ?_⟩
    exact ⟨i5, s1, s2, (by first | exact s5 | simp only [go_sem, s5, lA9, mA9]), s6, s7, s19, (by first | (simp only [go_sem, s20, lA9, mA9]; done) | rfl), Q3, Q2⟩
   simp only [b1c]
   refine b0b fun K hK => ?_
   simp only [go_sem, s20, Q2]
   refine hK _ _ ?_
   clear hK K
   refine b0o fun K12 hK12 => ?_
   have J13 : ∀ (now_6_1 : Int) (at_7_1 : Int) (t : Slots) (h : Heap), t 1 = I comb → t 2 = .fp [.fs 5 (List.map b0u h_.Combs), .fs 3 (List.map b0r h_.Trains), .fs 3 (List.map b0v h_.Shifts), I h_.Until] 0 → t 5 = .rs i5 0 (List.length out_5) → t 6 = I now_6_1 → t 7 = I at_7_1 → t 8 = I x_20 → t 19 = I ((List.length l2 : Nat) : Int) → t 20 = I x_20 → h.ob i5 = some (1, List.map eI out_5) → i5 < h.nx → c5o out_5 x_20 now_6_1 at_7_1 = some o → K12 t h := by
    try clear s1 s2 s5 s6 s7 s19 s20 Q3 Q2
    intro now_6_1 at_7_1 t h s1 s2 s5 s6 s7 s8 s19 s20 Q3 Q2 hm1
    refine hK12 _ _ ?_
    unfold c5o at hm1
    obtain ⟨x15, h_x15, hm1⟩ := b0h hm1
    have h_x150 := b06 h_x15
    have h_x151 := b08 h_x15
    refine b1m fun K hK => ?_
    simp only [go_sem, s5, s6, s8, Q3, Q2, b0p h_x15, b0q h_x15, h_x150, h_x151]
    refine hK _ _ ?_
    clear hK K
    simp only [b0i, b0j]
    exact J11 (List.set out_5 (Int.toNat x_20) now_6_1) now_6_1 at_7_1 _ _ s1 s2 (by first | exact s5 | simp only [go_sem, s5, lA9, mA9]) s6 s7 s19 s20 (by simp only [go_sem, Q3, Q2, lA9, mA9]) (by simp only [go_sem, Q2]) hm1
   simp only [b1c]
   obtain ⟨b16, hl16, hm1⟩ := b0h hm1
   refine b1z hl16 (fun | (now_6_1, at_7_1), t, h => t 1 = I comb ∧ t 2 = .fp [.fs 5 (List.map b0u h_.Combs), .fs 3 (List.map b0r h_.Trains), .fs 3 (List.map b0v h_.Shifts), I h_.Until] 0 ∧ t 5 = .rs i5 0 (List.length out_5) ∧ t 6 = I now_6_1 ∧ t 7 = I at_7_1 ∧ t 8 = I x_20 ∧ t 19 = I ((List.length l2 : Nat) : Int) ∧ t 20 = I x_20 ∧ h.ob i5 = some (1, List.map eI out_5) ∧ i5 < h.nx) ?_ ?_
   ·exact ⟨s1, s2, (by first | exact s5 | simp only [go_sem, s5, lA9, mA9]), s6, s7, (by first | (simp only [go_sem, lA9, mA9]; done) | rfl), s19, s20, Q3, Q2⟩
   ·try clear s1 s2 s5 s6 s7 s19 s20 Q3 Q2
    rintro ⟨now_6_1, at_7_1⟩ o t h ⟨s1, s2, s5, s6, s7, s8, s19, s20, Q3, Q2⟩ hm2 hb16
    simp only [c0c] at hm2
    rw [g0l]
    refine b05 ?_
    obtain ⟨c20, h_c20, hm2⟩ := b0h hm2
    refine b1r (fun t h => t 1 = I comb ∧ t 2 = .fp [.fs 5 (List.map b0u h_.Combs), .fs 3 (List.map b0r h_.Trains), .fs 3 (List.map b0v h_.Shifts), I h_.Until] 0 ∧ t 5 = .rs i5 0 (List.length out_5) ∧ t 6 = I now_6_1 ∧ t 7 = I at_7_1 ∧ t 8 = I x_20 ∧ t 19 = I ((List.length l2 : Nat) : Int) ∧ t 20 = I x_20 ∧ t 37 = B c20 ∧ h.ob i5 = some (1, List.map eI out_5) ∧ i5 < h.nx) (fun K hK => ?_) ?_
    ·simp only [go_sem, s2, s7, s8, Q2]
     refine b0k (fun hg21 => ?_) (fun hg21 => ?_)
     ·simp only [hg21, Bool.not_true, Bool.not_false, eq_self, if_true, if_false, Bool.true_or, Bool.or_true, Bool.false_or, Bool.or_false, Bool.true_and, Bool.and_true, Bool.false_and, Bool.and_false, Bool.false_eq_true] at h_c20
      obtain ⟨x19, h_x19, h_c20⟩ := b0h h_c20
      have h_x190 := b06 h_x19
      have h_x191 := b08 h_x19
      obtain rfl := sI9 h_c20
      simp only [go_sem, s2, s7, s8, Q2, b0p h_x19, b0q h_x19, h_x190, h_x191, hg21]
      exact hK _ _ ⟨s1, s2, (by first | exact s5 | simp only [go_sem, s5, lA9, mA9]), s6, s7, s8, s19, s20, (by first | (simp only [go_sem, hg21, lA9, mA9]; done) | rfl), Q3, Q2⟩
     ·simp only [hg21, Bool.not_true, Bool.not_false, eq_self, if_true, if_false, Bool.true_or, Bool.or_true, Bool.false_or, Bool.or_false, Bool.true_and, Bool.and_true, Bool.false_and, Bool.and_false, Bool.false_eq_true] at h_c20
      obtain rfl := sI9 h_c20
      simp only [go_sem, s2, s7, s8, Q2, hg21]
      exact hK _ _ ⟨s1, s2, (by first | exact s5 | simp only [go_sem, s5, lA9, mA9]), s6, s7, s8, s19, s20, (by first | (simp only [go_sem, hg21, lA9, mA9]; done) | rfl), Q3, Q2⟩
    ·try clear s1 s2 s5 s6 s7 s8 s19 s20 Q3 Q2
     rintro t h ⟨s1, s2, s5, s6, s7, s8, s19, s20, s37, Q3, Q2⟩
     refine b0o fun K22 hK22 => ?_
     simp only [go_sem, s37]
     refine b0k (fun hc23 => ?_) (fun hc23 => ?_)
     ·rw [b00 hc23] at hm2
      simp only [b0y, b0i, b0j]
      refine hK22 _ _ ?_
      refine b0o fun K24 hK24 => ?_
      have J25 : ∀ (now_6_2 : Int) (t : Slots) (h : Heap), t 1 = I comb → t 2 = .fp [.fs 5 (List.map b0u h_.Combs), .fs 3 (List.map b0r h_.Trains), .fs 3 (List.map b0v h_.Shifts), I h_.Until] 0 → t 5 = .rs i5 0 (List.length out_5) → t 6 = I now_6_2 → t 7 = I at_7_1 → t 8 = I x_20 → t 19 = I ((List.length l2 : Nat) : Int) → t 20 = I x_20 → h.ob i5 = some (1, List.map eI out_5) → i5 < h.nx → c2n at_7_1 now_6_2 = some o → K24 t h := by
       try clear s1 s2 s5 s6 s7 s8 s19 s20 s37 Q3 Q2
       intro now_6_2 t h s1 s2 s5 s6 s7 s8 s19 s20 Q3 Q2 hm2
       refine hK24 _ _ ?_
       unfold c2n at hm2
       refine b1m fun K hK => ?_
       simp only [go_sem, s7, Q2]
       refine hK _ _ ?_
       clear hK K
       simp only [b0i, b0j]
       obtain rfl := sI9 hm2
       refine ⟨_, rfl, ?_⟩
       exact ⟨s1, s2, (by first | exact s5 | simp only [go_sem, s5, lA9, mA9]), s6, (by first | (simp only [go_sem, s7, lA9, mA9]; done) | rfl), s8, s19, s20, Q3, Q2⟩
      simp only [b1c]
      obtain ⟨x27, h_x27, hm2⟩ := b0h hm2
      have h_x270 := b06 h_x27
      have h_x271 := b08 h_x27
      refine b0b fun K hK => ?_
      simp only [go_sem, s1, s2, s7, Q2, b0p h_x27, b0q h_x27, h_x270, h_x271]
      refine hK _ _ ?_
      clear hK K
      simp only [go_sem]
      refine b0k (fun hc28 => ?_) (fun hc28 => ?_)
      ·rw [b00 hc28] at hm2
       refine b1m fun K hK => ?_
       simp only [go_sem, s2, s7, Q2, b0p h_x27, b0q h_x27, h_x270, h_x271]
       refine hK _ _ ?_
       clear hK K
       simp only [b0i, b0j]
       exact J25 x27.Rate _ _ s1 s2 (by first | exact s5 | simp only [go_sem, s5, lA9, mA9]) (by first | (simp only [go_sem, s6, lA9, mA9]; done) | rfl) s7 s8 s19 s20 Q3 Q2 hm2
      ·rw [b0z hc28] at hm2
       simp only [b0y, b0i, b0j]
       exact J25 now_6_1 _ _ s1 s2 (by first | exact s5 | simp only [go_sem, s5, lA9, mA9]) s6 s7 s8 s19 s20 Q3 Q2 hm2
     ·rw [b0z hc23] at hm2
      simp only [b1t, b1w, b1v, b1u, b0i, b0j, Nat.reduceEqDiff, nF9]
      obtain rfl := sI9 hm2
      obtain rfl := hb16 _ rfl
      try dsimp only at hm1
      exact J13 now_6_1 at_7_1 _ _ s1 s2 (by first | exact s5 | simp only [go_sem, s5, lA9, mA9]) s6 s7 s8 s19 s20 Q3 Q2 hm1
  ·rw [b0z hc9] at hm1
   simp only [b1t, b1w, b1v, b1u, b0i, b0j, Nat.reduceEqDiff, nF9]
   obtain rfl := sI9 hm1
   obtain rfl := hb7 _ rfl
   try dsimp only at hm0
   exact J6 out_5 i5 _ _ (by first | exact s5 | simp only [go_sem, s5, lA9, mA9]) Q3 Q2 hm0
theorem b8l (hf : Has O "newel/halls.span" x_halls_span) : c35 O := by
 intro s low high
 generalize hm0 : b42 s low high = r
 unfold b42 at hm0
 refine b10 hf rfl (b0e (.agg _ (b0e (b0g _) (b0e (b0g _) b0x))) (b0e (b0g _) (b0e (b0g _) b0x))) (b0g _) ?_
 refine b1s (fun t h => t 0 = .agg [I s.Low, I s.High] ∧ t 1 = I low ∧ t 2 = I high) ⟨rfl, rfl, rfl⟩ fun t h ⟨s0, s1, s2⟩ => ?_
 simp only [x_halls_span]
 refine b0b fun K hK => ?_
 simp only [go_sem, s0]
 refine hK _ _ ?_
 clear hK K
 refine b1r (fun t h => t 6 = B (((decide (low ≤ s.Low)) && (decide (s.Low ≤ s.High))) && (decide (s.High ≤ high)))) (fun K hK => ?_) ?_
 ·simp only [go_sem, s1, s2]
  refine b0k (fun hg1 => ?_) (fun hg1 => ?_)
  ·simp only [go_sem, s1, s2, hg1]
   refine b0k (fun hg2 => ?_) (fun hg2 => ?_)
   ·simp only [go_sem, s1, s2, hg1, hg2]
    exact hK _ _ (by first | (simp only [go_sem, hg1, hg2, lA9, mA9]; done) | rfl)
   ·simp only [go_sem, s1, s2, hg1, hg2]
    exact hK _ _ (by first | (simp only [go_sem, hg1, hg2, lA9, mA9]; done) | rfl)
  ·simp only [go_sem, s1, s2, hg1]
   exact hK _ _ (by first | (simp only [go_sem, hg1, lA9, mA9]; done) | rfl)
 ·rintro t h s6
  simp only [b01, b03, b02, b04]
  obtain rfl := hm0
  exact b1e (by simp only [go_sem, s6, lA9, mA9]) (b0g _)
theorem d0k (hf : Has O "newel/newellaw06.Far" x_l06_Far) : c73 O := by
 intro h_ r hm0
 unfold c2x at hm0
 refine b10 hf rfl (b0e (.agg _ (b0e (b0w fun a _ => b3h a) (b0e (b0w fun a _ => b3b a) (b0e (b0w fun a _ => b3i a) (b0e (b0g _) b0x))))) b0x) (b0g _) ?_
 refine b1s (fun t h => t 0 = .agg [.fs 5 (List.map b0u h_.Combs), .fs 3 (List.map b0r h_.Trains), .fs 3 (List.map b0v h_.Shifts), I h_.Until]) rfl fun t h s0 => ?_
 simp only [x_l06_Far]
 refine b0b fun K hK => ?_
 simp only [go_sem, s0]
 refine hK _ _ ?_
 clear hK K
 refine b05 ?_
 refine b1r (fun t h => t 1 = .fp [.fs 5 (List.map b0u h_.Combs), .fs 3 (List.map b0r h_.Trains), .fs 3 (List.map b0v h_.Shifts), I h_.Until] 0 ∧ t 29 = B ((((decide (12 < (List.length h_.Combs : Int))) || (decide (20 < (List.length h_.Trains : Int)))) || (decide (40 < (List.length h_.Shifts : Int)))) || ((decide (40 < h_.Until)) && (decide (h_.Until ≤ 100))))) (fun K hK => ?_) ?_
 ·simp only [go_sem]
  refine b0k (fun hg1 => ?_) (fun hg1 => ?_)
  ·simp only [go_sem, hg1]
   exact hK _ _ ⟨(by first | (simp only [go_sem, hg1, lA9, mA9]; done) | rfl), (by first | (simp only [go_sem, hg1, lA9, mA9]; done) | rfl)⟩
  ·simp only [go_sem, hg1]
   refine b0k (fun hg2 => ?_) (fun hg2 => ?_)
   ·simp only [go_sem, hg1, hg2]
    exact hK _ _ ⟨(by first | (simp only [go_sem, hg1, hg2, lA9, mA9]; done) | rfl), (by first | (simp only [go_sem, hg1, hg2, lA9, mA9]; done) | rfl)⟩
   ·simp only [go_sem, hg1, hg2]
    refine b0k (fun hg3 => ?_) (fun hg3 => ?_)
    ·simp only [go_sem, hg1, hg2, hg3]
     exact hK _ _ ⟨(by first | (simp only [go_sem, hg1, hg2, hg3, lA9, mA9]; done) | rfl), (by first | (simp only [go_sem, hg1, hg2, hg3, lA9, mA9]; done) | rfl)⟩
    ·simp only [go_sem, hg1, hg2, hg3]
     refine b0k (fun hg4 => ?_) (fun hg4 => ?_)
     ·simp only [go_sem, hg1, hg2, hg3, hg4]
      exact hK _ _ ⟨(by first | (simp only [go_sem, hg1, hg2, hg3, hg4, lA9, mA9]; done) | rfl), (by first | (simp only [go_sem, hg1, hg2, hg3, hg4, lA9, mA9]; done) | rfl)⟩
     ·simp only [go_sem, hg1, hg2, hg3, hg4]
      exact hK _ _ ⟨(by first | (simp only [go_sem, hg1, hg2, hg3, hg4, lA9, mA9]; done) | rfl), (by first | (simp only [go_sem, hg1, hg2, hg3, hg4, lA9, mA9]; done) | rfl)⟩
 ·rintro t h ⟨s1, s29⟩
  refine b0o fun K5 hK5 => ?_
  simp only [go_sem, s29]
  refine b0k (fun hc6 => ?_) (fun hc6 => ?_)
  ·rw [b00 hc6] at hm0
   refine b0b fun K hK => ?_
   simp only [go_sem]
   refine hK _ _ ?_
   clear hK K
   simp only [b01, b03, b02, b04]
   obtain rfl := sI9 hm0
   exact b1e (by simp only [go_sem, lA9, mA9]) (b0g _)
  ·rw [b0z hc6] at hm0
   simp only [b0y, b0i, b0j]
   refine hK5 _ _ ?_
   refine b05 ?_
   refine b0b fun K hK => ?_
   simp only [go_sem]
   refine hK _ _ ?_
   clear hK K
   refine b0o fun K7 hK7 => ?_
   have J8 : ∀ (t : Slots) (h : Heap), d0v = some r → K7 t h := by
    intro t h hm0
    refine hK7 _ _ ?_
    unfold d0v at hm0
    refine b0b fun K hK => ?_
    simp only [go_sem]
    refine hK _ _ ?_
    clear hK K
    simp only [b01, b03, b02, b04]
    obtain rfl := sI9 hm0
    exact b1e (by simp only [go_sem, lA9, mA9]) (b0g _)
   simp only [b1c]
   obtain ⟨b9, hl9, hm0⟩ := b0h hm0
   refine b1z hl9 (fun | i_3, t, h => t 1 = .fp [.fs 5 (List.map b0u h_.Combs), .fs 3 (List.map b0r h_.Trains), .fs 3 (List.map b0v h_.Shifts), I h_.Until] 0 ∧ t 3 = I i_3) ?_ ?_
   ·exact ⟨s1, (by first | (simp only [go_sem, lA9, mA9]; done) | rfl)⟩
   ·rintro i_3 o t h ⟨s1, s3⟩ hm1 hb9
    simp only [c0m] at hm1
    rw [g0n]
    refine b05 ?_
    refine b0b fun K hK => ?_
    simp only [go_sem, s1, s3]
    refine hK _ _ ?_
    clear hK K
    refine b0o fun K10 hK10 => ?_
    simp only [go_sem]
    refine b0k (fun hc11 => ?_) (fun hc11 => ?_)
    ·rw [b00 hc11] at hm1
     simp only [b0y, b0i, b0j]
     refine hK10 _ _ ?_
     refine b0o fun K12 hK12 => ?_
     simp only [b1c]
     obtain ⟨x14, h_x14, hm1⟩ := b0h hm1
     have h_x140 := b06 h_x14
     have h_x141 := b08 h_x14
     refine b0b fun K hK => ?_
     simp only [go_sem, s1, s3, b0p h_x14, b0q h_x14, h_x140, h_x141]
     refine hK _ _ ?_
     clear hK K
     simp only [go_sem]
     refine b0k (fun hc15 => ?_) (fun hc15 => ?_)
     ·rw [b00 hc15] at hm1
      refine b0b fun K hK => ?_
      simp only [go_sem]
      refine hK _ _ ?_
      clear hK K
      simp only [b01, b03, b02, b04]
      obtain rfl := sI9 hm1
      obtain rfl := hb9 _ rfl
      try dsimp only at hm0
      obtain rfl := sI9 hm0
      exact b1e (by simp only [go_sem, lA9, mA9]) (b0g _)
     ·rw [b0z hc15] at hm1
      simp only [b0y, b0i, b0j]
      refine hK12 _ _ ?_
      refine b1m fun K hK => ?_
      simp only [go_sem, s3]
      refine hK _ _ ?_
      clear hK K
      simp only [b0i, b0j]
      obtain rfl := sI9 hm1
      refine ⟨_, rfl, ?_⟩
      exact ⟨s1, (by first | (simp only [go_sem, s3, lA9, mA9]; done) | rfl)⟩
    ·rw [b0z hc11] at hm1
     simp only [b1t, b1w, b1v, b1u, b0i, b0j, Nat.reduceEqDiff, nF9]
     obtain rfl := sI9 hm1
     obtain rfl := hb9 _ rfl
     try dsimp only at hm0
     exact J8  _ _  hm0
theorem c56 (hf : Has O "math/bits.OnesCount" x_math_bits_OnesCount) (d0l : c75 O) : c74 O := by
 intro x r hm0
 unfold b8p at hm0
 refine b10 hf rfl (b0e (b0g _) b0x) (b0g _) ?_
 refine b1s (fun t h => t 0 = .v (.int .u64 x)) rfl fun t h s0 => ?_
 simp only [x_math_bits_OnesCount]
 refine b0b fun K hK => ?_
 simp only [go_sem]
 refine hK _ _ ?_
 clear hK K
 refine b0o fun K1 hK1 => ?_
 simp only [c92, c81, c82, c5s, c5r, c5q, c7d, c7c, Nat.reduceEqDiff, nF9]
 simp only [b0y, b0i, b0j]
 refine hK1 _ _ ?_
 obtain ⟨y3, h_y3, hm0⟩ := b0h hm0
 refine b0b fun K hK => ?_
 simp only [go_sem, s0]
 refine b1g (d0l x _ h_y3) ?_
 simp only [go_sem, s0]
 refine hK _ _ ?_
 clear hK K
 simp only [b01, b03, b02, b04]
 obtain rfl := sI9 hm0
 exact b1e (by simp only [go_sem, lA9, mA9]) (b0g _)
theorem d0l (hf : Has O "math/bits.OnesCount64" x_math_bits_OnesCount64) : c75 O := by
 intro x r hm0
 unfold c24 at hm0
 refine b10 hf rfl (b0e (b0g _) b0x) (b0g _) ?_
 refine b1s (fun t h => t 0 = .v (.int .u64 x)) rfl fun t h s0 => ?_
 simp only [x_math_bits_OnesCount64]
 refine b0b fun K hK => ?_
 simp only [go_sem]
 refine hK _ _ ?_
 clear hK K
 obtain ⟨q2, h_q2, hm0⟩ := b0h hm0
 refine b0b fun K hK => ?_
 simp only [go_sem, s0, b7e h_q2]
 refine hK _ _ ?_
 clear hK K
 obtain ⟨q4, h_q4, hm0⟩ := b0h hm0
 refine b0b fun K hK => ?_
 simp only [go_sem, s0, b7e h_q4]
 refine hK _ _ ?_
 clear hK K
 obtain ⟨q6, h_q6, hm0⟩ := b0h hm0
 refine b0b fun K hK => ?_
 simp only [go_sem, s0, b7e h_q6]
 refine hK _ _ ?_
 clear hK K
 obtain ⟨q8, h_q8, hm0⟩ := b0h hm0
 refine b0b fun K hK => ?_
 simp only [go_sem, s0, b7e h_q8]
 refine hK _ _ ?_
 clear hK K
 obtain ⟨q10, h_q10, hm0⟩ := b0h hm0
 refine b0b fun K hK => ?_
 simp only [go_sem, s0, b7e h_q10]
 refine hK _ _ ?_
 clear hK K
 obtain ⟨q12, h_q12, hm0⟩ := b0h hm0
 refine b0b fun K hK => ?_
 simp only [go_sem, s0, b7e h_q12]
 refine hK _ _ ?_
 clear hK K
 refine b0b fun K hK => ?_
 simp only [go_sem, s0]
 refine hK _ _ ?_
 clear hK K
 simp only [b01, b03, b02, b04]
 obtain rfl := sI9 hm0
 exact b1e (by simp only [go_sem, lA9, mA9]) (b0g _)
theorem d0m (hf : Has O "math/bits.TrailingZeros" x_math_bits_TrailingZeros) (d0n : c77 O) : c76 O := by
 intro x r hm0
 unfold c25 at hm0
 refine b10 hf rfl (b0e (b0g _) b0x) (b0g _) ?_
 refine b1s (fun t h => t 0 = .v (.int .u64 x)) rfl fun t h s0 => ?_
 simp only [x_math_bits_TrailingZeros]
 refine b0b fun K hK => ?_
 simp only [go_sem]
 refine hK _ _ ?_
 clear hK K
 refine b0o fun K1 hK1 => ?_
 simp only [c92, c81, c82, c5s, c5r, c5q, c7d, c7c, Nat.reduceEqDiff, nF9]
 simp only [b0y, b0i, b0j]
 refine hK1 _ _ ?_
 obtain ⟨y3, h_y3, hm0⟩ := b0h hm0
 refine b0b fun K hK => ?_
 simp only [go_sem, s0]
 refine b1g (d0n x _ h_y3) ?_
 simp only [go_sem, s0]
 refine hK _ _ ?_
 clear hK K
 simp only [b01, b03, b02, b04]
 obtain rfl := sI9 hm0
 exact b1e (by simp only [go_sem, lA9, mA9]) (b0g _)
theorem d0n (hf : Has O "math/bits.TrailingZeros64" x_math_bits_TrailingZeros64) : c77 O := by
 intro x r hm0
 unfold c26 at hm0
 refine b10 hf rfl (b0e (b0g _) b0x) (b0g _) ?_
 refine b1s (fun t h => t 0 = .v (.int .u64 x)) rfl fun t h s0 => ?_
 simp only [x_math_bits_TrailingZeros64]
 refine b0b fun K hK => ?_
 simp only [go_sem]
 refine hK _ _ ?_
 clear hK K
 refine b05 ?_
 refine b0b fun K hK => ?_
 simp only [go_sem, s0]
 refine hK _ _ ?_
 clear hK K
 refine b0o fun K1 hK1 => ?_
 simp only [go_sem]
 refine b0k (fun hc2 => ?_) (fun hc2 => ?_)
 ·rw [b00 hc2] at hm0
  refine b0b fun K hK => ?_
  simp only [go_sem]
  refine hK _ _ ?_
  clear hK K
  simp only [b01, b03, b02, b04]
  obtain rfl := sI9 hm0
  exact b1e (by simp only [go_sem, lA9, mA9]) (b0g _)
 ·rw [b0z hc2] at hm0
  simp only [b0y, b0i, b0j]
  refine hK1 _ _ ?_
  obtain ⟨q5, h_q5, hm0⟩ := b0h hm0
  obtain ⟨x6, h_x6, hm0⟩ := b0h hm0
  refine b0b fun K hK => ?_
  simp only [go_sem, s0, b7e h_q5, j0h (kd := .u8) (n := 64) h_x6 c9m rfl, j0g (kd := .u8) h_x6 c9m]
  refine hK _ _ ?_
  clear hK K
  simp only [b01, b03, b02, b04]
  obtain rfl := sI9 hm0
  exact b1e (by simp only [go_sem, lA9, mA9]) (b0g _)
theorem c57 (hf : Has O "newel/neweltop.allow" x_neweltop_allow) (c2v : c37 O) (d0q : c8c O) : c78 O := by
 intro l n r hm0
 unfold c0r at hm0
 refine b10 hf rfl (b0e (b0w fun a _ => b6k a) (b0e (b0g _) b0x)) (b0g _) ?_
 refine b1s (fun t h => t 0 = .fs 4 (List.map b17 l) ∧ t 1 = I n) ⟨rfl, rfl⟩ fun t h ⟨s0, s1⟩ => ?_
 simp only [x_neweltop_allow]
 refine b0b fun K hK => ?_
 simp only [go_sem]
 refine hK _ _ ?_
 clear hK K
 refine b05 ?_
 obtain ⟨c4, h_c4, hm0⟩ := b0h hm0
 refine b1r (fun t h => t 0 = .fs 4 (List.map b17 l) ∧ t 1 = I n ∧ t 19 = B c4) (fun K hK => ?_) ?_
 ·simp only [go_sem, s0]
  refine b0k (fun hg5 => ?_) (fun hg5 => ?_)
  ·simp only [hg5, Bool.not_true, Bool.not_false, eq_self, if_true, if_false, Bool.true_or, Bool.or_true, Bool.false_or, Bool.or_false, Bool.true_and, Bool.and_true, Bool.false_and, Bool.and_false, Bool.false_eq_true] at h_c4
   obtain rfl := sI9 h_c4
   simp only [go_sem, s0, hg5]
   exact hK _ _ ⟨s0, s1, (by first | (simp only [go_sem, hg5, lA9, mA9]; done) | rfl)⟩
  ·simp only [go_sem, s0, hg5]
   refine b0k (fun hg6 => ?_) (fun hg6 => ?_)
   ·simp only [hg5, hg6, Bool.not_true, Bool.not_false, eq_self, if_true, if_false, Bool.true_or, Bool.or_true, Bool.false_or, Bool.or_false, Bool.true_and, Bool.and_true, Bool.false_and, Bool.and_false, Bool.false_eq_true] at h_c4
    obtain rfl := sI9 h_c4
    simp only [go_sem, s0, hg5, hg6]
    exact hK _ _ ⟨s0, s1, (by first | (simp only [go_sem, hg5, hg6, lA9, mA9]; done) | rfl)⟩
   ·simp only [hg5, hg6, Bool.not_true, Bool.not_false, eq_self, if_true, if_false, Bool.true_or, Bool.or_true, Bool.false_or, Bool.or_false, Bool.true_and, Bool.and_true, Bool.false_and, Bool.and_false, Bool.false_eq_true] at h_c4
    obtain ⟨y3, h_y3, h_c4⟩ := b0h h_c4
    obtain rfl := sI9 h_c4
    simp only [go_sem, s0, hg5, hg6]
    refine b1g (c2v l _ h_y3) ?_
    simp only [go_sem, s0, hg5, hg6]
    exact hK _ _ ⟨s0, s1, (by first | (simp only [go_sem, hg5, hg6, lA9, mA9]; done) | rfl)⟩
 ·rintro t h ⟨s0, s1, s19⟩
  refine b0o fun K7 hK7 => ?_
  simp only [go_sem, s19]
  refine b0k (fun hc8 => ?_) (fun hc8 => ?_)
  ·rw [b00 hc8] at hm0
   refine b0b fun K hK => ?_
   simp only [go_sem]
   refine hK _ _ ?_
   clear hK K
   simp only [b01, b03, b02, b04]
   obtain rfl := sI9 hm0
   exact b1e (by simp only [go_sem, lA9, mA9]) (b0g _)
  ·rw [b0z hc8] at hm0
   simp only [b0y, b0i, b0j]
   refine hK7 _ _ ?_
   refine b05 ?_
   refine b0b fun K hK => ?_
   simp only [go_sem]
   refine hK _ _ ?_
   clear hK K
   refine b0o fun K9 hK9 => ?_
   have J10 : ∀ (t : Slots) (h : Heap), d1d = some r → K9 t h := by
    intro t h hm0
    refine hK9 _ _ ?_
    unfold d1d at hm0
    refine b0b fun K hK => ?_
    simp only [go_sem]
    refine hK _ _ ?_
    clear hK K
    simp only [b01, b03, b02, b04]
    obtain rfl := sI9 hm0
    exact b1e (by simp only [go_sem, lA9, mA9]) (b0g _)
   simp only [b1c]
   obtain ⟨b11, hl11, hm0⟩ := b0h hm0
   refine b1z hl11 (fun | i_5, t, h => t 0 = .fs 4 (List.map b17 l) ∧ t 1 = I n ∧ t 5 = I i_5) ?_ ?_
   ·exact ⟨s0, s1, (by first | (simp only [go_sem, lA9, mA9]; done) | rfl)⟩
   ·rintro i_5 o t h ⟨s0, s1, s5⟩ hm1 hb11
    simp only [c0s] at hm1
    rw [g0o]
    refine b05 ?_
    refine b0b fun K hK => ?_
    simp only [go_sem, s0, s5]
    refine hK _ _ ?_
    clear hK K
    refine b0o fun K12 hK12 => ?_
    simp only [go_sem]
    refine b0k (fun hc13 => ?_) (fun hc13 => ?_)
    ·rw [b00 hc13] at hm1
     simp only [b0y, b0i, b0j]
     refine hK12 _ _ ?_
     refine b0o fun K14 hK14 => ?_
     simp only [b1c]
     obtain ⟨x16, h_x16, hm1⟩ := b0h hm1
     have h_x160 := b06 h_x16
     have h_x161 := b08 h_x16
     refine b0b fun K hK => ?_
     simp only [go_sem, s0, s5, b0p h_x16, b0q h_x16, h_x160, h_x161]
     refine b1g (d0q x16) ?_
     simp only [go_sem, s0, s5, b0p h_x16, b0q h_x16, h_x160, h_x161]
     refine hK _ _ ?_
     clear hK K
     refine b1r (fun t h => t 0 = .fs 4 (List.map b17 l) ∧ t 1 = I n ∧ t 5 = I i_5 ∧ t 40 = B ((decide (n < ((b6c x16).Low))) || (decide (((b6c x16).High) < n)))) (fun K hK => ?_) ?_
     ·simp only [go_sem, s1]
      refine b0k (fun hg17 => ?_) (fun hg17 => ?_)
      ·simp only [go_sem, s1, hg17]
       exact hK _ _ ⟨s0, s1, s5, (by first | (simp only [go_sem, hg17, lA9, mA9]; done) | rfl)⟩
      ·simp only [go_sem, s1, hg17]
       exact hK _ _ ⟨s0, s1, s5, (by first | (simp only [go_sem, hg17, lA9, mA9]; done) | rfl)⟩
     ·rintro t h ⟨s0, s1, s5, s40⟩
      simp only [go_sem, s40]
      refine b0k (fun hc18 => ?_) (fun hc18 => ?_)
      ·rw [b00 hc18] at hm1
       refine b0b fun K hK => ?_
       simp only [go_sem]
       refine hK _ _ ?_
       clear hK K
       simp only [b01, b03, b02, b04]
       obtain rfl := sI9 hm1
       obtain rfl := hb11 _ rfl
       try dsimp only at hm0
       obtain rfl := sI9 hm0
       exact b1e (by simp only [go_sem, lA9, mA9]) (b0g _)
      ·rw [b0z hc18] at hm1
       simp only [b0y, b0i, b0j]
       refine hK14 _ _ ?_
       refine b1m fun K hK => ?_
       simp only [go_sem, s5]
       refine hK _ _ ?_
       clear hK K
       simp only [b0i, b0j]
       obtain rfl := sI9 hm1
       refine ⟨_, rfl, ?_⟩
       exact ⟨s0, s1, (by first | (simp only [go_sem, s5, lA9, mA9]; done) | rfl)⟩
    ·rw [b0z hc13] at hm1
     simp only [b1t, b1w, b1v, b1u, b0i, b0j, Nat.reduceEqDiff, nF9]
     obtain rfl := sI9 hm1
     obtain rfl := hb11 _ rfl
     try dsimp only at hm0
     exact J10  _ _  hm0
theorem c0k (hf : Has O "newel/newelref06.spanned" x_r06_spanned) : c8b O := by
 intro s low high
 generalize hm0 : b38 s low high = r
 unfold b38 at hm0
 refine b10 hf rfl (b0e (.agg _ (b0e (b0g _) (b0e (b0g _) b0x))) (b0e (b0g _) (b0e (b0g _) b0x))) (b0g _) ?_
 refine b1s (fun t h => t 0 = .agg [I s.Low, I s.High] ∧ t 1 = I low ∧ t 2 = I high) ⟨rfl, rfl, rfl⟩ fun t h ⟨s0, s1, s2⟩ => ?_
 simp only [x_r06_spanned]
 refine b0b fun K hK => ?_
 simp only [go_sem, s0]
 refine hK _ _ ?_
 clear hK K
 refine b1r (fun t h => t 6 = B (((decide (low ≤ s.Low)) && (decide (s.Low ≤ s.High))) && (decide (s.High ≤ high)))) (fun K hK => ?_) ?_
 ·simp only [go_sem, s1, s2]
  refine b0k (fun hg1 => ?_) (fun hg1 => ?_)
  ·simp only [go_sem, s1, s2, hg1]
   refine b0k (fun hg2 => ?_) (fun hg2 => ?_)
   ·simp only [go_sem, s1, s2, hg1, hg2]
    exact hK _ _ (by first | (simp only [go_sem, hg1, hg2, lA9, mA9]; done) | rfl)
   ·simp only [go_sem, s1, s2, hg1, hg2]
    exact hK _ _ (by first | (simp only [go_sem, hg1, hg2, lA9, mA9]; done) | rfl)
  ·simp only [go_sem, s1, s2, hg1]
   exact hK _ _ (by first | (simp only [go_sem, hg1, lA9, mA9]; done) | rfl)
 ·rintro t h s6
  simp only [b01, b03, b02, b04]
  obtain rfl := hm0
  exact b1e (by simp only [go_sem, s6, lA9, mA9]) (b0g _)
theorem b36 (hf : Has O "newel/newelref06.within" x_r06_within) : c36 O := by
 intro n low high
 generalize hm0 : b2b n low high = r
 unfold b2b at hm0
 refine b10 hf rfl (b0e (b0g _) (b0e (b0g _) (b0e (b0g _) b0x))) (b0g _) ?_
 refine b1s (fun t h => t 0 = I n ∧ t 1 = I low ∧ t 2 = I high) ⟨rfl, rfl, rfl⟩ fun t h ⟨s0, s1, s2⟩ => ?_
 simp only [x_r06_within]
 refine b0b fun K hK => ?_
 simp only [go_sem]
 refine hK _ _ ?_
 clear hK K
 refine b1r (fun t h => t 6 = B ((decide (low ≤ n)) && (decide (n ≤ high)))) (fun K hK => ?_) ?_
 ·simp only [go_sem, s0, s1, s2]
  refine b0k (fun hg1 => ?_) (fun hg1 => ?_)
  ·simp only [go_sem, s0, s1, s2, hg1]
   exact hK _ _ (by first | (simp only [go_sem, hg1, lA9, mA9]; done) | rfl)
  ·simp only [go_sem, s0, s1, s2, hg1]
   exact hK _ _ (by first | (simp only [go_sem, hg1, lA9, mA9]; done) | rfl)
 ·rintro t h s6
  simp only [b01, b03, b02, b04]
  obtain rfl := hm0
  exact b1e (by simp only [go_sem, s6, lA9, mA9]) (b0g _)
theorem d0q (hf : Has O "newel/newelref10.Allows" x_r10_Allows) : c8c O := by
 intro r_
 generalize hm0 : b6c r_ = r
 unfold b6c at hm0
 refine b10 hf rfl (b0e (.agg _ (b0e (b0g _) (b0e (b0g _) (b0e (b0g _) (b0e (b0g _) b0x))))) b0x) (.agg _ (b0e (b0g _) (b0e (b0g _) b0x))) ?_
 refine b1s (fun t h => t 0 = .agg [I r_.Says, I r_.Error, I r_.Drift, I r_.Days]) rfl fun t h s0 => ?_
 simp only [x_r10_Allows]
 refine b0b fun K hK => ?_
 simp only [go_sem, s0]
 refine hK _ _ ?_
 clear hK K
 refine b0b fun K hK => ?_
 simp only [go_sem]
 refine hK _ _ ?_
 clear hK K
 refine b0b fun K hK => ?_
 simp only [go_sem]
 refine hK _ _ ?_
 clear hK K
 simp only [b01, b03, b02, b04]
 obtain rfl := hm0
 exact g43 (id := h.nx) (m := 2) (cs := [I (wr (r_.Says - (wr (r_.Error + (wr (r_.Drift * r_.Days)))))), I (wr (r_.Says + (wr (r_.Error + (wr (r_.Drift * r_.Days))))))]) (by simp only [go_sem, lA9, mA9]) (by simp only [go_sem, lA9, mA9]) rfl (.refl _ (.agg _ (b0e (b0g _) (b0e (b0g _) b0x))))
theorem c2v (hf : Has O "newel/newelref10.Check" x_r10_Check) (c0l : c8d O) : c37 O := by
 intro l r hm0
 unfold b8v at hm0
 refine b10 hf rfl (b0e (b0w fun a _ => b6k a) b0x) (b0g _) ?_
 refine b1s (fun t h => t 0 = .fs 4 (List.map b17 l)) rfl fun t h s0 => ?_
 simp only [x_r10_Check]
 refine b0b fun K hK => ?_
 simp only [go_sem]
 refine hK _ _ ?_
 clear hK K
 refine b05 ?_
 refine b0b fun K hK => ?_
 simp only [go_sem, s0]
 refine hK _ _ ?_
 clear hK K
 refine b0o fun K1 hK1 => ?_
 simp only [go_sem]
 refine b0k (fun hc2 => ?_) (fun hc2 => ?_)
 ·rw [b00 hc2] at hm0
  refine b0b fun K hK => ?_
  simp only [go_sem]
  refine hK _ _ ?_
  clear hK K
  simp only [b01, b03, b02, b04]
  obtain rfl := sI9 hm0
  exact b1e (by simp only [go_sem, lA9, mA9]) (b0g _)
 ·rw [b0z hc2] at hm0
  simp only [b0y, b0i, b0j]
  refine hK1 _ _ ?_
  refine b05 ?_
  refine b0b fun K hK => ?_
  simp only [go_sem]
  refine hK _ _ ?_
  clear hK K
  refine b0o fun K3 hK3 => ?_
  have J4 : ∀ (t : Slots) (h : Heap), d1p = some r → K3 t h := by
   intro t h hm0
   refine hK3 _ _ ?_
   unfold d1p at hm0
   refine b0b fun K hK => ?_
   simp only [go_sem]
   refine hK _ _ ?_
   clear hK K
   simp only [b01, b03, b02, b04]
   obtain rfl := sI9 hm0
   exact b1e (by simp only [go_sem, lA9, mA9]) (b0g _)
  simp only [b1c]
  obtain ⟨b5, hl5, hm0⟩ := b0h hm0
  refine b1z hl5 (fun | i_3, t, h => t 0 = .fs 4 (List.map b17 l) ∧ t 3 = I i_3) ?_ ?_
  ·exact ⟨s0, (by first | (simp only [go_sem, lA9, mA9]; done) | rfl)⟩
  ·rintro i_3 o t h ⟨s0, s3⟩ hm1 hb5
   simp only [c02] at hm1
   rw [g0x]
   refine b05 ?_
   refine b0b fun K hK => ?_
   simp only [go_sem, s0, s3]
   refine hK _ _ ?_
   clear hK K
   refine b0o fun K6 hK6 => ?_
   simp only [go_sem]
   refine b0k (fun hc7 => ?_) (fun hc7 => ?_)
   ·rw [b00 hc7] at hm1
    simp only [b0y, b0i, b0j]
    refine hK6 _ _ ?_
    refine b0o fun K8 hK8 => ?_
    simp only [b1c]
    obtain ⟨x10, h_x10, hm1⟩ := b0h hm1
    have h_x100 := b06 h_x10
    have h_x101 := b08 h_x10
    refine b1r (fun t h => t 0 = .fs 4 (List.map b17 l) ∧ t 3 = I i_3 ∧ t 46 = B ((((!(b49 x10.Says (-100000) 100000)) || (!(b49 x10.Error 0 1000))) || (!(b49 x10.Drift 0 1000))) || (!(b49 x10.Days 0 1000)))) (fun K hK => ?_) ?_
    ·simp only [go_sem, s0, s3, b0p h_x10, b0q h_x10, h_x100, h_x101]
     refine b1g (c0l x10.Says (-100000) 100000) ?_
     simp only [go_sem, s0, s3, b0p h_x10, b0q h_x10, h_x100, h_x101]
     refine b0k (fun hg11 => ?_) (fun hg11 => ?_)
     ·simp only [go_sem, s0, s3, b0p h_x10, b0q h_x10, h_x100, h_x101, hg11]
      exact hK _ _ ⟨s0, s3, (by first | (simp only [go_sem, hg11, lA9, mA9]; done) | rfl)⟩
     ·simp only [go_sem, s0, s3, b0p h_x10, b0q h_x10, h_x100, h_x101, hg11]
      refine b1g (c0l x10.Error 0 1000) ?_
      simp only [go_sem, s0, s3, b0p h_x10, b0q h_x10, h_x100, h_x101, hg11]
      refine b0k (fun hg12 => ?_) (fun hg12 => ?_)
      ·simp only [go_sem, s0, s3, b0p h_x10, b0q h_x10, h_x100, h_x101, hg11, hg12]
       exact hK _ _ ⟨s0, s3, (by first | (simp only [go_sem, hg11, hg12, lA9, mA9]; done) | rfl)⟩
      ·simp only [go_sem, s0, s3, b0p h_x10, b0q h_x10, h_x100, h_x101, hg11, hg12]
       refine b1g (c0l x10.Drift 0 1000) ?_
       simp only [go_sem, s0, s3, b0p h_x10, b0q h_x10, h_x100, h_x101, hg11, hg12]
       refine b0k (fun hg13 => ?_) (fun hg13 => ?_)
       ·simp only [go_sem, s0, s3, b0p h_x10, b0q h_x10, h_x100, h_x101, hg11, hg12, hg13]
        exact hK _ _ ⟨s0, s3, (by first | (simp only [go_sem, hg11, hg12, hg13, lA9, mA9]; done) | rfl)⟩
       ·simp only [go_sem, s0, s3, b0p h_x10, b0q h_x10, h_x100, h_x101, hg11, hg12, hg13]
        refine b1g (c0l x10.Days 0 1000) ?_
        simp only [go_sem, s0, s3, b0p h_x10, b0q h_x10, h_x100, h_x101, hg11, hg12, hg13]
        exact hK _ _ ⟨s0, s3, (by first | (simp only [go_sem, hg11, hg12, hg13, lA9, mA9]; done) | rfl)⟩
    ·rintro t h ⟨s0, s3, s46⟩
     simp only [go_sem, s46]
     refine b0k (fun hc14 => ?_) (fun hc14 => ?_)
     ·rw [b00 hc14] at hm1
      refine b0b fun K hK => ?_
      simp only [go_sem]
      refine hK _ _ ?_
      clear hK K
      simp only [b01, b03, b02, b04]
      obtain rfl := sI9 hm1
      obtain rfl := hb5 _ rfl
      try dsimp only at hm0
      obtain rfl := sI9 hm0
      exact b1e (by simp only [go_sem, lA9, mA9]) (b0g _)
     ·rw [b0z hc14] at hm1
      simp only [b0y, b0i, b0j]
      refine hK8 _ _ ?_
      refine b1m fun K hK => ?_
      simp only [go_sem, s3]
      refine hK _ _ ?_
      clear hK K
      simp only [b0i, b0j]
      obtain rfl := sI9 hm1
      refine ⟨_, rfl, ?_⟩
      exact ⟨s0, (by first | (simp only [go_sem, s3, lA9, mA9]; done) | rfl)⟩
   ·rw [b0z hc7] at hm1
    simp only [b1t, b1w, b1v, b1u, b0i, b0j, Nat.reduceEqDiff, nF9]
    obtain rfl := sI9 hm1
    obtain rfl := hb5 _ rfl
    try dsimp only at hm0
    exact J4  _ _  hm0
theorem c0l (hf : Has O "newel/newelref10.from" x_r10_from) : c8d O := by
 intro n low high
 generalize hm0 : b49 n low high = r
 unfold b49 at hm0
 refine b10 hf rfl (b0e (b0g _) (b0e (b0g _) (b0e (b0g _) b0x))) (b0g _) ?_
 refine b1s (fun t h => t 0 = I n ∧ t 1 = I low ∧ t 2 = I high) ⟨rfl, rfl, rfl⟩ fun t h ⟨s0, s1, s2⟩ => ?_
 simp only [x_r10_from]
 refine b0b fun K hK => ?_
 simp only [go_sem]
 refine hK _ _ ?_
 clear hK K
 refine b1r (fun t h => t 6 = B ((decide (low ≤ n)) && (decide (n ≤ high)))) (fun K hK => ?_) ?_
 ·simp only [go_sem, s0, s1, s2]
  refine b0k (fun hg1 => ?_) (fun hg1 => ?_)
  ·simp only [go_sem, s0, s1, s2, hg1]
   exact hK _ _ (by first | (simp only [go_sem, hg1, lA9, mA9]; done) | rfl)
  ·simp only [go_sem, s0, s1, s2, hg1]
   exact hK _ _ (by first | (simp only [go_sem, hg1, lA9, mA9]; done) | rfl)
 ·rintro t h s6
  simp only [b01, b03, b02, b04]
  obtain rfl := hm0
  exact b1e (by simp only [go_sem, s6, lA9, mA9]) (b0g _)
theorem d0s (hf : Has O "slices.ContainsFunc[[]newel/api.Train,newel/api.Train]" x_slices_ContainsFunc___api_Train_api_Train_) (d0t : c8g O) : c8f O := by
 intro s f_n f_a f_b f f_z f_h r hm0
 unfold c67 at hm0
 refine b10 hf rfl (b0e (b0w fun a _ => b3b a) (b0e f_z b0x)) (b0g _) ?_
 refine b1s (fun t h => t 0 = .fs 3 (List.map b0r s) ∧ t 1 = .fn f_n f_a f_b) ⟨rfl, rfl⟩ fun t h ⟨s0, s1⟩ => ?_
 simp only [x_slices_ContainsFunc___api_Train_api_Train_]
 refine b0b fun K hK => ?_
 simp only [go_sem]
 refine hK _ _ ?_
 clear hK K
 obtain ⟨y2, h_y2, hm0⟩ := b0h hm0
 refine b0b fun K hK => ?_
 simp only [go_sem, s0, s1]
 refine b1g (d0t s f_n f_a f_b f f_z f_h _ h_y2) ?_
 simp only [go_sem, s0, s1]
 refine hK _ _ ?_
 clear hK K
 simp only [b01, b03, b02, b04]
 obtain rfl := sI9 hm0
 exact b1e (by simp only [go_sem, lA9, mA9]) (b0g _)
theorem c2w (hf : Has O "slices.ContainsFunc[[]int,int]" x_slices_ContainsFunc___int_int_) (d0u : c8h O) : c38 O := by
 intro s f_n f_a f_b f f_z f_h r hm0
 unfold c3s at hm0
 refine b10 hf rfl (b0e (b0w fun a _ => b2n a) (b0e f_z b0x)) (b0g _) ?_
 refine b1s (fun t h => t 0 = .fs 1 (List.map eI s) ∧ t 1 = .fn f_n f_a f_b) ⟨rfl, rfl⟩ fun t h ⟨s0, s1⟩ => ?_
 simp only [x_slices_ContainsFunc___int_int_]
 refine b0b fun K hK => ?_
 simp only [go_sem]
 refine hK _ _ ?_
 clear hK K
 obtain ⟨y2, h_y2, hm0⟩ := b0h hm0
 refine b0b fun K hK => ?_
 simp only [go_sem, s0, s1]
 refine b1g (d0u s f_n f_a f_b f f_z f_h _ h_y2) ?_
 simp only [go_sem, s0, s1]
 refine hK _ _ ?_
 clear hK K
 simp only [b01, b03, b02, b04]
 obtain rfl := sI9 hm0
 exact b1e (by simp only [go_sem, lA9, mA9]) (b0g _)
end Go.Nw.TM
