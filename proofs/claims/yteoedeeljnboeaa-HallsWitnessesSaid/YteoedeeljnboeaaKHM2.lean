/- That the texts make what their models say: printed by a program. -/
import Derived.Test.YteoedeeljnboeaaHM
set_option linter.all false
set_option linter.unusedVariables false
set_option linter.unusedSimpArgs false
set_option linter.unusedSectionVars false
namespace Go.Nw.HM
open Go.Nw.Halls
set_option linter.unusedSimpArgs false
set_option linter.unusedVariables false
set_option maxHeartbeats 4000000
variable {O : Orac}
theorem d01 (hf : Has O "newel/halls.isComb" x_halls_isComb) (b84 : c4p O) (b86 : c4r O) : c7z O := by
 intro h_ i r hm0
 unfold b8x at hm0
 refine b2q hf rfl (b0f (.agg _ (b0f (b01 fun a _ => b20 a) (b0f (b01 fun a _ => b24 a) (b0f (b01 fun a _ => b28 a) (b0f (b0o _) b06))))) (b0f (b0o _) b06)) (b0o _) ?_
 refine b2k (fun t h => t 0 = .agg [.fs 5 (List.map b0r h_.Combs), .fs 3 (List.map b0p h_.Trains), .fs 3 (List.map b0u h_.Shifts), I h_.Until] ∧ t 1 = I i) ⟨rfl, rfl⟩ fun t h ⟨s0, s1⟩ => ?_
 simp only [x_halls_isComb]
 refine b0e fun K hK => ?_
 simp only [go_sem, s0]
 refine hK _ _ ?_
 clear hK K
 obtain ⟨x2, h_x2, hm0⟩ := b0l hm0
 have h_x20 := b07 h_x2
 have h_x21 := b1a h_x2
 refine b0e fun K hK => ?_
 simp only [go_sem, s1, b0y h_x2, b0z h_x2, h_x20, h_x21]
 refine hK _ _ ?_
 clear hK K
 refine b2p (fun t h => t 4 = B ((((b4l x2.Rate (Span.mk 0 1000)) && (b4l x2.Limit (Span.mk 0 100000))) && ((decide (x2.Next = (-1))) || ((decide (i < x2.Next)) && (decide (x2.Next < (List.length h_.Combs : Int)))))) && (b4u x2.Walk 1 20))) (fun K hK => ?_) ?_
 ·simp only [go_sem, s1]
  refine b1u (b84 x2.Rate (Span.mk 0 1000)) ?_
  simp only [go_sem, s1]
  refine b0x (fun hg3 => ?_) (fun hg3 => ?_)
  ·simp only [go_sem, s1, hg3]
   refine b1u (b84 x2.Limit (Span.mk 0 100000)) ?_
   simp only [go_sem, s1, hg3]
   refine b0x (fun hg4 => ?_) (fun hg4 => ?_)
   ·simp only [go_sem, s1, hg3, hg4]
    refine b0x (fun hg5 => ?_) (fun hg5 => ?_)
    ·simp only [go_sem, s1, hg3, hg4, hg5]
     refine b1u (b86 x2.Walk 1 20) ?_
     simp only [go_sem, s1, hg3, hg4, hg5]
     exact hK _ _ (by first | (simp only [go_sem, hg3, hg4, hg5, lA9, mA9]; done) | rfl)
    ·simp only [go_sem, s1, hg3, hg4, hg5]
     refine b0x (fun hg6 => ?_) (fun hg6 => ?_)
     ·simp only [go_sem, s1, hg3, hg4, hg5, hg6]
      refine b0x (fun hg7 => ?_) (fun hg7 => ?_)
      ·simp only [go_sem, s1, hg3, hg4, hg5, hg6, hg7]
       refine b1u (b86 x2.Walk 1 20) ?_
       simp only [go_sem, s1, hg3, hg4, hg5, hg6, hg7]
       exact hK _ _ (by first | (simp only [go_sem, hg3, hg4, hg5, hg6, hg7, lA9, mA9]; done) | rfl)
      ·simp only [go_sem, s1, hg3, hg4, hg5, hg6, hg7]
       exact hK _ _ (by first | (simp only [go_sem, hg3, hg4, hg5, hg6, hg7, lA9, mA9]; done) | rfl)
     ·simp only [go_sem, s1, hg3, hg4, hg5, hg6]
      exact hK _ _ (by first | (simp only [go_sem, hg3, hg4, hg5, hg6, lA9, mA9]; done) | rfl)
   ·simp only [go_sem, s1, hg3, hg4]
    exact hK _ _ (by first | (simp only [go_sem, hg3, hg4, lA9, mA9]; done) | rfl)
  ·simp only [go_sem, s1, hg3]
   exact hK _ _ (by first | (simp only [go_sem, hg3, lA9, mA9]; done) | rfl)
 ·rintro t h s4
  simp only [b1l, b1n, b1m, b1o]
  obtain rfl := sI9 hm0
  exact b1v (by simp only [go_sem, s4, lA9, mA9]) (b0o _)
theorem d02 (hf : Has O "newel/halls.isTrain" x_halls_isTrain) (b86 : c4r O) : c70 O := by
 intro h_ t_ r hm0
 unfold b8y at hm0
 refine b2q hf rfl (b0f (.agg _ (b0f (b01 fun a _ => b20 a) (b0f (b01 fun a _ => b24 a) (b0f (b01 fun a _ => b28 a) (b0f (b0o _) b06))))) (b0f (.agg _ (b0f (b0o _) (b0f (b0o _) (b0f (b01 fun a _ => c2u a) b06)))) b06)) (b0o _) ?_
 refine b2k (fun t h => t 0 = .agg [.fs 5 (List.map b0r h_.Combs), .fs 3 (List.map b0p h_.Trains), .fs 3 (List.map b0u h_.Shifts), I h_.Until] ∧ t 1 = .agg [I t_.At.Low, I t_.At.High, .fs 3 (List.map b2m t_.Crowds)]) ⟨rfl, rfl⟩ fun t h ⟨s0, s1⟩ => ?_
 simp only [x_halls_isTrain]
 refine b0e fun K hK => ?_
 simp only [go_sem, s0, s1]
 refine hK _ _ ?_
 clear hK K
 refine b0e fun K hK => ?_
 simp only [go_sem]
 refine hK _ _ ?_
 clear hK K
 refine b09 ?_
 refine b0e fun K hK => ?_
 simp only [go_sem]
 refine hK _ _ ?_
 clear hK K
 refine b0w fun K1 hK1 => ?_
 have J2 : ∀ (t : Slots) (h : Heap), t 2 = .fp [.fs 5 (List.map b0r h_.Combs), .fs 3 (List.map b0p h_.Trains), .fs 3 (List.map b0u h_.Shifts), I h_.Until] 0 → t 3 = .fp [I t_.At.Low, I t_.At.High, .fs 3 (List.map b2m t_.Crowds)] 0 → c0k h_ t_ = some r → K1 t h := by
  intro t h s2 s3 hm0
  refine hK1 _ _ ?_
  unfold c0k at hm0
  refine b2p (fun t h => t 4 = B ((b4u t_.At 0 (wr (h_.Until - 1))) && (decide ((List.length t_.Crowds : Int) ≤ 4)))) (fun K hK => ?_) ?_
  ·simp only [go_sem, s2, s3]
   refine b1u (b86 t_.At 0 (wr (h_.Until - 1))) ?_
   simp only [go_sem, s2, s3]
   refine b0x (fun hg3 => ?_) (fun hg3 => ?_)
   ·simp only [go_sem, s2, s3, hg3]
    exact hK _ _ (by first | (simp only [go_sem, hg3, lA9, mA9]; done) | rfl)
   ·simp only [go_sem, s2, s3, hg3]
    exact hK _ _ (by first | (simp only [go_sem, hg3, lA9, mA9]; done) | rfl)
  ·rintro t h s4
   simp only [b1l, b1n, b1m, b1o]
   obtain rfl := sI9 hm0
   exact b1v (by simp only [go_sem, s4, lA9, mA9]) (b0o _)
 simp only [b1f]
 obtain ⟨b4, hl4, hm0⟩ := b0l hm0
 refine b19 hl4 (fun | (last_5, x_11), t, h => t 2 = .fp [.fs 5 (List.map b0r h_.Combs), .fs 3 (List.map b0p h_.Trains), .fs 3 (List.map b0u h_.Shifts), I h_.Until] 0 ∧ t 3 = .fp [I t_.At.Low, I t_.At.High, .fs 3 (List.map b2m t_.Crowds)] 0 ∧ t 5 = I last_5 ∧ t 9 = .fs 3 (List.map b2m t_.Crowds) ∧ t 10 = I (List.length t_.Crowds : Int) ∧ t 11 = I x_11) ?_ ?_
 ·exact ⟨(by first | (simp only [go_sem, lA9, mA9]; done) | rfl), (by first | (simp only [go_sem, lA9, mA9]; done) | rfl), (by first | (simp only [go_sem, lA9, mA9]; done) | rfl), (by first | (simp only [go_sem, lA9, mA9]; done) | rfl), (by first | (simp only [go_sem, lA9, mA9]; done) | rfl), (by first | (simp only [go_sem, lA9, mA9]; done) | rfl)⟩
 ·rintro ⟨last_5, x_11⟩ o t h ⟨s2, s3, s5, s9, s10, s11⟩ hm1 hb4
  simp only [b6q] at hm1
  rw [g0x]
  refine b0e fun K hK => ?_
  simp only [go_sem, s10, s11]
  refine hK _ _ ?_
  clear hK K
  refine b0w fun K5 hK5 => ?_
  simp only [go_sem]
  refine b0x (fun hc6 => ?_) (fun hc6 => ?_)
  ·rw [b1e hc6] at hm1
   simp only [b1b, b0m, b0n]
   refine hK5 _ _ ?_
   refine b0w fun K7 hK7 => ?_
   simp only [b1f]
   obtain ⟨x9, h_x9, hm1⟩ := b0l hm1
   have h_x90 := b07 h_x9
   have h_x91 := b1a h_x9
   refine b0e fun K hK => ?_
   simp only [go_sem, s9, s11, b0y h_x9, b0z h_x9, h_x90, h_x91]
   refine hK _ _ ?_
   clear hK K
   refine b09 ?_
   refine b2p (fun t h => ∃ i7 : Nat, t 2 = .fp [.fs 5 (List.map b0r h_.Combs), .fs 3 (List.map b0p h_.Trains), .fs 3 (List.map b0u h_.Shifts), I h_.Until] 0 ∧ t 3 = .fp [I t_.At.Low, I t_.At.High, .fs 3 (List.map b2m t_.Crowds)] 0 ∧ t 7 = .rp i7 0 0 ∧ t 9 = .fs 3 (List.map b2m t_.Crowds) ∧ t 10 = I (List.length t_.Crowds : Int) ∧ t 11 = I x_11 ∧ t 32 = B (((decide (x9.Comb ≤ last_5)) || (decide ((List.length h_.Combs : Int) ≤ x9.Comb))) || (!(b4u x9.People 0 1000))) ∧ h.ob i7 = some (3, [[I x9.Comb, I x9.People.Low, I x9.People.High]]) ∧ i7 < h.nx) (fun K hK => ?_) ?_
   ·simp only [go_sem, s2, s5]
    refine b0x (fun hg10 => ?_) (fun hg10 => ?_)
    ·simp only [go_sem, s2, s5, hg10]
     exact hK _ _ ⟨h.nx, s2, s3, (by first | (simp only [go_sem, hg10, lA9, mA9]; done) | rfl), s9, s10, s11, (by first | (simp only [go_sem, hg10, lA9, mA9]; done) | rfl), (by simp only [go_sem, hg10, lA9, mA9]), (by simp only [go_sem])⟩
    ·simp only [go_sem, s2, s5, hg10]
     refine b0x (fun hg11 => ?_) (fun hg11 => ?_)
     ·simp only [go_sem, s2, s5, hg10, hg11]
      exact hK _ _ ⟨h.nx, s2, s3, (by first | (simp only [go_sem, hg10, hg11, lA9, mA9]; done) | rfl), s9, s10, s11, (by first | (simp only [go_sem, hg10, hg11, lA9, mA9]; done) | rfl), (by simp only [go_sem, hg10, hg11, lA9, mA9]), (by simp only [go_sem])⟩
     ·simp only [go_sem, s2, s5, hg10, hg11]
      refine b1u (b86 x9.People 0 1000) ?_
      simp only [go_sem, s2, s5, hg10, hg11]
      exact hK _ _ ⟨h.nx, s2, s3, (by first | (simp only [go_sem, hg10, hg11, lA9, mA9]; done) | rfl), s9, s10, s11, (by first | (simp only [go_sem, hg10, hg11, lA9, mA9]; done) | rfl), (by simp only [go_sem, hg10, hg11, lA9, mA9]), (by simp only [go_sem])⟩
   ·rintro t h ⟨i7, s2, s3, s7, s9, s10, s11, s32, Qr, Qi⟩
    refine b0w fun K12 hK12 => ?_
    simp only [go_sem, s32]
    refine b0x (fun hc13 => ?_) (fun hc13 => ?_)
    ·rw [b1e hc13] at hm1
     refine b0e fun K hK => ?_
     simp only [go_sem, Qi]
     refine hK _ _ ?_
     clear hK K
     simp only [b1l, b1n, b1m, b1o]
     obtain rfl := sI9 hm1
     obtain rfl := hb4 _ rfl
     try dsimp only at hm0
     obtain rfl := sI9 hm0
     exact b1v (by simp only [go_sem, Qr, Qi, lA9, mA9]) (b0o _)
    ·rw [b1d hc13] at hm1
     simp only [b1b, b0m, b0n]
     refine hK12 _ _ ?_
     refine b1p fun K hK => ?_
     simp only [go_sem, s7, Qr, Qi]
     refine hK _ _ ?_
     clear hK K
     simp only [b0m, b0n]
     refine hK7 _ _ ?_
     refine b1p fun K hK => ?_
     simp only [go_sem, s11, Qi]
     refine hK _ _ ?_
     clear hK K
     simp only [b0m, b0n]
     obtain rfl := sI9 hm1
     refine ⟨_, rfl, ?_⟩
     exact ⟨s2, s3, (by first | (simp only [go_sem, lA9, mA9]; done) | rfl), s9, s10, (by first | (simp only [go_sem, s11, lA9, mA9]; done) | rfl)⟩
  ·rw [b1d hc6] at hm1
   simp only [b1y, b11, b10, b1z, b0m, b0n, Nat.reduceEqDiff, nF9]
   obtain rfl := sI9 hm1
   obtain rfl := hb4 _ rfl
   try dsimp only at hm0
   exact J2  _ _ s2 s3 hm0
theorem b85 (hf : Has O "newel/halls.open" x_halls_open) (d04 : c72 O) : c13 O := by
 intro h_ h0 r hm0
 unfold b5q at hm0
 refine d5x hf rfl ?_
 refine b2k (fun t h => t 0 = .agg [.fs 5 (List.map b0r h_.Combs), .fs 3 (List.map b0p h_.Trains), .fs 3 (List.map b0u h_.Shifts), I h_.Until] ∧ (∀ j, j < h0.nx → h.ob j = h0.ob j) ∧ h0.nx ≤ h.nx) ⟨rfl, fun _ _ => rfl, Nat.le_refl _⟩ fun t h ⟨s0, fr, fx⟩ => ?_
 simp only [x_halls_open]
 refine b0e fun K hK => ?_
 simp only [go_sem, s0]
 refine hK _ _ ?_
 clear hK K
 refine b09 ?_
 refine b0e fun K hK => ?_
 simp only [go_sem]
 refine hK _ _ ?_
 clear hK K
 refine b0w fun K1 hK1 => ?_
 have J2 : ∀ (out_2 : List (List Int)) (v2 : AV) (hs2 : List AV) (t : Slots) (h : Heap), t 2 = v2 → RR h v2 hs2 1 eI out_2 → (∀ j, j < h0.nx → h.ob j = h0.ob j) → h0.nx ≤ h.nx → (∀ j, ¬b0d v2 hs2 j → h0.nx ≤ j) → c3a out_2 = some r → K1 t h := by
  intro out_2 v2 hs2 t h s2 Qs fr fx Q16 hm0
  refine hK1 _ _ ?_
  unfold c3a at hm0
  refine b0e fun K hK => ?_
  simp only [go_sem, s2, b3o Qs, b0b v2]
  refine hK _ _ ?_
  clear hK K
  simp only [b1l, b1n, b1m, b1o]
  obtain rfl := sI9 hm0
  exact d9e (Post := fun v h => ∃ hs, RR h v hs 1 eI out_2 ∧ (∀ j, j < h0.nx → h.ob j = h0.ob j) ∧ h0.nx ≤ h.nx ∧ ∀ j, ¬b0d v hs j → h0.nx ≤ j) (v := v2) (by simp only [go_sem, s2, b1g Qs, lA9, mA9]) ⟨hs2, Qs, fr, fx, Q16⟩
 simp only [b1f]
 obtain ⟨b3, hl3, hm0⟩ := b0l hm0
 refine b19 hl3 (fun | (out_2, x_7), t, h => ∃ v2 : AV, ∃ hs2 : List AV, t 1 = .fp [.fs 5 (List.map b0r h_.Combs), .fs 3 (List.map b0p h_.Trains), .fs 3 (List.map b0u h_.Shifts), I h_.Until] 0 ∧ t 2 = v2 ∧ t 6 = I (List.length h_.Combs : Int) ∧ t 7 = I x_7 ∧ RR h v2 hs2 1 eI out_2 ∧ (∀ j, j < h0.nx → h.ob j = h0.ob j) ∧ h0.nx ≤ h.nx ∧ (∀ j, ¬b0d v2 hs2 j → h0.nx ≤ j)) ?_ ?_
 ·exact ⟨nilS, [], (by first | (simp only [go_sem, lA9, mA9]; done) | rfl), (by first | (simp only [go_sem, lA9, mA9]; done) | rfl), (by first | (simp only [go_sem, lA9, mA9]; done) | rfl), (by first | (simp only [go_sem, lA9, mA9]; done) | rfl), j70, fr, fx, (fun _ hj => absurd j7k hj)⟩
 ·rintro ⟨out_2, x_7⟩ o t h ⟨v2, hs2, s1, s2, s6, s7, Qs, fr, fx, Q16⟩ hm1 hb3
  simp only [b8z] at hm1
  rw [g0y]
  refine b0e fun K hK => ?_
  simp only [go_sem, s6, s7, b0b v2]
  refine hK _ _ ?_
  clear hK K
  refine b0w fun K4 hK4 => ?_
  simp only [go_sem]
  refine b0x (fun hc5 => ?_) (fun hc5 => ?_)
  ·rw [b1e hc5] at hm1
   simp only [b1b, b0m, b0n]
   refine hK4 _ _ ?_
   refine b0w fun K6 hK6 => ?_
   simp only [b1f]
   refine b0e fun K hK => ?_
   simp only [go_sem, s7, b0b v2]
   refine hK _ _ ?_
   clear hK K
   obtain ⟨y9, h_y9, hm1⟩ := b0l hm1
   obtain ⟨l10, h_l10, hm1⟩ := b0l hm1
   refine b2p (fun t h => ∃ v2_1 : AV, ∃ hs2_1 : List AV, t 1 = .fp [.fs 5 (List.map b0r h_.Combs), .fs 3 (List.map b0p h_.Trains), .fs 3 (List.map b0u h_.Shifts), I h_.Until] 0 ∧ t 2 = v2_1 ∧ t 6 = I (List.length h_.Combs : Int) ∧ t 7 = I x_7 ∧ RR h v2_1 hs2_1 1 eI l10 ∧ (∀ j, j < h0.nx → h.ob j = h0.ob j) ∧ h0.nx ≤ h.nx ∧ (∀ j, ¬b0d v2_1 hs2_1 j → h0.nx ≤ j)) (fun K hK => ?_) ?_
   ·simp only [go_sem, s1, s2, b3o Qs, b0b v2]
    refine g88 (e := eI) (l := y9) ?_ (d04 h_ x_7 _ h_y9) ?_
    ·exact .cons (.refl _ (.agg _ (b0f (b01 fun a _ => b20 a) (b0f (b01 fun a _ => b24 a) (b0f (b01 fun a _ => b28 a) (b0f (b0o _) b06)))))) (.cons (.refl _ (b0o _)) (.nil))
    simp only [go_sem, s1, s2, b3o Qs, b0b v2]
    refine g8f (f := eI) (sz := 1) (rows := out_2) (hs := hs2) (u := .rs h.nx 0 (List.length y9)) ?_ ?_ ?_ h_l10 ?_
    ·exact (b3n Qs (by intro j hj  hl; first | rfl | simp only [go_sem, hl]) (by first | omega | exact Nat.le_refl _ | (simp only [go_sem, nxs] <;> omega)))
    ·exact (by simp only [go_sem, b1g Qs, lA9, mA9])
    ·exact (b2n Qs (by first | assumption | omega | (simp only [nxs] <;> omega)))
    simp only [go_sem, s1, s2, b3o Qs, b0b v2]
    exact hK _ _ ⟨(.rs (nxs (nxs h.nx)) 0 (List.length l10)), (hs2 ++ [.rs h.nx 0 (List.length y9)]), s1, (by first | (simp only [go_sem, s2, lA9, mA9]; done) | rfl), s6, s7, (j7y (h := h) Qs h_l10 (by simp only [go_sem, b1g Qs, lA9, mA9]) rfl (by simp only [go_sem]) (b3f (by simp only [go_sem, b1g Qs, lA9, mA9]) (by simp only [go_sem, b1g Qs, lA9, mA9]) (by simp only [go_sem])) (b95 (by first | assumption | exact b2n Qs (by first | omega | (simp only [nxs] <;> omega)))) (by first | omega | exact Nat.le_refl _ | (simp only [go_sem, nxs] <;> omega)) (by first | exact b02 | exact b03 (by first | assumption | omega | (simp only [nxs] <;> omega))) (by intro j hj h2 hl; first | rfl | simp only [go_sem, h2, hl]) (by first | omega | exact Nat.le_refl _ | (simp only [go_sem, nxs] <;> omega))), (by intro j hj; first | exact fr j hj | (refine Eq.trans ?_ (fr j hj); first | rfl | simp only [go_sem, Nat.lt_of_lt_of_le hj fx, b0i (g6z Q16 hj)])), (by first | exact fx | omega | (simp only [go_sem, nxs] <;> omega)), (g6y Q16 (by first | assumption | omega | (simp only [nxs] <;> omega)) (c5f (by first | assumption | omega | (simp only [nxs] <;> omega))))⟩
   ·rintro t h ⟨v2_1, hs2_1, s1, s2, s6, s7, Qs, fr, fx, Q16⟩
    refine c8y ?_
    refine g5d ?_
    simp only [b1b, b0m, b0n]
    refine hK6 _ _ ?_
    refine b1p fun K hK => ?_
    simp only [go_sem, s7, b0b v2, b0b v2_1]
    refine hK _ _ ?_
    clear hK K
    simp only [b0m, b0n]
    obtain rfl := sI9 hm1
    refine ⟨_, rfl, ?_⟩
    exact ⟨v2_1, hs2_1, s1, s2, s6, (by first | (simp only [go_sem, s7, lA9, mA9]; done) | rfl), (b3n Qs (by intro j hj  hl; first | rfl | simp only [go_sem, hl]) (by first | omega | exact Nat.le_refl _ | (simp only [go_sem, nxs] <;> omega))), (by intro j hj; first | exact fr j hj | (refine Eq.trans ?_ (fr j hj); first | rfl | simp only [go_sem, Nat.lt_of_lt_of_le hj fx])), (by first | exact fx | omega | (simp only [go_sem, nxs] <;> omega)), Q16⟩
  ·rw [b1d hc5] at hm1
   simp only [b1y, b11, b10, b1z, b0m, b0n, Nat.reduceEqDiff, nF9]
   obtain rfl := sI9 hm1
   obtain rfl := hb3 _ rfl
   try dsimp only at hm0
   exact J2 out_2 v2 hs2 _ _ s2 Qs fr fx Q16 hm0
theorem c3j (hf : Has O "newel/halls.over" x_halls_over) (c3m : c4u O) (d03 : c71 O) : c4q O := by
 intro h_ all r hm0
 unfold c0l at hm0
 refine b2q hf rfl (b0f (.agg _ (b0f (b01 fun a _ => b20 a) (b0f (b01 fun a _ => b24 a) (b0f (b01 fun a _ => b28 a) (b0f (b0o _) b06))))) (b0f (b01 fun a _ => d4b a) b06)) (b01 fun a _ => c5e a) ?_
 refine b2k (fun t h => t 0 = .agg [.fs 5 (List.map b0r h_.Combs), .fs 3 (List.map b0p h_.Trains), .fs 3 (List.map b0u h_.Shifts), I h_.Until] ∧ t 1 = .fs 1 (List.map b27 all)) ⟨rfl, rfl⟩ fun t h ⟨s0, s1⟩ => ?_
 simp only [x_halls_over]
 refine b0e fun K hK => ?_
 simp only [go_sem, s0]
 refine hK _ _ ?_
 clear hK K
 refine b09 ?_
 refine b0e fun K hK => ?_
 simp only [go_sem, s1]
 refine hK _ _ ?_
 clear hK K
 refine b0w fun K1 hK1 => ?_
 have J2 : ∀ (out_4 : List (Int × Int)) (v4 : AV) (t : Slots) (h : Heap), t 4 = v4 → b0j h v4 2 (List.map b5n out_4) → c3b out_4 = some r → K1 t h := by
  intro out_4 v4 t h s4 Q11 hm0
  refine hK1 _ _ ?_
  unfold c3b at hm0
  refine b0e fun K hK => ?_
  simp only [go_sem, s4, b0b v4]
  refine hK _ _ ?_
  clear hK K
  simp only [b1l, b1n, b1m, b1o]
  obtain rfl := sI9 hm0
  exact d33 (v := v4) (by simp only [go_sem, s4, b0h Q11, lA9, mA9]) (b35 (f := b5n) (l := out_4) (b05 Q11 (by intro j hj hl; first | rfl | simp only [go_sem, hl]) (by first | omega | exact Nat.le_refl _ | (simp only [go_sem, nxs] <;> omega))) c5e j1k)
 simp only [b1f]
 obtain ⟨b3, hl3, hm0⟩ := b0l hm0
 refine b19 hl3 (fun | (out_4, x_10), t, h => ∃ v4 : AV, t 2 = .fp [.fs 5 (List.map b0r h_.Combs), .fs 3 (List.map b0p h_.Trains), .fs 3 (List.map b0u h_.Shifts), I h_.Until] 0 ∧ t 4 = v4 ∧ t 8 = .fs 1 (List.map b27 all) ∧ t 9 = I (List.length all : Int) ∧ t 10 = I x_10 ∧ b0j h v4 2 (List.map b5n out_4)) ?_ ?_
 ·exact ⟨(.v (.slice none 0 0)), (by first | (simp only [go_sem, lA9, mA9]; done) | rfl), (by first | (simp only [go_sem, lA9, mA9]; done) | rfl), (by first | (simp only [go_sem, lA9, mA9]; done) | rfl), (by first | (simp only [go_sem, lA9, mA9]; done) | rfl), (by first | (simp only [go_sem, lA9, mA9]; done) | rfl), b4y⟩
 ·rintro ⟨out_4, x_10⟩ o t h ⟨v4, s2, s4, s8, s9, s10, Q11⟩ hm1 hb3
  simp only [c5v] at hm1
  rw [g0z]
  refine b0e fun K hK => ?_
  simp only [go_sem, s9, s10, b0b v4]
  refine hK _ _ ?_
  clear hK K
  refine b0w fun K4 hK4 => ?_
  simp only [go_sem]
  refine b0x (fun hc5 => ?_) (fun hc5 => ?_)
  ·rw [b1e hc5] at hm1
   simp only [b1b, b0m, b0n]
   refine hK4 _ _ ?_
   refine b0w fun K6 hK6 => ?_
   have J7 : ∀ (out_4_1 : List (Int × Int)) (v4_1 : AV) (t : Slots) (h : Heap), t 2 = .fp [.fs 5 (List.map b0r h_.Combs), .fs 3 (List.map b0p h_.Trains), .fs 3 (List.map b0u h_.Shifts), I h_.Until] 0 → t 4 = v4_1 → t 8 = .fs 1 (List.map b27 all) → t 9 = I (List.length all : Int) → t 10 = I x_10 → b0j h v4_1 2 (List.map b5n out_4_1) → c0n x_10 out_4_1 = some o → K6 t h := by
    intro out_4_1 v4_1 t h s2 s4 s8 s9 s10 Q11 hm1
    refine hK6 _ _ ?_
    unfold c0n at hm1
    refine b1p fun K hK => ?_
    simp only [go_sem, s10, b0b v4, b0b v4_1]
    refine hK _ _ ?_
    clear hK K
    simp only [b0m, b0n]
    obtain rfl := sI9 hm1
    refine ⟨_, rfl, ?_⟩
    exact ⟨v4_1, s2, s4, s8, s9, (by first | (simp only [go_sem, s10, lA9, mA9]; done) | rfl), Q11⟩
   simp only [b1f]
   obtain ⟨x9, h_x9, hm1⟩ := b0l hm1
   have h_x90 := b07 h_x9
   have h_x91 := b1a h_x9
   refine b0e fun K hK => ?_
   simp only [go_sem, s8, s10, b0y h_x9, b0z h_x9, h_x90, h_x91, b0b v4]
   refine hK _ _ ?_
   clear hK K
   obtain ⟨y13, h_y13, hm1⟩ := b0l hm1
   refine b0e fun K hK => ?_
   simp only [go_sem, s2, b0b v4]
   refine c51 ?_ (c3m x9.most "newel/halls.over$1" [] [.fp [.fs 5 (List.map b0r h_.Combs), .fs 3 (List.map b0p h_.Trains), .fs 3 (List.map b0u h_.Shifts), I h_.Until] 0, .fp [I x_10] 0] (fun z12 => c0m z12 h_ x_10) (.fn _ _ _ b06 (b0f (.fp _ _ (b0f (b01 fun a _ => b20 a) (b0f (b01 fun a _ => b24 a) (b0f (b01 fun a _ => b28 a) (b0f (b0o _) b06))))) (b0f (.fp _ _ (b0f (b0o _) b06)) b06))) (fun z0 y hz => d03 z0 h_ x_10 y hz) _ h_y13) (.v _) ?_
   ·exact .cons (.refl _ (b01 fun a _ => b2r a)) (.cons (g6e (.nil) (.cons (.refl _ (.fp _ _ (b0f (b01 fun a _ => b20 a) (b0f (b01 fun a _ => b24 a) (b0f (b01 fun a _ => b28 a) (b0f (b0o _) b06)))))) (.cons (d4c (id := h.nx) (sz := 1) (xs := [I x_10]) (by simp only [go_sem, b0h Q11]) (.cons (.refl _ (b0o _)) (.nil))) (.nil)))) (.nil))
   simp only [go_sem, s2, b0b v4]
   refine hK _ _ ?_
   clear hK K
   refine b0e fun K hK => ?_
   simp only [go_sem, b0b v4]
   refine hK _ _ ?_
   clear hK K
   simp only [go_sem]
   refine b0x (fun hc14 => ?_) (fun hc14 => ?_)
   ·rw [b1e hc14] at hm1
    obtain ⟨l16, h_l16, hm1⟩ := b0l hm1
    refine b1p fun K hK => ?_
    simp only [go_sem, s4, b0b v4]
    refine b4v (f := b5n) (l := out_4) (m := ([(x_10, y13)])) ?_ ?_ ?_ ?_ h_l16 ?_
    ·exact (b05 Q11 (by intro j hj hl; first | rfl | simp only [go_sem, hl]) (by first | omega | exact Nat.le_refl _ | (simp only [go_sem, nxs] <;> omega)))
    ·exact (b4z (by simp only [go_sem, b0h Q11, lA9, mA9]) (by simp only [go_sem, b0h Q11, lA9, mA9]))
    ·exact (b2c (by first | exact b02 | exact b03 (by first | omega | (simp only [nxs] <;> omega)) | assumption | exact b0q (by assumption) (by first | omega | (simp only [go_sem, nxs] <;> omega))))
    ·exact (fun _ => by simp)
    simp only [go_sem, s4, b0b v4]
    refine hK _ _ ?_
    clear hK K
    simp only [b0m, b0n]
    exact J7 l16 (.rs (nxs (nxs h.nx)) 0 (List.length l16)) _ _ s2 (by first | (simp only [go_sem, s4, lA9, mA9]; done) | rfl) s8 s9 s10 (b3f (by simp only [go_sem, b0h Q11, lA9, mA9]) (by first | rfl | simp only [go_sem, lA9, mA9]) (by simp only [go_sem])) hm1
   ·rw [b1d hc14] at hm1
    simp only [b1b, b0m, b0n]
    exact J7 out_4 v4 _ _ s2 s4 s8 s9 s10 (b05 Q11 (by intro j hj hl; first | rfl | simp only [go_sem, hl]) (by first | omega | exact Nat.le_refl _ | (simp only [go_sem, nxs] <;> omega))) hm1
  ·rw [b1d hc5] at hm1
   simp only [b1y, b11, b10, b1z, b0m, b0n, Nat.reduceEqDiff, nF9]
   obtain rfl := sI9 hm1
   obtain rfl := hb3 _ rfl
   try dsimp only at hm0
   exact J2 out_4 v4 _ _ s4 Q11 hm0
theorem d04 (hf : Has O "newel/halls.rates" x_halls_rates) : c72 O := by
 intro h_ comb r hm0
 unfold b80 at hm0
 refine g56 hf rfl (b0f (.agg _ (b0f (b01 fun a _ => b20 a) (b0f (b01 fun a _ => b24 a) (b0f (b01 fun a _ => b28 a) (b0f (b0o _) b06))))) (b0f (b0o _) b06)) (by first | exact d84 | exact d83) ?_
 refine b2k (fun t h => t 0 = .agg [.fs 5 (List.map b0r h_.Combs), .fs 3 (List.map b0p h_.Trains), .fs 3 (List.map b0u h_.Shifts), I h_.Until] ∧ t 1 = I comb) ⟨rfl, rfl⟩ fun t h ⟨s0, s1⟩ => ?_
 simp only [x_halls_rates]
 refine b0e fun K hK => ?_
 simp only [go_sem, s0]
 refine hK _ _ ?_
 clear hK K
 obtain ⟨l2, h_l2, hm0⟩ := b0l hm0
 refine b0e fun K hK => ?_
 simp only [go_sem]
 refine b6z (f := eI) (z := 0) rfl h_l2 ?_
 simp only [go_sem]
 refine hK _ _ ?_
 clear hK K
 obtain ⟨x4, h_x4, hm0⟩ := b0l hm0
 have h_x40 := b07 h_x4
 have h_x41 := b1a h_x4
 refine b0e fun K hK => ?_
 simp only [go_sem, s1, b0y h_x4, b0z h_x4, h_x40, h_x41]
 refine hK _ _ ?_
 clear hK K
 refine b09 ?_
 refine b0e fun K hK => ?_
 simp only [go_sem]
 refine hK _ _ ?_
 clear hK K
 refine b0w fun K5 hK5 => ?_
 have J6 : ∀ (out_5 : List Int) (i5 : Nat) (t : Slots) (h : Heap), t 5 = .rs i5 0 (List.length out_5) → h.ob i5 = some (1, List.map eI out_5) → i5 < h.nx → c3c out_5 = some r → K5 t h := by
  intro out_5 i5 t h s5 Q9 Q4 hm0
  refine hK5 _ _ ?_
  unfold c3c at hm0
  refine b0e fun K hK => ?_
  simp only [go_sem, s5, Q9, Q4]
  refine hK _ _ ?_
  clear hK K
  simp only [b1l, b1n, b1m, b1o]
  obtain rfl := sI9 hm0
  exact g5o (id := i5) (by simp only [go_sem, lA9, mA9]) (by simp only [go_sem, Q9, Q4, lA9, mA9]) (by first | exact d84 | exact d83)
 simp only [b1f]
 obtain ⟨b7, hl7, hm0⟩ := b0l hm0
 refine b19 hl7 (fun | (out_5, now_6, at_7, x_20), t, h => ∃ i5 : Nat, t 1 = I comb ∧ t 2 = .fp [.fs 5 (List.map b0r h_.Combs), .fs 3 (List.map b0p h_.Trains), .fs 3 (List.map b0u h_.Shifts), I h_.Until] 0 ∧ t 5 = .rs i5 0 (List.length out_5) ∧ t 6 = I now_6 ∧ t 7 = I at_7 ∧ t 19 = I ((List.length l2 : Nat) : Int) ∧ t 20 = I x_20 ∧ h.ob i5 = some (1, List.map eI out_5) ∧ i5 < h.nx) ?_ ?_
 ·exact ⟨h.nx, s1, (by first | (simp only [go_sem, lA9, mA9]; done) | rfl), (by first | (simp only [go_sem, lA9, mA9]; done) | rfl), (by first | (simp only [go_sem, lA9, mA9]; done) | rfl), (by first | (simp only [go_sem, lA9, mA9]; done) | rfl), (by first | (simp only [go_sem, lA9, mA9]; done) | rfl), (by first | (simp only [go_sem, lA9, mA9]; done) | rfl), (by simp only [go_sem, lA9, mA9]), (by simp only [go_sem])⟩
 ·rintro ⟨out_5, now_6, at_7, x_20⟩ o t h ⟨i5, s1, s2, s5, s6, s7, s19, s20, Q9, Q4⟩ hm1 hb7
  simp only [b81] at hm1
  rw [g01]
  refine b0e fun K hK => ?_
  simp only [go_sem, s19, s20, Q4]
  refine hK _ _ ?_
  clear hK K
  refine b0w fun K8 hK8 => ?_
  simp only [go_sem]
  refine b0x (fun hc9 => ?_) (fun hc9 => ?_)
  ·rw [b1e hc9] at hm1
   simp only [b1b, b0m, b0n]
   refine hK8 _ _ ?_
   refine b0w fun K10 hK10 => ?_
   have J11 : ∀ (out_5_1 : List Int) (now_6_1 : Int) (at_7_1 : Int) (t : Slots) (h : Heap), t 1 = I comb → t 2 = .fp [.fs 5 (List.map b0r h_.Combs), .fs 3 (List.map b0p h_.Trains), .fs 3 (List.map b0u h_.Shifts), I h_.Until] 0 → t 5 = .rs i5 0 (List.length out_5_1) → t 6 = I now_6_1 → t 7 = I at_7_1 → t 19 = I ((List.length l2 : Nat) : Int) → t 20 = I x_20 → h.ob i5 = some (1, List.map eI out_5_1) → i5 < h.nx → c0o x_20 out_5_1 now_6_1 at_7_1 = some o → K10 t h := by
    try clear s1 s2 s5 s6 s7 s19 s20 Q9 Q4
    intro out_5_1 now_6_1 at_7_1 t h s1 s2 s5 s6 s7 s19 s20 Q9 Q4 hm1
    refine hK10 _ _ ?_
    unfold c0o at hm1
    refine b1p fun K hK => ?_
    simp only [go_sem, s20, Q4]
    refine hK _ _ ?_
    clear hK K
    simp only [b0m, b0n]
    obtain rfl := sI9 hm1
    refine ⟨_, rfl, ?_⟩
    exact ⟨i5, s1, s2, (by first | exact s5 | simp only [go_sem, s5, lA9, mA9]), s6, s7, s19, (by first | (simp only [go_sem, s20, lA9, mA9]; done) | rfl), Q9, Q4⟩
   simp only [b1f]
   refine b0e fun K hK => ?_
   simp only [go_sem, s20, Q4]
   refine hK _ _ ?_
   clear hK K
   refine b0w fun K12 hK12 => ?_
   have J13 : ∀ (now_6_1 : Int) (at_7_1 : Int) (t : Slots) (h : Heap), t 1 = I comb → t 2 = .fp [.fs 5 (List.map b0r h_.Combs), .fs 3 (List.map b0p h_.Trains), .fs 3 (List.map b0u h_.Shifts), I h_.Until] 0 → t 5 = .rs i5 0 (List.length out_5) → t 6 = I now_6_1 → t 7 = I at_7_1 → t 8 = I x_20 → t 19 = I ((List.length l2 : Nat) : Int) → t 20 = I x_20 → h.ob i5 = some (1, List.map eI out_5) → i5 < h.nx → c0p out_5 x_20 now_6_1 at_7_1 = some o → K12 t h := by
    try clear s1 s2 s5 s6 s7 s19 s20 Q9 Q4
    intro now_6_1 at_7_1 t h s1 s2 s5 s6 s7 s8 s19 s20 Q9 Q4 hm1
    refine hK12 _ _ ?_
    unfold c0p at hm1
    obtain ⟨x15, h_x15, hm1⟩ := b0l hm1
    have h_x150 := b07 h_x15
    have h_x151 := b1a h_x15
    refine b1p fun K hK => ?_
    simp only [go_sem, s5, s6, s8, Q9, Q4, b0y h_x15, b0z h_x15, h_x150, h_x151]
    refine hK _ _ ?_
    clear hK K
    simp only [b0m, b0n]
    exact J11 (List.set out_5 (Int.toNat x_20) now_6_1) now_6_1 at_7_1 _ _ s1 s2 (by first | exact s5 | simp only [go_sem, s5, lA9, mA9]) s6 s7 s19 s20 (by simp only [go_sem, Q9, Q4, lA9, mA9]) (by simp only [go_sem, Q4]) hm1
   simp only [b1f]
   obtain ⟨b16, hl16, hm1⟩ := b0l hm1
   refine b19 hl16 (fun | (now_6_1, at_7_1), t, h => t 1 = I comb ∧ t 2 = .fp [.fs 5 (List.map b0r h_.Combs), .fs 3 (List.map b0p h_.Trains), .fs 3 (List.map b0u h_.Shifts), I h_.Until] 0 ∧ t 5 = .rs i5 0 (List.length out_5) ∧ t 6 = I now_6_1 ∧ t 7 = I at_7_1 ∧ t 8 = I x_20 ∧ t 19 = I ((List.length l2 : Nat) : Int) ∧ t 20 = I x_20 ∧ h.ob i5 = some (1, List.map eI out_5) ∧ i5 < h.nx) ?_ ?_
   ·exact ⟨s1, s2, (by first | exact s5 | simp only [go_sem, s5, lA9, mA9]), s6, s7, (by first | (simp only [go_sem, lA9, mA9]; done) | rfl), s19, s20, Q9, Q4⟩
   ·try clear s1 s2 s5 s6 s7 s19 s20 Q9 Q4
    rintro ⟨now_6_1, at_7_1⟩ o t h ⟨s1, s2, s5, s6, s7, s8, s19, s20, Q9, Q4⟩ hm2 hb16
    simp only [b7s] at hm2
    rw [g00]
    refine b09 ?_
    obtain ⟨c20, h_c20, hm2⟩ := b0l hm2
    refine b2p (fun t h => t 1 = I comb ∧ t 2 = .fp [.fs 5 (List.map b0r h_.Combs), .fs 3 (List.map b0p h_.Trains), .fs 3 (List.map b0u h_.Shifts), I h_.Until] 0 ∧ t 5 = .rs i5 0 (List.length out_5) ∧ t 6 = I now_6_1 ∧ t 7 = I at_7_1 ∧ t 8 = I x_20 ∧ t 19 = I ((List.length l2 : Nat) : Int) ∧ t 20 = I x_20 ∧ t 37 = B c20 ∧ h.ob i5 = some (1, List.map eI out_5) ∧ i5 < h.nx) (fun K hK => ?_) ?_
    ·simp only [go_sem, s2, s7, s8, Q4]
     refine b0x (fun hg21 => ?_) (fun hg21 => ?_)
     ·simp only [hg21, Bool.not_true, Bool.not_false, eq_self, if_true, if_false, Bool.true_or, Bool.or_true, Bool.false_or, Bool.or_false, Bool.true_and, Bool.and_true, Bool.false_and, Bool.and_false, Bool.false_eq_true] at h_c20
      obtain ⟨x19, h_x19, h_c20⟩ := b0l h_c20
      have h_x190 := b07 h_x19
      have h_x191 := b1a h_x19
      obtain rfl := sI9 h_c20
      simp only [go_sem, s2, s7, s8, Q4, b0y h_x19, b0z h_x19, h_x190, h_x191, hg21]
      exact hK _ _ ⟨s1, s2, (by first | exact s5 | simp only [go_sem, s5, lA9, mA9]), s6, s7, s8, s19, s20, (by first | (simp only [go_sem, hg21, lA9, mA9]; done) | rfl), Q9, Q4⟩
     ·simp only [hg21, Bool.not_true, Bool.not_false, eq_self, if_true, if_false, Bool.true_or, Bool.or_true, Bool.false_or, Bool.or_false, Bool.true_and, Bool.and_true, Bool.false_and, Bool.and_false, Bool.false_eq_true] at h_c20
      obtain rfl := sI9 h_c20
      simp only [go_sem, s2, s7, s8, Q4, hg21]
      exact hK _ _ ⟨s1, s2, (by first | exact s5 | simp only [go_sem, s5, lA9, mA9]), s6, s7, s8, s19, s20, (by first | (simp only [go_sem, hg21, lA9, mA9]; done) | rfl), Q9, Q4⟩
    ·try clear s1 s2 s5 s6 s7 s8 s19 s20 Q9 Q4
     rintro t h ⟨s1, s2, s5, s6, s7, s8, s19, s20, s37, Q9, Q4⟩
     refine b0w fun K22 hK22 => ?_
     simp only [go_sem, s37]
     refine b0x (fun hc23 => ?_) (fun hc23 => ?_)
     ·rw [b1e hc23] at hm2
      simp only [b1b, b0m, b0n]
      refine hK22 _ _ ?_
      refine b0w fun K24 hK24 => ?_
      have J25 : ∀ (now_6_2 : Int) (t : Slots) (h : Heap), t 1 = I comb → t 2 = .fp [.fs 5 (List.map b0r h_.Combs), .fs 3 (List.map b0p h_.Trains), .fs 3 (List.map b0u h_.Shifts), I h_.Until] 0 → t 5 = .rs i5 0 (List.length out_5) → t 6 = I now_6_2 → t 7 = I at_7_1 → t 8 = I x_20 → t 19 = I ((List.length l2 : Nat) : Int) → t 20 = I x_20 → h.ob i5 = some (1, List.map eI out_5) → i5 < h.nx → b82 at_7_1 now_6_2 = some o → K24 t h := by
       try clear s1 s2 s5 s6 s7 s8 s19 s20 s37 Q9 Q4
       intro now_6_2 t h s1 s2 s5 s6 s7 s8 s19 s20 Q9 Q4 hm2
       refine hK24 _ _ ?_
       unfold b82 at hm2
       refine b1p fun K hK => ?_
       simp only [go_sem, s7, Q4]
       refine hK _ _ ?_
       clear hK K
       simp only [b0m, b0n]
       obtain rfl := sI9 hm2
       refine ⟨_, rfl, ?_⟩
       exact ⟨s1, s2, (by first | exact s5 | simp only [go_sem, s5, lA9, mA9]), s6, (by first | (simp only [go_sem, s7, lA9, mA9]; done) | rfl), s8, s19, s20, Q9, Q4⟩
      simp only [b1f]
      obtain ⟨x27, h_x27, hm2⟩ := b0l hm2
      have h_x270 := b07 h_x27
      have h_x271 := b1a h_x27
      refine b0e fun K hK => ?_
      simp only [go_sem, s1, s2, s7, Q4, b0y h_x27, b0z h_x27, h_x270, h_x271]
      refine hK _ _ ?_
      clear hK K
      simp only [go_sem]
      refine b0x (fun hc28 => ?_) (fun hc28 => ?_)
      ·rw [b1e hc28] at hm2
       refine b1p fun K hK => ?_
       simp only [go_sem, s2, s7, Q4, b0y h_x27, b0z h_x27, h_x270, h_x271]
       refine hK _ _ ?_
       clear hK K
       simp only [b0m, b0n]
       exact J25 x27.Rate _ _ s1 s2 (by first | exact s5 | simp only [go_sem, s5, lA9, mA9]) (by first | (simp only [go_sem, s6, lA9, mA9]; done) | rfl) s7 s8 s19 s20 Q9 Q4 hm2
      ·rw [b1d hc28] at hm2
       simp only [b1b, b0m, b0n]
       exact J25 now_6_1 _ _ s1 s2 (by first | exact s5 | simp only [go_sem, s5, lA9, mA9]) s6 s7 s8 s19 s20 Q9 Q4 hm2
     ·rw [b1d hc23] at hm2
      simp only [b1y, b11, b10, b1z, b0m, b0n, Nat.reduceEqDiff, nF9]
      obtain rfl := sI9 hm2
      obtain rfl := hb16 _ rfl
      try dsimp only at hm1
      exact J13 now_6_1 at_7_1 _ _ s1 s2 (by first | exact s5 | simp only [go_sem, s5, lA9, mA9]) s6 s7 s8 s19 s20 Q9 Q4 hm1
  ·rw [b1d hc9] at hm1
   simp only [b1y, b11, b10, b1z, b0m, b0n, Nat.reduceEqDiff, nF9]
   obtain rfl := sI9 hm1
   obtain rfl := hb7 _ rfl
   try dsimp only at hm0
   exact J6 out_5 i5 _ _ (by first | exact s5 | simp only [go_sem, s5, lA9, mA9]) Q9 Q4 hm0
theorem b86 (hf : Has O "newel/halls.span" x_halls_span) : c4r O := by
 intro s low high
 generalize hm0 : b4u s low high = r
 unfold b4u at hm0
 refine b2q hf rfl (b0f (.agg _ (b0f (b0o _) (b0f (b0o _) b06))) (b0f (b0o _) (b0f (b0o _) b06))) (b0o _) ?_
 refine b2k (fun t h => t 0 = .agg [I s.Low, I s.High] ∧ t 1 = I low ∧ t 2 = I high) ⟨rfl, rfl, rfl⟩ fun t h ⟨s0, s1, s2⟩ => ?_
 simp only [x_halls_span]
 refine b0e fun K hK => ?_
 simp only [go_sem, s0]
 refine hK _ _ ?_
 clear hK K
 refine b2p (fun t h => t 6 = B (((decide (low ≤ s.Low)) && (decide (s.Low ≤ s.High))) && (decide (s.High ≤ high)))) (fun K hK => ?_) ?_
 ·simp only [go_sem, s1, s2]
  refine b0x (fun hg1 => ?_) (fun hg1 => ?_)
  ·simp only [go_sem, s1, s2, hg1]
   refine b0x (fun hg2 => ?_) (fun hg2 => ?_)
   ·simp only [go_sem, s1, s2, hg1, hg2]
    exact hK _ _ (by first | (simp only [go_sem, hg1, hg2, lA9, mA9]; done) | rfl)
   ·simp only [go_sem, s1, s2, hg1, hg2]
    exact hK _ _ (by first | (simp only [go_sem, hg1, hg2, lA9, mA9]; done) | rfl)
  ·simp only [go_sem, s1, s2, hg1]
   exact hK _ _ (by first | (simp only [go_sem, hg1, lA9, mA9]; done) | rfl)
 ·rintro t h s6
  simp only [b1l, b1n, b1m, b1o]
  obtain rfl := hm0
  exact b1v (by simp only [go_sem, s6, lA9, mA9]) (b0o _)
theorem c6a (hf : Has O "newel/newellaw06.Example" x_l06_Example) : c73 O := by
 intro _
 generalize hm0 : l06_Example = r
 unfold l06_Example at hm0
 refine b2q hf rfl b06 (.agg _ (b0f (b01 fun a _ => b20 a) (b0f (b01 fun a _ => b24 a) (b0f (b01 fun a _ => b28 a) (b0f (b0o _) b06))))) ?_
 refine b2k (fun t h => True) trivial fun t h _ => ?_
 simp only [x_l06_Example]
 refine b0e fun K hK => ?_
 simp only [go_sem]
 refine hK _ _ ?_
 clear hK K
 refine b0e fun K hK => ?_
 simp only [go_sem]
 refine hK _ _ ?_
 clear hK K
 simp only [b1l, b1n, b1m, b1o]
 obtain rfl := hm0
 exact d32 (id := h.nx) (m := 4) (cs := [.rs (nxs h.nx) 0 (2), .rs (nxs (nxs (nxs (nxs h.nx)))) 0 2, .v (.slice none 0 0), I 20]) (by simp only [go_sem, lA9, mA9]) (by simp only [go_sem, lA9, mA9]) rfl (b6m (.cons (b53 (f := b0r) (l := ([(Comb.mk 3 12 1 (Span.mk 2 3)), (Comb.mk 2 10 (-1) (Span.mk 1 1))])) (id := (nxs h.nx)) (by simp only [go_sem, lA9, mA9]) (by first | rfl | simp only [go_sem, lA9, mA9]) b20 j1l) (.cons (g6f (id := (nxs (nxs (nxs (nxs h.nx))))) (sz := 3) (rows := [[I 2, I 4, .rs (nxs (nxs h.nx)) 0 (1)], [I 5, I 5, .rs (nxs (nxs (nxs h.nx))) 0 (2)]]) (by simp only [go_sem]) rfl (.cons (.cons (.refl _ (b0o _)) (.cons (.refl _ (b0o _)) (.cons (b53 (f := b2m) (l := ([(Crowd.mk 0 (Span.mk 6 10))])) (id := (nxs (nxs h.nx))) (by simp only [go_sem, lA9, mA9]) (by first | rfl | simp only [go_sem, lA9, mA9]) c2u d8c) (.nil)))) (.cons (.cons (.refl _ (b0o _)) (.cons (.refl _ (b0o _)) (.cons (b53 (f := b2m) (l := ([(Crowd.mk 0 (Span.mk 0 4)), (Crowd.mk 1 (Span.mk 3 3))])) (id := (nxs (nxs (nxs h.nx)))) (by simp only [go_sem, lA9, mA9]) (by first | rfl | simp only [go_sem, lA9, mA9]) c2u d8c) (.nil)))) (.nil))) (by intro d hd; obtain ⟨x, _, rfl⟩ := List.mem_map.1 hd; exact j1n x)) (.cons (.nil _) (.cons (.refl _ (b0o _)) (.nil))))))
theorem d05 (hf : Has O "newel/newellaw06.Far" x_l06_Far) : c74 O := by
 intro h_ r hm0
 unfold c3n at hm0
 refine b2q hf rfl (b0f (.agg _ (b0f (b01 fun a _ => b20 a) (b0f (b01 fun a _ => b24 a) (b0f (b01 fun a _ => b28 a) (b0f (b0o _) b06))))) b06) (b0o _) ?_
 refine b2k (fun t h => t 0 = .agg [.fs 5 (List.map b0r h_.Combs), .fs 3 (List.map b0p h_.Trains), .fs 3 (List.map b0u h_.Shifts), I h_.Until]) rfl fun t h s0 => ?_
 simp only [x_l06_Far]
 refine b0e fun K hK => ?_
 simp only [go_sem, s0]
 refine hK _ _ ?_
 clear hK K
 refine b09 ?_
 refine b2p (fun t h => t 1 = .fp [.fs 5 (List.map b0r h_.Combs), .fs 3 (List.map b0p h_.Trains), .fs 3 (List.map b0u h_.Shifts), I h_.Until] 0 ∧ t 29 = B ((((decide (12 < (List.length h_.Combs : Int))) || (decide (20 < (List.length h_.Trains : Int)))) || (decide (40 < (List.length h_.Shifts : Int)))) || ((decide (40 < h_.Until)) && (decide (h_.Until ≤ 100))))) (fun K hK => ?_) ?_
 ·simp only [go_sem]
  refine b0x (fun hg1 => ?_) (fun hg1 => ?_)
  ·simp only [go_sem, hg1]
   exact hK _ _ ⟨(by first | (simp only [go_sem, hg1, lA9, mA9]; done) | rfl), (by first | (simp only [go_sem, hg1, lA9, mA9]; done) | rfl)⟩
  ·simp only [go_sem, hg1]
   refine b0x (fun hg2 => ?_) (fun hg2 => ?_)
   ·simp only [go_sem, hg1, hg2]
    exact hK _ _ ⟨(by first | (simp only [go_sem, hg1, hg2, lA9, mA9]; done) | rfl), (by first | (simp only [go_sem, hg1, hg2, lA9, mA9]; done) | rfl)⟩
   ·simp only [go_sem, hg1, hg2]
    refine b0x (fun hg3 => ?_) (fun hg3 => ?_)
    ·simp only [go_sem, hg1, hg2, hg3]
     exact hK _ _ ⟨(by first | (simp only [go_sem, hg1, hg2, hg3, lA9, mA9]; done) | rfl), (by first | (simp only [go_sem, hg1, hg2, hg3, lA9, mA9]; done) | rfl)⟩
    ·simp only [go_sem, hg1, hg2, hg3]
     refine b0x (fun hg4 => ?_) (fun hg4 => ?_)
     ·simp only [go_sem, hg1, hg2, hg3, hg4]
      exact hK _ _ ⟨(by first | (simp only [go_sem, hg1, hg2, hg3, hg4, lA9, mA9]; done) | rfl), (by first | (simp only [go_sem, hg1, hg2, hg3, hg4, lA9, mA9]; done) | rfl)⟩
     ·simp only [go_sem, hg1, hg2, hg3, hg4]
      exact hK _ _ ⟨(by first | (simp only [go_sem, hg1, hg2, hg3, hg4, lA9, mA9]; done) | rfl), (by first | (simp only [go_sem, hg1, hg2, hg3, hg4, lA9, mA9]; done) | rfl)⟩
 ·rintro t h ⟨s1, s29⟩
  refine b0w fun K5 hK5 => ?_
  simp only [go_sem, s29]
  refine b0x (fun hc6 => ?_) (fun hc6 => ?_)
  ·rw [b1e hc6] at hm0
   refine b0e fun K hK => ?_
   simp only [go_sem]
   refine hK _ _ ?_
   clear hK K
   simp only [b1l, b1n, b1m, b1o]
   obtain rfl := sI9 hm0
   exact b1v (by simp only [go_sem, lA9, mA9]) (b0o _)
  ·rw [b1d hc6] at hm0
   simp only [b1b, b0m, b0n]
   refine hK5 _ _ ?_
   refine b09 ?_
   refine b0e fun K hK => ?_
   simp only [go_sem]
   refine hK _ _ ?_
   clear hK K
   refine b0w fun K7 hK7 => ?_
   have J8 : ∀ (t : Slots) (h : Heap), d1h = some r → K7 t h := by
    intro t h hm0
    refine hK7 _ _ ?_
    unfold d1h at hm0
    refine b0e fun K hK => ?_
    simp only [go_sem]
    refine hK _ _ ?_
    clear hK K
    simp only [b1l, b1n, b1m, b1o]
    obtain rfl := sI9 hm0
    exact b1v (by simp only [go_sem, lA9, mA9]) (b0o _)
   simp only [b1f]
   obtain ⟨b9, hl9, hm0⟩ := b0l hm0
   refine b19 hl9 (fun | i_3, t, h => t 1 = .fp [.fs 5 (List.map b0r h_.Combs), .fs 3 (List.map b0p h_.Trains), .fs 3 (List.map b0u h_.Shifts), I h_.Until] 0 ∧ t 3 = I i_3) ?_ ?_
   ·exact ⟨s1, (by first | (simp only [go_sem, lA9, mA9]; done) | rfl)⟩
   ·rintro i_3 o t h ⟨s1, s3⟩ hm1 hb9
    simp only [c0x] at hm1
    rw [g02]
    refine b09 ?_
    refine b0e fun K hK => ?_
    simp only [go_sem, s1, s3]
    refine hK _ _ ?_
    clear hK K
    refine b0w fun K10 hK10 => ?_
    simp only [go_sem]
    refine b0x (fun hc11 => ?_) (fun hc11 => ?_)
    ·rw [b1e hc11] at hm1
     simp only [b1b, b0m, b0n]
     refine hK10 _ _ ?_
     refine b0w fun K12 hK12 => ?_
     simp only [b1f]
     obtain ⟨x14, h_x14, hm1⟩ := b0l hm1
     have h_x140 := b07 h_x14
     have h_x141 := b1a h_x14
     refine b0e fun K hK => ?_
     simp only [go_sem, s1, s3, b0y h_x14, b0z h_x14, h_x140, h_x141]
     refine hK _ _ ?_
     clear hK K
     simp only [go_sem]
     refine b0x (fun hc15 => ?_) (fun hc15 => ?_)
     ·rw [b1e hc15] at hm1
      refine b0e fun K hK => ?_
      simp only [go_sem]
      refine hK _ _ ?_
      clear hK K
      simp only [b1l, b1n, b1m, b1o]
      obtain rfl := sI9 hm1
      obtain rfl := hb9 _ rfl
      try dsimp only at hm0
      obtain rfl := sI9 hm0
      exact b1v (by simp only [go_sem, lA9, mA9]) (b0o _)
     ·rw [b1d hc15] at hm1
      simp only [b1b, b0m, b0n]
      refine hK12 _ _ ?_
      refine b1p fun K hK => ?_
      simp only [go_sem, s3]
      refine hK _ _ ?_
      clear hK K
      simp only [b0m, b0n]
      obtain rfl := sI9 hm1
      refine ⟨_, rfl, ?_⟩
      exact ⟨s1, (by first | (simp only [go_sem, s3, lA9, mA9]; done) | rfl)⟩
    ·rw [b1d hc11] at hm1
     simp only [b1y, b11, b10, b1z, b0m, b0n, Nat.reduceEqDiff, nF9]
     obtain rfl := sI9 hm1
     obtain rfl := hb9 _ rfl
     try dsimp only at hm0
     exact J8  _ _  hm0
theorem j07 (hf : Has O "newel/newellaw06.HallsWitnesses" x_l06_HallsWitnesses) (d05 : c74 O) (c6c : c77 O) (d0x : c7v O) (d1a : c8b O) (d06 : c75 O) : d2x O := by
 intro h_ comb tick r hm0
 unfold c3o at hm0
 refine b2q hf rfl (b0f (.agg _ (b0f (b01 fun a _ => b20 a) (b0f (b01 fun a _ => b24 a) (b0f (b01 fun a _ => b28 a) (b0f (b0o _) b06))))) (b0f (b0o _) (b0f (b0o _) b06))) (b0o _) ?_
 refine b2k (fun t h => t 0 = .agg [.fs 5 (List.map b0r h_.Combs), .fs 3 (List.map b0p h_.Trains), .fs 3 (List.map b0u h_.Shifts), I h_.Until] ∧ t 1 = I comb ∧ t 2 = I tick) ⟨rfl, rfl, rfl⟩ fun t h ⟨s0, s1, s2⟩ => ?_
 simp only [x_l06_HallsWitnesses]
 refine b0e fun K hK => ?_
 simp only [go_sem, s0]
 refine hK _ _ ?_
 clear hK K
 refine b09 ?_
 obtain ⟨y2, h_y2, hm0⟩ := b0l hm0
 refine b0e fun K hK => ?_
 simp only [go_sem]
 refine b1u (d05 h_ _ h_y2) ?_
 simp only [go_sem]
 refine hK _ _ ?_
 clear hK K
 refine b0w fun K3 hK3 => ?_
 simp only [go_sem]
 refine b0x (fun hc4 => ?_) (fun hc4 => ?_)
 ·rw [b1e hc4] at hm0
  obtain ⟨y6, h_y6, hm0⟩ := b0l hm0
  refine b0e fun K hK => ?_
  simp only [go_sem]
  refine b1u (c6c  _ h_y6) ?_
  simp only [go_sem]
  refine hK _ _ ?_
  clear hK K
  simp only [b1l, b1n, b1m, b1o]
  obtain rfl := sI9 hm0
  exact b1v (by simp only [go_sem, lA9, mA9]) (b0o _)
 ·rw [b1d hc4] at hm0
  simp only [b1b, b0m, b0n]
  refine hK3 _ _ ?_
  obtain ⟨y8, h_y8, hm0⟩ := b0l hm0
  refine b0e fun K hK => ?_
  simp only [go_sem, s1, s2]
  refine b1u (d0x h_ comb tick _ h_y8) ?_
  simp only [go_sem, s1, s2]
  refine hK _ _ ?_
  clear hK K
  obtain ⟨y10, h_y10, hm0⟩ := b0l hm0
  refine b0e fun K hK => ?_
  simp only [go_sem, s1, s2]
  refine b1u (d1a h_ comb tick _ h_y10) ?_
  simp only [go_sem, s1, s2]
  refine hK _ _ ?_
  clear hK K
  obtain ⟨c16, h_c16, hm0⟩ := b0l hm0
  obtain ⟨c18, h_c18, hm0⟩ := b0l hm0
  refine b2p (fun t h => t 6 = B c18) (fun K hK => ?_) ?_
  ·simp only [go_sem]
   refine b0x (fun hg19 => ?_) (fun hg19 => ?_)
   ·simp only [hg19, Bool.not_true, Bool.not_false, eq_self, if_true, if_false, Bool.true_or, Bool.or_true, Bool.false_or, Bool.or_false, Bool.true_and, Bool.and_true, Bool.false_and, Bool.and_false, Bool.false_eq_true] at h_c16
    obtain ⟨y15, h_y15, h_c16⟩ := b0l h_c16
    obtain rfl := sI9 h_c16
    simp only [go_sem, hg19]
    refine b1u (d06 y8.1 y10.1 _ h_y15) ?_
    simp only [go_sem, hg19]
    refine b0x (fun hg20 => ?_) (fun hg20 => ?_)
    ·simp only [hg19, hg20, Bool.not_true, Bool.not_false, eq_self, if_true, if_false, Bool.true_or, Bool.or_true, Bool.false_or, Bool.or_false, Bool.true_and, Bool.and_true, Bool.false_and, Bool.and_false, Bool.false_eq_true] at h_c18
     obtain ⟨y17, h_y17, h_c18⟩ := b0l h_c18
     obtain rfl := sI9 h_c18
     simp only [go_sem, hg19, hg20]
     refine b1u (c6c  _ h_y17) ?_
     simp only [go_sem, hg19, hg20]
     exact hK _ _ (by first | (simp only [go_sem, hg19, hg20, lA9, mA9]; done) | rfl)
    ·simp only [hg19, hg20, Bool.not_true, Bool.not_false, eq_self, if_true, if_false, Bool.true_or, Bool.or_true, Bool.false_or, Bool.or_false, Bool.true_and, Bool.and_true, Bool.false_and, Bool.and_false, Bool.false_eq_true] at h_c18
     obtain rfl := sI9 h_c18
     simp only [go_sem, hg19, hg20]
     exact hK _ _ (by first | (simp only [go_sem, hg19, hg20, lA9, mA9]; done) | rfl)
   ·simp only [hg19, Bool.not_true, Bool.not_false, eq_self, if_true, if_false, Bool.true_or, Bool.or_true, Bool.false_or, Bool.or_false, Bool.true_and, Bool.and_true, Bool.false_and, Bool.and_false, Bool.false_eq_true] at h_c16
    obtain rfl := sI9 h_c16
    simp only [hg19, Bool.not_true, Bool.not_false, eq_self, if_true, if_false, Bool.true_or, Bool.or_true, Bool.false_or, Bool.or_false, Bool.true_and, Bool.and_true, Bool.false_and, Bool.and_false, Bool.false_eq_true] at h_c18
    obtain rfl := sI9 h_c18
    simp only [go_sem, hg19]
    exact hK _ _ (by first | (simp only [go_sem, hg19, lA9, mA9]; done) | rfl)
  ·rintro t h s6
   simp only [b1l, b1n, b1m, b1o]
   obtain rfl := sI9 hm0
   exact b1v (by simp only [go_sem, s6, lA9, mA9]) (b0o _)
theorem d06 (hf : Has O "newel/newellaw06.sameDays" x_l06_sameDays) (c3k : c4s O) (c6b : c76 O) : c75 O := by
 intro a b r hm0
 unfold c3p at hm0
 refine b2q hf rfl (b0f (.agg _ (b0f (b01 fun a _ => b2r a) (b0f (b01 fun a _ => b21 a) (b0f (b01 fun a _ => b21 a) b06)))) (b0f (.agg _ (b0f (b01 fun a _ => b2r a) (b0f (b01 fun a _ => b21 a) (b0f (b01 fun a _ => b21 a) b06)))) b06)) (b0o _) ?_
 refine b2k (fun t h => t 0 = .agg [.fs 1 (List.map eI a.At), .fs 1 (List.map b0s a.People), .fs 1 (List.map b0s a.Walks)] ∧ t 1 = .agg [.fs 1 (List.map eI b.At), .fs 1 (List.map b0s b.People), .fs 1 (List.map b0s b.Walks)]) ⟨rfl, rfl⟩ fun t h ⟨s0, s1⟩ => ?_
 simp only [x_l06_sameDays]
 refine b0e fun K hK => ?_
 simp only [go_sem, s0, s1]
 refine hK _ _ ?_
 clear hK K
 obtain ⟨y6, h_y6, hm0⟩ := b0l hm0
 obtain ⟨c8, h_c8, hm0⟩ := b0l hm0
 obtain ⟨c10, h_c10, hm0⟩ := b0l hm0
 refine b2p (fun t h => t 4 = B c10) (fun K hK => ?_) ?_
 ·simp only [go_sem]
  refine b1u (c3k a.At b.At _ h_y6) ?_
  simp only [go_sem]
  refine b0x (fun hg11 => ?_) (fun hg11 => ?_)
  ·simp only [hg11, Bool.not_true, Bool.not_false, eq_self, if_true, if_false, Bool.true_or, Bool.or_true, Bool.false_or, Bool.or_false, Bool.true_and, Bool.and_true, Bool.false_and, Bool.and_false, Bool.false_eq_true] at h_c8
   obtain ⟨y7, h_y7, h_c8⟩ := b0l h_c8
   obtain rfl := sI9 h_c8
   simp only [go_sem, hg11]
   refine b1u (c6b a.People b.People _ h_y7) ?_
   simp only [go_sem, hg11]
   refine b0x (fun hg12 => ?_) (fun hg12 => ?_)
   ·simp only [hg11, hg12, Bool.not_true, Bool.not_false, eq_self, if_true, if_false, Bool.true_or, Bool.or_true, Bool.false_or, Bool.or_false, Bool.true_and, Bool.and_true, Bool.false_and, Bool.and_false, Bool.false_eq_true] at h_c10
    obtain ⟨y9, h_y9, h_c10⟩ := b0l h_c10
    obtain rfl := sI9 h_c10
    simp only [go_sem, hg11, hg12]
    refine b1u (c6b a.Walks b.Walks _ h_y9) ?_
    simp only [go_sem, hg11, hg12]
    exact hK _ _ (by first | (simp only [go_sem, hg11, hg12, lA9, mA9]; done) | rfl)
   ·simp only [hg11, hg12, Bool.not_true, Bool.not_false, eq_self, if_true, if_false, Bool.true_or, Bool.or_true, Bool.false_or, Bool.or_false, Bool.true_and, Bool.and_true, Bool.false_and, Bool.and_false, Bool.false_eq_true] at h_c10
    obtain rfl := sI9 h_c10
    simp only [go_sem, hg11, hg12]
    exact hK _ _ (by first | (simp only [go_sem, hg11, hg12, lA9, mA9]; done) | rfl)
  ·simp only [hg11, Bool.not_true, Bool.not_false, eq_self, if_true, if_false, Bool.true_or, Bool.or_true, Bool.false_or, Bool.or_false, Bool.true_and, Bool.and_true, Bool.false_and, Bool.and_false, Bool.false_eq_true] at h_c8
   obtain rfl := sI9 h_c8
   simp only [hg11, Bool.not_true, Bool.not_false, eq_self, if_true, if_false, Bool.true_or, Bool.or_true, Bool.false_or, Bool.or_false, Bool.true_and, Bool.and_true, Bool.false_and, Bool.and_false, Bool.false_eq_true] at h_c10
   obtain rfl := sI9 h_c10
   simp only [go_sem, hg11]
   exact hK _ _ (by first | (simp only [go_sem, hg11, lA9, mA9]; done) | rfl)
 ·rintro t h s4
  simp only [b1l, b1n, b1m, b1o]
  obtain rfl := sI9 hm0
  exact b1v (by simp only [go_sem, s4, lA9, mA9]) (b0o _)
theorem c6b (hf : Has O "newel/newellaw06.sameRows" x_l06_sameRows) (c3k : c4s O) : c76 O := by
 intro a b r hm0
 unfold c0y at hm0
 refine b2q hf rfl (b0f (b01 fun a _ => b21 a) (b0f (b01 fun a _ => b21 a) b06)) (b0o _) ?_
 refine b2k (fun t h => t 0 = .fs 1 (List.map b0s a) ∧ t 1 = .fs 1 (List.map b0s b)) ⟨rfl, rfl⟩ fun t h ⟨s0, s1⟩ => ?_
 simp only [x_l06_sameRows]
 refine b0e fun K hK => ?_
 simp only [go_sem]
 refine hK _ _ ?_
 clear hK K
 refine b09 ?_
 refine b0e fun K hK => ?_
 simp only [go_sem, s0, s1]
 refine hK _ _ ?_
 clear hK K
 refine b0w fun K1 hK1 => ?_
 simp only [go_sem]
 refine b0x (fun hc2 => ?_) (fun hc2 => ?_)
 ·rw [b1e hc2] at hm0
  refine b0e fun K hK => ?_
  simp only [go_sem]
  refine hK _ _ ?_
  clear hK K
  simp only [b1l, b1n, b1m, b1o]
  obtain rfl := sI9 hm0
  exact b1v (by simp only [go_sem, lA9, mA9]) (b0o _)
 ·rw [b1d hc2] at hm0
  simp only [b1b, b0m, b0n]
  refine hK1 _ _ ?_
  refine b09 ?_
  refine b0e fun K hK => ?_
  simp only [go_sem]
  refine hK _ _ ?_
  clear hK K
  refine b0w fun K3 hK3 => ?_
  have J4 : ∀ (t : Slots) (h : Heap), d1i = some r → K3 t h := by
   intro t h hm0
   refine hK3 _ _ ?_
   unfold d1i at hm0
   refine b0e fun K hK => ?_
   simp only [go_sem]
   refine hK _ _ ?_
   clear hK K
   simp only [b1l, b1n, b1m, b1o]
   obtain rfl := sI9 hm0
   exact b1v (by simp only [go_sem, lA9, mA9]) (b0o _)
  simp only [b1f]
  obtain ⟨b5, hl5, hm0⟩ := b0l hm0
  refine b19 hl5 (fun | i_5, t, h => t 0 = .fs 1 (List.map b0s a) ∧ t 1 = .fs 1 (List.map b0s b) ∧ t 5 = I i_5) ?_ ?_
  ·exact ⟨s0, s1, (by first | (simp only [go_sem, lA9, mA9]; done) | rfl)⟩
  ·rintro i_5 o t h ⟨s0, s1, s5⟩ hm1 hb5
   simp only [c3q] at hm1
   rw [g03]
   refine b09 ?_
   refine b0e fun K hK => ?_
   simp only [go_sem, s0, s5]
   refine hK _ _ ?_
   clear hK K
   refine b0w fun K6 hK6 => ?_
   simp only [go_sem]
   refine b0x (fun hc7 => ?_) (fun hc7 => ?_)
   ·rw [b1e hc7] at hm1
    simp only [b1b, b0m, b0n]
    refine hK6 _ _ ?_
    refine b0w fun K8 hK8 => ?_
    simp only [b1f]
    obtain ⟨x12, h_x12, hm1⟩ := b0l hm1
    have h_x120 := b07 h_x12
    have h_x121 := b1a h_x12
    obtain ⟨x13, h_x13, hm1⟩ := b0l hm1
    have h_x130 := b07 h_x13
    have h_x131 := b1a h_x13
    obtain ⟨y14, h_y14, hm1⟩ := b0l hm1
    refine b0e fun K hK => ?_
    simp only [go_sem, s0, s1, s5, b0y h_x12, b0z h_x12, h_x120, h_x121, b0y h_x13, b0z h_x13, h_x130, h_x131]
    refine b1u (c3k x12 x13 _ h_y14) ?_
    simp only [go_sem, s0, s1, s5, b0y h_x12, b0z h_x12, h_x120, h_x121, b0y h_x13, b0z h_x13, h_x130, h_x131]
    refine hK _ _ ?_
    clear hK K
    simp only [go_sem]
    refine b0x (fun hc15 => ?_) (fun hc15 => ?_)
    ·rw [b1e hc15] at hm1
     refine b0e fun K hK => ?_
     simp only [go_sem]
     refine hK _ _ ?_
     clear hK K
     simp only [b1l, b1n, b1m, b1o]
     obtain rfl := sI9 hm1
     obtain rfl := hb5 _ rfl
     try dsimp only at hm0
     obtain rfl := sI9 hm0
     exact b1v (by simp only [go_sem, lA9, mA9]) (b0o _)
    ·rw [b1d hc15] at hm1
     simp only [b1b, b0m, b0n]
     refine hK8 _ _ ?_
     refine b1p fun K hK => ?_
     simp only [go_sem, s5]
     refine hK _ _ ?_
     clear hK K
     simp only [b0m, b0n]
     obtain rfl := sI9 hm1
     refine ⟨_, rfl, ?_⟩
     exact ⟨s0, s1, (by first | (simp only [go_sem, s5, lA9, mA9]; done) | rfl)⟩
   ·rw [b1d hc7] at hm1
    simp only [b1y, b11, b10, b1z, b0m, b0n, Nat.reduceEqDiff, nF9]
    obtain rfl := sI9 hm1
    obtain rfl := hb5 _ rfl
    try dsimp only at hm0
    exact J4  _ _  hm0
theorem c6c (hf : Has O "newel/newellaw06.works" x_l06_works) (c6a : c73 O) (d0v : c7t O) (d0w : c7u O) : c77 O := by
 intro r hm0
 unfold b7u at hm0
 refine b2q hf rfl b06 (b0o _) ?_
 refine b2k (fun t h => True) trivial fun t h _ => ?_
 simp only [x_l06_works]
 refine b0e fun K hK => ?_
 simp only [go_sem]
 refine hK _ _ ?_
 clear hK K
 obtain ⟨y2, h_y2, hm0⟩ := b0l hm0
 refine b0e fun K hK => ?_
 simp only [go_sem]
 refine b1u (c6a ()) ?_
 simp only [go_sem]
 refine b1u (d0v l06_Example 0 5 _ h_y2) ?_
 simp only [go_sem]
 refine hK _ _ ?_
 clear hK K
 obtain ⟨y4, h_y4, hm0⟩ := b0l hm0
 refine b0e fun K hK => ?_
 simp only [go_sem]
 refine b1u (c6a ()) ?_
 simp only [go_sem]
 refine b1u (d0w l06_Example _ h_y4) ?_
 simp only [go_sem]
 refine hK _ _ ?_
 clear hK K
 obtain ⟨c8, h_c8, hm0⟩ := b0l hm0
 refine b2p (fun t h => t 0 = B c8) (fun K hK => ?_) ?_
 ·simp only [go_sem]
  refine b0x (fun hg9 => ?_) (fun hg9 => ?_)
  ·simp only [go_sem, hg9]
   refine b0x (fun hg10 => ?_) (fun hg10 => ?_)
   ·simp only [go_sem, hg9, hg10]
    refine b0x (fun hg11 => ?_) (fun hg11 => ?_)
    ·simp only [go_sem, hg9, hg10, hg11]
     refine b0x (fun hg12 => ?_) (fun hg12 => ?_)
     ·simp only [hg9, hg10, hg11, hg12, Bool.not_true, Bool.not_false, eq_self, if_true, if_false, Bool.true_or, Bool.or_true, Bool.false_or, Bool.or_false, Bool.true_and, Bool.and_true, Bool.false_and, Bool.and_false, Bool.false_eq_true] at h_c8
      obtain ⟨x7, h_x7, h_c8⟩ := b0l h_c8
      have h_x70 := b07 h_x7
      have h_x71 := b1a h_x7
      obtain rfl := sI9 h_c8
      simp only [go_sem, b0y h_x7, b0z h_x7, h_x70, h_x71, hg9, hg10, hg11, hg12]
      exact hK _ _ (by first | (simp only [go_sem, hg9, hg10, hg11, hg12, lA9, mA9]; done) | rfl)
     ·simp only [hg9, hg10, hg11, hg12, Bool.not_true, Bool.not_false, eq_self, if_true, if_false, Bool.true_or, Bool.or_true, Bool.false_or, Bool.or_false, Bool.true_and, Bool.and_true, Bool.false_and, Bool.and_false, Bool.false_eq_true] at h_c8
      obtain rfl := sI9 h_c8
      simp only [go_sem, hg9, hg10, hg11, hg12]
      exact hK _ _ (by first | (simp only [go_sem, hg9, hg10, hg11, hg12, lA9, mA9]; done) | rfl)
    ·simp only [hg9, hg10, hg11, Bool.not_true, Bool.not_false, eq_self, if_true, if_false, Bool.true_or, Bool.or_true, Bool.false_or, Bool.or_false, Bool.true_and, Bool.and_true, Bool.false_and, Bool.and_false, Bool.false_eq_true] at h_c8
     obtain rfl := sI9 h_c8
     simp only [go_sem, hg9, hg10, hg11]
     exact hK _ _ (by first | (simp only [go_sem, hg9, hg10, hg11, lA9, mA9]; done) | rfl)
   ·simp only [hg9, hg10, Bool.not_true, Bool.not_false, eq_self, if_true, if_false, Bool.true_or, Bool.or_true, Bool.false_or, Bool.or_false, Bool.true_and, Bool.and_true, Bool.false_and, Bool.and_false, Bool.false_eq_true] at h_c8
    obtain rfl := sI9 h_c8
    simp only [go_sem, hg9, hg10]
    exact hK _ _ (by first | (simp only [go_sem, hg9, hg10, lA9, mA9]; done) | rfl)
  ·simp only [hg9, Bool.not_true, Bool.not_false, eq_self, if_true, if_false, Bool.true_or, Bool.or_true, Bool.false_or, Bool.or_false, Bool.true_and, Bool.and_true, Bool.false_and, Bool.and_false, Bool.false_eq_true] at h_c8
   obtain rfl := sI9 h_c8
   simp only [go_sem, hg9]
   exact hK _ _ (by first | (simp only [go_sem, hg9, lA9, mA9]; done) | rfl)
 ·rintro t h s0
  simp only [b1l, b1n, b1m, b1o]
  obtain rfl := sI9 hm0
  exact b1v (by simp only [go_sem, s0, lA9, mA9]) (b0o _)
theorem d08 (hf : Has O "newel/newelref06.Check" x_r06_Check) (b4w : c14 O) (c0w : c8d O) : c79 O := by
 intro h_ r hm0
 unfold b6c at hm0
 refine b2q hf rfl (b0f (.agg _ (b0f (b01 fun a _ => b20 a) (b0f (b01 fun a _ => b24 a) (b0f (b01 fun a _ => b28 a) (b0f (b0o _) b06))))) b06) (b0o _) ?_
 refine b2k (fun t h => t 0 = .agg [.fs 5 (List.map b0r h_.Combs), .fs 3 (List.map b0p h_.Trains), .fs 3 (List.map b0u h_.Shifts), I h_.Until]) rfl fun t h s0 => ?_
 simp only [x_r06_Check]
 refine b0e fun K hK => ?_
 simp only [go_sem, s0]
 refine hK _ _ ?_
 clear hK K
 refine b09 ?_
 refine b2p (fun t h => t 1 = .fp [.fs 5 (List.map b0r h_.Combs), .fs 3 (List.map b0p h_.Trains), .fs 3 (List.map b0u h_.Shifts), I h_.Until] 0 ∧ t 34 = B ((((!(b2v h_.Until 1 100)) || (!(b2v (List.length h_.Combs : Int) 1 8))) || (decide (12 < (List.length h_.Trains : Int)))) || (decide (20 < (List.length h_.Shifts : Int))))) (fun K hK => ?_) ?_
 ·simp only [go_sem]
  refine b1u (b4w h_.Until 1 100) ?_
  simp only [go_sem]
  refine b0x (fun hg1 => ?_) (fun hg1 => ?_)
  ·simp only [go_sem, hg1]
   exact hK _ _ ⟨(by first | (simp only [go_sem, hg1, lA9, mA9]; done) | rfl), (by first | (simp only [go_sem, hg1, lA9, mA9]; done) | rfl)⟩
  ·simp only [go_sem, hg1]
   refine b1u (b4w (List.length h_.Combs : Int) 1 8) ?_
   simp only [go_sem, hg1]
   refine b0x (fun hg2 => ?_) (fun hg2 => ?_)
   ·simp only [go_sem, hg1, hg2]
    exact hK _ _ ⟨(by first | (simp only [go_sem, hg1, hg2, lA9, mA9]; done) | rfl), (by first | (simp only [go_sem, hg1, hg2, lA9, mA9]; done) | rfl)⟩
   ·simp only [go_sem, hg1, hg2]
    refine b0x (fun hg3 => ?_) (fun hg3 => ?_)
    ·simp only [go_sem, hg1, hg2, hg3]
     exact hK _ _ ⟨(by first | (simp only [go_sem, hg1, hg2, hg3, lA9, mA9]; done) | rfl), (by first | (simp only [go_sem, hg1, hg2, hg3, lA9, mA9]; done) | rfl)⟩
    ·simp only [go_sem, hg1, hg2, hg3]
     exact hK _ _ ⟨(by first | (simp only [go_sem, hg1, hg2, hg3, lA9, mA9]; done) | rfl), (by first | (simp only [go_sem, hg1, hg2, hg3, lA9, mA9]; done) | rfl)⟩
 ·rintro t h ⟨s1, s34⟩
  refine b0w fun K4 hK4 => ?_
  simp only [go_sem, s34]
  refine b0x (fun hc5 => ?_) (fun hc5 => ?_)
  ·rw [b1e hc5] at hm0
   refine b0e fun K hK => ?_
   simp only [go_sem]
   refine hK _ _ ?_
   clear hK K
   simp only [b1l, b1n, b1m, b1o]
   obtain rfl := sI9 hm0
   exact b1v (by simp only [go_sem, lA9, mA9]) (b0o _)
  ·rw [b1d hc5] at hm0
   simp only [b1b, b0m, b0n]
   refine hK4 _ _ ?_
   refine b0e fun K hK => ?_
   simp only [go_sem, s1]
   refine hK _ _ ?_
   clear hK K
   refine b09 ?_
   refine b0e fun K hK => ?_
   simp only [go_sem]
   refine hK _ _ ?_
   clear hK K
   refine b0w fun K6 hK6 => ?_
   have J7 : ∀ (t : Slots) (h : Heap), t 1 = .fp [.fs 5 (List.map b0r h_.Combs), .fs 3 (List.map b0p h_.Trains), .fs 3 (List.map b0u h_.Shifts), I h_.Until] 0 → t 3 = I (List.length h_.Combs : Int) → c63 h_ = some r → K6 t h := by
    intro t h s1 s3 hm0
    refine hK6 _ _ ?_
    unfold c63 at hm0
    refine b09 ?_
    refine b0e fun K hK => ?_
    simp only [go_sem]
    refine hK _ _ ?_
    clear hK K
    refine b0w fun K8 hK8 => ?_
    have J9 : ∀ (t : Slots) (h : Heap), t 1 = .fp [.fs 5 (List.map b0r h_.Combs), .fs 3 (List.map b0p h_.Trains), .fs 3 (List.map b0u h_.Shifts), I h_.Until] 0 → t 3 = I (List.length h_.Combs : Int) → c64 h_ = some r → K8 t h := by
     intro t h s1 s3 hm0
     refine hK8 _ _ ?_
     unfold c64 at hm0
     refine b09 ?_
     refine b0e fun K hK => ?_
     simp only [go_sem]
     refine hK _ _ ?_
     clear hK K
     refine b0w fun K10 hK10 => ?_
     have J11 : ∀ (t : Slots) (h : Heap), d14 = some r → K10 t h := by
      intro t h hm0
      refine hK10 _ _ ?_
      unfold d14 at hm0
      refine b0e fun K hK => ?_
      simp only [go_sem]
      refine hK _ _ ?_
      clear hK K
      simp only [b1l, b1n, b1m, b1o]
      obtain rfl := sI9 hm0
      exact b1v (by simp only [go_sem, lA9, mA9]) (b0o _)
     simp only [b1f]
     obtain ⟨b12, hl12, hm0⟩ := b0l hm0
     refine b19 hl12 (fun | i_10, t, h => t 1 = .fp [.fs 5 (List.map b0r h_.Combs), .fs 3 (List.map b0p h_.Trains), .fs 3 (List.map b0u h_.Shifts), I h_.Until] 0 ∧ t 3 = I (List.length h_.Combs : Int) ∧ t 10 = I i_10) ?_ ?_
     ·exact ⟨s1, s3, (by first | (simp only [go_sem, lA9, mA9]; done) | rfl)⟩
     ·rintro i_10 o t h ⟨s1, s3, s10⟩ hm1 hb12
      simp only [c1l] at hm1
      rw [g1i]
      refine b09 ?_
      refine b0e fun K hK => ?_
      simp only [go_sem, s1, s10]
      refine hK _ _ ?_
      clear hK K
      refine b0w fun K13 hK13 => ?_
      simp only [go_sem]
      refine b0x (fun hc14 => ?_) (fun hc14 => ?_)
      ·rw [b1e hc14] at hm1
       simp only [b1b, b0m, b0n]
       refine hK13 _ _ ?_
       refine b0w fun K15 hK15 => ?_
       simp only [b1f]
       obtain ⟨x17, h_x17, hm1⟩ := b0l hm1
       have h_x170 := b07 h_x17
       have h_x171 := b1a h_x17
       refine b0e fun K hK => ?_
       simp only [go_sem, s1, s10, b0y h_x17, b0z h_x17, h_x170, h_x171]
       refine hK _ _ ?_
       clear hK K
       obtain ⟨c23, h_c23, hm1⟩ := b0l hm1
       refine b2p (fun t h => t 1 = .fp [.fs 5 (List.map b0r h_.Combs), .fs 3 (List.map b0p h_.Trains), .fs 3 (List.map b0u h_.Shifts), I h_.Until] 0 ∧ t 3 = I (List.length h_.Combs : Int) ∧ t 10 = I i_10 ∧ t 187 = B c23) (fun K hK => ?_) ?_
       ·simp only [go_sem, s1, s3, s10]
        refine b1u (b4w x17.At 0 (wr (h_.Until - 1))) ?_
        simp only [go_sem, s1, s3, s10]
        refine b0x (fun hg24 => ?_) (fun hg24 => ?_)
        ·simp only [hg24, Bool.not_true, Bool.not_false, eq_self, if_true, if_false, Bool.true_or, Bool.or_true, Bool.false_or, Bool.or_false, Bool.true_and, Bool.and_true, Bool.false_and, Bool.and_false, Bool.false_eq_true] at h_c23
         obtain rfl := sI9 h_c23
         simp only [go_sem, s1, s3, s10, hg24]
         exact hK _ _ ⟨s1, s3, s10, (by first | (simp only [go_sem, hg24, lA9, mA9]; done) | rfl)⟩
        ·simp only [go_sem, s1, s3, s10, hg24]
         refine b1u (b4w x17.Comb 0 (wr ((List.length h_.Combs : Int) - 1))) ?_
         simp only [go_sem, s1, s3, s10, hg24]
         refine b0x (fun hg25 => ?_) (fun hg25 => ?_)
         ·simp only [hg24, hg25, Bool.not_true, Bool.not_false, eq_self, if_true, if_false, Bool.true_or, Bool.or_true, Bool.false_or, Bool.or_false, Bool.true_and, Bool.and_true, Bool.false_and, Bool.and_false, Bool.false_eq_true] at h_c23
          obtain rfl := sI9 h_c23
          simp only [go_sem, s1, s3, s10, hg24, hg25]
          exact hK _ _ ⟨s1, s3, s10, (by first | (simp only [go_sem, hg24, hg25, lA9, mA9]; done) | rfl)⟩
         ·simp only [go_sem, s1, s3, s10, hg24, hg25]
          refine b1u (b4w x17.Rate 0 1000) ?_
          simp only [go_sem, s1, s3, s10, hg24, hg25]
          refine b0x (fun hg26 => ?_) (fun hg26 => ?_)
          ·simp only [hg24, hg25, hg26, Bool.not_true, Bool.not_false, eq_self, if_true, if_false, Bool.true_or, Bool.or_true, Bool.false_or, Bool.or_false, Bool.true_and, Bool.and_true, Bool.false_and, Bool.and_false, Bool.false_eq_true] at h_c23
           obtain rfl := sI9 h_c23
           simp only [go_sem, s1, s3, s10, hg24, hg25, hg26]
           exact hK _ _ ⟨s1, s3, s10, (by first | (simp only [go_sem, hg24, hg25, hg26, lA9, mA9]; done) | rfl)⟩
          ·simp only [hg24, hg25, hg26, Bool.not_true, Bool.not_false, eq_self, if_true, if_false, Bool.true_or, Bool.or_true, Bool.false_or, Bool.or_false, Bool.true_and, Bool.and_true, Bool.false_and, Bool.and_false, Bool.false_eq_true] at h_c23
           obtain ⟨c22, h_c22, h_c23⟩ := b0l h_c23
           obtain rfl := sI9 h_c23
           simp only [go_sem, s1, s3, s10, hg24, hg25, hg26]
           refine b0x (fun hg27 => ?_) (fun hg27 => ?_)
           ·simp only [hg24, hg25, hg26, hg27, Bool.not_true, Bool.not_false, eq_self, if_true, if_false, Bool.true_or, Bool.or_true, Bool.false_or, Bool.or_false, Bool.true_and, Bool.and_true, Bool.false_and, Bool.and_false, Bool.false_eq_true] at h_c22
            obtain ⟨x21, h_x21, h_c22⟩ := b0l h_c22
            have h_x210 := b07 h_x21
            have h_x211 := b1a h_x21
            obtain rfl := sI9 h_c22
            simp only [go_sem, s1, s3, s10, b0y h_x21, b0z h_x21, h_x210, h_x211, hg24, hg25, hg26, hg27]
            exact hK _ _ ⟨s1, s3, s10, (by first | (simp only [go_sem, hg24, hg25, hg26, hg27, lA9, mA9]; done) | rfl)⟩
           ·simp only [hg24, hg25, hg26, hg27, Bool.not_true, Bool.not_false, eq_self, if_true, if_false, Bool.true_or, Bool.or_true, Bool.false_or, Bool.or_false, Bool.true_and, Bool.and_true, Bool.false_and, Bool.and_false, Bool.false_eq_true] at h_c22
            obtain rfl := sI9 h_c22
            simp only [go_sem, s1, s3, s10, hg24, hg25, hg26, hg27]
            exact hK _ _ ⟨s1, s3, s10, (by first | (simp only [go_sem, hg24, hg25, hg26, hg27, lA9, mA9]; done) | rfl)⟩
       ·rintro t h ⟨s1, s3, s10, s187⟩
        simp only [go_sem, s187]
        refine b0x (fun hc28 => ?_) (fun hc28 => ?_)
        ·rw [b1e hc28] at hm1
         refine b0e fun K hK => ?_
         simp only [go_sem]
         refine hK _ _ ?_
         clear hK K
         simp only [b1l, b1n, b1m, b1o]
         obtain rfl := sI9 hm1
         obtain rfl := hb12 _ rfl
         try dsimp only at hm0
         obtain rfl := sI9 hm0
         exact b1v (by simp only [go_sem, lA9, mA9]) (b0o _)
        ·rw [b1d hc28] at hm1
         simp only [b1b, b0m, b0n]
         refine hK15 _ _ ?_
         refine b1p fun K hK => ?_
         simp only [go_sem, s10]
         refine hK _ _ ?_
         clear hK K
         simp only [b0m, b0n]
         obtain rfl := sI9 hm1
         refine ⟨_, rfl, ?_⟩
         exact ⟨s1, s3, (by first | (simp only [go_sem, s10, lA9, mA9]; done) | rfl)⟩
      ·rw [b1d hc14] at hm1
       simp only [b1y, b11, b10, b1z, b0m, b0n, Nat.reduceEqDiff, nF9]
       obtain rfl := sI9 hm1
       obtain rfl := hb12 _ rfl
       try dsimp only at hm0
       exact J11  _ _  hm0
    simp only [b1f]
    obtain ⟨b30, hl30, hm0⟩ := b0l hm0
    refine b19 hl30 (fun | i_6, t, h => t 1 = .fp [.fs 5 (List.map b0r h_.Combs), .fs 3 (List.map b0p h_.Trains), .fs 3 (List.map b0u h_.Shifts), I h_.Until] 0 ∧ t 3 = I (List.length h_.Combs : Int) ∧ t 6 = I i_6) ?_ ?_
    ·exact ⟨s1, s3, (by first | (simp only [go_sem, lA9, mA9]; done) | rfl)⟩
    ·rintro i_6 o t h ⟨s1, s3, s6⟩ hm1 hb30
     simp only [c1k] at hm1
     rw [g1h]
     refine b09 ?_
     refine b0e fun K hK => ?_
     simp only [go_sem, s1, s6]
     refine hK _ _ ?_
     clear hK K
     refine b0w fun K31 hK31 => ?_
     simp only [go_sem]
     refine b0x (fun hc32 => ?_) (fun hc32 => ?_)
     ·rw [b1e hc32] at hm1
      simp only [b1b, b0m, b0n]
      refine hK31 _ _ ?_
      refine b0w fun K33 hK33 => ?_
      have J34 : ∀ (t : Slots) (h : Heap), t 1 = .fp [.fs 5 (List.map b0r h_.Combs), .fs 3 (List.map b0p h_.Trains), .fs 3 (List.map b0u h_.Shifts), I h_.Until] 0 → t 3 = I (List.length h_.Combs : Int) → t 6 = I i_6 → c62 i_6 = some o → K33 t h := by
       intro t h s1 s3 s6 hm1
       refine hK33 _ _ ?_
       unfold c62 at hm1
       refine b1p fun K hK => ?_
       simp only [go_sem, s6]
       refine hK _ _ ?_
       clear hK K
       simp only [b0m, b0n]
       obtain rfl := sI9 hm1
       refine ⟨_, rfl, ?_⟩
       exact ⟨s1, s3, (by first | (simp only [go_sem, s6, lA9, mA9]; done) | rfl)⟩
      simp only [b1f]
      obtain ⟨x36, h_x36, hm1⟩ := b0l hm1
      have h_x360 := b07 h_x36
      have h_x361 := b1a h_x36
      refine b0e fun K hK => ?_
      simp only [go_sem, s1, s6, b0y h_x36, b0z h_x36, h_x360, h_x361]
      refine hK _ _ ?_
      clear hK K
      refine b09 ?_
      refine b2p (fun t h => ∃ i7 : Nat, t 1 = .fp [.fs 5 (List.map b0r h_.Combs), .fs 3 (List.map b0p h_.Trains), .fs 3 (List.map b0u h_.Shifts), I h_.Until] 0 ∧ t 3 = I (List.length h_.Combs : Int) ∧ t 6 = I i_6 ∧ t 7 = .rp i7 0 0 ∧ t 103 = B ((!(b4p x36.At 0 (wr (h_.Until - 1)))) || (decide (4 < (List.length x36.Crowds : Int)))) ∧ h.ob i7 = some (3, [[I x36.At.Low, I x36.At.High, .fs 3 (List.map b2m x36.Crowds)]]) ∧ i7 < h.nx) (fun K hK => ?_) ?_
      ·simp only [go_sem, s1]
       refine b1u (c0w x36.At 0 (wr (h_.Until - 1))) ?_
       simp only [go_sem, s1]
       refine b0x (fun hg37 => ?_) (fun hg37 => ?_)
       ·simp only [go_sem, s1, hg37]
        exact hK _ _ ⟨h.nx, s1, s3, s6, (by first | (simp only [go_sem, hg37, lA9, mA9]; done) | rfl), (by first | (simp only [go_sem, hg37, lA9, mA9]; done) | rfl), (by simp only [go_sem, hg37, lA9, mA9]), (by simp only [go_sem])⟩
       ·simp only [go_sem, s1, hg37]
        exact hK _ _ ⟨h.nx, s1, s3, s6, (by first | (simp only [go_sem, hg37, lA9, mA9]; done) | rfl), (by first | (simp only [go_sem, hg37, lA9, mA9]; done) | rfl), (by simp only [go_sem, hg37, lA9, mA9]), (by simp only [go_sem])⟩
      ·rintro t h ⟨i7, s1, s3, s6, s7, s103, Qr, Qi⟩
       refine b0w fun K38 hK38 => ?_
       simp only [go_sem, s103]
       refine b0x (fun hc39 => ?_) (fun hc39 => ?_)
       ·rw [b1e hc39] at hm1
        refine b0e fun K hK => ?_
        simp only [go_sem, Qi]
        refine hK _ _ ?_
        clear hK K
        simp only [b1l, b1n, b1m, b1o]
        obtain rfl := sI9 hm1
        obtain rfl := hb30 _ rfl
        try dsimp only at hm0
        obtain rfl := sI9 hm0
        exact b1v (by simp only [go_sem, Qr, Qi, lA9, mA9]) (b0o _)
       ·rw [b1d hc39] at hm1
        simp only [b1b, b0m, b0n]
        refine hK38 _ _ ?_
        refine b0e fun K hK => ?_
        simp only [go_sem, Qi]
        refine hK _ _ ?_
        clear hK K
        refine b0e fun K hK => ?_
        simp only [go_sem, Qi]
        refine hK _ _ ?_
        clear hK K
        simp only [b1f]
        obtain ⟨b40, hl40, hm1⟩ := b0l hm1
        refine b19 hl40 (fun | (last_8, k_9), t, h => t 1 = .fp [.fs 5 (List.map b0r h_.Combs), .fs 3 (List.map b0p h_.Trains), .fs 3 (List.map b0u h_.Shifts), I h_.Until] 0 ∧ t 3 = I (List.length h_.Combs : Int) ∧ t 6 = I i_6 ∧ t 7 = .rp i7 0 0 ∧ t 8 = I last_8 ∧ t 9 = I k_9 ∧ h.ob i7 = some (3, [[I x36.At.Low, I x36.At.High, .fs 3 (List.map b2m x36.Crowds)]]) ∧ i7 < h.nx) ?_ ?_
        ·exact ⟨s1, s3, s6, s7, (by first | (simp only [go_sem, lA9, mA9]; done) | rfl), (by first | (simp only [go_sem, lA9, mA9]; done) | rfl), Qr, Qi⟩
        ·rintro ⟨last_8, k_9⟩ o t h ⟨s1, s3, s6, s7, s8, s9, Qr, Qi⟩ hm2 hb40
         simp only [b7z] at hm2
         rw [g1g]
         refine b09 ?_
         refine b0e fun K hK => ?_
         simp only [go_sem, s7, s9, Qr, Qi]
         refine hK _ _ ?_
         clear hK K
         refine b0w fun K41 hK41 => ?_
         simp only [go_sem]
         refine b0x (fun hc42 => ?_) (fun hc42 => ?_)
         ·rw [b1e hc42] at hm2
          simp only [b1b, b0m, b0n]
          refine hK41 _ _ ?_
          refine b0w fun K43 hK43 => ?_
          simp only [b1f]
          refine b09 ?_
          obtain ⟨x45, h_x45, hm2⟩ := b0l hm2
          have h_x450 := b07 h_x45
          have h_x451 := b1a h_x45
          refine b2p (fun t h => t 1 = .fp [.fs 5 (List.map b0r h_.Combs), .fs 3 (List.map b0p h_.Trains), .fs 3 (List.map b0u h_.Shifts), I h_.Until] 0 ∧ t 3 = I (List.length h_.Combs : Int) ∧ t 6 = I i_6 ∧ t 7 = .rp i7 0 0 ∧ t 9 = I k_9 ∧ t 132 = B ((!(b2v x45.Comb (wr (last_8 + 1)) (wr ((List.length h_.Combs : Int) - 1)))) || (!(b4p x45.People 0 1000))) ∧ h.ob i7 = some (3, [[I x36.At.Low, I x36.At.High, .fs 3 (List.map b2m x36.Crowds)]]) ∧ i7 < h.nx) (fun K hK => ?_) ?_
          ·simp only [go_sem, s3, s7, s8, s9, Qr, Qi, b0y h_x45, b0z h_x45, h_x450, h_x451]
           refine b1u (b4w x45.Comb (wr (last_8 + 1)) (wr ((List.length h_.Combs : Int) - 1))) ?_
           simp only [go_sem, s3, s7, s8, s9, Qr, Qi, b0y h_x45, b0z h_x45, h_x450, h_x451]
           refine b0x (fun hg46 => ?_) (fun hg46 => ?_)
           ·simp only [go_sem, s3, s7, s8, s9, Qr, Qi, b0y h_x45, b0z h_x45, h_x450, h_x451, hg46]
            exact hK _ _ ⟨s1, s3, s6, s7, s9, (by first | (simp only [go_sem, hg46, lA9, mA9]; done) | rfl), Qr, Qi⟩
           ·simp only [go_sem, s3, s7, s8, s9, Qr, Qi, b0y h_x45, b0z h_x45, h_x450, h_x451, hg46]
            refine b1u (c0w x45.People 0 1000) ?_
            simp only [go_sem, s3, s7, s8, s9, Qr, Qi, b0y h_x45, b0z h_x45, h_x450, h_x451, hg46]
            exact hK _ _ ⟨s1, s3, s6, s7, s9, (by first | (simp only [go_sem, hg46, lA9, mA9]; done) | rfl), Qr, Qi⟩
          ·rintro t h ⟨s1, s3, s6, s7, s9, s132, Qr, Qi⟩
           refine b0w fun K47 hK47 => ?_
           simp only [go_sem, s132]
           refine b0x (fun hc48 => ?_) (fun hc48 => ?_)
           ·rw [b1e hc48] at hm2
            refine b0e fun K hK => ?_
            simp only [go_sem, Qi]
            refine hK _ _ ?_
            clear hK K
            simp only [b1l, b1n, b1m, b1o]
            obtain rfl := sI9 hm2
            obtain rfl := hb40 _ rfl
            try dsimp only at hm1
            obtain rfl := sI9 hm1
            obtain rfl := hb30 _ rfl
            try dsimp only at hm0
            obtain rfl := sI9 hm0
            exact b1v (by simp only [go_sem, Qr, Qi, lA9, mA9]) (b0o _)
           ·rw [b1d hc48] at hm2
            simp only [b1b, b0m, b0n]
            refine hK47 _ _ ?_
            refine b1p fun K hK => ?_
            simp only [go_sem, s7, s9, Qr, Qi, b0y h_x45, b0z h_x45, h_x450, h_x451]
            refine hK _ _ ?_
            clear hK K
            simp only [b0m, b0n]
            refine hK43 _ _ ?_
            refine b1p fun K hK => ?_
            simp only [go_sem, s9, Qi]
            refine hK _ _ ?_
            clear hK K
            simp only [b0m, b0n]
            obtain rfl := sI9 hm2
            refine ⟨_, rfl, ?_⟩
            exact ⟨s1, s3, s6, s7, (by first | (simp only [go_sem, lA9, mA9]; done) | rfl), (by first | (simp only [go_sem, s9, lA9, mA9]; done) | rfl), Qr, Qi⟩
         ·rw [b1d hc42] at hm2
          simp only [b1y, b11, b10, b1z, b0m, b0n, Nat.reduceEqDiff, nF9]
          obtain rfl := sI9 hm2
          obtain rfl := hb40 _ rfl
          try dsimp only at hm1
          exact J34  _ _ s1 s3 s6 hm1
     ·rw [b1d hc32] at hm1
      simp only [b1y, b11, b10, b1z, b0m, b0n, Nat.reduceEqDiff, nF9]
      obtain rfl := sI9 hm1
      obtain rfl := hb30 _ rfl
      try dsimp only at hm0
      exact J9  _ _ s1 s3 hm0
   simp only [b1f]
   obtain ⟨b51, hl51, hm0⟩ := b0l hm0
   refine b19 hl51 (fun | i_4, t, h => t 1 = .fp [.fs 5 (List.map b0r h_.Combs), .fs 3 (List.map b0p h_.Trains), .fs 3 (List.map b0u h_.Shifts), I h_.Until] 0 ∧ t 3 = I (List.length h_.Combs : Int) ∧ t 4 = I i_4) ?_ ?_
   ·exact ⟨s1, (by first | (simp only [go_sem, lA9, mA9]; done) | rfl), (by first | (simp only [go_sem, lA9, mA9]; done) | rfl)⟩
   ·rintro i_4 o t h ⟨s1, s3, s4⟩ hm1 hb51
    simp only [c1j] at hm1
    rw [g1f]
    refine b09 ?_
    refine b0e fun K hK => ?_
    simp only [go_sem, s3, s4]
    refine hK _ _ ?_
    clear hK K
    refine b0w fun K52 hK52 => ?_
    simp only [go_sem]
    refine b0x (fun hc53 => ?_) (fun hc53 => ?_)
    ·rw [b1e hc53] at hm1
     simp only [b1b, b0m, b0n]
     refine hK52 _ _ ?_
     refine b0w fun K54 hK54 => ?_
     simp only [b1f]
     obtain ⟨x56, h_x56, hm1⟩ := b0l hm1
     have h_x560 := b07 h_x56
     have h_x561 := b1a h_x56
     refine b0e fun K hK => ?_
     simp only [go_sem, s1, s4, b0y h_x56, b0z h_x56, h_x560, h_x561]
     refine hK _ _ ?_
     clear hK K
     refine b2p (fun t h => t 1 = .fp [.fs 5 (List.map b0r h_.Combs), .fs 3 (List.map b0p h_.Trains), .fs 3 (List.map b0u h_.Shifts), I h_.Until] 0 ∧ t 3 = I (List.length h_.Combs : Int) ∧ t 4 = I i_4 ∧ t 78 = B ((((!(b2v x56.Rate 0 1000)) || (!(b2v x56.Limit 0 100000))) || ((decide (¬x56.Next = (-1))) && (!(b2v x56.Next (wr (i_4 + 1)) (wr ((List.length h_.Combs : Int) - 1)))))) || (!(b4p x56.Walk 1 20)))) (fun K hK => ?_) ?_
     ·simp only [go_sem, s3, s4]
      refine b1u (b4w x56.Rate 0 1000) ?_
      simp only [go_sem, s3, s4]
      refine b0x (fun hg57 => ?_) (fun hg57 => ?_)
      ·simp only [go_sem, s3, s4, hg57]
       exact hK _ _ ⟨s1, s3, s4, (by first | (simp only [go_sem, hg57, lA9, mA9]; done) | rfl)⟩
      ·simp only [go_sem, s3, s4, hg57]
       refine b1u (b4w x56.Limit 0 100000) ?_
       simp only [go_sem, s3, s4, hg57]
       refine b0x (fun hg58 => ?_) (fun hg58 => ?_)
       ·simp only [go_sem, s3, s4, hg57, hg58]
        exact hK _ _ ⟨s1, s3, s4, (by first | (simp only [go_sem, hg57, hg58, lA9, mA9]; done) | rfl)⟩
       ·simp only [go_sem, s3, s4, hg57, hg58]
        refine b0x (fun hg59 => ?_) (fun hg59 => ?_)
        ·simp only [go_sem, s3, s4, hg57, hg58, hg59]
         refine b1u (b4w x56.Next (wr (i_4 + 1)) (wr ((List.length h_.Combs : Int) - 1))) ?_
         simp only [go_sem, s3, s4, hg57, hg58, hg59]
         refine b0x (fun hg60 => ?_) (fun hg60 => ?_)
         ·simp only [go_sem, s3, s4, hg57, hg58, hg59, hg60]
          exact hK _ _ ⟨s1, s3, s4, (by first | (simp only [go_sem, hg57, hg58, hg59, hg60, lA9, mA9]; done) | rfl)⟩
         ·simp only [go_sem, s3, s4, hg57, hg58, hg59, hg60]
          refine b1u (c0w x56.Walk 1 20) ?_
          simp only [go_sem, s3, s4, hg57, hg58, hg59, hg60]
          exact hK _ _ ⟨s1, s3, s4, (by first | (simp only [go_sem, hg57, hg58, hg59, hg60, lA9, mA9]; done) | rfl)⟩
        ·simp only [go_sem, s3, s4, hg57, hg58, hg59]
         refine b1u (c0w x56.Walk 1 20) ?_
         simp only [go_sem, s3, s4, hg57, hg58, hg59]
         exact hK _ _ ⟨s1, s3, s4, (by first | (simp only [go_sem, hg57, hg58, hg59, lA9, mA9]; done) | rfl)⟩
     ·rintro t h ⟨s1, s3, s4, s78⟩
      simp only [go_sem, s78]
      refine b0x (fun hc61 => ?_) (fun hc61 => ?_)
      ·rw [b1e hc61] at hm1
       refine b0e fun K hK => ?_
       simp only [go_sem]
       refine hK _ _ ?_
       clear hK K
       simp only [b1l, b1n, b1m, b1o]
       obtain rfl := sI9 hm1
       obtain rfl := hb51 _ rfl
       try dsimp only at hm0
       obtain rfl := sI9 hm0
       exact b1v (by simp only [go_sem, lA9, mA9]) (b0o _)
      ·rw [b1d hc61] at hm1
       simp only [b1b, b0m, b0n]
       refine hK54 _ _ ?_
       refine b1p fun K hK => ?_
       simp only [go_sem, s4]
       refine hK _ _ ?_
       clear hK K
       simp only [b0m, b0n]
       obtain rfl := sI9 hm1
       refine ⟨_, rfl, ?_⟩
       exact ⟨s1, s3, (by first | (simp only [go_sem, s4, lA9, mA9]; done) | rfl)⟩
    ·rw [b1d hc53] at hm1
     simp only [b1y, b11, b10, b1z, b0m, b0n, Nat.reduceEqDiff, nF9]
     obtain rfl := sI9 hm1
     obtain rfl := hb51 _ rfl
     try dsimp only at hm0
     exact J7  _ _ s1 s3 hm0
theorem d09 (hf : Has O "newel/newelref06.First" x_r06_First) : c8a O := by
 intro h_ c r hm0
 unfold c1m at hm0
 refine b2q hf rfl (b0f (.agg _ (b0f (b01 fun a _ => b20 a) (b0f (b01 fun a _ => b24 a) (b0f (b01 fun a _ => b28 a) (b0f (b0o _) b06))))) (b0f (b0o _) b06)) (b0o _) ?_
 refine b2k (fun t h => t 0 = .agg [.fs 5 (List.map b0r h_.Combs), .fs 3 (List.map b0p h_.Trains), .fs 3 (List.map b0u h_.Shifts), I h_.Until] ∧ t 1 = I c) ⟨rfl, rfl⟩ fun t h ⟨s0, s1⟩ => ?_
 simp only [x_r06_First]
 refine b0e fun K hK => ?_
 simp only [go_sem, s0]
 refine hK _ _ ?_
 clear hK K
 refine b09 ?_
 refine b0e fun K hK => ?_
 simp only [go_sem]
 refine hK _ _ ?_
 clear hK K
 refine b0w fun K1 hK1 => ?_
 have J2 : ∀ (t : Slots) (h : Heap), d15 = some r → K1 t h := by
  intro t h hm0
  refine hK1 _ _ ?_
  unfold d15 at hm0
  refine b0e fun K hK => ?_
  simp only [go_sem]
  refine hK _ _ ?_
  clear hK K
  simp only [b1l, b1n, b1m, b1o]
  obtain rfl := sI9 hm0
  exact b1v (by simp only [go_sem, lA9, mA9]) (b0o _)
 simp only [b1f]
 obtain ⟨b3, hl3, hm0⟩ := b0l hm0
 refine b19 hl3 (fun | u_5, t, h => t 1 = I c ∧ t 2 = .fp [.fs 5 (List.map b0r h_.Combs), .fs 3 (List.map b0p h_.Trains), .fs 3 (List.map b0u h_.Shifts), I h_.Until] 0 ∧ t 5 = I u_5) ?_ ?_
 ·exact ⟨s1, (by first | (simp only [go_sem, lA9, mA9]; done) | rfl), (by first | (simp only [go_sem, lA9, mA9]; done) | rfl)⟩
 ·rintro u_5 o t h ⟨s1, s2, s5⟩ hm1 hb3
  simp only [c1n] at hm1
  rw [g1j]
  refine b09 ?_
  refine b0e fun K hK => ?_
  simp only [go_sem, s2, s5]
  refine hK _ _ ?_
  clear hK K
  refine b0w fun K4 hK4 => ?_
  simp only [go_sem]
  refine b0x (fun hc5 => ?_) (fun hc5 => ?_)
  ·rw [b1e hc5] at hm1
   simp only [b1b, b0m, b0n]
   refine hK4 _ _ ?_
   refine b0w fun K6 hK6 => ?_
   simp only [b1f]
   obtain ⟨x8, h_x8, hm1⟩ := b0l hm1
   have h_x80 := b07 h_x8
   have h_x81 := b1a h_x8
   refine b0e fun K hK => ?_
   simp only [go_sem, s1, s2, s5, b0y h_x8, b0z h_x8, h_x80, h_x81]
   refine hK _ _ ?_
   clear hK K
   simp only [go_sem]
   refine b0x (fun hc9 => ?_) (fun hc9 => ?_)
   ·rw [b1e hc9] at hm1
    refine b0e fun K hK => ?_
    simp only [go_sem]
    refine hK _ _ ?_
    clear hK K
    simp only [b1l, b1n, b1m, b1o]
    obtain rfl := sI9 hm1
    obtain rfl := hb3 _ rfl
    try dsimp only at hm0
    obtain rfl := sI9 hm0
    exact b1v (by simp only [go_sem, lA9, mA9]) (b0o _)
   ·rw [b1d hc9] at hm1
    simp only [b1b, b0m, b0n]
    refine hK6 _ _ ?_
    refine b1p fun K hK => ?_
    simp only [go_sem, s5]
    refine hK _ _ ?_
    clear hK K
    simp only [b0m, b0n]
    obtain rfl := sI9 hm1
    refine ⟨_, rfl, ?_⟩
    exact ⟨s1, s2, (by first | (simp only [go_sem, s5, lA9, mA9]; done) | rfl)⟩
  ·rw [b1d hc5] at hm1
   simp only [b1y, b11, b10, b1z, b0m, b0n, Nat.reduceEqDiff, nF9]
   obtain rfl := sI9 hm1
   obtain rfl := hb3 _ rfl
   try dsimp only at hm0
   exact J2  _ _  hm0
theorem c3k (hf : Has O "newel/newelref06.Same" x_r06_Same) : c4s O := by
 intro a b r hm0
 unfold c1o at hm0
 refine b2q hf rfl (b0f (b01 fun a _ => b2r a) (b0f (b01 fun a _ => b2r a) b06)) (b0o _) ?_
 refine b2k (fun t h => t 0 = .fs 1 (List.map eI a) ∧ t 1 = .fs 1 (List.map eI b)) ⟨rfl, rfl⟩ fun t h ⟨s0, s1⟩ => ?_
 simp only [x_r06_Same]
 refine b0e fun K hK => ?_
 simp only [go_sem]
 refine hK _ _ ?_
 clear hK K
 refine b09 ?_
 refine b0e fun K hK => ?_
 simp only [go_sem, s0, s1]
 refine hK _ _ ?_
 clear hK K
 refine b0w fun K1 hK1 => ?_
 simp only [go_sem]
 refine b0x (fun hc2 => ?_) (fun hc2 => ?_)
 ·rw [b1e hc2] at hm0
  refine b0e fun K hK => ?_
  simp only [go_sem]
  refine hK _ _ ?_
  clear hK K
  simp only [b1l, b1n, b1m, b1o]
  obtain rfl := sI9 hm0
  exact b1v (by simp only [go_sem, lA9, mA9]) (b0o _)
 ·rw [b1d hc2] at hm0
  simp only [b1b, b0m, b0n]
  refine hK1 _ _ ?_
  refine b09 ?_
  refine b0e fun K hK => ?_
  simp only [go_sem]
  refine hK _ _ ?_
  clear hK K
  refine b0w fun K3 hK3 => ?_
  have J4 : ∀ (t : Slots) (h : Heap), d16 = some r → K3 t h := by
   intro t h hm0
   refine hK3 _ _ ?_
   unfold d16 at hm0
   refine b0e fun K hK => ?_
   simp only [go_sem]
   refine hK _ _ ?_
   clear hK K
   simp only [b1l, b1n, b1m, b1o]
   obtain rfl := sI9 hm0
   exact b1v (by simp only [go_sem, lA9, mA9]) (b0o _)
  simp only [b1f]
  obtain ⟨b5, hl5, hm0⟩ := b0l hm0
  refine b19 hl5 (fun | i_5, t, h => t 0 = .fs 1 (List.map eI a) ∧ t 1 = .fs 1 (List.map eI b) ∧ t 5 = I i_5) ?_ ?_
  ·exact ⟨s0, s1, (by first | (simp only [go_sem, lA9, mA9]; done) | rfl)⟩
  ·rintro i_5 o t h ⟨s0, s1, s5⟩ hm1 hb5
   simp only [c30] at hm1
   rw [g1k]
   refine b09 ?_
   refine b0e fun K hK => ?_
   simp only [go_sem, s0, s5]
   refine hK _ _ ?_
   clear hK K
   refine b0w fun K6 hK6 => ?_
   simp only [go_sem]
   refine b0x (fun hc7 => ?_) (fun hc7 => ?_)
   ·rw [b1e hc7] at hm1
    simp only [b1b, b0m, b0n]
    refine hK6 _ _ ?_
    refine b0w fun K8 hK8 => ?_
    simp only [b1f]
    obtain ⟨x11, h_x11, hm1⟩ := b0l hm1
    have h_x110 := b07 h_x11
    have h_x111 := b1a h_x11
    obtain ⟨x12, h_x12, hm1⟩ := b0l hm1
    have h_x120 := b07 h_x12
    have h_x121 := b1a h_x12
    refine b0e fun K hK => ?_
    simp only [go_sem, s0, s1, s5, b0y h_x11, b0z h_x11, h_x110, h_x111, b0y h_x12, b0z h_x12, h_x120, h_x121]
    refine hK _ _ ?_
    clear hK K
    simp only [go_sem]
    refine b0x (fun hc13 => ?_) (fun hc13 => ?_)
    ·rw [b1e hc13] at hm1
     refine b0e fun K hK => ?_
     simp only [go_sem]
     refine hK _ _ ?_
     clear hK K
     simp only [b1l, b1n, b1m, b1o]
     obtain rfl := sI9 hm1
     obtain rfl := hb5 _ rfl
     try dsimp only at hm0
     obtain rfl := sI9 hm0
     exact b1v (by simp only [go_sem, lA9, mA9]) (b0o _)
    ·rw [b1d hc13] at hm1
     simp only [b1b, b0m, b0n]
     refine hK8 _ _ ?_
     refine b1p fun K hK => ?_
     simp only [go_sem, s5]
     refine hK _ _ ?_
     clear hK K
     simp only [b0m, b0n]
     obtain rfl := sI9 hm1
     refine ⟨_, rfl, ?_⟩
     exact ⟨s0, s1, (by first | (simp only [go_sem, s5, lA9, mA9]; done) | rfl)⟩
   ·rw [b1d hc7] at hm1
    simp only [b1y, b11, b10, b1z, b0m, b0n, Nat.reduceEqDiff, nF9]
    obtain rfl := sI9 hm1
    obtain rfl := hb5 _ rfl
    try dsimp only at hm0
    exact J4  _ _  hm0
theorem d1a (hf : Has O "newel/newelref06.Witness" x_r06_Witness) (d08 : c79 O) (d1b : c8c O) (b4w : c14 O) (d09 : c8a O) (d07 : c78 O) (c3l : c4t O) : c8b O := by
 intro h_ c tick r hm0
 unfold b67 at hm0
 refine b2q hf rfl (b0f (.agg _ (b0f (b01 fun a _ => b20 a) (b0f (b01 fun a _ => b24 a) (b0f (b01 fun a _ => b28 a) (b0f (b0o _) b06))))) (b0f (b0o _) (b0f (b0o _) b06))) (.tup _ (b0f (.agg _ (b0f (b01 fun a _ => b2r a) (b0f (b01 fun a _ => b21 a) (b0f (b01 fun a _ => b21 a) b06)))) (b0f (b0o _) b06))) ?_
 refine b2k (fun t h => t 0 = .agg [.fs 5 (List.map b0r h_.Combs), .fs 3 (List.map b0p h_.Trains), .fs 3 (List.map b0u h_.Shifts), I h_.Until] ∧ t 1 = I c ∧ t 2 = I tick) ⟨rfl, rfl, rfl⟩ fun t h ⟨s0, s1, s2⟩ => ?_
 simp only [x_r06_Witness]
 refine b0e fun K hK => ?_
 simp only [go_sem, s0]
 refine hK _ _ ?_
 clear hK K
 refine b09 ?_
 obtain ⟨y2, h_y2, hm0⟩ := b0l hm0
 refine b0e fun K hK => ?_
 simp only [go_sem]
 refine b1u (d08 h_ _ h_y2) ?_
 simp only [go_sem]
 refine hK _ _ ?_
 clear hK K
 refine b0w fun K3 hK3 => ?_
 simp only [go_sem]
 refine b0x (fun hc4 => ?_) (fun hc4 => ?_)
 ·rw [b1e hc4] at hm0
  refine b0e fun K hK => ?_
  simp only [go_sem]
  refine hK _ _ ?_
  clear hK K
  simp only [b1l, b1n, b1m, b1o]
  obtain rfl := sI9 hm0
  exact b8k (id := h.nx) (m := 3) (cs := [.v (.slice none 0 0), .v (.slice none 0 0), .v (.slice none 0 0)]) (u := I 60) (by simp only [go_sem, lA9, mA9]) (by simp only [go_sem, lA9, mA9]) rfl (by simp only [go_sem, lA9, mA9]) (b6m (.cons (.nil _) (.cons (.nil _) (.cons (.nil _) (.nil))))) (.refl _ (b0o _))
 ·rw [b1d hc4] at hm0
  simp only [b1b, b0m, b0n]
  refine hK3 _ _ ?_
  refine b09 ?_
  refine b2p (fun t h => ∃ i6 : Nat, t 1 = I c ∧ t 2 = I tick ∧ t 3 = .fp [.fs 5 (List.map b0r h_.Combs), .fs 3 (List.map b0p h_.Trains), .fs 3 (List.map b0u h_.Shifts), I h_.Until] 0 ∧ t 6 = .rp i6 0 0 ∧ t 37 = B ((!(b70 h_ c)) || (!(b2v tick 0 (wr (h_.Until - 1))))) ∧ h.ob i6 = some (3, [[.v (.slice none 0 0), .v (.slice none 0 0), .v (.slice none 0 0)]]) ∧ i6 < h.nx) (fun K hK => ?_) ?_
  ·simp only [go_sem, s1, s2]
   refine b1u (d1b h_ c) ?_
   simp only [go_sem, s1, s2]
   refine b0x (fun hg5 => ?_) (fun hg5 => ?_)
   ·simp only [go_sem, s1, s2, hg5]
    exact hK _ _ ⟨h.nx, s1, s2, (by first | (simp only [go_sem, hg5, lA9, mA9]; done) | rfl), (by first | (simp only [go_sem, hg5, lA9, mA9]; done) | rfl), (by first | (simp only [go_sem, hg5, lA9, mA9]; done) | rfl), (by simp only [go_sem, hg5, lA9, mA9]), (by simp only [go_sem])⟩
   ·simp only [go_sem, s1, s2, hg5]
    refine b1u (b4w tick 0 (wr (h_.Until - 1))) ?_
    simp only [go_sem, s1, s2, hg5]
    exact hK _ _ ⟨h.nx, s1, s2, (by first | (simp only [go_sem, hg5, lA9, mA9]; done) | rfl), (by first | (simp only [go_sem, hg5, lA9, mA9]; done) | rfl), (by first | (simp only [go_sem, hg5, lA9, mA9]; done) | rfl), (by simp only [go_sem, hg5, lA9, mA9]), (by simp only [go_sem])⟩
  ·rintro t h ⟨i6, s1, s2, s3, s6, s37, Q3, Q0⟩
   refine b0w fun K6 hK6 => ?_
   simp only [go_sem, s37]
   refine b0x (fun hc7 => ?_) (fun hc7 => ?_)
   ·rw [b1e hc7] at hm0
    refine b0e fun K hK => ?_
    simp only [go_sem, s6, Q3, Q0]
    refine hK _ _ ?_
    clear hK K
    simp only [b1l, b1n, b1m, b1o]
    obtain rfl := sI9 hm0
    exact b8k (id := i6) (m := 3) (cs := [.v (.slice none 0 0), .v (.slice none 0 0), .v (.slice none 0 0)]) (u := I 1) (by simp only [go_sem, s6, Q3, Q0, lA9, mA9]) (by simp only [go_sem, s6, Q3, Q0, lA9, mA9]) rfl (by simp only [go_sem, s6, Q3, Q0, lA9, mA9]) (b6m (.cons (.nil _) (.cons (.nil _) (.cons (.nil _) (.nil))))) (.refl _ (b0o _))
   ·rw [b1d hc7] at hm0
    simp only [b1b, b0m, b0n]
    refine hK6 _ _ ?_
    refine b09 ?_
    obtain ⟨y9, h_y9, hm0⟩ := b0l hm0
    refine b0e fun K hK => ?_
    simp only [go_sem, s1, s3, Q0]
    refine b1u (d09 h_ c _ h_y9) ?_
    simp only [go_sem, s1, s3, Q0]
    refine hK _ _ ?_
    clear hK K
    refine b0w fun K10 hK10 => ?_
    simp only [go_sem]
    refine b0x (fun hc11 => ?_) (fun hc11 => ?_)
    ·rw [b1e hc11] at hm0
     refine b0e fun K hK => ?_
     simp only [go_sem, s6, Q3, Q0]
     refine hK _ _ ?_
     clear hK K
     simp only [b1l, b1n, b1m, b1o]
     obtain rfl := sI9 hm0
     exact b8k (id := i6) (m := 3) (cs := [.v (.slice none 0 0), .v (.slice none 0 0), .v (.slice none 0 0)]) (u := I 3) (by simp only [go_sem, s6, Q3, Q0, lA9, mA9]) (by simp only [go_sem, s6, Q3, Q0, lA9, mA9]) rfl (by simp only [go_sem, s6, Q3, Q0, lA9, mA9]) (b6m (.cons (.nil _) (.cons (.nil _) (.cons (.nil _) (.nil))))) (.refl _ (b0o _))
    ·rw [b1d hc11] at hm0
     simp only [b1b, b0m, b0n]
     refine hK10 _ _ ?_
     obtain ⟨y13, h_y13, hm0⟩ := b0l hm0
     refine b0e fun K hK => ?_
     simp only [go_sem, s3, Q0]
     refine b1u (d07 h_ _ h_y13) ?_
     simp only [go_sem, s3, Q0]
     refine hK _ _ ?_
     clear hK K
     obtain ⟨y15, h_y15, hm0⟩ := b0l hm0
     refine b0e fun K hK => ?_
     simp only [go_sem, s1, s3, Q0]
     refine b1u (c3l h_ c _ h_y15) ?_
     simp only [go_sem, s1, s3, Q0]
     refine hK _ _ ?_
     clear hK K
     refine b0e fun K hK => ?_
     simp only [go_sem, Q0]
     refine hK _ _ ?_
     clear hK K
     refine b09 ?_
     refine b0e fun K hK => ?_
     simp only [go_sem, s2, Q0]
     refine hK _ _ ?_
     clear hK K
     refine b0w fun K16 hK16 => ?_
     have J17 : ∀ (from_10 : Int) (t : Slots) (h : Heap), t 2 = I tick → t 3 = .fp [.fs 5 (List.map b0r h_.Combs), .fs 3 (List.map b0p h_.Trains), .fs 3 (List.map b0u h_.Shifts), I h_.Until] 0 → t 6 = .rp i6 0 0 → t 10 = I from_10 → h.ob i6 = some (3, [[.v (.slice none 0 0), .v (.slice none 0 0), .v (.slice none 0 0)]]) → i6 < h.nx → c33 h_ tick from_10 = some r → K16 t h := by
      intro from_10 t h s2 s3 s6 s10 Q3 Q0 hm0
      refine hK16 _ _ ?_
      unfold c33 at hm0
      refine b0e fun K hK => ?_
      simp only [go_sem, Q0]
      refine hK _ _ ?_
      clear hK K
      refine b09 ?_
      refine b0e fun K hK => ?_
      simp only [go_sem, Q0]
      refine hK _ _ ?_
      clear hK K
      refine b0w fun K18 hK18 => ?_
      have J19 : ∀ (d_13_0 : List Int) (d_13_1 : List (List Int)) (i13 : Nat) (v13 : AV) (v13_1 : AV) (t : Slots) (h : Heap), t 3 = .fp [.fs 5 (List.map b0r h_.Combs), .fs 3 (List.map b0p h_.Trains), .fs 3 (List.map b0u h_.Shifts), I h_.Until] 0 → t 6 = .rp i6 0 0 → t 13 = .rp i13 0 0 → h.ob i6 = some (3, [[.v (.slice none 0 0), .v (.slice none 0 0), .v (.slice none 0 0)]]) → i6 < h.nx → h.ob i13 = some (3, [[v13, v13_1, .v (.slice none 0 0)]]) → i13 < h.nx → b0j h v13 1 (List.map eI d_13_0) → b0j h v13_1 1 (List.map b0s d_13_1) → ¬i6 = i13 → b0a v13 i6 → b0a v13_1 i6 → b0a v13 i13 → b0a v13_1 i13 → (∀ j, ¬b0a v13 j → b0a v13_1 j) → c65 h_ d_13_0 d_13_1 = some r → K18 t h := by
       intro d_13_0 d_13_1 i13 v13 v13_1 t h s3 s6 s13 Q3 Q0 Q6 Q1 Qd Q8 Q2 Qc Q7 Qb Q5 Qk hm0
       refine hK18 _ _ ?_
       unfold c65 at hm0
       refine b09 ?_
       refine b0e fun K hK => ?_
       simp only [go_sem, Q0, Q1, b0b v13, b0b v13_1]
       refine hK _ _ ?_
       clear hK K
       refine b0w fun K20 hK20 => ?_
       have J21 : ∀ (d_13_2 : List (List Int)) (v13_2 : AV) (t : Slots) (h : Heap), t 6 = .rp i6 0 0 → t 13 = .rp i13 0 0 → h.ob i6 = some (3, [[.v (.slice none 0 0), .v (.slice none 0 0), .v (.slice none 0 0)]]) → i6 < h.nx → h.ob i13 = some (3, [[v13, v13_1, v13_2]]) → i13 < h.nx → b0j h v13 1 (List.map eI d_13_0) → b0j h v13_1 1 (List.map b0s d_13_1) → b0j h v13_2 1 (List.map b0s d_13_2) → ¬i6 = i13 → b0a v13 i6 → b0a v13_1 i6 → b0a v13_2 i6 → b0a v13 i13 → b0a v13_1 i13 → b0a v13_2 i13 → (∀ j, ¬b0a v13 j → b0a v13_1 j) → (∀ j, ¬b0a v13 j → b0a v13_2 j) → (∀ j, ¬b0a v13_1 j → b0a v13_2 j) → d17 d_13_0 d_13_1 d_13_2 = some r → K20 t h := by
        try clear s3 s6 s13 Q3 Q0 Q6 Q1 Qd Q8 Q2 Qc Q7 Qb Q5 Qk
        intro d_13_2 v13_2 t h s6 s13 Q3 Q0 Q6 Q1 Qd Q8 Qz Q2 Qc Q7 Qx Qb Q5 Qy Qk Q17 Q18 hm0
        refine hK20 _ _ ?_
        unfold d17 at hm0
        refine b0e fun K hK => ?_
        simp only [go_sem, s6, s13, Q3, Q0, Q6, Q1, Q2, b0c Q2, Qc, Q7, Qx, Qb, Q5, Qy, b0b v13, b0b v13_1, b0b v13_2]
        refine hK _ _ ?_
        clear hK K
        simp only [b1l, b1n, b1m, b1o]
        obtain rfl := sI9 hm0
        exact b8k (id := i6) (m := 3) (cs := [v13, v13_1, v13_2]) (u := I 0) (by simp only [go_sem, s6, Q3, Q0, Q6, Q1, b0h Qd, b0h Q8, b0h Qz, Q2, b0c Q2, Qc, Q7, Qx, Qb, Q5, Qy, lA9, mA9]) (by simp only [go_sem, s6, Q3, Q0, Q6, Q1, b0h Qd, b0h Q8, b0h Qz, Q2, b0c Q2, Qc, Q7, Qx, Qb, Q5, Qy, lA9, mA9]) rfl (by simp only [go_sem, s6, Q3, Q0, Q6, Q1, b0h Qd, b0h Q8, b0h Qz, Q2, b0c Q2, Qc, Q7, Qx, Qb, Q5, Qy, lA9, mA9]) (b6m (.cons (b35 (f := eI) (l := d_13_0) (b05 Qd (by intro j hj hl; first | rfl | simp only [go_sem, hl, b04 hj Qc, b04 hj Qb, Qk j hj, Q17 j hj]) (by first | omega | exact Nat.le_refl _ | (simp only [go_sem, nxs] <;> omega))) b2r b4d) (.cons (b35 (f := b0s) (l := d_13_1) (b05 Q8 (by intro j hj hl; first | rfl | simp only [go_sem, hl, b04 hj Q7, b04 hj Q5, b2d Qk j hj, Q18 j hj]) (by first | omega | exact Nat.le_refl _ | (simp only [go_sem, nxs] <;> omega))) b21 b58) (.cons (b35 (f := b0s) (l := d_13_2) (b05 Qz (by intro j hj hl; first | rfl | simp only [go_sem, hl, b04 hj Qx, b04 hj Qy, b2d Q17 j hj, b2d Q18 j hj]) (by first | omega | exact Nat.le_refl _ | (simp only [go_sem, nxs] <;> omega))) b21 b58) (.nil))))) (.refl _ (b0o _))
       simp only [b1f]
       obtain ⟨b22, hl22, hm0⟩ := b0l hm0
       refine b19 hl22 (fun | (d_13_2, i_21), t, h => ∃ v13_2 : AV, t 3 = .fp [.fs 5 (List.map b0r h_.Combs), .fs 3 (List.map b0p h_.Trains), .fs 3 (List.map b0u h_.Shifts), I h_.Until] 0 ∧ t 6 = .rp i6 0 0 ∧ t 13 = .rp i13 0 0 ∧ t 21 = I i_21 ∧ h.ob i6 = some (3, [[.v (.slice none 0 0), .v (.slice none 0 0), .v (.slice none 0 0)]]) ∧ i6 < h.nx ∧ h.ob i13 = some (3, [[v13, v13_1, v13_2]]) ∧ i13 < h.nx ∧ b0j h v13 1 (List.map eI d_13_0) ∧ b0j h v13_1 1 (List.map b0s d_13_1) ∧ b0j h v13_2 1 (List.map b0s d_13_2) ∧ ¬i6 = i13 ∧ b0a v13 i6 ∧ b0a v13_1 i6 ∧ b0a v13_2 i6 ∧ b0a v13 i13 ∧ b0a v13_1 i13 ∧ b0a v13_2 i13 ∧ (∀ j, ¬b0a v13 j → b0a v13_1 j) ∧ (∀ j, ¬b0a v13 j → b0a v13_2 j) ∧ (∀ j, ¬b0a v13_1 j → b0a v13_2 j)) ?_ ?_
       ·exact ⟨(.v (.slice none 0 0)), s3, s6, s13, (by first | (simp only [go_sem, lA9, mA9]; done) | rfl), Q3, Q0, Q6, Q1, Qd, Q8, b4y, Q2, Qc, Q7, (by first | exact b02 | exact b03 (by first | assumption | omega | (simp only [nxs] <;> omega)) | assumption | exact b0q (by assumption) (by first | assumption | omega | (simp only [nxs] <;> omega))), Qb, Q5, (by first | exact b02 | exact b03 (by first | assumption | omega | (simp only [nxs] <;> omega)) | assumption | exact b0q (by assumption) (by first | assumption | omega | (simp only [nxs] <;> omega))), Qk, (by first | exact b2x | exact b2y | assumption | (refine b2z ?_; first | assumption | exact b0q (by assumption) (by first | assumption | omega | (simp only [nxs] <;> omega))) | (refine b2c ?_; first | assumption | exact b0q (by assumption) (by first | assumption | omega | (simp only [nxs] <;> omega)))), (by first | exact b2x | exact b2y | assumption | (refine b2z ?_; first | assumption | exact b0q (by assumption) (by first | assumption | omega | (simp only [nxs] <;> omega))) | (refine b2c ?_; first | assumption | exact b0q (by assumption) (by first | assumption | omega | (simp only [nxs] <;> omega))))⟩
       ·try clear s3 s6 s13 Q3 Q0 Q6 Q1 Qd Q8 Q2 Qc Q7 Qb Q5 Qk
        rintro ⟨d_13_2, i_21⟩ o t h ⟨v13_2, s3, s6, s13, s21, Q3, Q0, Q6, Q1, Qd, Q8, Qz, Q2, Qc, Q7, Qx, Qb, Q5, Qy, Qk, Q17, Q18⟩ hm1 hb22
        simp only [c32] at hm1
        rw [g1o]
        refine b09 ?_
        refine b0e fun K hK => ?_
        simp only [go_sem, s3, s21, Q0, Q1, b0b v13, b0b v13_1, b0b v13_2]
        refine hK _ _ ?_
        clear hK K
        refine b0w fun K23 hK23 => ?_
        simp only [go_sem]
        refine b0x (fun hc24 => ?_) (fun hc24 => ?_)
        ·rw [b1e hc24] at hm1
         simp only [b1b, b0m, b0n]
         refine hK23 _ _ ?_
         refine b0w fun K25 hK25 => ?_
         simp only [b1f]
         obtain ⟨x28, h_x28, hm1⟩ := b0l hm1
         have h_x280 := b07 h_x28
         have h_x281 := b1a h_x28
         obtain ⟨l29, h_l29, hm1⟩ := b0l hm1
         refine b0e fun K hK => ?_
         simp only [go_sem, s3, s13, s21, Q6, Q1, Q0, Q2, b0c Q2, Qc, Q7, Qx, Qb, Q5, Qy, b0y h_x28, b0z h_x28, h_x280, h_x281, b0b v13, b0b v13_1, b0b v13_2]
         refine d0i (f := b0s) (l := d_13_2) (a := ([x28.Walk.Low])) (raw := [.rs h.nx 0 (1)]) ?_ ?_ ?_ h_l29 ?_
         ·exact (b05 Qz (by intro j hj hl; first | rfl | simp only [go_sem, hl, b04 hj Qx, b04 hj Qy, b2d Q17 j hj, b2d Q18 j hj]) (by first | omega | exact Nat.le_refl _ | (simp only [go_sem, nxs] <;> omega)))
         ·exact (by simp only [go_sem, Q3, Q0, Q6, Q1, b0h Qd, b0h Q8, b0h Qz, Q2, b0c Q2, Qc, Q7, Qx, Qb, Q5, Qy, lA9, mA9])
         ·exact (by first | exact b02 | exact b03 (by first | omega | (simp only [nxs] <;> omega)) | assumption | exact b0q (by assumption) (by first | omega | (simp only [go_sem, nxs] <;> omega)))
         simp only [go_sem, s3, s13, s21, Q6, Q1, Q0, Q2, b0c Q2, Qc, Q7, Qx, Qb, Q5, Qy, b0y h_x28, b0z h_x28, h_x280, h_x281, b0b v13, b0b v13_1, b0b v13_2]
         refine hK _ _ ?_
         clear hK K
         refine c8y ?_
         refine d3z (id := (nxs (nxs h.nx))) (sz := 1) (f := b0s) (l := d_13_2) (a := ([x28.Walk.Low])) (raw := [.rs h.nx 0 (1)]) (fun j => j == h.nx) (by simp only [go_sem, Q3, Q0, Q6, Q1, b0h Qd, b0h Q8, b0h Qz, Q2, b0c Q2, Qc, Q7, Qx, Qb, Q5, Qy, lA9, mA9]) (by first | (simp; done) | (simp [nxs] <;> omega)) (.cons (b53 (f := eI) (l := ([x28.Walk.Low])) (id := h.nx) (by rw [b9e (by simp)]; simp only [go_sem, Q3, Q0, Q6, Q1, b0h Qd, b0h Q8, b0h Qz, Q2, b0c Q2, Qc, Q7, Qx, Qb, Q5, Qy, lA9, mA9]) (by first | rfl | simp only [go_sem, lA9, mA9]) b2r b4d) (.nil)) b21 b58 ?_
         rw [← (b9w h_l29).2]
         simp only [b1b, b0m, b0n]
         refine hK25 _ _ ?_
         refine b1p fun K hK => ?_
         simp only [go_sem, s21, Q0, Q1, oF9, bF9, ne_eq, nF9, and_self, b0b v13, b0b v13_1, b0b v13_2]
         refine hK _ _ ?_
         clear hK K
         simp only [b0m, b0n]
         obtain rfl := sI9 hm1
         refine ⟨_, rfl, ?_⟩
         exact ⟨(.rs (nxs (nxs h.nx)) 0 (List.length l29)), s3, s6, s13, (by first | (simp only [go_sem, s21, lA9, mA9]; done) | rfl), (by simp only [go_sem, oF9, bF9, ne_eq, nF9, and_self, Q3, Q0, Q1, b0h Qz, Q2, b0c Q2, Qx, lA9, mA9]), (by simp only [go_sem, Q0]), (by simp only [go_sem, oF9, bF9, ne_eq, nF9, and_self, Q6, Q1, b0h Qz, Qy, lA9, mA9]), (by simp only [go_sem, Q1]), (b05 Qd (by intro j hj hl; first | rfl | simp only [go_sem, hl, Q1, b04 hj Qb, Q17 j hj, oF9, bF9, ne_eq, nF9, and_self]) (by first | omega | exact Nat.le_refl _ | (simp only [go_sem, nxs] <;> omega))), (b05 Q8 (by intro j hj hl; first | rfl | simp only [go_sem, hl, Q1, b04 hj Q5, Q18 j hj, oF9, bF9, ne_eq, nF9, and_self]) (by first | omega | exact Nat.le_refl _ | (simp only [go_sem, nxs] <;> omega))), (b3f (by simp only [go_sem, oF9, bF9, ne_eq, nF9, and_self, Q1, b0h Qz, lA9, mA9]) (by first | rfl | simp only [go_sem, lA9, mA9]) (by simp only [go_sem])), Q2, Qc, Q7, (by first | exact b02 | exact b03 (by first | assumption | omega | (simp only [nxs] <;> omega)) | assumption | exact b0q (by assumption) (by first | assumption | omega | (simp only [nxs] <;> omega))), Qb, Q5, (by first | exact b02 | exact b03 (by first | assumption | omega | (simp only [nxs] <;> omega)) | assumption | exact b0q (by assumption) (by first | assumption | omega | (simp only [nxs] <;> omega))), Qk, (by first | exact b2x | exact b2y | assumption | (refine b2z ?_; first | assumption | exact b0q (by assumption) (by first | assumption | omega | (simp only [nxs] <;> omega))) | (refine b2c ?_; first | assumption | exact b0q (by assumption) (by first | assumption | omega | (simp only [nxs] <;> omega)))), (by first | exact b2x | exact b2y | assumption | (refine b2z ?_; first | assumption | exact b0q (by assumption) (by first | assumption | omega | (simp only [nxs] <;> omega))) | (refine b2c ?_; first | assumption | exact b0q (by assumption) (by first | assumption | omega | (simp only [nxs] <;> omega))))⟩
        ·rw [b1d hc24] at hm1
         simp only [b1y, b11, b10, b1z, b0m, b0n, Nat.reduceEqDiff, nF9]
         obtain rfl := sI9 hm1
         obtain rfl := hb22 _ rfl
         try dsimp only at hm0
         exact J21 d_13_2 v13_2 _ _ s6 s13 Q3 Q0 Q6 Q1 Qd Q8 Qz Q2 Qc Q7 Qx Qb Q5 Qy Qk Q17 Q18 hm0
      simp only [b1f]
      obtain ⟨b31, hl31, hm0⟩ := b0l hm0
      refine b19 hl31 (fun | (d_13_0, d_13_1, i_14), t, h => ∃ i13 : Nat, ∃ v13 : AV, ∃ v13_1 : AV, t 2 = I tick ∧ t 3 = .fp [.fs 5 (List.map b0r h_.Combs), .fs 3 (List.map b0p h_.Trains), .fs 3 (List.map b0u h_.Shifts), I h_.Until] 0 ∧ t 6 = .rp i6 0 0 ∧ t 10 = I from_10 ∧ t 13 = .rp i13 0 0 ∧ t 14 = I i_14 ∧ h.ob i6 = some (3, [[.v (.slice none 0 0), .v (.slice none 0 0), .v (.slice none 0 0)]]) ∧ i6 < h.nx ∧ h.ob i13 = some (3, [[v13, v13_1, .v (.slice none 0 0)]]) ∧ i13 < h.nx ∧ b0j h v13 1 (List.map eI d_13_0) ∧ b0j h v13_1 1 (List.map b0s d_13_1) ∧ ¬i6 = i13 ∧ b0a v13 i6 ∧ b0a v13_1 i6 ∧ b0a v13 i13 ∧ b0a v13_1 i13 ∧ (∀ j, ¬b0a v13 j → b0a v13_1 j)) ?_ ?_
      ·exact ⟨h.nx, (.v (.slice none 0 0)), (.v (.slice none 0 0)), s2, s3, s6, s10, (by first | (simp only [go_sem, lA9, mA9]; done) | rfl), (by first | (simp only [go_sem, lA9, mA9]; done) | rfl), (by simp only [go_sem, Q3, Q0, lA9, mA9]), (by simp only [go_sem, Q0]), (by simp only [go_sem, lA9, mA9]), (by simp only [go_sem]), b4y, b4y, (by first | first | assumption | omega | (simp only [nxs] <;> omega)), (by first | exact b02 | exact b03 (by first | assumption | omega | (simp only [nxs] <;> omega)) | assumption | exact b0q (by assumption) (by first | assumption | omega | (simp only [nxs] <;> omega))), (by first | exact b02 | exact b03 (by first | assumption | omega | (simp only [nxs] <;> omega)) | assumption | exact b0q (by assumption) (by first | assumption | omega | (simp only [nxs] <;> omega))), (by first | exact b02 | exact b03 (by first | assumption | omega | (simp only [nxs] <;> omega)) | assumption | exact b0q (by assumption) (by first | assumption | omega | (simp only [nxs] <;> omega))), (by first | exact b02 | exact b03 (by first | assumption | omega | (simp only [nxs] <;> omega)) | assumption | exact b0q (by assumption) (by first | assumption | omega | (simp only [nxs] <;> omega))), (by first | exact b2x | exact b2y | assumption | (refine b2z ?_; first | assumption | exact b0q (by assumption) (by first | assumption | omega | (simp only [nxs] <;> omega))) | (refine b2c ?_; first | assumption | exact b0q (by assumption) (by first | assumption | omega | (simp only [nxs] <;> omega))))⟩
      ·rintro ⟨d_13_0, d_13_1, i_14⟩ o t h ⟨i13, v13, v13_1, s2, s3, s6, s10, s13, s14, Q3, Q0, Q6, Q1, Qd, Q8, Q2, Qc, Q7, Qb, Q5, Qk⟩ hm1 hb31
       simp only [c31] at hm1
       rw [g1n]
       refine b09 ?_
       refine b0e fun K hK => ?_
       simp only [go_sem, s3, s14, Q0, Q1, b0b v13, b0b v13_1]
       refine hK _ _ ?_
       clear hK K
       refine b0w fun K32 hK32 => ?_
       simp only [go_sem]
       refine b0x (fun hc33 => ?_) (fun hc33 => ?_)
       ·rw [b1e hc33] at hm1
        simp only [b1b, b0m, b0n]
        refine hK32 _ _ ?_
        refine b0w fun K34 hK34 => ?_
        have J35 : ∀ (d_13_0_1 : List Int) (d_13_1_1 : List (List Int)) (i13_1 : Nat) (i13_2 : Nat) (t : Slots) (h : Heap), t 2 = I tick → t 3 = .fp [.fs 5 (List.map b0r h_.Combs), .fs 3 (List.map b0p h_.Trains), .fs 3 (List.map b0u h_.Shifts), I h_.Until] 0 → t 6 = .rp i6 0 0 → t 10 = I from_10 → t 13 = .rp i13 0 0 → t 14 = I i_14 → h.ob i6 = some (3, [[.v (.slice none 0 0), .v (.slice none 0 0), .v (.slice none 0 0)]]) → i6 < h.nx → h.ob i13 = some (3, [[.rs i13_1 0 (List.length d_13_0_1), .rs i13_2 0 (List.length d_13_1_1), .v (.slice none 0 0)]]) → i13 < h.nx → h.ob i13_1 = some (1, List.map eI d_13_0_1) → i13_1 < h.nx → h.ob i13_2 = some (1, List.map b0s d_13_1_1) → i13_2 < h.nx → ¬i6 = i13 → ¬i6 = i13_1 → ¬i6 = i13_2 → ¬i13 = i13_1 → ¬i13 = i13_2 → ¬i13_1 = i13_2 → c66 i_14 d_13_0_1 d_13_1_1 = some o → K34 t h := by
         try clear s2 s3 s6 s10 s13 s14 Q3 Q0 Q6 Q1 Qd Q8 Q2 Qc Q7 Qb Q5 Qk
         intro d_13_0_1 d_13_1_1 i13_1 i13_2 t h s2 s3 s6 s10 s13 s14 Q3 Q0 Q6 Q1 Qt Qg Q1a Q19 Q2 Qn Q1b Qj Q1c Q1d hm1
         refine hK34 _ _ ?_
         unfold c66 at hm1
         refine b1p fun K hK => ?_
         simp only [go_sem, s14, Q0, Q1, Qg, Q19, b0b v13, b0b v13_1]
         refine hK _ _ ?_
         clear hK K
         simp only [b0m, b0n]
         obtain rfl := sI9 hm1
         refine ⟨_, rfl, ?_⟩
         exact ⟨i13, (.rs i13_1 0 (List.length d_13_0_1)), (.rs i13_2 0 (List.length d_13_1_1)), s2, s3, s6, s10, s13, (by first | (simp only [go_sem, s14, lA9, mA9]; done) | rfl), Q3, Q0, Q6, Q1, (b3f (by simp only [go_sem, Qt, Qg, lA9, mA9]) (by first | rfl | simp only [go_sem, lA9, mA9]) (by simp only [go_sem, Qg])), (b3f (by simp only [go_sem, Q1a, Q19, lA9, mA9]) (by first | rfl | simp only [go_sem, lA9, mA9]) (by simp only [go_sem, Q19])), Q2, (by first | exact b02 | exact b03 (by first | assumption | omega | (simp only [nxs] <;> omega)) | assumption | exact b0q (by assumption) (by first | assumption | omega | (simp only [nxs] <;> omega))), (by first | exact b02 | exact b03 (by first | assumption | omega | (simp only [nxs] <;> omega)) | assumption | exact b0q (by assumption) (by first | assumption | omega | (simp only [nxs] <;> omega))), (by first | exact b02 | exact b03 (by first | assumption | omega | (simp only [nxs] <;> omega)) | assumption | exact b0q (by assumption) (by first | assumption | omega | (simp only [nxs] <;> omega))), (by first | exact b02 | exact b03 (by first | assumption | omega | (simp only [nxs] <;> omega)) | assumption | exact b0q (by assumption) (by first | assumption | omega | (simp only [nxs] <;> omega))), (by first | exact b2x | exact b2y | assumption | (refine b2z ?_; first | assumption | exact b0q (by assumption) (by first | assumption | omega | (simp only [nxs] <;> omega))) | (refine b2c ?_; first | assumption | exact b0q (by assumption) (by first | assumption | omega | (simp only [nxs] <;> omega))))⟩
        simp only [b1f]
        obtain ⟨x37, h_x37, hm1⟩ := b0l hm1
        have h_x370 := b07 h_x37
        have h_x371 := b1a h_x37
        refine b0e fun K hK => ?_
        simp only [go_sem, s3, s14, Q0, Q1, b0y h_x37, b0z h_x37, h_x370, h_x371, b0b v13, b0b v13_1]
        refine hK _ _ ?_
        clear hK K
        refine b2p (fun t h => ∃ i15 : Nat, t 2 = I tick ∧ t 3 = .fp [.fs 5 (List.map b0r h_.Combs), .fs 3 (List.map b0p h_.Trains), .fs 3 (List.map b0u h_.Shifts), I h_.Until] 0 ∧ t 6 = .rp i6 0 0 ∧ t 10 = I from_10 ∧ t 13 = .rp i13 0 0 ∧ t 14 = I i_14 ∧ t 15 = .rp i15 0 0 ∧ t 16 = I x37.At.Low ∧ t 17 = B ((decide (x37.At.Low ≤ tick)) && (decide (from_10 ≤ x37.At.High))) ∧ h.ob i6 = some (3, [[.v (.slice none 0 0), .v (.slice none 0 0), .v (.slice none 0 0)]]) ∧ i6 < h.nx ∧ h.ob i13 = some (3, [[v13, v13_1, .v (.slice none 0 0)]]) ∧ i13 < h.nx ∧ b0j h v13 1 (List.map eI d_13_0) ∧ b0j h v13_1 1 (List.map b0s d_13_1) ∧ h.ob i15 = some (3, [[I x37.At.Low, I x37.At.High, .fs 3 (List.map b2m x37.Crowds)]]) ∧ i15 < h.nx ∧ ¬i6 = i13 ∧ b0a v13 i6 ∧ b0a v13_1 i6 ∧ ¬i6 = i15 ∧ b0a v13 i13 ∧ b0a v13_1 i13 ∧ ¬i13 = i15 ∧ (∀ j, ¬b0a v13 j → b0a v13_1 j) ∧ b0a v13 i15 ∧ b0a v13_1 i15) (fun K hK => ?_) ?_
        ·simp only [go_sem, s2, s10, Q0, Q1, b0b v13, b0b v13_1]
         refine b0x (fun hg38 => ?_) (fun hg38 => ?_)
         ·simp only [go_sem, s2, s10, Q0, Q1, hg38, b0b v13, b0b v13_1]
          exact hK _ _ ⟨h.nx, s2, s3, s6, s10, s13, s14, (by first | (simp only [go_sem, hg38, lA9, mA9]; done) | rfl), (by first | (simp only [go_sem, hg38, lA9, mA9]; done) | rfl), (by first | (simp only [go_sem, hg38, lA9, mA9]; done) | rfl), (by simp only [go_sem, Q3, Q0, hg38, lA9, mA9]), (by simp only [go_sem, Q0]), (by simp only [go_sem, Q6, Q1, hg38, lA9, mA9]), (by simp only [go_sem, Q1]), (b05 Qd (by intro j hj hl; first | rfl | simp only [go_sem, hl]) (by first | omega | exact Nat.le_refl _ | (simp only [go_sem, nxs] <;> omega))), (b05 Q8 (by intro j hj hl; first | rfl | simp only [go_sem, hl]) (by first | omega | exact Nat.le_refl _ | (simp only [go_sem, nxs] <;> omega))), (by simp only [go_sem, hg38, lA9, mA9]), (by simp only [go_sem]), Q2, Qc, Q7, (by first | first | assumption | omega | (simp only [nxs] <;> omega)), Qb, Q5, (by first | first | assumption | omega | (simp only [nxs] <;> omega)), Qk, (by first | exact b02 | exact b03 (by first | assumption | omega | (simp only [nxs] <;> omega)) | assumption | exact b0q (by assumption) (by first | assumption | omega | (simp only [nxs] <;> omega))), (by first | exact b02 | exact b03 (by first | assumption | omega | (simp only [nxs] <;> omega)) | assumption | exact b0q (by assumption) (by first | assumption | omega | (simp only [nxs] <;> omega)))⟩
         ·simp only [go_sem, s2, s10, Q0, Q1, hg38, b0b v13, b0b v13_1]
          exact hK _ _ ⟨h.nx, s2, s3, s6, s10, s13, s14, (by first | (simp only [go_sem, hg38, lA9, mA9]; done) | rfl), (by first | (simp only [go_sem, hg38, lA9, mA9]; done) | rfl), (by first | (simp only [go_sem, hg38, lA9, mA9]; done) | rfl), (by simp only [go_sem, Q3, Q0, hg38, lA9, mA9]), (by simp only [go_sem, Q0]), (by simp only [go_sem, Q6, Q1, hg38, lA9, mA9]), (by simp only [go_sem, Q1]), (b05 Qd (by intro j hj hl; first | rfl | simp only [go_sem, hl]) (by first | omega | exact Nat.le_refl _ | (simp only [go_sem, nxs] <;> omega))), (b05 Q8 (by intro j hj hl; first | rfl | simp only [go_sem, hl]) (by first | omega | exact Nat.le_refl _ | (simp only [go_sem, nxs] <;> omega))), (by simp only [go_sem, hg38, lA9, mA9]), (by simp only [go_sem]), Q2, Qc, Q7, (by first | first | assumption | omega | (simp only [nxs] <;> omega)), Qb, Q5, (by first | first | assumption | omega | (simp only [nxs] <;> omega)), Qk, (by first | exact b02 | exact b03 (by first | assumption | omega | (simp only [nxs] <;> omega)) | assumption | exact b0q (by assumption) (by first | assumption | omega | (simp only [nxs] <;> omega))), (by first | exact b02 | exact b03 (by first | assumption | omega | (simp only [nxs] <;> omega)) | assumption | exact b0q (by assumption) (by first | assumption | omega | (simp only [nxs] <;> omega)))⟩
        ·try clear s2 s3 s6 s10 s13 s14 Q3 Q0 Q6 Q1 Qd Q8 Q2 Qc Q7 Qb Q5 Qk
         rintro t h ⟨i15, s2, s3, s6, s10, s13, s14, s15, s16, s17, Q3, Q0, Q6, Q1, Qd, Q8, Qq, Qf, Q2, Qc, Q7, Qh, Qb, Q5, Qe, Qk, Q12, Qo⟩
         refine b09 ?_
         refine b0e fun K hK => ?_
         simp only [go_sem, s17, Q0, Q1, Qf, b0b v13, b0b v13_1]
         refine hK _ _ ?_
         clear hK K
         refine b0w fun K39 hK39 => ?_
         have J40 : ∀ (at_16 : Int) (t : Slots) (h : Heap), t 2 = I tick → t 3 = .fp [.fs 5 (List.map b0r h_.Combs), .fs 3 (List.map b0p h_.Trains), .fs 3 (List.map b0u h_.Shifts), I h_.Until] 0 → t 6 = .rp i6 0 0 → t 10 = I from_10 → t 13 = .rp i13 0 0 → t 14 = I i_14 → t 15 = .rp i15 0 0 → t 16 = I at_16 → t 17 = B ((decide (x37.At.Low ≤ tick)) && (decide (from_10 ≤ x37.At.High))) → h.ob i6 = some (3, [[.v (.slice none 0 0), .v (.slice none 0 0), .v (.slice none 0 0)]]) → i6 < h.nx → h.ob i13 = some (3, [[v13, v13_1, .v (.slice none 0 0)]]) → i13 < h.nx → b0j h v13 1 (List.map eI d_13_0) → b0j h v13_1 1 (List.map b0s d_13_1) → h.ob i15 = some (3, [[I x37.At.Low, I x37.At.High, .fs 3 (List.map b2m x37.Crowds)]]) → i15 < h.nx → ¬i6 = i13 → b0a v13 i6 → b0a v13_1 i6 → ¬i6 = i15 → b0a v13 i13 → b0a v13_1 i13 → ¬i13 = i15 → (∀ j, ¬b0a v13 j → b0a v13_1 j) → b0a v13 i15 → b0a v13_1 i15 → c1r tick from_10 d_13_0 d_13_1 i_14 x37 at_16 = some o → K39 t h := by
          try clear s2 s3 s6 s10 s13 s14 s15 s16 s17 Q3 Q0 Q6 Q1 Qd Q8 Qq Qf Q2 Qc Q7 Qh Qb Q5 Qe Qk Q12 Qo
          intro at_16 t h s2 s3 s6 s10 s13 s14 s15 s16 s17 Q3 Q0 Q6 Q1 Qd Q8 Qq Qf Q2 Qc Q7 Qh Qb Q5 Qe Qk Q12 Qo hm1
          refine hK39 _ _ ?_
          unfold c1r at hm1
          obtain ⟨l42, h_l42, hm1⟩ := b0l hm1
          refine b0e fun K hK => ?_
          simp only [go_sem, s13, s16, Q6, Q1, Q0, Qf, Q2, b0c Q2, Qc, Q7, Qb, Q5, Qe, b0c Qe, Q12, Qo, b0b v13, b0b v13_1]
          refine b4v (f := eI) (l := d_13_0) (m := ([at_16])) ?_ ?_ ?_ ?_ h_l42 ?_
          ·exact (b05 Qd (by intro j hj hl; first | rfl | simp only [go_sem, hl, b04 hj Qc, b04 hj Qb, Qk j hj, b04 hj Q12]) (by first | omega | exact Nat.le_refl _ | (simp only [go_sem, nxs] <;> omega)))
          ·exact (b4z (by simp only [go_sem, Q3, Q0, Q6, Q1, b0h Qd, b0h Q8, Qq, Qf, Q2, b0c Q2, Qc, Q7, Qh, b0c Qh, Qb, Q5, Qe, b0c Qe, Q12, Qo, lA9, mA9]) (by simp only [go_sem, Q3, Q0, Q6, Q1, b0h Qd, b0h Q8, Qq, Qf, Q2, b0c Q2, Qc, Q7, Qh, b0c Qh, Qb, Q5, Qe, b0c Qe, Q12, Qo, lA9, mA9]))
          ·exact (b2c (by first | exact b02 | exact b03 (by first | omega | (simp only [nxs] <;> omega)) | assumption | exact b0q (by assumption) (by first | omega | (simp only [go_sem, nxs] <;> omega))))
          ·exact (fun _ => by simp)
          simp only [go_sem, s13, s16, Q6, Q1, Q0, Qf, Q2, b0c Q2, Qc, Q7, Qb, Q5, Qe, b0c Qe, Q12, Qo, b0b v13, b0b v13_1]
          refine hK _ _ ?_
          clear hK K
          refine b0e fun K hK => ?_
          simp only [go_sem, Q0, Q1, Qf, b0b v13, b0b v13_1]
          refine hK _ _ ?_
          clear hK K
          refine b09 ?_
          refine b0e fun K hK => ?_
          simp only [go_sem, Q0, Q1, Qf, b0b v13, b0b v13_1]
          refine hK _ _ ?_
          clear hK K
          refine b0w fun K43 hK43 => ?_
          have J44 : ∀ (people_18 : List Int) (i13_1 : Nat) (v18 : AV) (t : Slots) (h : Heap), t 2 = I tick → t 3 = .fp [.fs 5 (List.map b0r h_.Combs), .fs 3 (List.map b0p h_.Trains), .fs 3 (List.map b0u h_.Shifts), I h_.Until] 0 → t 6 = .rp i6 0 0 → t 10 = I from_10 → t 13 = .rp i13 0 0 → t 14 = I i_14 → t 18 = v18 → h.ob i6 = some (3, [[.v (.slice none 0 0), .v (.slice none 0 0), .v (.slice none 0 0)]]) → i6 < h.nx → h.ob i13 = some (3, [[.rs i13_1 0 (List.length l42), v13_1, .v (.slice none 0 0)]]) → i13 < h.nx → h.ob i13_1 = some (1, List.map eI l42) → i13_1 < h.nx → b0j h v13_1 1 (List.map b0s d_13_1) → b0j h v18 1 (List.map eI people_18) → ¬i6 = i13 → ¬i6 = i13_1 → b0a v13_1 i6 → b0a v18 i6 → ¬i13 = i13_1 → b0a v13_1 i13 → b0a v18 i13 → b0a v13_1 i13_1 → b0a v18 i13_1 → (∀ j, ¬b0a v13_1 j → b0a v18 j) → c67 d_13_1 i_14 l42 people_18 = some o → K43 t h := by
           try clear s2 s3 s6 s10 s13 s14 s15 s16 s17 Q3 Q0 Q6 Q1 Qd Q8 Qq Qf Q2 Qc Q7 Qh Qb Q5 Qe Qk Q12 Qo
           intro people_18 i13_1 v18 t h s2 s3 s6 s10 s13 s14 s18 Q3 Q0 Q6 Q1 Qt Qg Q8 Qa Q2 Qn Q7 Qp Qj Q5 Ql Qu Qm Q13 hm1
           refine hK43 _ _ ?_
           unfold c67 at hm1
           refine b92 (s := 18) (v := v18) (f := eI) (l := people_18) (by simp only [go_sem, s18, Q3, Q0, Q6, Q1, Qt, Qg, b0h Q8, b0h Qa, Q2, b0c Q2, Qn, b0c Qn, Q7, Qp, Qj, b0c Qj, Q5, Ql, Qu, Qm, lA9, mA9]) (b05 Qa (by intro j hj hl; first | rfl | simp only [go_sem, hl, b04 hj Qp, b04 hj Ql, b04 hj Qm, b2d Q13 j hj]) (by first | omega | exact Nat.le_refl _ | (simp only [go_sem, nxs] <;> omega))) b2r b4d ?_
           skip
           obtain ⟨l46, h_l46, hm1⟩ := b0l hm1
           refine b1p fun K hK => ?_
           simp only [go_sem, s13, s18, Q6, Q1, Qt, Qg, Q0, Q2, b0c Q2, Qn, b0c Qn, Q7, Qj, b0c Qj, Q5, Ql, Qu, Qm, b3z Qa Qp, b3z Qa Ql, b3z Qa Qm, b0b v13, b0b v13_1, b0b v18]
           refine b4v (f := b0s) (l := d_13_1) (m := ([people_18])) ?_ ?_ ?_ ?_ h_l46 ?_
           ·exact (b05 Q8 (by intro j hj hl; first | rfl | simp only [go_sem, hl, b04 hj Q7, b04 hj Q5, b04 hj Qu, Q13 j hj, b3z Qa (Q13 j hj)]) (by first | omega | exact Nat.le_refl _ | (simp only [go_sem, nxs] <;> omega)))
           ·exact (b4z (by simp only [go_sem, b3z Qa Qp, b3z Qa Ql, b3z Qa Qm, Q3, Q0, Q6, Q1, Qt, Qg, b0h Q8, b0h Qa, Q2, b0c Q2, Qn, b0c Qn, Q7, Qp, Qj, b0c Qj, Q5, Ql, Qu, Qm, lA9, mA9]) (by simp only [go_sem, b3z Qa Qp, b3z Qa Ql, b3z Qa Qm, Q3, Q0, Q6, Q1, Qt, Qg, b0h Q8, b0h Qa, Q2, b0c Q2, Qn, b0c Qn, Q7, Qp, Qj, b0c Qj, Q5, Ql, Qu, Qm, lA9, mA9]))
           ·exact (b2c (by first | exact b02 | exact b03 (by first | omega | (simp only [nxs] <;> omega)) | assumption | exact b0q (by assumption) (by first | omega | (simp only [go_sem, nxs] <;> omega))))
           ·exact (fun _ => by simp)
           simp only [go_sem, s13, s18, Q6, Q1, Qt, Qg, Q0, Q2, b0c Q2, Qn, b0c Qn, Q7, Qj, b0c Qj, Q5, Ql, Qu, Qm, b3z Qa Qp, b3z Qa Ql, b3z Qa Qm, b0b v13, b0b v13_1, b0b v18]
           refine hK _ _ ?_
           clear hK K
           simp only [b0m, b0n]
           exact J35 l42 l46 i13_1 (nxs h.nx) _ _ s2 s3 s6 s10 s13 s14 (by simp only [go_sem, b3z Qa Qp, Q3, Q0, Q1, b0h Q8, b0h Qa, Q2, b0c Q2, Q7, Qp, lA9, mA9]) (by simp only [go_sem, Q0]) (by simp only [go_sem, b3z Qa Ql, Q6, Q1, b0h Q8, b0h Qa, Q5, Ql, lA9, mA9]) (by simp only [go_sem, Q1]) (by simp only [go_sem, b3z Qa Qm, Q1, Qt, Qg, b0h Q8, b0h Qa, Qj, b0c Qj, Qu, Qm, lA9, mA9]) (by simp only [go_sem, Qg]) (by simp only [go_sem, Q1, b0h Q8, b0h Qa, lA9, mA9]) (by simp only [go_sem]) Q2 Qn (by first | first | assumption | omega | (simp only [nxs] <;> omega)) Qj (by first | first | assumption | omega | (simp only [nxs] <;> omega)) (by first | first | assumption | omega | (simp only [nxs] <;> omega)) hm1
          simp only [b1f]
          obtain ⟨b47, hl47, hm1⟩ := b0l hm1
          refine b19 hl47 (fun | (people_18, k_19), t, h => ∃ i13_1 : Nat, ∃ v18 : AV, t 2 = I tick ∧ t 3 = .fp [.fs 5 (List.map b0r h_.Combs), .fs 3 (List.map b0p h_.Trains), .fs 3 (List.map b0u h_.Shifts), I h_.Until] 0 ∧ t 6 = .rp i6 0 0 ∧ t 10 = I from_10 ∧ t 13 = .rp i13 0 0 ∧ t 14 = I i_14 ∧ t 15 = .rp i15 0 0 ∧ t 17 = B ((decide (x37.At.Low ≤ tick)) && (decide (from_10 ≤ x37.At.High))) ∧ t 18 = v18 ∧ t 19 = I k_19 ∧ h.ob i6 = some (3, [[.v (.slice none 0 0), .v (.slice none 0 0), .v (.slice none 0 0)]]) ∧ i6 < h.nx ∧ h.ob i13 = some (3, [[.rs i13_1 0 (List.length l42), v13_1, .v (.slice none 0 0)]]) ∧ i13 < h.nx ∧ h.ob i13_1 = some (1, List.map eI l42) ∧ i13_1 < h.nx ∧ b0j h v13_1 1 (List.map b0s d_13_1) ∧ h.ob i15 = some (3, [[I x37.At.Low, I x37.At.High, .fs 3 (List.map b2m x37.Crowds)]]) ∧ i15 < h.nx ∧ b0j h v18 1 (List.map eI people_18) ∧ ¬i6 = i13 ∧ ¬i6 = i13_1 ∧ b0a v13_1 i6 ∧ ¬i6 = i15 ∧ b0a v18 i6 ∧ ¬i13 = i13_1 ∧ b0a v13_1 i13 ∧ ¬i13 = i15 ∧ b0a v18 i13 ∧ b0a v13_1 i13_1 ∧ ¬i13_1 = i15 ∧ b0a v18 i13_1 ∧ b0a v13_1 i15 ∧ (∀ j, ¬b0a v13_1 j → b0a v18 j) ∧ b0a v18 i15) ?_ ?_
          ·exact ⟨(nxs h.nx), (.v (.slice none 0 0)), s2, s3, s6, s10, s13, s14, s15, s17, (by first | (simp only [go_sem, lA9, mA9]; done) | rfl), (by first | (simp only [go_sem, lA9, mA9]; done) | rfl), (by simp only [go_sem, Q3, Q0, Q1, b0h Qd, Q2, b0c Q2, Qc, lA9, mA9]), (by simp only [go_sem, Q0]), (by simp only [go_sem, Q6, Q1, b0h Qd, Qb, lA9, mA9]), (by simp only [go_sem, Q1]), (by simp only [go_sem, Q1, b0h Qd, lA9, mA9]), (by simp only [go_sem]), (b05 Q8 (by intro j hj hl; first | rfl | simp only [go_sem, hl, Q1, b04 hj Q5, b2d Qk j hj]) (by first | omega | exact Nat.le_refl _ | (simp only [go_sem, nxs] <;> omega))), (by simp only [go_sem, Q1, b0h Qd, Qq, Qf, Qe, b0c Qe, Q12, lA9, mA9]), (by simp only [go_sem, Qf]), b4y, Q2, (by first | first | assumption | omega | (simp only [nxs] <;> omega)), Q7, Qh, (by first | exact b02 | exact b03 (by first | assumption | omega | (simp only [nxs] <;> omega)) | assumption | exact b0q (by assumption) (by first | assumption | omega | (simp only [nxs] <;> omega))), (by first | first | assumption | omega | (simp only [nxs] <;> omega)), Q5, Qe, (by first | exact b02 | exact b03 (by first | assumption | omega | (simp only [nxs] <;> omega)) | assumption | exact b0q (by assumption) (by first | assumption | omega | (simp only [nxs] <;> omega))), (by first | exact b02 | exact b03 (by first | assumption | omega | (simp only [nxs] <;> omega)) | assumption | exact b0q (by assumption) (by first | assumption | omega | (simp only [nxs] <;> omega))), (by first | first | assumption | omega | (simp only [nxs] <;> omega)), (by first | exact b02 | exact b03 (by first | assumption | omega | (simp only [nxs] <;> omega)) | assumption | exact b0q (by assumption) (by first | assumption | omega | (simp only [nxs] <;> omega))), Qo, (by first | exact b2x | exact b2y | assumption | (refine b2z ?_; first | assumption | exact b0q (by assumption) (by first | assumption | omega | (simp only [nxs] <;> omega))) | (refine b2c ?_; first | assumption | exact b0q (by assumption) (by first | assumption | omega | (simp only [nxs] <;> omega)))), (by first | exact b02 | exact b03 (by first | assumption | omega | (simp only [nxs] <;> omega)) | assumption | exact b0q (by assumption) (by first | assumption | omega | (simp only [nxs] <;> omega)))⟩
          ·try clear s2 s3 s6 s10 s13 s14 s15 s16 s17 Q3 Q0 Q6 Q1 Qd Q8 Qq Qf Q2 Qc Q7 Qh Qb Q5 Qe Qk Q12 Qo
           rintro ⟨people_18, k_19⟩ o t h ⟨i13_1, v18, s2, s3, s6, s10, s13, s14, s15, s17, s18, s19, Q3, Q0, Q6, Q1, Qt, Qg, Q8, Qq, Qf, Qa, Q2, Qn, Q7, Qh, Qp, Qj, Q5, Qe, Ql, Qu, Qv, Qm, Qo, Q13, Q10⟩ hm2 hb47
           simp only [c1q] at hm2
           rw [g1m]
           refine b09 ?_
           refine b0e fun K hK => ?_
           simp only [go_sem, s15, s19, Qq, Qf, Q0, Q1, Qg, Qh, b0c Qh, Qe, b0c Qe, Qv, b0c Qv, Qo, Q10, b0b v13, b0b v13_1, b0b v18]
           refine hK _ _ ?_
           clear hK K
           refine b0w fun K48 hK48 => ?_
           simp only [go_sem]
           refine b0x (fun hc49 => ?_) (fun hc49 => ?_)
           ·rw [b1e hc49] at hm2
            simp only [b1b, b0m, b0n]
            refine hK48 _ _ ?_
            refine b0w fun K50 hK50 => ?_
            simp only [b1f]
            obtain ⟨x52, h_x52, hm2⟩ := b0l hm2
            have h_x520 := b07 h_x52
            have h_x521 := b1a h_x52
            refine b0e fun K hK => ?_
            simp only [go_sem, s15, s19, Qq, Qf, Q0, Q1, Qg, Qh, b0c Qh, Qe, b0c Qe, Qv, b0c Qv, Qo, Q10, b0y h_x52, b0z h_x52, h_x520, h_x521, b0b v13, b0b v13_1, b0b v18]
            refine hK _ _ ?_
            clear hK K
            refine b09 ?_
            refine b0e fun K hK => ?_
            simp only [go_sem, s17, Q0, Q1, Qg, Qf, b0b v13, b0b v13_1, b0b v18]
            refine hK _ _ ?_
            clear hK K
            refine b0w fun K53 hK53 => ?_
            have J54 : ∀ (n_20 : Int) (t : Slots) (h : Heap), t 2 = I tick → t 3 = .fp [.fs 5 (List.map b0r h_.Combs), .fs 3 (List.map b0p h_.Trains), .fs 3 (List.map b0u h_.Shifts), I h_.Until] 0 → t 6 = .rp i6 0 0 → t 10 = I from_10 → t 13 = .rp i13 0 0 → t 14 = I i_14 → t 15 = .rp i15 0 0 → t 17 = B ((decide (x37.At.Low ≤ tick)) && (decide (from_10 ≤ x37.At.High))) → t 18 = v18 → t 19 = I k_19 → t 20 = I n_20 → h.ob i6 = some (3, [[.v (.slice none 0 0), .v (.slice none 0 0), .v (.slice none 0 0)]]) → i6 < h.nx → h.ob i13 = some (3, [[.rs i13_1 0 (List.length l42), v13_1, .v (.slice none 0 0)]]) → i13 < h.nx → h.ob i13_1 = some (1, List.map eI l42) → i13_1 < h.nx → b0j h v13_1 1 (List.map b0s d_13_1) → h.ob i15 = some (3, [[I x37.At.Low, I x37.At.High, .fs 3 (List.map b2m x37.Crowds)]]) → i15 < h.nx → b0j h v18 1 (List.map eI people_18) → ¬i6 = i13 → ¬i6 = i13_1 → b0a v13_1 i6 → ¬i6 = i15 → b0a v18 i6 → ¬i13 = i13_1 → b0a v13_1 i13 → ¬i13 = i15 → b0a v18 i13 → b0a v13_1 i13_1 → ¬i13_1 = i15 → b0a v18 i13_1 → b0a v13_1 i15 → (∀ j, ¬b0a v13_1 j → b0a v18 j) → b0a v18 i15 → c1s people_18 k_19 n_20 = some o → K53 t h := by
             try clear s2 s3 s6 s10 s13 s14 s15 s17 s18 s19 Q3 Q0 Q6 Q1 Qt Qg Q8 Qq Qf Qa Q2 Qn Q7 Qh Qp Qj Q5 Qe Ql Qu Qv Qm Qo Q13 Q10
             intro n_20 t h s2 s3 s6 s10 s13 s14 s15 s17 s18 s19 s20 Q3 Q0 Q6 Q1 Qt Qg Q8 Qq Qf Qa Q2 Qn Q7 Qh Qp Qj Q5 Qe Ql Qu Qv Qm Qo Q13 Q10 hm2
             refine hK53 _ _ ?_
             unfold c1s at hm2
             obtain ⟨l56, h_l56, hm2⟩ := b0l hm2
             refine b1p fun K hK => ?_
             simp only [go_sem, s18, s20, Q0, Q1, Qg, Qf, Qp, Ql, Qm, Q10, b0b v13, b0b v13_1, b0b v18]
             refine b4v (f := eI) (l := people_18) (m := ([n_20])) ?_ ?_ ?_ ?_ h_l56 ?_
             ·exact (b05 Qa (by intro j hj hl; first | rfl | simp only [go_sem, hl, b04 hj Qp, b04 hj Ql, b04 hj Qm, b2d Q13 j hj, b04 hj Q10]) (by first | omega | exact Nat.le_refl _ | (simp only [go_sem, nxs] <;> omega)))
             ·exact (b4z (by simp only [go_sem, Q3, Q0, Q6, Q1, Qt, Qg, b0h Q8, Qq, Qf, b0h Qa, Q2, b0c Q2, Qn, b0c Qn, Q7, Qh, b0c Qh, Qp, Qj, b0c Qj, Q5, Qe, b0c Qe, Ql, Qu, Qv, b0c Qv, Qm, Qo, Q10, lA9, mA9]) (by simp only [go_sem, Q3, Q0, Q6, Q1, Qt, Qg, b0h Q8, Qq, Qf, b0h Qa, Q2, b0c Q2, Qn, b0c Qn, Q7, Qh, b0c Qh, Qp, Qj, b0c Qj, Q5, Qe, b0c Qe, Ql, Qu, Qv, b0c Qv, Qm, Qo, Q10, lA9, mA9]))
             ·exact (b2c (by first | exact b02 | exact b03 (by first | omega | (simp only [nxs] <;> omega)) | assumption | exact b0q (by assumption) (by first | omega | (simp only [go_sem, nxs] <;> omega))))
             ·exact (fun _ => by simp)
             simp only [go_sem, s18, s20, Q0, Q1, Qg, Qf, Qp, Ql, Qm, Q10, b0b v13, b0b v13_1, b0b v18]
             refine hK _ _ ?_
             clear hK K
             simp only [b0m, b0n]
             refine hK50 _ _ ?_
             refine b1p fun K hK => ?_
             simp only [go_sem, s19, Q0, Q1, Qg, Qf, b0b v13, b0b v13_1, b0b v18]
             refine hK _ _ ?_
             clear hK K
             simp only [b0m, b0n]
             obtain rfl := sI9 hm2
             refine ⟨_, rfl, ?_⟩
             exact ⟨i13_1, (.rs (nxs h.nx) 0 (List.length l56)), s2, s3, s6, s10, s13, s14, s15, s17, (by first | (simp only [go_sem, s18, lA9, mA9]; done) | rfl), (by first | (simp only [go_sem, s19, lA9, mA9]; done) | rfl), (by simp only [go_sem, Q3, Q0, b0h Qa, Qp, lA9, mA9]), (by simp only [go_sem, Q0]), (by simp only [go_sem, Q6, Q1, b0h Qa, Ql, lA9, mA9]), (by simp only [go_sem, Q1]), (by simp only [go_sem, Qt, Qg, b0h Qa, Qm, lA9, mA9]), (by simp only [go_sem, Qg]), (b05 Q8 (by intro j hj hl; first | rfl | simp only [go_sem, hl, Q13 j hj]) (by first | omega | exact Nat.le_refl _ | (simp only [go_sem, nxs] <;> omega))), (by simp only [go_sem, Qq, Qf, b0h Qa, Q10, lA9, mA9]), (by simp only [go_sem, Qf]), (b3f (by simp only [go_sem, b0h Qa, lA9, mA9]) (by first | rfl | simp only [go_sem, lA9, mA9]) (by simp only [go_sem])), Q2, Qn, Q7, Qh, (by first | exact b02 | exact b03 (by first | assumption | omega | (simp only [nxs] <;> omega)) | assumption | exact b0q (by assumption) (by first | assumption | omega | (simp only [nxs] <;> omega))), Qj, Q5, Qe, (by first | exact b02 | exact b03 (by first | assumption | omega | (simp only [nxs] <;> omega)) | assumption | exact b0q (by assumption) (by first | assumption | omega | (simp only [nxs] <;> omega))), Qu, Qv, (by first | exact b02 | exact b03 (by first | assumption | omega | (simp only [nxs] <;> omega)) | assumption | exact b0q (by assumption) (by first | assumption | omega | (simp only [nxs] <;> omega))), Qo, (by first | exact b2x | exact b2y | assumption | (refine b2z ?_; first | assumption | exact b0q (by assumption) (by first | assumption | omega | (simp only [nxs] <;> omega))) | (refine b2c ?_; first | assumption | exact b0q (by assumption) (by first | assumption | omega | (simp only [nxs] <;> omega)))), (by first | exact b02 | exact b03 (by first | assumption | omega | (simp only [nxs] <;> omega)) | assumption | exact b0q (by assumption) (by first | assumption | omega | (simp only [nxs] <;> omega)))⟩
            simp only [go_sem]
            refine b0x (fun hc57 => ?_) (fun hc57 => ?_)
            ·rw [b1e hc57] at hm2
             refine b1p fun K hK => ?_
             simp only [go_sem, s15, s19, Qq, Qf, Q0, Q1, Qg, Qh, b0c Qh, Qe, b0c Qe, Qv, b0c Qv, Qo, Q10, b0y h_x52, b0z h_x52, h_x520, h_x521, b0b v13, b0b v13_1, b0b v18]
             refine hK _ _ ?_
             clear hK K
             simp only [b0m, b0n]
             exact J54 x52.People.High _ _ s2 s3 s6 s10 s13 s14 s15 s17 s18 s19 (by first | (simp only [go_sem, lA9, mA9]; done) | rfl) Q3 Q0 Q6 Q1 Qt Qg Q8 Qq Qf Qa Q2 Qn Q7 Qh Qp Qj Q5 Qe Ql Qu Qv Qm Qo Q13 Q10 hm2
            ·rw [b1d hc57] at hm2
             simp only [b1b, b0m, b0n]
             exact J54 x52.People.Low _ _ s2 s3 s6 s10 s13 s14 s15 s17 s18 s19 (by first | (simp only [go_sem, lA9, mA9]; done) | rfl) Q3 Q0 Q6 Q1 Qt Qg Q8 Qq Qf Qa Q2 Qn Q7 Qh Qp Qj Q5 Qe Ql Qu Qv Qm Qo Q13 Q10 hm2
           ·rw [b1d hc49] at hm2
            simp only [b1y, b11, b10, b1z, b0m, b0n, Nat.reduceEqDiff, nF9]
            obtain rfl := sI9 hm2
            obtain rfl := hb47 _ rfl
            try dsimp only at hm1
            exact J44 people_18 i13_1 v18 _ _ s2 s3 s6 s10 s13 s14 s18 Q3 Q0 Q6 Q1 Qt Qg Q8 Qa Q2 Qn Q7 Qp Qj Q5 Ql Qu Qm Q13 hm1
         simp only [go_sem]
         refine b0x (fun hc59 => ?_) (fun hc59 => ?_)
         ·rw [b1e hc59] at hm1
          refine b1p fun K hK => ?_
          simp only [go_sem, s10, s16, Q0, Q1, Qf, b0b v13, b0b v13_1]
          refine hK _ _ ?_
          clear hK K
          simp only [b0m, b0n]
          exact J40 (mx x37.At.Low from_10) _ _ s2 s3 s6 s10 s13 s14 s15 (by first | (simp only [go_sem, s16, lA9, mA9]; done) | rfl) s17 Q3 Q0 Q6 Q1 Qd Q8 Qq Qf Q2 Qc Q7 Qh Qb Q5 Qe Qk Q12 Qo hm1
         ·rw [b1d hc59] at hm1
          simp only [b1b, b0m, b0n]
          exact J40 x37.At.Low _ _ s2 s3 s6 s10 s13 s14 s15 s16 s17 Q3 Q0 Q6 Q1 Qd Q8 Qq Qf Q2 Qc Q7 Qh Qb Q5 Qe Qk Q12 Qo hm1
       ·rw [b1d hc33] at hm1
        simp only [b1y, b11, b10, b1z, b0m, b0n, Nat.reduceEqDiff, nF9]
        obtain rfl := sI9 hm1
        obtain rfl := hb31 _ rfl
        try dsimp only at hm0
        exact J19 d_13_0 d_13_1 i13 v13 v13_1 _ _ s3 s6 s13 Q3 Q0 Q6 Q1 Qd Q8 Q2 Qc Q7 Qb Q5 Qk hm0
     simp only [b1f]
     obtain ⟨b61, hl61, hm0⟩ := b0l hm0
     refine b19 hl61 (fun | (from_10, served_11, s_12), t, h => ∃ i8 : Nat, t 1 = I c ∧ t 2 = I tick ∧ t 3 = .fp [.fs 5 (List.map b0r h_.Combs), .fs 3 (List.map b0p h_.Trains), .fs 3 (List.map b0u h_.Shifts), I h_.Until] 0 ∧ t 6 = .rp i6 0 0 ∧ t 8 = .rp i8 0 0 ∧ t 9 = .fs 1 (List.map eI y15) ∧ t 10 = I from_10 ∧ t 11 = I served_11 ∧ t 12 = I s_12 ∧ h.ob i6 = some (3, [[.v (.slice none 0 0), .v (.slice none 0 0), .v (.slice none 0 0)]]) ∧ i6 < h.nx ∧ h.ob i8 = some (4, [[.fs 1 (List.map b0s y13.Most), .fs 1 (List.map b0s y13.Flow), .fs 1 (List.map b1c y13.Come), .fs 1 (List.map b1c y13.Pass)]]) ∧ i8 < h.nx ∧ ¬i6 = i8) ?_ ?_
     ·exact ⟨h.nx, s1, s2, s3, s6, (by first | (simp only [go_sem, lA9, mA9]; done) | rfl), (by first | (simp only [go_sem, lA9, mA9]; done) | rfl), (by first | (simp only [go_sem, lA9, mA9]; done) | rfl), (by first | (simp only [go_sem, lA9, mA9]; done) | rfl), (by first | (simp only [go_sem, lA9, mA9]; done) | rfl), (by simp only [go_sem, Q3, Q0, lA9, mA9]), (by simp only [go_sem, Q0]), (by simp only [go_sem, lA9, mA9]), (by simp only [go_sem]), (by first | first | assumption | omega | (simp only [nxs] <;> omega))⟩
     ·rintro ⟨from_10, served_11, s_12⟩ o t h ⟨i8, s1, s2, s3, s6, s8, s9, s10, s11, s12, Q3, Q0, Q15, Qw, Q14⟩ hm1 hb61
      simp only [c1p] at hm1
      rw [g1l]
      refine b09 ?_
      refine b0e fun K hK => ?_
      simp only [go_sem, s12, Q0, Qw]
      refine hK _ _ ?_
      clear hK K
      refine b0w fun K62 hK62 => ?_
      simp only [go_sem]
      refine b0x (fun hc63 => ?_) (fun hc63 => ?_)
      ·rw [b1e hc63] at hm1
       simp only [b1b, b0m, b0n]
       refine hK62 _ _ ?_
       refine b0w fun K64 hK64 => ?_
       have J65 : ∀ (from_10_1 : Int) (served_11_1 : Int) (t : Slots) (h : Heap), t 1 = I c → t 2 = I tick → t 3 = .fp [.fs 5 (List.map b0r h_.Combs), .fs 3 (List.map b0p h_.Trains), .fs 3 (List.map b0u h_.Shifts), I h_.Until] 0 → t 6 = .rp i6 0 0 → t 8 = .rp i8 0 0 → t 9 = .fs 1 (List.map eI y15) → t 10 = I from_10_1 → t 11 = I served_11_1 → t 12 = I s_12 → h.ob i6 = some (3, [[.v (.slice none 0 0), .v (.slice none 0 0), .v (.slice none 0 0)]]) → i6 < h.nx → h.ob i8 = some (4, [[.fs 1 (List.map b0s y13.Most), .fs 1 (List.map b0s y13.Flow), .fs 1 (List.map b1c y13.Come), .fs 1 (List.map b1c y13.Pass)]]) → i8 < h.nx → ¬i6 = i8 → c1t s_12 from_10_1 served_11_1 = some o → K64 t h := by
        try clear s1 s2 s3 s6 s8 s9 s10 s11 s12 Q3 Q0 Q15 Qw Q14
        intro from_10_1 served_11_1 t h s1 s2 s3 s6 s8 s9 s10 s11 s12 Q3 Q0 Q15 Qw Q14 hm1
        refine hK64 _ _ ?_
        unfold c1t at hm1
        refine b1p fun K hK => ?_
        simp only [go_sem, s12, Q0, Qw]
        refine hK _ _ ?_
        clear hK K
        simp only [b0m, b0n]
        obtain rfl := sI9 hm1
        refine ⟨_, rfl, ?_⟩
        exact ⟨i8, s1, s2, s3, s6, s8, s9, s10, s11, (by first | (simp only [go_sem, s12, lA9, mA9]; done) | rfl), Q3, Q0, Q15, Qw, Q14⟩
       simp only [b1f]
       refine b09 ?_
       obtain ⟨x71, h_x71, hm1⟩ := b0l hm1
       have h_x710 := b07 h_x71
       have h_x711 := b1a h_x71
       obtain ⟨x72, h_x72, hm1⟩ := b0l hm1
       have h_x720 := b07 h_x72
       have h_x721 := b1a h_x72
       obtain ⟨x73, h_x73, hm1⟩ := b0l hm1
       have h_x730 := b07 h_x73
       have h_x731 := b1a h_x73
       obtain ⟨x74, h_x74, hm1⟩ := b0l hm1
       have h_x740 := b07 h_x74
       have h_x741 := b1a h_x74
       obtain ⟨x75, h_x75, hm1⟩ := b0l hm1
       have h_x750 := b07 h_x75
       have h_x751 := b1a h_x75
       refine b0e fun K hK => ?_
       simp only [go_sem, s1, s2, s8, s11, s12, Q15, Qw, Q0, Q14, b0c Q14, b0y h_x71, b0z h_x71, h_x710, h_x711, b0y h_x72, b0z h_x72, h_x720, h_x721, b0y h_x73, b0z h_x73, h_x730, h_x731, b0y h_x74, b0z h_x74, h_x740, h_x741, b0y h_x75, b0z h_x75, h_x750, h_x751]
       refine hK _ _ ?_
       clear hK K
       refine b0w fun K76 hK76 => ?_
       have J77 : ∀ (from_10_1 : Int) (t : Slots) (h : Heap), t 1 = I c → t 2 = I tick → t 3 = .fp [.fs 5 (List.map b0r h_.Combs), .fs 3 (List.map b0p h_.Trains), .fs 3 (List.map b0u h_.Shifts), I h_.Until] 0 → t 6 = .rp i6 0 0 → t 8 = .rp i8 0 0 → t 9 = .fs 1 (List.map eI y15) → t 10 = I from_10_1 → t 11 = I served_11 → t 12 = I s_12 → h.ob i6 = some (3, [[.v (.slice none 0 0), .v (.slice none 0 0), .v (.slice none 0 0)]]) → i6 < h.nx → h.ob i8 = some (4, [[.fs 1 (List.map b0s y13.Most), .fs 1 (List.map b0s y13.Flow), .fs 1 (List.map b1c y13.Come), .fs 1 (List.map b1c y13.Pass)]]) → i8 < h.nx → ¬i6 = i8 → c1u y15 served_11 s_12 from_10_1 = some o → K76 t h := by
        try clear s1 s2 s3 s6 s8 s9 s10 s11 s12 Q3 Q0 Q15 Qw Q14
        intro from_10_1 t h s1 s2 s3 s6 s8 s9 s10 s11 s12 Q3 Q0 Q15 Qw Q14 hm1
        refine hK76 _ _ ?_
        unfold c1u at hm1
        refine b0e fun K hK => ?_
        simp only [go_sem, s12, Q0, Qw]
        refine hK _ _ ?_
        clear hK K
        simp only [go_sem]
        refine b0x (fun hc78 => ?_) (fun hc78 => ?_)
        ·rw [b1e hc78] at hm1
         obtain ⟨x80, h_x80, hm1⟩ := b0l hm1
         have h_x800 := b07 h_x80
         have h_x801 := b1a h_x80
         refine b1p fun K hK => ?_
         simp only [go_sem, s9, s11, s12, Q0, Qw, b0y h_x80, b0z h_x80, h_x800, h_x801]
         refine hK _ _ ?_
         clear hK K
         simp only [b0m, b0n]
         exact J65 from_10_1 (wr (served_11 + x80)) _ _ s1 s2 s3 s6 s8 s9 s10 (by first | (simp only [go_sem, s11, lA9, mA9]; done) | rfl) s12 Q3 Q0 Q15 Qw Q14 hm1
        ·rw [b1d hc78] at hm1
         simp only [b1b, b0m, b0n]
         exact J65 from_10_1 served_11 _ _ s1 s2 s3 s6 s8 s9 s10 s11 s12 Q3 Q0 Q15 Qw Q14 hm1
       simp only [go_sem]
       refine b0x (fun hc81 => ?_) (fun hc81 => ?_)
       ·rw [b1e hc81] at hm1
        refine b1p fun K hK => ?_
        simp only [go_sem, s12, Q0, Qw]
        refine hK _ _ ?_
        clear hK K
        simp only [b0m, b0n]
        exact J77 s_12 _ _ s1 s2 s3 s6 s8 s9 (by first | (simp only [go_sem, s10, lA9, mA9]; done) | rfl) s11 s12 Q3 Q0 Q15 Qw Q14 hm1
       ·rw [b1d hc81] at hm1
        simp only [b1b, b0m, b0n]
        exact J77 from_10 _ _ s1 s2 s3 s6 s8 s9 s10 s11 s12 Q3 Q0 Q15 Qw Q14 hm1
      ·rw [b1d hc63] at hm1
       simp only [b1y, b11, b10, b1z, b0m, b0n, Nat.reduceEqDiff, nF9]
       obtain rfl := sI9 hm1
       obtain rfl := hb61 _ rfl
       try dsimp only at hm0
       exact J17 from_10 _ _ s2 s3 s6 s10 Q3 Q0 hm0
theorem c3l (hf : Has O "newel/newelref06.rates" x_r06_rates) : c4t O := by
 intro h_ comb r hm0
 unfold b71 at hm0
 refine b2q hf rfl (b0f (.agg _ (b0f (b01 fun a _ => b20 a) (b0f (b01 fun a _ => b24 a) (b0f (b01 fun a _ => b28 a) (b0f (b0o _) b06))))) (b0f (b0o _) b06)) (b01 fun a _ => b2r a) ?_
 refine b2k (fun t h => t 0 = .agg [.fs 5 (List.map b0r h_.Combs), .fs 3 (List.map b0p h_.Trains), .fs 3 (List.map b0u h_.Shifts), I h_.Until] ∧ t 1 = I comb) ⟨rfl, rfl⟩ fun t h ⟨s0, s1⟩ => ?_
 simp only [x_r06_rates]
 refine b0e fun K hK => ?_
 simp only [go_sem, s0]
 refine hK _ _ ?_
 clear hK K
 obtain ⟨l2, h_l2, hm0⟩ := b0l hm0
 refine b0e fun K hK => ?_
 simp only [go_sem]
 refine b6z (f := eI) (z := 0) rfl h_l2 ?_
 simp only [go_sem]
 refine hK _ _ ?_
 clear hK K
 refine b09 ?_
 refine b0e fun K hK => ?_
 simp only [go_sem]
 refine hK _ _ ?_
 clear hK K
 refine b0w fun K3 hK3 => ?_
 have J4 : ∀ (l_5 : List Int) (i5 : Nat) (t : Slots) (h : Heap), t 5 = .rs i5 0 (List.length l_5) → h.ob i5 = some (1, List.map eI l_5) → i5 < h.nx → d18 l_5 = some r → K3 t h := by
  intro l_5 i5 t h s5 Q9 Q4 hm0
  refine hK3 _ _ ?_
  unfold d18 at hm0
  refine b0e fun K hK => ?_
  simp only [go_sem, s5, Q9, Q4]
  refine hK _ _ ?_
  clear hK K
  simp only [b1l, b1n, b1m, b1o]
  obtain rfl := sI9 hm0
  exact d33 (v := .rs i5 0 (List.length l_5)) (by simp only [go_sem, Q9, Q4, lA9, mA9]) (b53 (f := eI) (l := l_5) (id := i5) (by simp only [go_sem, Q9, Q4, lA9, mA9]) (by first | rfl | simp only [go_sem, lA9, mA9]) b2r b4d)
 simp only [b1f]
 obtain ⟨b5, hl5, hm0⟩ := b0l hm0
 refine b19 hl5 (fun | (l_5, t_6), t, h => ∃ i5 : Nat, t 1 = I comb ∧ t 2 = .fp [.fs 5 (List.map b0r h_.Combs), .fs 3 (List.map b0p h_.Trains), .fs 3 (List.map b0u h_.Shifts), I h_.Until] 0 ∧ t 5 = .rs i5 0 (List.length l_5) ∧ t 6 = I t_6 ∧ h.ob i5 = some (1, List.map eI l_5) ∧ i5 < h.nx) ?_ ?_
 ·exact ⟨h.nx, s1, (by first | (simp only [go_sem, lA9, mA9]; done) | rfl), (by first | (simp only [go_sem, lA9, mA9]; done) | rfl), (by first | (simp only [go_sem, lA9, mA9]; done) | rfl), (by simp only [go_sem, lA9, mA9]), (by simp only [go_sem])⟩
 ·rintro ⟨l_5, t_6⟩ o t h ⟨i5, s1, s2, s5, s6, Q9, Q4⟩ hm1 hb5
  simp only [c35] at hm1
  rw [g1q]
  refine b09 ?_
  refine b0e fun K hK => ?_
  simp only [go_sem, s2, s6, Q4]
  refine hK _ _ ?_
  clear hK K
  refine b0w fun K6 hK6 => ?_
  simp only [go_sem]
  refine b0x (fun hc7 => ?_) (fun hc7 => ?_)
  ·rw [b1e hc7] at hm1
   simp only [b1b, b0m, b0n]
   refine hK6 _ _ ?_
   refine b0w fun K8 hK8 => ?_
   have J9 : ∀ (l_5_1 : List Int) (t : Slots) (h : Heap), t 1 = I comb → t 2 = .fp [.fs 5 (List.map b0r h_.Combs), .fs 3 (List.map b0p h_.Trains), .fs 3 (List.map b0u h_.Shifts), I h_.Until] 0 → t 5 = .rs i5 0 (List.length l_5_1) → t 6 = I t_6 → h.ob i5 = some (1, List.map eI l_5_1) → i5 < h.nx → c68 t_6 l_5_1 = some o → K8 t h := by
    intro l_5_1 t h s1 s2 s5 s6 Q9 Q4 hm1
    refine hK8 _ _ ?_
    unfold c68 at hm1
    refine b1p fun K hK => ?_
    simp only [go_sem, s6, Q4]
    refine hK _ _ ?_
    clear hK K
    simp only [b0m, b0n]
    obtain rfl := sI9 hm1
    refine ⟨_, rfl, ?_⟩
    exact ⟨i5, s1, s2, (by first | exact s5 | simp only [go_sem, s5, lA9, mA9]), (by first | (simp only [go_sem, s6, lA9, mA9]; done) | rfl), Q9, Q4⟩
   simp only [b1f]
   obtain ⟨x12, h_x12, hm1⟩ := b0l hm1
   have h_x120 := b07 h_x12
   have h_x121 := b1a h_x12
   obtain ⟨x13, h_x13, hm1⟩ := b0l hm1
   have h_x130 := b07 h_x13
   have h_x131 := b1a h_x13
   refine b0e fun K hK => ?_
   simp only [go_sem, s1, s2, s5, s6, Q9, Q4, b0y h_x12, b0z h_x12, h_x120, h_x121, b0y h_x13, b0z h_x13, h_x130, h_x131]
   refine hK _ _ ?_
   clear hK K
   refine b0e fun K hK => ?_
   simp only [go_sem, Q4]
   refine hK _ _ ?_
   clear hK K
   simp only [b1f]
   obtain ⟨b14, hl14, hm1⟩ := b0l hm1
   refine b19 hl14 (fun | (l_5_1, i_7), t, h => t 1 = I comb ∧ t 2 = .fp [.fs 5 (List.map b0r h_.Combs), .fs 3 (List.map b0p h_.Trains), .fs 3 (List.map b0u h_.Shifts), I h_.Until] 0 ∧ t 5 = .rs i5 0 (List.length l_5_1) ∧ t 6 = I t_6 ∧ t 7 = I i_7 ∧ h.ob i5 = some (1, List.map eI l_5_1) ∧ i5 < h.nx) ?_ ?_
   ·exact ⟨s1, s2, (by first | exact s5 | simp only [go_sem, s5, lA9, mA9]), s6, (by first | (simp only [go_sem, lA9, mA9]; done) | rfl), (by simp only [go_sem, Q9, Q4, lA9, mA9]), (by simp only [go_sem, Q4])⟩
   ·rintro ⟨l_5_1, i_7⟩ o t h ⟨s1, s2, s5, s6, s7, Q9, Q4⟩ hm2 hb14
    simp only [c34] at hm2
    rw [g1p]
    refine b09 ?_
    refine b0e fun K hK => ?_
    simp only [go_sem, s2, s7, Q4]
    refine hK _ _ ?_
    clear hK K
    refine b0w fun K15 hK15 => ?_
    simp only [go_sem]
    refine b0x (fun hc16 => ?_) (fun hc16 => ?_)
    ·rw [b1e hc16] at hm2
     simp only [b1b, b0m, b0n]
     refine hK15 _ _ ?_
     refine b0w fun K17 hK17 => ?_
     have J18 : ∀ (l_5_2 : List Int) (t : Slots) (h : Heap), t 1 = I comb → t 2 = .fp [.fs 5 (List.map b0r h_.Combs), .fs 3 (List.map b0p h_.Trains), .fs 3 (List.map b0u h_.Shifts), I h_.Until] 0 → t 5 = .rs i5 0 (List.length l_5_2) → t 6 = I t_6 → t 7 = I i_7 → h.ob i5 = some (1, List.map eI l_5_2) → i5 < h.nx → c1v i_7 l_5_2 = some o → K17 t h := by
      intro l_5_2 t h s1 s2 s5 s6 s7 Q9 Q4 hm2
      refine hK17 _ _ ?_
      unfold c1v at hm2
      refine b1p fun K hK => ?_
      simp only [go_sem, s7, Q4]
      refine hK _ _ ?_
      clear hK K
      simp only [b0m, b0n]
      obtain rfl := sI9 hm2
      refine ⟨_, rfl, ?_⟩
      exact ⟨s1, s2, (by first | exact s5 | simp only [go_sem, s5, lA9, mA9]), s6, (by first | (simp only [go_sem, s7, lA9, mA9]; done) | rfl), Q9, Q4⟩
     simp only [b1f]
     obtain ⟨x20, h_x20, hm2⟩ := b0l hm2
     have h_x200 := b07 h_x20
     have h_x201 := b1a h_x20
     refine b2p (fun t h => t 1 = I comb ∧ t 2 = .fp [.fs 5 (List.map b0r h_.Combs), .fs 3 (List.map b0p h_.Trains), .fs 3 (List.map b0u h_.Shifts), I h_.Until] 0 ∧ t 5 = .rs i5 0 (List.length l_5_1) ∧ t 6 = I t_6 ∧ t 7 = I i_7 ∧ t 50 = B ((decide (x20.Comb = comb)) && (decide (x20.At ≤ t_6))) ∧ h.ob i5 = some (1, List.map eI l_5_1) ∧ i5 < h.nx) (fun K hK => ?_) ?_
     ·simp only [go_sem, s1, s2, s6, s7, Q4, b0y h_x20, b0z h_x20, h_x200, h_x201]
      refine b0x (fun hg21 => ?_) (fun hg21 => ?_)
      ·simp only [go_sem, s1, s2, s6, s7, Q4, b0y h_x20, b0z h_x20, h_x200, h_x201, hg21]
       exact hK _ _ ⟨s1, s2, (by first | exact s5 | simp only [go_sem, s5, lA9, mA9]), s6, s7, (by first | (simp only [go_sem, hg21, lA9, mA9]; done) | rfl), Q9, Q4⟩
      ·simp only [go_sem, s1, s2, s6, s7, Q4, b0y h_x20, b0z h_x20, h_x200, h_x201, hg21]
       exact hK _ _ ⟨s1, s2, (by first | exact s5 | simp only [go_sem, s5, lA9, mA9]), s6, s7, (by first | (simp only [go_sem, hg21, lA9, mA9]; done) | rfl), Q9, Q4⟩
     ·rintro t h ⟨s1, s2, s5, s6, s7, s50, Q9, Q4⟩
      simp only [go_sem, s50]
      refine b0x (fun hc22 => ?_) (fun hc22 => ?_)
      ·rw [b1e hc22] at hm2
       obtain ⟨x24, h_x24, hm2⟩ := b0l hm2
       have h_x240 := b07 h_x24
       have h_x241 := b1a h_x24
       refine b1p fun K hK => ?_
       simp only [go_sem, s2, s5, s6, s7, Q9, Q4, b0y h_x24, b0z h_x24, h_x240, h_x241, b0y h_x20, b0z h_x20, h_x200, h_x201]
       refine hK _ _ ?_
       clear hK K
       simp only [b0m, b0n]
       exact J18 (List.set l_5_1 (Int.toNat t_6) x20.Rate) _ _ s1 s2 (by first | exact s5 | simp only [go_sem, s5, lA9, mA9]) s6 s7 (by simp only [go_sem, Q9, Q4, lA9, mA9]) (by simp only [go_sem, Q4]) hm2
      ·rw [b1d hc22] at hm2
       simp only [b1b, b0m, b0n]
       exact J18 l_5_1 _ _ s1 s2 (by first | exact s5 | simp only [go_sem, s5, lA9, mA9]) s6 s7 Q9 Q4 hm2
    ·rw [b1d hc16] at hm2
     simp only [b1y, b11, b10, b1z, b0m, b0n, Nat.reduceEqDiff, nF9]
     obtain rfl := sI9 hm2
     obtain rfl := hb14 _ rfl
     try dsimp only at hm1
     exact J9 l_5_1 _ _ s1 s2 (by first | exact s5 | simp only [go_sem, s5, lA9, mA9]) s6 Q9 Q4 hm1
  ·rw [b1d hc7] at hm1
   simp only [b1y, b11, b10, b1z, b0m, b0n, Nat.reduceEqDiff, nF9]
   obtain rfl := sI9 hm1
   obtain rfl := hb5 _ rfl
   try dsimp only at hm0
   exact J4 l_5 i5 _ _ (by first | exact s5 | simp only [go_sem, s5, lA9, mA9]) Q9 Q4 hm0
theorem c0w (hf : Has O "newel/newelref06.spanned" x_r06_spanned) : c8d O := by
 intro s low high
 generalize hm0 : b4p s low high = r
 unfold b4p at hm0
 refine b2q hf rfl (b0f (.agg _ (b0f (b0o _) (b0f (b0o _) b06))) (b0f (b0o _) (b0f (b0o _) b06))) (b0o _) ?_
 refine b2k (fun t h => t 0 = .agg [I s.Low, I s.High] ∧ t 1 = I low ∧ t 2 = I high) ⟨rfl, rfl, rfl⟩ fun t h ⟨s0, s1, s2⟩ => ?_
 simp only [x_r06_spanned]
 refine b0e fun K hK => ?_
 simp only [go_sem, s0]
 refine hK _ _ ?_
 clear hK K
 refine b2p (fun t h => t 6 = B (((decide (low ≤ s.Low)) && (decide (s.Low ≤ s.High))) && (decide (s.High ≤ high)))) (fun K hK => ?_) ?_
 ·simp only [go_sem, s1, s2]
  refine b0x (fun hg1 => ?_) (fun hg1 => ?_)
  ·simp only [go_sem, s1, s2, hg1]
   refine b0x (fun hg2 => ?_) (fun hg2 => ?_)
   ·simp only [go_sem, s1, s2, hg1, hg2]
    exact hK _ _ (by first | (simp only [go_sem, hg1, hg2, lA9, mA9]; done) | rfl)
   ·simp only [go_sem, s1, s2, hg1, hg2]
    exact hK _ _ (by first | (simp only [go_sem, hg1, hg2, lA9, mA9]; done) | rfl)
  ·simp only [go_sem, s1, s2, hg1]
   exact hK _ _ (by first | (simp only [go_sem, hg1, lA9, mA9]; done) | rfl)
 ·rintro t h s6
  simp only [b1l, b1n, b1m, b1o]
  obtain rfl := hm0
  exact b1v (by simp only [go_sem, s6, lA9, mA9]) (b0o _)
theorem b4w (hf : Has O "newel/newelref06.within" x_r06_within) : c14 O := by
 intro n low high
 generalize hm0 : b2v n low high = r
 unfold b2v at hm0
 refine b2q hf rfl (b0f (b0o _) (b0f (b0o _) (b0f (b0o _) b06))) (b0o _) ?_
 refine b2k (fun t h => t 0 = I n ∧ t 1 = I low ∧ t 2 = I high) ⟨rfl, rfl, rfl⟩ fun t h ⟨s0, s1, s2⟩ => ?_
 simp only [x_r06_within]
 refine b0e fun K hK => ?_
 simp only [go_sem]
 refine hK _ _ ?_
 clear hK K
 refine b2p (fun t h => t 6 = B ((decide (low ≤ n)) && (decide (n ≤ high)))) (fun K hK => ?_) ?_
 ·simp only [go_sem, s0, s1, s2]
  refine b0x (fun hg1 => ?_) (fun hg1 => ?_)
  ·simp only [go_sem, s0, s1, s2, hg1]
   exact hK _ _ (by first | (simp only [go_sem, hg1, lA9, mA9]; done) | rfl)
  ·simp only [go_sem, s0, s1, s2, hg1]
   exact hK _ _ (by first | (simp only [go_sem, hg1, lA9, mA9]; done) | rfl)
 ·rintro t h s6
  simp only [b1l, b1n, b1m, b1o]
  obtain rfl := hm0
  exact b1v (by simp only [go_sem, s6, lA9, mA9]) (b0o _)
theorem d1c (hf : Has O "slices.ContainsFunc[[]newel/api.Comb,newel/api.Comb]" x_slices_ContainsFunc___api_Comb_api_Comb_) (d1f : c8h O) : c8e O := by
 intro s f_n f_a f_b f f_z f_h r hm0
 unfold c7g at hm0
 refine b2q hf rfl (b0f (b01 fun a _ => b20 a) (b0f f_z b06)) (b0o _) ?_
 refine b2k (fun t h => t 0 = .fs 5 (List.map b0r s) ∧ t 1 = .fn f_n f_a f_b) ⟨rfl, rfl⟩ fun t h ⟨s0, s1⟩ => ?_
 simp only [x_slices_ContainsFunc___api_Comb_api_Comb_]
 refine b0e fun K hK => ?_
 simp only [go_sem]
 refine hK _ _ ?_
 clear hK K
 obtain ⟨y2, h_y2, hm0⟩ := b0l hm0
 refine b0e fun K hK => ?_
 simp only [go_sem, s0, s1]
 refine b1u (d1f s f_n f_a f_b f f_z f_h _ h_y2) ?_
 simp only [go_sem, s0, s1]
 refine hK _ _ ?_
 clear hK K
 simp only [b1l, b1n, b1m, b1o]
 obtain rfl := sI9 hm0
 exact b1v (by simp only [go_sem, lA9, mA9]) (b0o _)
theorem d1d (hf : Has O "slices.ContainsFunc[[]newel/api.Train,newel/api.Train]" x_slices_ContainsFunc___api_Train_api_Train_) (d1g : c8i O) : c8f O := by
 intro s f_n f_a f_b f f_z f_h r hm0
 unfold c1y at hm0
 refine b2q hf rfl (b0f (b01 fun a _ => b24 a) (b0f f_z b06)) (b0o _) ?_
 refine b2k (fun t h => t 0 = .fs 3 (List.map b0p s) ∧ t 1 = .fn f_n f_a f_b) ⟨rfl, rfl⟩ fun t h ⟨s0, s1⟩ => ?_
 simp only [x_slices_ContainsFunc___api_Train_api_Train_]
 refine b0e fun K hK => ?_
 simp only [go_sem]
 refine hK _ _ ?_
 clear hK K
 obtain ⟨y2, h_y2, hm0⟩ := b0l hm0
 refine b0e fun K hK => ?_
 simp only [go_sem, s0, s1]
 refine b1u (d1g s f_n f_a f_b f f_z f_h _ h_y2) ?_
 simp only [go_sem, s0, s1]
 refine hK _ _ ?_
 clear hK K
 simp only [b1l, b1n, b1m, b1o]
 obtain rfl := sI9 hm0
 exact b1v (by simp only [go_sem, lA9, mA9]) (b0o _)
theorem d1e (hf : Has O "slices.ContainsFunc[[]int,int]" x_slices_ContainsFunc___int_int_) (c3m : c4u O) : c8g O := by
 intro s f_n f_a f_b f f_z f_h r hm0
 unfold c1z at hm0
 refine b2q hf rfl (b0f (b01 fun a _ => b2r a) (b0f f_z b06)) (b0o _) ?_
 refine b2k (fun t h => t 0 = .fs 1 (List.map eI s) ∧ t 1 = .fn f_n f_a f_b) ⟨rfl, rfl⟩ fun t h ⟨s0, s1⟩ => ?_
 simp only [x_slices_ContainsFunc___int_int_]
 refine b0e fun K hK => ?_
 simp only [go_sem]
 refine hK _ _ ?_
 clear hK K
 obtain ⟨y2, h_y2, hm0⟩ := b0l hm0
 refine b0e fun K hK => ?_
 simp only [go_sem, s0, s1]
 refine b1u (c3m s f_n f_a f_b f f_z f_h _ h_y2) ?_
 simp only [go_sem, s0, s1]
 refine hK _ _ ?_
 clear hK K
 simp only [b1l, b1n, b1m, b1o]
 obtain rfl := sI9 hm0
 exact b1v (by simp only [go_sem, lA9, mA9]) (b0o _)
theorem d1f (hf : Has O "slices.IndexFunc[[]newel/api.Comb,newel/api.Comb]" x_slices_IndexFunc___api_Comb_api_Comb_) : c8h O := by
 intro s f_n f_a f_b f f_z f_h r hm0
 unfold d2i at hm0
 refine b2q hf rfl (b0f (b01 fun a _ => b20 a) (b0f f_z b06)) (b0o _) ?_
 refine b2k (fun t h => t 0 = .fs 5 (List.map b0r s) ∧ t 1 = .fn f_n f_a f_b) ⟨rfl, rfl⟩ fun t h ⟨s0, s1⟩ => ?_
 simp only [x_slices_IndexFunc___api_Comb_api_Comb_]
 refine b0e fun K hK => ?_
 simp only [go_sem]
 refine hK _ _ ?_
 clear hK K
 refine b09 ?_
 refine b0e fun K hK => ?_
 simp only [go_sem, s0]
 refine hK _ _ ?_
 clear hK K
 refine b0w fun K1 hK1 => ?_
 have J2 : ∀ (t : Slots) (h : Heap), d2j = some r → K1 t h := by
  intro t h hm0
  refine hK1 _ _ ?_
  unfold d2j at hm0
  refine b0e fun K hK => ?_
  simp only [go_sem]
  refine hK _ _ ?_
  clear hK K
  simp only [b1l, b1n, b1m, b1o]
  obtain rfl := sI9 hm0
  exact b1v (by simp only [go_sem, lA9, mA9]) (b0o _)
 simp only [b1f]
 obtain ⟨b3, hl3, hm0⟩ := b0l hm0
 refine b19 hl3 (fun | x_8, t, h => t 0 = .fs 5 (List.map b0r s) ∧ t 1 = .fn f_n f_a f_b ∧ t 7 = I (List.length s : Int) ∧ t 8 = I x_8) ?_ ?_
 ·exact ⟨s0, s1, (by first | (simp only [go_sem, lA9, mA9]; done) | rfl), (by first | (simp only [go_sem, lA9, mA9]; done) | rfl)⟩
 ·rintro x_8 o t h ⟨s0, s1, s7, s8⟩ hm1 hb3
  simp only [d9y] at hm1
  rw [g1r]
  refine b0e fun K hK => ?_
  simp only [go_sem, s7, s8]
  refine hK _ _ ?_
  clear hK K
  refine b0w fun K4 hK4 => ?_
  simp only [go_sem]
  refine b0x (fun hc5 => ?_) (fun hc5 => ?_)
  ·rw [b1e hc5] at hm1
   simp only [b1b, b0m, b0n]
   refine hK4 _ _ ?_
   refine b0w fun K6 hK6 => ?_
   simp only [b1f]
   refine b0e fun K hK => ?_
   simp only [go_sem, s8]
   refine hK _ _ ?_
   clear hK K
   obtain ⟨x9, h_x9, hm1⟩ := b0l hm1
   have h_x90 := b07 h_x9
   have h_x91 := b1a h_x9
   obtain ⟨y10, h_y10, hm1⟩ := b0l hm1
   refine b0e fun K hK => ?_
   simp only [go_sem, s0, s1, b0y h_x9, b0z h_x9, h_x90, h_x91]
   refine d0k (f_h x9 _ h_y10) ?_
   simp only [go_sem, s0, s1, b0y h_x9, b0z h_x9, h_x90, h_x91]
   refine hK _ _ ?_
   clear hK K
   simp only [go_sem]
   refine b0x (fun hc11 => ?_) (fun hc11 => ?_)
   ·rw [b1e hc11] at hm1
    refine b0e fun K hK => ?_
    simp only [go_sem]
    refine hK _ _ ?_
    clear hK K
    simp only [b1l, b1n, b1m, b1o]
    obtain rfl := sI9 hm1
    obtain rfl := hb3 _ rfl
    try dsimp only at hm0
    obtain rfl := sI9 hm0
    exact b1v (by simp only [go_sem, lA9, mA9]) (b0o _)
   ·rw [b1d hc11] at hm1
    simp only [b1b, b0m, b0n]
    refine hK6 _ _ ?_
    refine b1p fun K hK => ?_
    simp only [go_sem, s8]
    refine hK _ _ ?_
    clear hK K
    simp only [b0m, b0n]
    obtain rfl := sI9 hm1
    refine ⟨_, rfl, ?_⟩
    exact ⟨s0, s1, s7, (by first | (simp only [go_sem, s8, lA9, mA9]; done) | rfl)⟩
  ·rw [b1d hc5] at hm1
   simp only [b1y, b11, b10, b1z, b0m, b0n, Nat.reduceEqDiff, nF9]
   obtain rfl := sI9 hm1
   obtain rfl := hb3 _ rfl
   try dsimp only at hm0
   exact J2  _ _  hm0
theorem d1g (hf : Has O "slices.IndexFunc[[]newel/api.Train,newel/api.Train]" x_slices_IndexFunc___api_Train_api_Train_) : c8i O := by
 intro s f_n f_a f_b f f_z f_h r hm0
 unfold c4e at hm0
 refine b2q hf rfl (b0f (b01 fun a _ => b24 a) (b0f f_z b06)) (b0o _) ?_
 refine b2k (fun t h => t 0 = .fs 3 (List.map b0p s) ∧ t 1 = .fn f_n f_a f_b) ⟨rfl, rfl⟩ fun t h ⟨s0, s1⟩ => ?_
 simp only [x_slices_IndexFunc___api_Train_api_Train_]
 refine b0e fun K hK => ?_
 simp only [go_sem]
 refine hK _ _ ?_
 clear hK K
 refine b09 ?_
 refine b0e fun K hK => ?_
 simp only [go_sem, s0]
 refine hK _ _ ?_
 clear hK K
 refine b0w fun K1 hK1 => ?_
 have J2 : ∀ (t : Slots) (h : Heap), c4f = some r → K1 t h := by
  intro t h hm0
  refine hK1 _ _ ?_
  unfold c4f at hm0
  refine b0e fun K hK => ?_
  simp only [go_sem]
  refine hK _ _ ?_
  clear hK K
  simp only [b1l, b1n, b1m, b1o]
  obtain rfl := sI9 hm0
  exact b1v (by simp only [go_sem, lA9, mA9]) (b0o _)
 simp only [b1f]
 obtain ⟨b3, hl3, hm0⟩ := b0l hm0
 refine b19 hl3 (fun | x_8, t, h => t 0 = .fs 3 (List.map b0p s) ∧ t 1 = .fn f_n f_a f_b ∧ t 7 = I (List.length s : Int) ∧ t 8 = I x_8) ?_ ?_
 ·exact ⟨s0, s1, (by first | (simp only [go_sem, lA9, mA9]; done) | rfl), (by first | (simp only [go_sem, lA9, mA9]; done) | rfl)⟩
 ·rintro x_8 o t h ⟨s0, s1, s7, s8⟩ hm1 hb3
  simp only [c7h] at hm1
  rw [g1s]
  refine b0e fun K hK => ?_
  simp only [go_sem, s7, s8]
  refine hK _ _ ?_
  clear hK K
  refine b0w fun K4 hK4 => ?_
  simp only [go_sem]
  refine b0x (fun hc5 => ?_) (fun hc5 => ?_)
  ·rw [b1e hc5] at hm1
   simp only [b1b, b0m, b0n]
   refine hK4 _ _ ?_
   refine b0w fun K6 hK6 => ?_
   simp only [b1f]
   refine b0e fun K hK => ?_
   simp only [go_sem, s8]
   refine hK _ _ ?_
   clear hK K
   obtain ⟨x9, h_x9, hm1⟩ := b0l hm1
   have h_x90 := b07 h_x9
   have h_x91 := b1a h_x9
   obtain ⟨y10, h_y10, hm1⟩ := b0l hm1
   refine b0e fun K hK => ?_
   simp only [go_sem, s0, s1, b0y h_x9, b0z h_x9, h_x90, h_x91]
   refine d0k (f_h x9 _ h_y10) ?_
   simp only [go_sem, s0, s1, b0y h_x9, b0z h_x9, h_x90, h_x91]
   refine hK _ _ ?_
   clear hK K
   simp only [go_sem]
   refine b0x (fun hc11 => ?_) (fun hc11 => ?_)
   ·rw [b1e hc11] at hm1
    refine b0e fun K hK => ?_
    simp only [go_sem]
    refine hK _ _ ?_
    clear hK K
    simp only [b1l, b1n, b1m, b1o]
    obtain rfl := sI9 hm1
    obtain rfl := hb3 _ rfl
    try dsimp only at hm0
    obtain rfl := sI9 hm0
    exact b1v (by simp only [go_sem, lA9, mA9]) (b0o _)
   ·rw [b1d hc11] at hm1
    simp only [b1b, b0m, b0n]
    refine hK6 _ _ ?_
    refine b1p fun K hK => ?_
    simp only [go_sem, s8]
    refine hK _ _ ?_
    clear hK K
    simp only [b0m, b0n]
    obtain rfl := sI9 hm1
    refine ⟨_, rfl, ?_⟩
    exact ⟨s0, s1, s7, (by first | (simp only [go_sem, s8, lA9, mA9]; done) | rfl)⟩
  ·rw [b1d hc5] at hm1
   simp only [b1y, b11, b10, b1z, b0m, b0n, Nat.reduceEqDiff, nF9]
   obtain rfl := sI9 hm1
   obtain rfl := hb3 _ rfl
   try dsimp only at hm0
   exact J2  _ _  hm0
theorem c3m (hf : Has O "slices.IndexFunc[[]int,int]" x_slices_IndexFunc___int_int_) : c4u O := by
 intro s f_n f_a f_b f f_z f_h r hm0
 unfold c11 at hm0
 refine b2q hf rfl (b0f (b01 fun a _ => b2r a) (b0f f_z b06)) (b0o _) ?_
 refine b2k (fun t h => t 0 = .fs 1 (List.map eI s) ∧ t 1 = .fn f_n f_a f_b) ⟨rfl, rfl⟩ fun t h ⟨s0, s1⟩ => ?_
 simp only [x_slices_IndexFunc___int_int_]
 refine b0e fun K hK => ?_
 simp only [go_sem]
 refine hK _ _ ?_
 clear hK K
 refine b09 ?_
 refine b0e fun K hK => ?_
 simp only [go_sem, s0]
 refine hK _ _ ?_
 clear hK K
 refine b0w fun K1 hK1 => ?_
 have J2 : ∀ (t : Slots) (h : Heap), c4g = some r → K1 t h := by
  intro t h hm0
  refine hK1 _ _ ?_
  unfold c4g at hm0
  refine b0e fun K hK => ?_
  simp only [go_sem]
  refine hK _ _ ?_
  clear hK K
  simp only [b1l, b1n, b1m, b1o]
  obtain rfl := sI9 hm0
  exact b1v (by simp only [go_sem, lA9, mA9]) (b0o _)
 simp only [b1f]
 obtain ⟨b3, hl3, hm0⟩ := b0l hm0
 refine b19 hl3 (fun | x_8, t, h => t 0 = .fs 1 (List.map eI s) ∧ t 1 = .fn f_n f_a f_b ∧ t 7 = I (List.length s : Int) ∧ t 8 = I x_8) ?_ ?_
 ·exact ⟨s0, s1, (by first | (simp only [go_sem, lA9, mA9]; done) | rfl), (by first | (simp only [go_sem, lA9, mA9]; done) | rfl)⟩
 ·rintro x_8 o t h ⟨s0, s1, s7, s8⟩ hm1 hb3
  simp only [c7i] at hm1
  rw [g1t]
  refine b0e fun K hK => ?_
  simp only [go_sem, s7, s8]
  refine hK _ _ ?_
  clear hK K
  refine b0w fun K4 hK4 => ?_
  simp only [go_sem]
  refine b0x (fun hc5 => ?_) (fun hc5 => ?_)
  ·rw [b1e hc5] at hm1
   simp only [b1b, b0m, b0n]
   refine hK4 _ _ ?_
   refine b0w fun K6 hK6 => ?_
   simp only [b1f]
   refine b0e fun K hK => ?_
   simp only [go_sem, s8]
   refine hK _ _ ?_
   clear hK K
   obtain ⟨x9, h_x9, hm1⟩ := b0l hm1
   have h_x90 := b07 h_x9
   have h_x91 := b1a h_x9
   obtain ⟨y10, h_y10, hm1⟩ := b0l hm1
   refine b0e fun K hK => ?_
   simp only [go_sem, s0, s1, b0y h_x9, b0z h_x9, h_x90, h_x91]
   refine d0k (f_h x9 _ h_y10) ?_
   simp only [go_sem, s0, s1, b0y h_x9, b0z h_x9, h_x90, h_x91]
   refine hK _ _ ?_
   clear hK K
   simp only [go_sem]
   refine b0x (fun hc11 => ?_) (fun hc11 => ?_)
   ·rw [b1e hc11] at hm1
    refine b0e fun K hK => ?_
    simp only [go_sem]
    refine hK _ _ ?_
    clear hK K
    simp only [b1l, b1n, b1m, b1o]
    obtain rfl := sI9 hm1
    obtain rfl := hb3 _ rfl
    try dsimp only at hm0
    obtain rfl := sI9 hm0
    exact b1v (by simp only [go_sem, lA9, mA9]) (b0o _)
   ·rw [b1d hc11] at hm1
    simp only [b1b, b0m, b0n]
    refine hK6 _ _ ?_
    refine b1p fun K hK => ?_
    simp only [go_sem, s8]
    refine hK _ _ ?_
    clear hK K
    simp only [b0m, b0n]
    obtain rfl := sI9 hm1
    refine ⟨_, rfl, ?_⟩
    exact ⟨s0, s1, s7, (by first | (simp only [go_sem, s8, lA9, mA9]; done) | rfl)⟩
  ·rw [b1d hc5] at hm1
   simp only [b1y, b11, b10, b1z, b0m, b0n, Nat.reduceEqDiff, nF9]
   obtain rfl := sI9 hm1
   obtain rfl := hb3 _ rfl
   try dsimp only at hm0
   exact J2  _ _  hm0
end Go.Nw.HM
