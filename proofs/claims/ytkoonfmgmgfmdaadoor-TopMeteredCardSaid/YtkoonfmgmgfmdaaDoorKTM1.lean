/- That the texts make what their models say: printed by a program. -/
import Derived.Test.YtkoonfmgmgfmdaaDoorTM
set_option linter.all false
set_option linter.unusedVariables false
set_option linter.unusedSimpArgs false
set_option linter.unusedSectionVars false
namespace Go.Nw.TM
open Go.Nw.Top
set_option linter.unusedSimpArgs false
set_option linter.unusedVariables false
set_option maxHeartbeats 4000000
variable {O : Orac}
theorem c3h (hf : Has O "cmp.Compare[int]" x_cmp_Compare_int_) (b94 : c05 O) : c04 O := by
 intro x y
 generalize hm0 : b37 x y = r
 unfold b37 at hm0
 refine b06 hf rfl (b0b (b0a _) (b0b (b0a _) b0p)) (b0a _) ?_
 refine b05 (fun t h => t 0 = I x ∧ t 1 = I y) ⟨rfl, rfl⟩ fun t h ⟨s0, s1⟩ => ?_
 simp only [x_cmp_Compare_int_]
 refine b0d fun K hK => ?_
 simp only [go_sem]
 refine hK _ _ ?_
 clear hK K
 refine b0d fun K hK => ?_
 simp only [go_sem, s0]
 refine b0r (b94 x) ?_
 simp only [go_sem, s0]
 refine hK _ _ ?_
 clear hK K
 refine b0d fun K hK => ?_
 simp only [go_sem, s1]
 refine b0r (b94 y) ?_
 simp only [go_sem, s1]
 refine hK _ _ ?_
 clear hK K
 refine b0t ?_
 refine b0d fun K hK => ?_
 simp only [go_sem]
 refine hK _ _ ?_
 clear hK K
 refine b0o fun K1 hK1 => ?_
 simp only [go_sem]
 refine b0g (fun hc2 => ?_) (fun hc2 => ?_)
 ·rw [b0w hc2] at hm0
  refine b0t ?_
  refine b0d fun K hK => ?_
  simp only [go_sem]
  refine hK _ _ ?_
  clear hK K
  refine b0o fun K3 hK3 => ?_
  simp only [go_sem]
  refine b0g (fun hc4 => ?_) (fun hc4 => ?_)
  ·rw [b0w hc4] at hm0
   refine b0d fun K hK => ?_
   simp only [go_sem]
   refine hK _ _ ?_
   clear hK K
   simp only [b0k, b0m, b0l, b0n]
   obtain rfl := hm0
   exact b0q (by simp only [go_sem, lA9, mA9]) (b0a _)
  ·rw [b0v hc4] at hm0
   simp only [b0u, b0h, b0i]
   refine hK3 _ _ ?_
   refine b0d fun K hK => ?_
   simp only [go_sem]
   refine hK _ _ ?_
   clear hK K
   simp only [b0k, b0m, b0l, b0n]
   obtain rfl := hm0
   exact b0q (by simp only [go_sem, lA9, mA9]) (b0a _)
 ·rw [b0v hc2] at hm0
  simp only [b0u, b0h, b0i]
  refine hK1 _ _ ?_
  refine b0t ?_
  refine b0d fun K hK => ?_
  simp only [go_sem]
  refine hK _ _ ?_
  clear hK K
  refine b0o fun K5 hK5 => ?_
  simp only [go_sem]
  refine b0g (fun hc6 => ?_) (fun hc6 => ?_)
  ·rw [b0w hc6] at hm0
   refine b0d fun K hK => ?_
   simp only [go_sem]
   refine hK _ _ ?_
   clear hK K
   simp only [b0k, b0m, b0l, b0n]
   obtain rfl := hm0
   exact b0q (by simp only [go_sem, lA9, mA9]) (b0a _)
  ·rw [b0v hc6] at hm0
   simp only [b0u, b0h, b0i]
   refine hK5 _ _ ?_
   refine b0t ?_
   refine b0d fun K hK => ?_
   simp only [go_sem, s0, s1]
   refine hK _ _ ?_
   clear hK K
   refine b0o fun K7 hK7 => ?_
   simp only [go_sem]
   refine b0g (fun hc8 => ?_) (fun hc8 => ?_)
   ·rw [b0w hc8] at hm0
    refine b0d fun K hK => ?_
    simp only [go_sem]
    refine hK _ _ ?_
    clear hK K
    simp only [b0k, b0m, b0l, b0n]
    obtain rfl := hm0
    exact b0q (by simp only [go_sem, lA9, mA9]) (b0a _)
   ·rw [b0v hc8] at hm0
    simp only [b0u, b0h, b0i]
    refine hK7 _ _ ?_
    refine b0t ?_
    refine b0d fun K hK => ?_
    simp only [go_sem, s0, s1]
    refine hK _ _ ?_
    clear hK K
    refine b0o fun K9 hK9 => ?_
    simp only [go_sem]
    refine b0g (fun hc10 => ?_) (fun hc10 => ?_)
    ·rw [b0w hc10] at hm0
     refine b0d fun K hK => ?_
     simp only [go_sem]
     refine hK _ _ ?_
     clear hK K
     simp only [b0k, b0m, b0l, b0n]
     obtain rfl := hm0
     exact b0q (by simp only [go_sem, lA9, mA9]) (b0a _)
    ·rw [b0v hc10] at hm0
     simp only [b0u, b0h, b0i]
     refine hK9 _ _ ?_
     refine b0d fun K hK => ?_
     simp only [go_sem]
     refine hK _ _ ?_
     clear hK K
     simp only [b0k, b0m, b0l, b0n]
     obtain rfl := hm0
     exact b0q (by simp only [go_sem, lA9, mA9]) (b0a _)
theorem b94 (hf : Has O "cmp.isNaN[int]" x_cmp_isNaN_int_) : c05 O := by
 intro x
 generalize hm0 : b38 x = r
 unfold b38 at hm0
 refine b06 hf rfl (b0b (b0a _) b0p) (b0a _) ?_
 refine b05 (fun t h => t 0 = I x) rfl fun t h s0 => ?_
 simp only [x_cmp_isNaN_int_]
 refine b0d fun K hK => ?_
 simp only [go_sem]
 refine hK _ _ ?_
 clear hK K
 refine b0d fun K hK => ?_
 simp only [go_sem, s0]
 refine hK _ _ ?_
 clear hK K
 simp only [b0k, b0m, b0l, b0n]
 obtain rfl := hm0
 exact b0q (by simp only [go_sem, lA9, mA9]) (b0a _)
theorem b7s (hf : Has O "newel/energy.Check" x_energy_Check) (b3e : b60 O) : b8o O := by
 intro b r hm0
 unfold b4k at hm0
 refine b06 hf rfl (b0b (.agg _ (b0b (b0a _) (b0b (b0a _) (b0b (b0a _) (b0b (b0a _) (b0b (b0a _) (b0b (b0a _) (b0b (b02 fun a _ => b1f a) (b0b (b0a _) (b0b (b0a _) b0p)))))))))) b0p) (b0a _) ?_
 refine b05 (fun t h => t 0 = .agg [B b.Up, I b.Pull, I b.Drag, I b.Body, I b.Ride, I b.Most, .fs 1 (List.map eI b.Paces), I b.Num, I b.Den]) rfl fun t h s0 => ?_
 simp only [x_energy_Check]
 refine b0d fun K hK => ?_
 simp only [go_sem, s0]
 refine hK _ _ ?_
 clear hK K
 refine b0t ?_
 refine b1v (fun t h => t 1 = .fp [B b.Up, I b.Pull, I b.Drag, I b.Body, I b.Ride, I b.Most, .fs 1 (List.map eI b.Paces), I b.Num, I b.Den] 0 ∧ t 37 = B ((((((!(b1s b.Pull 100)) || (!(b1s b.Drag 1000000))) || (!(b1s b.Body 100))) || (decide (b.Ride < 1))) || (decide (1000 < b.Ride))) || (!(b1s b.Most 100000000)))) (fun K hK => ?_) ?_
 ·simp only [go_sem]
  refine b0r (b3e b.Pull 100) ?_
  simp only [go_sem]
  refine b0g (fun hg1 => ?_) (fun hg1 => ?_)
  ·simp only [go_sem, hg1]
   exact hK _ _ ⟨(by first | (simp only [go_sem, hg1, lA9, mA9]; done) | rfl), (by first | (simp only [go_sem, hg1, lA9, mA9]; done) | rfl)⟩
  ·simp only [go_sem, hg1]
   refine b0r (b3e b.Drag 1000000) ?_
   simp only [go_sem, hg1]
   refine b0g (fun hg2 => ?_) (fun hg2 => ?_)
   ·simp only [go_sem, hg1, hg2]
    exact hK _ _ ⟨(by first | (simp only [go_sem, hg1, hg2, lA9, mA9]; done) | rfl), (by first | (simp only [go_sem, hg1, hg2, lA9, mA9]; done) | rfl)⟩
   ·simp only [go_sem, hg1, hg2]
    refine b0r (b3e b.Body 100) ?_
    simp only [go_sem, hg1, hg2]
    refine b0g (fun hg3 => ?_) (fun hg3 => ?_)
    ·simp only [go_sem, hg1, hg2, hg3]
     exact hK _ _ ⟨(by first | (simp only [go_sem, hg1, hg2, hg3, lA9, mA9]; done) | rfl), (by first | (simp only [go_sem, hg1, hg2, hg3, lA9, mA9]; done) | rfl)⟩
    ·simp only [go_sem, hg1, hg2, hg3]
     refine b0g (fun hg4 => ?_) (fun hg4 => ?_)
     ·simp only [go_sem, hg1, hg2, hg3, hg4]
      exact hK _ _ ⟨(by first | (simp only [go_sem, hg1, hg2, hg3, hg4, lA9, mA9]; done) | rfl), (by first | (simp only [go_sem, hg1, hg2, hg3, hg4, lA9, mA9]; done) | rfl)⟩
     ·simp only [go_sem, hg1, hg2, hg3, hg4]
      refine b0g (fun hg5 => ?_) (fun hg5 => ?_)
      ·simp only [go_sem, hg1, hg2, hg3, hg4, hg5]
       exact hK _ _ ⟨(by first | (simp only [go_sem, hg1, hg2, hg3, hg4, hg5, lA9, mA9]; done) | rfl), (by first | (simp only [go_sem, hg1, hg2, hg3, hg4, hg5, lA9, mA9]; done) | rfl)⟩
      ·simp only [go_sem, hg1, hg2, hg3, hg4, hg5]
       refine b0r (b3e b.Most 100000000) ?_
       simp only [go_sem, hg1, hg2, hg3, hg4, hg5]
       exact hK _ _ ⟨(by first | (simp only [go_sem, hg1, hg2, hg3, hg4, hg5, lA9, mA9]; done) | rfl), (by first | (simp only [go_sem, hg1, hg2, hg3, hg4, hg5, lA9, mA9]; done) | rfl)⟩
 ·rintro t h ⟨s1, s37⟩
  refine b0o fun K6 hK6 => ?_
  simp only [go_sem, s37]
  refine b0g (fun hc7 => ?_) (fun hc7 => ?_)
  ·rw [b0w hc7] at hm0
   refine b0d fun K hK => ?_
   simp only [go_sem]
   refine hK _ _ ?_
   clear hK K
   simp only [b0k, b0m, b0l, b0n]
   obtain rfl := sI9 hm0
   exact b0q (by simp only [go_sem, lA9, mA9]) (b0a _)
  ·rw [b0v hc7] at hm0
   simp only [b0u, b0h, b0i]
   refine hK6 _ _ ?_
   refine b0t ?_
   refine b1v (fun t h => t 1 = .fp [B b.Up, I b.Pull, I b.Drag, I b.Body, I b.Ride, I b.Most, .fs 1 (List.map eI b.Paces), I b.Num, I b.Den] 0 ∧ t 65 = B (((((decide (b.Den < 1)) || (decide (100 < b.Den))) || (!(b1s b.Num b.Den))) || (decide ((List.length b.Paces : Int) < 1))) || (decide (3 < (List.length b.Paces : Int))))) (fun K hK => ?_) ?_
   ·simp only [go_sem, s1]
    refine b0g (fun hg8 => ?_) (fun hg8 => ?_)
    ·simp only [go_sem, s1, hg8]
     exact hK _ _ ⟨s1, (by first | (simp only [go_sem, hg8, lA9, mA9]; done) | rfl)⟩
    ·simp only [go_sem, s1, hg8]
     refine b0g (fun hg9 => ?_) (fun hg9 => ?_)
     ·simp only [go_sem, s1, hg8, hg9]
      exact hK _ _ ⟨s1, (by first | (simp only [go_sem, hg8, hg9, lA9, mA9]; done) | rfl)⟩
     ·simp only [go_sem, s1, hg8, hg9]
      refine b0r (b3e b.Num b.Den) ?_
      simp only [go_sem, s1, hg8, hg9]
      refine b0g (fun hg10 => ?_) (fun hg10 => ?_)
      ·simp only [go_sem, s1, hg8, hg9, hg10]
       exact hK _ _ ⟨s1, (by first | (simp only [go_sem, hg8, hg9, hg10, lA9, mA9]; done) | rfl)⟩
      ·simp only [go_sem, s1, hg8, hg9, hg10]
       refine b0g (fun hg11 => ?_) (fun hg11 => ?_)
       ·simp only [go_sem, s1, hg8, hg9, hg10, hg11]
        exact hK _ _ ⟨s1, (by first | (simp only [go_sem, hg8, hg9, hg10, hg11, lA9, mA9]; done) | rfl)⟩
       ·simp only [go_sem, s1, hg8, hg9, hg10, hg11]
        exact hK _ _ ⟨s1, (by first | (simp only [go_sem, hg8, hg9, hg10, hg11, lA9, mA9]; done) | rfl)⟩
   ·rintro t h ⟨s1, s65⟩
    refine b0o fun K12 hK12 => ?_
    simp only [go_sem, s65]
    refine b0g (fun hc13 => ?_) (fun hc13 => ?_)
    ·rw [b0w hc13] at hm0
     refine b0d fun K hK => ?_
     simp only [go_sem]
     refine hK _ _ ?_
     clear hK K
     simp only [b0k, b0m, b0l, b0n]
     obtain rfl := sI9 hm0
     exact b0q (by simp only [go_sem, lA9, mA9]) (b0a _)
    ·rw [b0v hc13] at hm0
     simp only [b0u, b0h, b0i]
     refine hK12 _ _ ?_
     refine b0d fun K hK => ?_
     simp only [go_sem]
     refine hK _ _ ?_
     clear hK K
     refine b0t ?_
     refine b0d fun K hK => ?_
     simp only [go_sem, s1]
     refine hK _ _ ?_
     clear hK K
     refine b0o fun K14 hK14 => ?_
     have J15 : ∀ (t : Slots) (h : Heap), c2j = some r → K14 t h := by
      intro t h hm0
      refine hK14 _ _ ?_
      unfold c2j at hm0
      refine b0d fun K hK => ?_
      simp only [go_sem]
      refine hK _ _ ?_
      clear hK K
      simp only [b0k, b0m, b0l, b0n]
      obtain rfl := sI9 hm0
      exact b0q (by simp only [go_sem, lA9, mA9]) (b0a _)
     simp only [b1d]
     obtain ⟨b16, hl16, hm0⟩ := b0j hm0
     refine b2n hl16 (fun | (last_3, x_69), t, h => t 3 = I last_3 ∧ t 67 = .fs 1 (List.map eI b.Paces) ∧ t 68 = I (List.length b.Paces : Int) ∧ t 69 = I x_69) ?_ ?_
     ·exact ⟨(by first | (simp only [go_sem, lA9, mA9]; done) | rfl), (by first | (simp only [go_sem, lA9, mA9]; done) | rfl), (by first | (simp only [go_sem, lA9, mA9]; done) | rfl), (by first | (simp only [go_sem, lA9, mA9]; done) | rfl)⟩
     ·rintro ⟨last_3, x_69⟩ o t h ⟨s3, s67, s68, s69⟩ hm1 hb16
      simp only [b53] at hm1
      rw [d1u]
      refine b0d fun K hK => ?_
      simp only [go_sem, s68, s69]
      refine hK _ _ ?_
      clear hK K
      refine b0o fun K17 hK17 => ?_
      simp only [go_sem]
      refine b0g (fun hc18 => ?_) (fun hc18 => ?_)
      ·rw [b0w hc18] at hm1
       simp only [b0u, b0h, b0i]
       refine hK17 _ _ ?_
       refine b0o fun K19 hK19 => ?_
       simp only [b1d]
       obtain ⟨x21, h_x21, hm1⟩ := b0j hm1
       have h_x210 := b1t h_x21
       have h_x211 := b14 h_x21
       refine b0d fun K hK => ?_
       simp only [go_sem, s67, s69, b09 h_x21, b1a h_x21, h_x210, h_x211]
       refine hK _ _ ?_
       clear hK K
       refine b0t ?_
       refine b1v (fun t h => t 5 = I x21 ∧ t 67 = .fs 1 (List.map eI b.Paces) ∧ t 68 = I (List.length b.Paces : Int) ∧ t 69 = I x_69 ∧ t 79 = B ((decide (x21 ≤ last_3)) || (decide (100 < x21)))) (fun K hK => ?_) ?_
       ·simp only [go_sem, s3]
        refine b0g (fun hg22 => ?_) (fun hg22 => ?_)
        ·simp only [go_sem, s3, hg22]
         exact hK _ _ ⟨(by first | (simp only [go_sem, hg22, lA9, mA9]; done) | rfl), s67, s68, s69, (by first | (simp only [go_sem, hg22, lA9, mA9]; done) | rfl)⟩
        ·simp only [go_sem, s3, hg22]
         exact hK _ _ ⟨(by first | (simp only [go_sem, hg22, lA9, mA9]; done) | rfl), s67, s68, s69, (by first | (simp only [go_sem, hg22, lA9, mA9]; done) | rfl)⟩
       ·rintro t h ⟨s5, s67, s68, s69, s79⟩
        refine b0o fun K23 hK23 => ?_
        simp only [go_sem, s79]
        refine b0g (fun hc24 => ?_) (fun hc24 => ?_)
        ·rw [b0w hc24] at hm1
         refine b0d fun K hK => ?_
         simp only [go_sem]
         refine hK _ _ ?_
         clear hK K
         simp only [b0k, b0m, b0l, b0n]
         obtain rfl := sI9 hm1
         obtain rfl := hb16 _ rfl
         try dsimp only at hm0
         obtain rfl := sI9 hm0
         exact b0q (by simp only [go_sem, lA9, mA9]) (b0a _)
        ·rw [b0v hc24] at hm1
         simp only [b0u, b0h, b0i]
         refine hK23 _ _ ?_
         refine b12 fun K hK => ?_
         simp only [go_sem, s5]
         refine hK _ _ ?_
         clear hK K
         simp only [b0h, b0i]
         refine hK19 _ _ ?_
         refine b12 fun K hK => ?_
         simp only [go_sem, s69]
         refine hK _ _ ?_
         clear hK K
         simp only [b0h, b0i]
         obtain rfl := sI9 hm1
         refine ⟨_, rfl, ?_⟩
         exact ⟨(by first | (simp only [go_sem, lA9, mA9]; done) | rfl), s67, s68, (by first | (simp only [go_sem, s69, lA9, mA9]; done) | rfl)⟩
      ·rw [b0v hc18] at hm1
       simp only [b2g, b2k, b2j, b2i, b0h, b0i, Nat.reduceEqDiff, nF9]
       obtain rfl := sI9 hm1
       obtain rfl := hb16 _ rfl
       try dsimp only at hm0
       exact J15  _ _  hm0
theorem c3i (hf : Has O "newel/energy.Flows" x_energy_Flows) (c3l : c09 O) (c3o : c1c O) : c06 O := by
 intro b t_ plan period read r hm0
 unfold b69 at hm0
 refine b06 hf rfl (b0b (.agg _ (b0b (b0a _) (b0b (b0a _) (b0b (b0a _) (b0b (b0a _) (b0b (b0a _) (b0b (b0a _) (b0b (b02 fun a _ => b1f a) (b0b (b0a _) (b0b (b0a _) b0p)))))))))) (b0b (.agg _ (b0b (b02 fun a _ => b5f a) (b0b (b0a _) b0p))) (b0b (b02 fun a _ => b1f a) (b0b (b0a _) (b0b (.agg _ (b0b (b0a _) (b0b (b0a _) b0p))) b0p))))) (.tup _ (b0b (b02 fun a _ => b1f a) (b0b (b0a _) b0p))) ?_
 refine b05 (fun t h => t 0 = .agg [B b.Up, I b.Pull, I b.Drag, I b.Body, I b.Ride, I b.Most, .fs 1 (List.map eI b.Paces), I b.Num, I b.Den] ∧ t 1 = .agg [.fs 4 (List.map b1i t_.Periods), I t_.Peak] ∧ t 2 = .fs 1 (List.map eI plan) ∧ t 3 = I period ∧ t 4 = .agg [I read.Low, I read.High]) ⟨rfl, rfl, rfl, rfl, rfl⟩ fun t h ⟨s0, s1, s2, s3, s4⟩ => ?_
 simp only [x_energy_Flows]
 refine b0d fun K hK => ?_
 simp only [go_sem, s0, s1, s4]
 refine hK _ _ ?_
 clear hK K
 refine b0t ?_
 obtain ⟨y2, h_y2, hm0⟩ := b0j hm0
 refine b0d fun K hK => ?_
 simp only [go_sem, s2]
 refine b0r (c3l b t_ plan _ h_y2) ?_
 simp only [go_sem, s2]
 refine hK _ _ ?_
 clear hK K
 refine b0t ?_
 refine b0d fun K hK => ?_
 simp only [go_sem]
 refine hK _ _ ?_
 clear hK K
 refine b0o fun K3 hK3 => ?_
 simp only [go_sem]
 refine b0g (fun hc4 => ?_) (fun hc4 => ?_)
 ·rw [b0w hc4] at hm0
  refine b0d fun K hK => ?_
  simp only [go_sem]
  refine hK _ _ ?_
  clear hK K
  simp only [b0k, b0m, b0l, b0n]
  obtain rfl := sI9 hm0
  exact c2g (v := .v (.slice none 0 0)) (u := I y2) (by simp only [go_sem, lA9, mA9]) (by simp only [go_sem, lA9, mA9]) (.nil _) (.refl _ (b0a _))
 ·rw [b0v hc4] at hm0
  simp only [b0u, b0h, b0i]
  refine hK3 _ _ ?_
  refine b0t ?_
  refine b1v (fun t h => t 2 = .fs 1 (List.map eI plan) ∧ t 3 = I period ∧ t 5 = .fp [B b.Up, I b.Pull, I b.Drag, I b.Body, I b.Ride, I b.Most, .fs 1 (List.map eI b.Paces), I b.Num, I b.Den] 0 ∧ t 6 = .fp [.fs 4 (List.map b1i t_.Periods), I t_.Peak] 0 ∧ t 9 = .fp [I read.Low, I read.High] 0 ∧ t 34 = B (((decide (period < 0)) || (decide ((List.length plan : Int) ≤ period))) || (decide (read.High < read.Low)))) (fun K hK => ?_) ?_
  ·simp only [go_sem, s2, s3]
   refine b0g (fun hg5 => ?_) (fun hg5 => ?_)
   ·simp only [go_sem, s2, s3, hg5]
    exact hK _ _ ⟨s2, s3, (by first | (simp only [go_sem, hg5, lA9, mA9]; done) | rfl), (by first | (simp only [go_sem, hg5, lA9, mA9]; done) | rfl), (by first | (simp only [go_sem, hg5, lA9, mA9]; done) | rfl), (by first | (simp only [go_sem, hg5, lA9, mA9]; done) | rfl)⟩
   ·simp only [go_sem, s2, s3, hg5]
    refine b0g (fun hg6 => ?_) (fun hg6 => ?_)
    ·simp only [go_sem, s2, s3, hg5, hg6]
     exact hK _ _ ⟨s2, s3, (by first | (simp only [go_sem, hg5, hg6, lA9, mA9]; done) | rfl), (by first | (simp only [go_sem, hg5, hg6, lA9, mA9]; done) | rfl), (by first | (simp only [go_sem, hg5, hg6, lA9, mA9]; done) | rfl), (by first | (simp only [go_sem, hg5, hg6, lA9, mA9]; done) | rfl)⟩
    ·simp only [go_sem, s2, s3, hg5, hg6]
     exact hK _ _ ⟨s2, s3, (by first | (simp only [go_sem, hg5, hg6, lA9, mA9]; done) | rfl), (by first | (simp only [go_sem, hg5, hg6, lA9, mA9]; done) | rfl), (by first | (simp only [go_sem, hg5, hg6, lA9, mA9]; done) | rfl), (by first | (simp only [go_sem, hg5, hg6, lA9, mA9]; done) | rfl)⟩
  ·rintro t h ⟨s2, s3, s5, s6, s9, s34⟩
   refine b0o fun K7 hK7 => ?_
   simp only [go_sem, s34]
   refine b0g (fun hc8 => ?_) (fun hc8 => ?_)
   ·rw [b0w hc8] at hm0
    refine b0d fun K hK => ?_
    simp only [go_sem]
    refine hK _ _ ?_
    clear hK K
    simp only [b0k, b0m, b0l, b0n]
    obtain rfl := sI9 hm0
    exact c2g (v := .v (.slice none 0 0)) (u := I 1) (by simp only [go_sem, lA9, mA9]) (by simp only [go_sem, lA9, mA9]) (.nil _) (.refl _ (b0a _))
   ·rw [b0v hc8] at hm0
    simp only [b0u, b0h, b0i]
    refine hK7 _ _ ?_
    obtain ⟨x12, h_x12, hm0⟩ := b0j hm0
    have h_x120 := b1t h_x12
    have h_x121 := b14 h_x12
    obtain ⟨x13, h_x13, hm0⟩ := b0j hm0
    have h_x130 := b1t h_x13
    have h_x131 := b14 h_x13
    obtain ⟨y14, h_y14, hm0⟩ := b0j hm0
    refine b0d fun K hK => ?_
    simp only [go_sem, s2, s3, s5, s6, s9, b09 h_x12, b1a h_x12, h_x120, h_x121, b09 h_x13, b1a h_x13, h_x130, h_x131]
    refine b0r (c3o b x12 x13 read _ h_y14) ?_
    simp only [go_sem, s2, s3, s5, s6, s9, b09 h_x12, b1a h_x12, h_x120, h_x121, b09 h_x13, b1a h_x13, h_x130, h_x131]
    refine hK _ _ ?_
    clear hK K
    simp only [b0k, b0m, b0l, b0n]
    obtain rfl := sI9 hm0
    exact b9c (by simp only [go_sem, lA9, mA9]) (by simp only [go_sem, lA9, mA9]) (b02 fun a _ => b1f a) (b0a _)
theorem c3j (hf : Has O "newel/energy.Power" x_energy_Power) (c3k : c08 O) (b7t : b8p O) : c07 O := by
 intro b flow pace r hm0
 unfold b7a at hm0
 refine b06 hf rfl (b0b (.agg _ (b0b (b0a _) (b0b (b0a _) (b0b (b0a _) (b0b (b0a _) (b0b (b0a _) (b0b (b0a _) (b0b (b02 fun a _ => b1f a) (b0b (b0a _) (b0b (b0a _) b0p)))))))))) (b0b (b0a _) (b0b (b0a _) b0p))) (.tup _ (b0b (b0a _) (b0b (b0a _) b0p))) ?_
 refine b05 (fun t h => t 0 = .agg [B b.Up, I b.Pull, I b.Drag, I b.Body, I b.Ride, I b.Most, .fs 1 (List.map eI b.Paces), I b.Num, I b.Den] ∧ t 1 = I flow ∧ t 2 = I pace) ⟨rfl, rfl, rfl⟩ fun t h ⟨s0, s1, s2⟩ => ?_
 simp only [x_energy_Power]
 refine b0d fun K hK => ?_
 simp only [go_sem, s0]
 refine hK _ _ ?_
 clear hK K
 refine b0t ?_
 obtain ⟨y2, h_y2, hm0⟩ := b0j hm0
 refine b0d fun K hK => ?_
 simp only [go_sem, s1, s2]
 refine b0r (c3k b flow pace _ h_y2) ?_
 simp only [go_sem, s1, s2]
 refine hK _ _ ?_
 clear hK K
 refine b0t ?_
 refine b0d fun K hK => ?_
 simp only [go_sem]
 refine hK _ _ ?_
 clear hK K
 refine b0o fun K3 hK3 => ?_
 simp only [go_sem]
 refine b0g (fun hc4 => ?_) (fun hc4 => ?_)
 ·rw [b0w hc4] at hm0
  refine b0d fun K hK => ?_
  simp only [go_sem]
  refine hK _ _ ?_
  clear hK K
  simp only [b0k, b0m, b0l, b0n]
  obtain rfl := sI9 hm0
  exact b9c (by simp only [go_sem, lA9, mA9]) (by simp only [go_sem, lA9, mA9]) (b0a _) (b0a _)
 ·rw [b0v hc4] at hm0
  simp only [b0u, b0h, b0i]
  refine hK3 _ _ ?_
  obtain ⟨y6, h_y6, hm0⟩ := b0j hm0
  refine b0d fun K hK => ?_
  simp only [go_sem, s1, s2]
  refine b0r (b7t b flow pace _ h_y6) ?_
  simp only [go_sem, s1, s2]
  refine hK _ _ ?_
  clear hK K
  simp only [b0k, b0m, b0l, b0n]
  obtain rfl := sI9 hm0
  exact b9c (by simp only [go_sem, lA9, mA9]) (by simp only [go_sem, lA9, mA9]) (b0a _) (b0a _)
theorem c3k (hf : Has O "newel/energy.check" x_energy_check) (b7s : b8o O) (b7w : b8u O) (b3e : b60 O) : c08 O := by
 intro b flow pace r hm0
 unfold b9g at hm0
 refine b06 hf rfl (b0b (.agg _ (b0b (b0a _) (b0b (b0a _) (b0b (b0a _) (b0b (b0a _) (b0b (b0a _) (b0b (b0a _) (b0b (b02 fun a _ => b1f a) (b0b (b0a _) (b0b (b0a _) b0p)))))))))) (b0b (b0a _) (b0b (b0a _) b0p))) (b0a _) ?_
 refine b05 (fun t h => t 0 = .agg [B b.Up, I b.Pull, I b.Drag, I b.Body, I b.Ride, I b.Most, .fs 1 (List.map eI b.Paces), I b.Num, I b.Den] ∧ t 1 = I flow ∧ t 2 = I pace) ⟨rfl, rfl, rfl⟩ fun t h ⟨s0, s1, s2⟩ => ?_
 simp only [x_energy_check]
 refine b0d fun K hK => ?_
 simp only [go_sem, s0]
 refine hK _ _ ?_
 clear hK K
 refine b0t ?_
 obtain ⟨y2, h_y2, hm0⟩ := b0j hm0
 refine b0d fun K hK => ?_
 simp only [go_sem]
 refine b0r (b7s b _ h_y2) ?_
 simp only [go_sem]
 refine hK _ _ ?_
 clear hK K
 refine b0o fun K3 hK3 => ?_
 simp only [b1d]
 refine b0d fun K hK => ?_
 simp only [go_sem]
 refine hK _ _ ?_
 clear hK K
 simp only [go_sem]
 refine b0g (fun hc4 => ?_) (fun hc4 => ?_)
 ·rw [b0w hc4] at hm0
  refine b0d fun K hK => ?_
  simp only [go_sem]
  refine hK _ _ ?_
  clear hK K
  simp only [b0k, b0m, b0l, b0n]
  obtain rfl := sI9 hm0
  exact b0q (by simp only [go_sem, lA9, mA9]) (b0a _)
 ·rw [b0v hc4] at hm0
  obtain ⟨y6, h_y6, hm0⟩ := b0j hm0
  refine b0d fun K hK => ?_
  simp only [go_sem, s2]
  refine b0r (b7w b.Paces pace _ h_y6) ?_
  simp only [go_sem, s2]
  refine hK _ _ ?_
  clear hK K
  simp only [go_sem]
  refine b0g (fun hc7 => ?_) (fun hc7 => ?_)
  ·rw [b0w hc7] at hm0
   refine b0d fun K hK => ?_
   simp only [go_sem]
   refine hK _ _ ?_
   clear hK K
   simp only [b0k, b0m, b0l, b0n]
   obtain rfl := sI9 hm0
   exact b0q (by simp only [go_sem, lA9, mA9]) (b0a _)
  ·rw [b0v hc7] at hm0
   refine b0d fun K hK => ?_
   simp only [go_sem, s1]
   refine b0r (b3e flow 100) ?_
   simp only [go_sem, s1]
   refine hK _ _ ?_
   clear hK K
   simp only [go_sem]
   refine b0g (fun hc8 => ?_) (fun hc8 => ?_)
   ·rw [b0w hc8] at hm0
    refine b0d fun K hK => ?_
    simp only [go_sem]
    refine hK _ _ ?_
    clear hK K
    simp only [b0k, b0m, b0l, b0n]
    obtain rfl := sI9 hm0
    exact b0q (by simp only [go_sem, lA9, mA9]) (b0a _)
   ·rw [b0v hc8] at hm0
    simp only [b0u, b0h, b0i]
    refine hK3 _ _ ?_
    refine b0d fun K hK => ?_
    simp only [go_sem]
    refine hK _ _ ?_
    clear hK K
    simp only [b0k, b0m, b0l, b0n]
    obtain rfl := sI9 hm0
    exact b0q (by simp only [go_sem, lA9, mA9]) (b0a _)
theorem c3l (hf : Has O "newel/energy.checkPlan" x_energy_checkPlan) (c3n : c1b O) (c37 : c1y O) (c3m : c1a O) : c09 O := by
 intro b t_ plan r hm0
 unfold b7b at hm0
 refine b06 hf rfl (b0b (.agg _ (b0b (b0a _) (b0b (b0a _) (b0b (b0a _) (b0b (b0a _) (b0b (b0a _) (b0b (b0a _) (b0b (b02 fun a _ => b1f a) (b0b (b0a _) (b0b (b0a _) b0p)))))))))) (b0b (.agg _ (b0b (b02 fun a _ => b5f a) (b0b (b0a _) b0p))) (b0b (b02 fun a _ => b1f a) b0p))) (b0a _) ?_
 refine b05 (fun t h => t 0 = .agg [B b.Up, I b.Pull, I b.Drag, I b.Body, I b.Ride, I b.Most, .fs 1 (List.map eI b.Paces), I b.Num, I b.Den] ∧ t 1 = .agg [.fs 4 (List.map b1i t_.Periods), I t_.Peak] ∧ t 2 = .fs 1 (List.map eI plan)) ⟨rfl, rfl, rfl⟩ fun t h ⟨s0, s1, s2⟩ => ?_
 simp only [x_energy_checkPlan]
 refine b0d fun K hK => ?_
 simp only [go_sem, s0, s1]
 refine hK _ _ ?_
 clear hK K
 refine b0t ?_
 obtain ⟨y2, h_y2, hm0⟩ := b0j hm0
 refine b0d fun K hK => ?_
 simp only [go_sem]
 refine b0r (c3n b t_ _ h_y2) ?_
 simp only [go_sem]
 refine hK _ _ ?_
 clear hK K
 refine b0t ?_
 refine b0d fun K hK => ?_
 simp only [go_sem]
 refine hK _ _ ?_
 clear hK K
 refine b0o fun K3 hK3 => ?_
 simp only [go_sem]
 refine b0g (fun hc4 => ?_) (fun hc4 => ?_)
 ·rw [b0w hc4] at hm0
  refine b0d fun K hK => ?_
  simp only [go_sem]
  refine hK _ _ ?_
  clear hK K
  simp only [b0k, b0m, b0l, b0n]
  obtain rfl := sI9 hm0
  exact b0q (by simp only [go_sem, lA9, mA9]) (b0a _)
 ·rw [b0v hc4] at hm0
  simp only [b0u, b0h, b0i]
  refine hK3 _ _ ?_
  refine b0t ?_
  obtain ⟨c10, h_c10, hm0⟩ := b0j hm0
  refine b1v (fun t h => t 24 = B c10) (fun K hK => ?_) ?_
  ·simp only [go_sem, s2]
   refine b0g (fun hg11 => ?_) (fun hg11 => ?_)
   ·simp only [hg11, Bool.not_true, Bool.not_false, eq_self, if_true, if_false, Bool.true_or, Bool.or_true, Bool.false_or, Bool.or_false, Bool.true_and, Bool.and_true, Bool.false_and, Bool.and_false, Bool.false_eq_true] at h_c10
    obtain rfl := sI9 h_c10
    simp only [go_sem, s2, hg11]
    exact hK _ _ (by first | (simp only [go_sem, hg11, lA9, mA9]; done) | rfl)
   ·simp only [hg11, Bool.not_true, Bool.not_false, eq_self, if_true, if_false, Bool.true_or, Bool.or_true, Bool.false_or, Bool.or_false, Bool.true_and, Bool.and_true, Bool.false_and, Bool.and_false, Bool.false_eq_true] at h_c10
    obtain ⟨y9, h_y9, h_c10⟩ := b0j h_c10
    obtain rfl := sI9 h_c10
    simp only [go_sem, s2, hg11]
    refine b0r (c37 plan "newel/energy.checkPlan$1" [] [.fp [B b.Up, I b.Pull, I b.Drag, I b.Body, I b.Ride, I b.Most, .fs 1 (List.map eI b.Paces), I b.Num, I b.Den] 0] (fun z8 => b5a z8 b) (.fn _ _ _ b0p (b0b (.fp _ _ (b0b (b0a _) (b0b (b0a _) (b0b (b0a _) (b0b (b0a _) (b0b (b0a _) (b0b (b0a _) (b0b (b02 fun a _ => b1f a) (b0b (b0a _) (b0b (b0a _) b0p)))))))))) b0p)) (fun z0 y hz => c3m z0 b y hz) _ h_y9) ?_
    simp only [go_sem, s2, hg11]
    exact hK _ _ (by first | (simp only [go_sem, hg11, lA9, mA9]; done) | rfl)
  ·rintro t h s24
   refine b0o fun K12 hK12 => ?_
   simp only [go_sem, s24]
   refine b0g (fun hc13 => ?_) (fun hc13 => ?_)
   ·rw [b0w hc13] at hm0
    refine b0d fun K hK => ?_
    simp only [go_sem]
    refine hK _ _ ?_
    clear hK K
    simp only [b0k, b0m, b0l, b0n]
    obtain rfl := sI9 hm0
    exact b0q (by simp only [go_sem, lA9, mA9]) (b0a _)
   ·rw [b0v hc13] at hm0
    simp only [b0u, b0h, b0i]
    refine hK12 _ _ ?_
    refine b0d fun K hK => ?_
    simp only [go_sem]
    refine hK _ _ ?_
    clear hK K
    simp only [b0k, b0m, b0l, b0n]
    obtain rfl := sI9 hm0
    exact b0q (by simp only [go_sem, lA9, mA9]) (b0a _)
theorem c3m (hf : Has O "newel/energy.checkPlan$1" x_energy_checkPlanD1) (b7w : b8u O) : c1a O := by
 intro p c0 r hm0
 unfold b5a at hm0
 refine b06 hf rfl (b0b (b0a _) (b0b (.fp _ _ (b0b (b0a _) (b0b (b0a _) (b0b (b0a _) (b0b (b0a _) (b0b (b0a _) (b0b (b0a _) (b0b (b02 fun a _ => b1f a) (b0b (b0a _) (b0b (b0a _) b0p)))))))))) b0p)) (b0a _) ?_
 refine b05 (fun t h => t 0 = I p ∧ t 1 = .fp [B c0.Up, I c0.Pull, I c0.Drag, I c0.Body, I c0.Ride, I c0.Most, .fs 1 (List.map eI c0.Paces), I c0.Num, I c0.Den] 0) ⟨rfl, rfl⟩ fun t h ⟨s0, s1⟩ => ?_
 simp only [x_energy_checkPlanD1]
 refine b0d fun K hK => ?_
 simp only [go_sem]
 refine hK _ _ ?_
 clear hK K
 obtain ⟨y2, h_y2, hm0⟩ := b0j hm0
 refine b0d fun K hK => ?_
 simp only [go_sem, s0, s1]
 refine b0r (b7w c0.Paces p _ h_y2) ?_
 simp only [go_sem, s0, s1]
 refine hK _ _ ?_
 clear hK K
 simp only [b0k, b0m, b0l, b0n]
 obtain rfl := sI9 hm0
 exact b0q (by simp only [go_sem, lA9, mA9]) (b0a _)
theorem c3n (hf : Has O "newel/energy.checkTimes" x_energy_checkTimes) (b7s : b8o O) (b3e : b60 O) : c1b O := by
 intro b t_ r hm0
 unfold b7c at hm0
 refine b06 hf rfl (b0b (.agg _ (b0b (b0a _) (b0b (b0a _) (b0b (b0a _) (b0b (b0a _) (b0b (b0a _) (b0b (b0a _) (b0b (b02 fun a _ => b1f a) (b0b (b0a _) (b0b (b0a _) b0p)))))))))) (b0b (.agg _ (b0b (b02 fun a _ => b5f a) (b0b (b0a _) b0p))) b0p)) (b0a _) ?_
 refine b05 (fun t h => t 0 = .agg [B b.Up, I b.Pull, I b.Drag, I b.Body, I b.Ride, I b.Most, .fs 1 (List.map eI b.Paces), I b.Num, I b.Den] ∧ t 1 = .agg [.fs 4 (List.map b1i t_.Periods), I t_.Peak]) ⟨rfl, rfl⟩ fun t h ⟨s0, s1⟩ => ?_
 simp only [x_energy_checkTimes]
 refine b0d fun K hK => ?_
 simp only [go_sem, s0, s1]
 refine hK _ _ ?_
 clear hK K
 refine b0t ?_
 obtain ⟨y2, h_y2, hm0⟩ := b0j hm0
 refine b0d fun K hK => ?_
 simp only [go_sem]
 refine b0r (b7s b _ h_y2) ?_
 simp only [go_sem]
 refine hK _ _ ?_
 clear hK K
 refine b0t ?_
 refine b0d fun K hK => ?_
 simp only [go_sem]
 refine hK _ _ ?_
 clear hK K
 refine b0o fun K3 hK3 => ?_
 simp only [go_sem]
 refine b0g (fun hc4 => ?_) (fun hc4 => ?_)
 ·rw [b0w hc4] at hm0
  refine b0d fun K hK => ?_
  simp only [go_sem]
  refine hK _ _ ?_
  clear hK K
  simp only [b0k, b0m, b0l, b0n]
  obtain rfl := sI9 hm0
  exact b0q (by simp only [go_sem, lA9, mA9]) (b0a _)
 ·rw [b0v hc4] at hm0
  simp only [b0u, b0h, b0i]
  refine hK3 _ _ ?_
  refine b0t ?_
  refine b1v (fun t h => t 3 = .fp [.fs 4 (List.map b1i t_.Periods), I t_.Peak] 0 ∧ t 28 = B (((decide ((List.length t_.Periods : Int) < 1)) || (decide (8 < (List.length t_.Periods : Int)))) || (!(b1s t_.Peak 1000)))) (fun K hK => ?_) ?_
  ·simp only [go_sem]
   refine b0g (fun hg5 => ?_) (fun hg5 => ?_)
   ·simp only [go_sem, hg5]
    exact hK _ _ ⟨(by first | (simp only [go_sem, hg5, lA9, mA9]; done) | rfl), (by first | (simp only [go_sem, hg5, lA9, mA9]; done) | rfl)⟩
   ·simp only [go_sem, hg5]
    refine b0g (fun hg6 => ?_) (fun hg6 => ?_)
    ·simp only [go_sem, hg5, hg6]
     exact hK _ _ ⟨(by first | (simp only [go_sem, hg5, hg6, lA9, mA9]; done) | rfl), (by first | (simp only [go_sem, hg5, hg6, lA9, mA9]; done) | rfl)⟩
    ·simp only [go_sem, hg5, hg6]
     refine b0r (b3e t_.Peak 1000) ?_
     simp only [go_sem, hg5, hg6]
     exact hK _ _ ⟨(by first | (simp only [go_sem, hg5, hg6, lA9, mA9]; done) | rfl), (by first | (simp only [go_sem, hg5, hg6, lA9, mA9]; done) | rfl)⟩
  ·rintro t h ⟨s3, s28⟩
   refine b0o fun K7 hK7 => ?_
   simp only [go_sem, s28]
   refine b0g (fun hc8 => ?_) (fun hc8 => ?_)
   ·rw [b0w hc8] at hm0
    refine b0d fun K hK => ?_
    simp only [go_sem]
    refine hK _ _ ?_
    clear hK K
    simp only [b0k, b0m, b0l, b0n]
    obtain rfl := sI9 hm0
    exact b0q (by simp only [go_sem, lA9, mA9]) (b0a _)
   ·rw [b0v hc8] at hm0
    simp only [b0u, b0h, b0i]
    refine hK7 _ _ ?_
    refine b0t ?_
    refine b0d fun K hK => ?_
    simp only [go_sem, s3]
    refine hK _ _ ?_
    clear hK K
    refine b0o fun K9 hK9 => ?_
    have J10 : ∀ (t : Slots) (h : Heap), c2k = some r → K9 t h := by
     intro t h hm0
     refine hK9 _ _ ?_
     unfold c2k at hm0
     refine b0d fun K hK => ?_
     simp only [go_sem]
     refine hK _ _ ?_
     clear hK K
     simp only [b0k, b0m, b0l, b0n]
     obtain rfl := sI9 hm0
     exact b0q (by simp only [go_sem, lA9, mA9]) (b0a _)
    simp only [b1d]
    obtain ⟨b11, hl11, hm0⟩ := b0j hm0
    refine b2n hl11 (fun | x_32, t, h => t 30 = .fs 4 (List.map b1i t_.Periods) ∧ t 31 = I (List.length t_.Periods : Int) ∧ t 32 = I x_32) ?_ ?_
    ·exact ⟨(by first | (simp only [go_sem, lA9, mA9]; done) | rfl), (by first | (simp only [go_sem, lA9, mA9]; done) | rfl), (by first | (simp only [go_sem, lA9, mA9]; done) | rfl)⟩
    ·rintro x_32 o t h ⟨s30, s31, s32⟩ hm1 hb11
     simp only [b54] at hm1
     rw [d1v]
     refine b0d fun K hK => ?_
     simp only [go_sem, s31, s32]
     refine hK _ _ ?_
     clear hK K
     refine b0o fun K12 hK12 => ?_
     simp only [go_sem]
     refine b0g (fun hc13 => ?_) (fun hc13 => ?_)
     ·rw [b0w hc13] at hm1
      simp only [b0u, b0h, b0i]
      refine hK12 _ _ ?_
      refine b0o fun K14 hK14 => ?_
      simp only [b1d]
      obtain ⟨x16, h_x16, hm1⟩ := b0j hm1
      have h_x160 := b1t h_x16
      have h_x161 := b14 h_x16
      refine b0d fun K hK => ?_
      simp only [go_sem, s30, s32, b09 h_x16, b1a h_x16, h_x160, h_x161]
      refine hK _ _ ?_
      clear hK K
      refine b1v (fun t h => t 30 = .fs 4 (List.map b1i t_.Periods) ∧ t 31 = I (List.length t_.Periods : Int) ∧ t 32 = I x_32 ∧ t 65 = B (((((decide (x16.Lasts < 1)) || (decide (1000 < x16.Lasts))) || (!(b1s x16.Price 100))) || (!(b1s x16.Flow.Low x16.Flow.High))) || (decide (100 < x16.Flow.High)))) (fun K hK => ?_) ?_
      ·simp only [go_sem]
       refine b0g (fun hg17 => ?_) (fun hg17 => ?_)
       ·simp only [go_sem, hg17]
        exact hK _ _ ⟨s30, s31, s32, (by first | (simp only [go_sem, hg17, lA9, mA9]; done) | rfl)⟩
       ·simp only [go_sem, hg17]
        refine b0g (fun hg18 => ?_) (fun hg18 => ?_)
        ·simp only [go_sem, hg17, hg18]
         exact hK _ _ ⟨s30, s31, s32, (by first | (simp only [go_sem, hg17, hg18, lA9, mA9]; done) | rfl)⟩
        ·simp only [go_sem, hg17, hg18]
         refine b0r (b3e x16.Price 100) ?_
         simp only [go_sem, hg17, hg18]
         refine b0g (fun hg19 => ?_) (fun hg19 => ?_)
         ·simp only [go_sem, hg17, hg18, hg19]
          exact hK _ _ ⟨s30, s31, s32, (by first | (simp only [go_sem, hg17, hg18, hg19, lA9, mA9]; done) | rfl)⟩
         ·simp only [go_sem, hg17, hg18, hg19]
          refine b0r (b3e x16.Flow.Low x16.Flow.High) ?_
          simp only [go_sem, hg17, hg18, hg19]
          refine b0g (fun hg20 => ?_) (fun hg20 => ?_)
          ·simp only [go_sem, hg17, hg18, hg19, hg20]
           exact hK _ _ ⟨s30, s31, s32, (by first | (simp only [go_sem, hg17, hg18, hg19, hg20, lA9, mA9]; done) | rfl)⟩
          ·simp only [go_sem, hg17, hg18, hg19, hg20]
           exact hK _ _ ⟨s30, s31, s32, (by first | (simp only [go_sem, hg17, hg18, hg19, hg20, lA9, mA9]; done) | rfl)⟩
      ·rintro t h ⟨s30, s31, s32, s65⟩
       simp only [go_sem, s65]
       refine b0g (fun hc21 => ?_) (fun hc21 => ?_)
       ·rw [b0w hc21] at hm1
        refine b0d fun K hK => ?_
        simp only [go_sem]
        refine hK _ _ ?_
        clear hK K
        simp only [b0k, b0m, b0l, b0n]
        obtain rfl := sI9 hm1
        obtain rfl := hb11 _ rfl
        try dsimp only at hm0
        obtain rfl := sI9 hm0
        exact b0q (by simp only [go_sem, lA9, mA9]) (b0a _)
       ·rw [b0v hc21] at hm1
        simp only [b0u, b0h, b0i]
        refine hK14 _ _ ?_
        refine b12 fun K hK => ?_
        simp only [go_sem, s32]
        refine hK _ _ ?_
        clear hK K
        simp only [b0h, b0i]
        obtain rfl := sI9 hm1
        refine ⟨_, rfl, ?_⟩
        exact ⟨s30, s31, (by first | (simp only [go_sem, s32, lA9, mA9]; done) | rfl)⟩
     ·rw [b0v hc13] at hm1
      simp only [b2g, b2k, b2j, b2i, b0h, b0i, Nat.reduceEqDiff, nF9]
      obtain rfl := sI9 hm1
      obtain rfl := hb11 _ rfl
      try dsimp only at hm0
      exact J10  _ _  hm0
theorem c3o (hf : Has O "newel/energy.flows" x_energy_flows) (b7t : b8p O) : c1c O := by
 intro b p pace read r hm0
 unfold b7d at hm0
 refine b06 hf rfl (b0b (.agg _ (b0b (b0a _) (b0b (b0a _) (b0b (b0a _) (b0b (b0a _) (b0b (b0a _) (b0b (b0a _) (b0b (b02 fun a _ => b1f a) (b0b (b0a _) (b0b (b0a _) b0p)))))))))) (b0b (.agg _ (b0b (b0a _) (b0b (b0a _) (b0b (b0a _) (b0b (b0a _) b0p))))) (b0b (b0a _) (b0b (.agg _ (b0b (b0a _) (b0b (b0a _) b0p))) b0p)))) (b02 fun a _ => b1f a) ?_
 refine b05 (fun t h => t 0 = .agg [B b.Up, I b.Pull, I b.Drag, I b.Body, I b.Ride, I b.Most, .fs 1 (List.map eI b.Paces), I b.Num, I b.Den] ∧ t 1 = .agg [I p.Lasts, I p.Price, I p.Flow.Low, I p.Flow.High] ∧ t 2 = I pace ∧ t 3 = .agg [I read.Low, I read.High]) ⟨rfl, rfl, rfl, rfl⟩ fun t h ⟨s0, s1, s2, s3⟩ => ?_
 simp only [x_energy_flows]
 refine b0d fun K hK => ?_
 simp only [go_sem, s0, s1, s3]
 refine hK _ _ ?_
 clear hK K
 refine b0t ?_
 refine b0d fun K hK => ?_
 simp only [go_sem]
 refine hK _ _ ?_
 clear hK K
 refine b0o fun K1 hK1 => ?_
 have J2 : ∀ (out_8 : List Int) (v8 : AV) (t : Slots) (h : Heap), t 8 = v8 → b1u h v8 1 (List.map eI out_8) → c2l out_8 = some r → K1 t h := by
  intro out_8 v8 t h s8 Q4 hm0
  refine hK1 _ _ ?_
  unfold c2l at hm0
  refine b0d fun K hK => ?_
  simp only [go_sem, s8, b2p v8]
  refine hK _ _ ?_
  clear hK K
  simp only [b0k, b0m, b0l, b0n]
  obtain rfl := sI9 hm0
  exact c6e (v := v8) (by simp only [go_sem, s8, b4y Q4, lA9, mA9]) (c25 (f := eI) (l := out_8) (b34 Q4 (by intro j hj hl; first | rfl | simp only [go_sem, hl]) (by first | omega | exact Nat.le_refl _ | (simp only [go_sem, nxs] <;> omega))) b1f c9q)
 simp only [b1d]
 obtain ⟨b3, hl3, hm0⟩ := b0j hm0
 refine b2n hl3 (fun | (out_8, n_9), t, h => ∃ v8 : AV, t 2 = I pace ∧ t 4 = .fp [B b.Up, I b.Pull, I b.Drag, I b.Body, I b.Ride, I b.Most, .fs 1 (List.map eI b.Paces), I b.Num, I b.Den] 0 ∧ t 5 = .fp [I p.Lasts, I p.Price, I p.Flow.Low, I p.Flow.High] 0 ∧ t 7 = .fp [I read.Low, I read.High] 0 ∧ t 8 = v8 ∧ t 9 = I n_9 ∧ b1u h v8 1 (List.map eI out_8)) ?_ ?_
 ·exact ⟨(.v (.slice none 0 0)), s2, (by first | (simp only [go_sem, lA9, mA9]; done) | rfl), (by first | (simp only [go_sem, lA9, mA9]; done) | rfl), (by first | (simp only [go_sem, lA9, mA9]; done) | rfl), (by first | (simp only [go_sem, lA9, mA9]; done) | rfl), (by first | (simp only [go_sem, lA9, mA9]; done) | rfl), d0p⟩
 ·rintro ⟨out_8, n_9⟩ o t h ⟨v8, s2, s4, s5, s7, s8, s9, Q4⟩ hm1 hb3
  simp only [b7e] at hm1
  rw [d1w]
  refine b0t ?_
  refine b0d fun K hK => ?_
  simp only [go_sem, s5, s9, b2p v8]
  refine hK _ _ ?_
  clear hK K
  refine b0o fun K4 hK4 => ?_
  simp only [go_sem]
  refine b0g (fun hc5 => ?_) (fun hc5 => ?_)
  ·rw [b0w hc5] at hm1
   simp only [b0u, b0h, b0i]
   refine hK4 _ _ ?_
   refine b0o fun K6 hK6 => ?_
   have J7 : ∀ (out_8_1 : List Int) (v8_1 : AV) (t : Slots) (h : Heap), t 2 = I pace → t 4 = .fp [B b.Up, I b.Pull, I b.Drag, I b.Body, I b.Ride, I b.Most, .fs 1 (List.map eI b.Paces), I b.Num, I b.Den] 0 → t 5 = .fp [I p.Lasts, I p.Price, I p.Flow.Low, I p.Flow.High] 0 → t 7 = .fp [I read.Low, I read.High] 0 → t 8 = v8_1 → t 9 = I n_9 → b1u h v8_1 1 (List.map eI out_8_1) → b55 n_9 out_8_1 = some o → K6 t h := by
    intro out_8_1 v8_1 t h s2 s4 s5 s7 s8 s9 Q4 hm1
    refine hK6 _ _ ?_
    unfold b55 at hm1
    refine b12 fun K hK => ?_
    simp only [go_sem, s9, b2p v8, b2p v8_1]
    refine hK _ _ ?_
    clear hK K
    simp only [b0h, b0i]
    obtain rfl := sI9 hm1
    refine ⟨_, rfl, ?_⟩
    exact ⟨v8_1, s2, s4, s5, s7, s8, (by first | (simp only [go_sem, s9, lA9, mA9]; done) | rfl), Q4⟩
   simp only [b1d]
   obtain ⟨y9, h_y9, hm1⟩ := b0j hm1
   refine b0d fun K hK => ?_
   simp only [go_sem, s2, s4, s5, s9, b2p v8]
   refine b0r (b7t b n_9 pace _ h_y9) ?_
   simp only [go_sem, s2, s4, s5, s9, b2p v8]
   refine hK _ _ ?_
   clear hK K
   refine b1v (fun t h => t 2 = I pace ∧ t 4 = .fp [B b.Up, I b.Pull, I b.Drag, I b.Body, I b.Ride, I b.Most, .fs 1 (List.map eI b.Paces), I b.Num, I b.Den] 0 ∧ t 5 = .fp [I p.Lasts, I p.Price, I p.Flow.Low, I p.Flow.High] 0 ∧ t 7 = .fp [I read.Low, I read.High] 0 ∧ t 8 = v8 ∧ t 9 = I n_9 ∧ t 37 = B ((decide (read.Low ≤ (wr (y9 * p.Lasts)))) && (decide ((wr (y9 * p.Lasts)) ≤ read.High))) ∧ b1u h v8 1 (List.map eI out_8)) (fun K hK => ?_) ?_
   ·simp only [go_sem, s7, b2p v8]
    refine b0g (fun hg10 => ?_) (fun hg10 => ?_)
    ·simp only [go_sem, s7, hg10, b2p v8]
     exact hK _ _ ⟨s2, s4, s5, s7, s8, s9, (by first | (simp only [go_sem, hg10, lA9, mA9]; done) | rfl), Q4⟩
    ·simp only [go_sem, s7, hg10, b2p v8]
     exact hK _ _ ⟨s2, s4, s5, s7, s8, s9, (by first | (simp only [go_sem, hg10, lA9, mA9]; done) | rfl), Q4⟩
   ·rintro t h ⟨s2, s4, s5, s7, s8, s9, s37, Q4⟩
    simp only [go_sem, s37]
    refine b0g (fun hc11 => ?_) (fun hc11 => ?_)
    ·rw [b0w hc11] at hm1
     obtain ⟨l13, h_l13, hm1⟩ := b0j hm1
     refine b12 fun K hK => ?_
     simp only [go_sem, s8, s9, b2p v8]
     refine c7k (f := eI) (l := out_8) (m := ([n_9])) ?_ ?_ ?_ ?_ h_l13 ?_
     ·exact (b34 Q4 (by intro j hj hl; first | rfl | simp only [go_sem, hl]) (by first | omega | exact Nat.le_refl _ | (simp only [go_sem, nxs] <;> omega)))
     ·exact (d0r (by simp only [go_sem, b4y Q4, lA9, mA9]) (by simp only [go_sem, b4y Q4, lA9, mA9]))
     ·exact (c94 (by first | exact c98 | exact c99 (by first | omega | (simp only [nxs] <;> omega)) | assumption | exact c4q (by assumption) (by first | omega | (simp only [go_sem, nxs] <;> omega))))
     ·exact (fun _ => by simp)
     simp only [go_sem, s8, s9, b2p v8]
     refine hK _ _ ?_
     clear hK K
     simp only [b0h, b0i]
     exact J7 l13 (.rs (nxs h.nx) 0 (List.length l13)) _ _ s2 s4 s5 s7 (by first | (simp only [go_sem, s8, lA9, mA9]; done) | rfl) s9 (d0q (by simp only [go_sem, b4y Q4, lA9, mA9]) (by first | rfl | simp only [go_sem, lA9, mA9]) (by simp only [go_sem])) hm1
    ·rw [b0v hc11] at hm1
     simp only [b0u, b0h, b0i]
     exact J7 out_8 v8 _ _ s2 s4 s5 s7 s8 s9 Q4 hm1
  ·rw [b0v hc5] at hm1
   simp only [b2g, b2k, b2j, b2i, b0h, b0i, Nat.reduceEqDiff, nF9]
   obtain rfl := sI9 hm1
   obtain rfl := hb3 _ rfl
   try dsimp only at hm0
   exact J2 out_8 v8 _ _ s8 Q4 hm0
theorem b3e (hf : Has O "newel/energy.from0" x_energy_from0) : b60 O := by
 intro n high
 generalize hm0 : b1s n high = r
 unfold b1s at hm0
 refine b06 hf rfl (b0b (b0a _) (b0b (b0a _) b0p)) (b0a _) ?_
 refine b05 (fun t h => t 0 = I n ∧ t 1 = I high) ⟨rfl, rfl⟩ fun t h ⟨s0, s1⟩ => ?_
 simp only [x_energy_from0]
 refine b0d fun K hK => ?_
 simp only [go_sem]
 refine hK _ _ ?_
 clear hK K
 refine b1v (fun t h => t 4 = B ((decide (0 ≤ n)) && (decide (n ≤ high)))) (fun K hK => ?_) ?_
 ·simp only [go_sem, s0, s1]
  refine b0g (fun hg1 => ?_) (fun hg1 => ?_)
  ·simp only [go_sem, s0, s1, hg1]
   exact hK _ _ (by first | (simp only [go_sem, hg1, lA9, mA9]; done) | rfl)
  ·simp only [go_sem, s0, s1, hg1]
   exact hK _ _ (by first | (simp only [go_sem, hg1, lA9, mA9]; done) | rfl)
 ·rintro t h s4
  simp only [b0k, b0m, b0l, b0n]
  obtain rfl := hm0
  exact b0q (by simp only [go_sem, s4, lA9, mA9]) (b0a _)
theorem c3p (hf : Has O "newel/energy.load" x_energy_load) : c1d O := by
 intro b flow pace r hm0
 unfold b9h at hm0
 refine b06 hf rfl (b0b (.agg _ (b0b (b0a _) (b0b (b0a _) (b0b (b0a _) (b0b (b0a _) (b0b (b0a _) (b0b (b0a _) (b0b (b02 fun a _ => b1f a) (b0b (b0a _) (b0b (b0a _) b0p)))))))))) (b0b (b0a _) (b0b (b0a _) b0p))) (b0a _) ?_
 refine b05 (fun t h => t 0 = .agg [B b.Up, I b.Pull, I b.Drag, I b.Body, I b.Ride, I b.Most, .fs 1 (List.map eI b.Paces), I b.Num, I b.Den] ∧ t 1 = I flow ∧ t 2 = I pace) ⟨rfl, rfl, rfl⟩ fun t h ⟨s0, s1, s2⟩ => ?_
 simp only [x_energy_load]
 refine b0d fun K hK => ?_
 simp only [go_sem, s0]
 refine hK _ _ ?_
 clear hK K
 obtain ⟨q2, h_q2, hm0⟩ := b0j hm0
 refine b0d fun K hK => ?_
 simp only [go_sem, s1, s2, c76 h_q2]
 refine hK _ _ ?_
 clear hK K
 simp only [b0k, b0m, b0l, b0n]
 obtain rfl := sI9 hm0
 exact b0q (by simp only [go_sem, lA9, mA9]) (b0a _)
theorem b7t (hf : Has O "newel/energy.power" x_energy_power) (c3p : c1d O) : b8p O := by
 intro b flow pace r hm0
 unfold b4l at hm0
 refine b06 hf rfl (b0b (.agg _ (b0b (b0a _) (b0b (b0a _) (b0b (b0a _) (b0b (b0a _) (b0b (b0a _) (b0b (b0a _) (b0b (b02 fun a _ => b1f a) (b0b (b0a _) (b0b (b0a _) b0p)))))))))) (b0b (b0a _) (b0b (b0a _) b0p))) (b0a _) ?_
 refine b05 (fun t h => t 0 = .agg [B b.Up, I b.Pull, I b.Drag, I b.Body, I b.Ride, I b.Most, .fs 1 (List.map eI b.Paces), I b.Num, I b.Den] ∧ t 1 = I flow ∧ t 2 = I pace) ⟨rfl, rfl, rfl⟩ fun t h ⟨s0, s1, s2⟩ => ?_
 simp only [x_energy_power]
 refine b0d fun K hK => ?_
 simp only [go_sem, s0]
 refine hK _ _ ?_
 clear hK K
 obtain ⟨y2, h_y2, hm0⟩ := b0j hm0
 refine b0d fun K hK => ?_
 simp only [go_sem, s1, s2]
 refine b0r (c3p b flow pace _ h_y2) ?_
 simp only [go_sem, s1, s2]
 refine hK _ _ ?_
 clear hK K
 refine b0t ?_
 refine b0d fun K hK => ?_
 simp only [go_sem]
 refine hK _ _ ?_
 clear hK K
 refine b0o fun K3 hK3 => ?_
 simp only [go_sem]
 refine b0g (fun hc4 => ?_) (fun hc4 => ?_)
 ·rw [b0w hc4] at hm0
  refine b0d fun K hK => ?_
  simp only [go_sem, s2]
  refine hK _ _ ?_
  clear hK K
  simp only [b0k, b0m, b0l, b0n]
  obtain rfl := sI9 hm0
  exact b0q (by simp only [go_sem, lA9, mA9]) (b0a _)
 ·rw [b0v hc4] at hm0
  simp only [b0u, b0h, b0i]
  refine hK3 _ _ ?_
  refine b0t ?_
  refine b0d fun K hK => ?_
  simp only [go_sem]
  refine hK _ _ ?_
  clear hK K
  refine b0t ?_
  refine b0d fun K hK => ?_
  simp only [go_sem]
  refine hK _ _ ?_
  clear hK K
  refine b0o fun K5 hK5 => ?_
  simp only [go_sem]
  refine b0g (fun hc6 => ?_) (fun hc6 => ?_)
  ·rw [b0w hc6] at hm0
   refine b0d fun K hK => ?_
   simp only [go_sem, s2]
   refine hK _ _ ?_
   clear hK K
   simp only [b0k, b0m, b0l, b0n]
   obtain rfl := sI9 hm0
   exact b0q (by simp only [go_sem, lA9, mA9]) (b0a _)
  ·rw [b0v hc6] at hm0
   simp only [b0u, b0h, b0i]
   refine hK5 _ _ ?_
   obtain ⟨q8, h_q8, hm0⟩ := b0j hm0
   refine b0d fun K hK => ?_
   simp only [go_sem, s2, c76 h_q8]
   refine hK _ _ ?_
   clear hK K
   simp only [b0k, b0m, b0l, b0n]
   obtain rfl := sI9 hm0
   exact b0q (by simp only [go_sem, lA9, mA9]) (b0a _)
theorem c3q (hf : Has O "newel/faults.Liars" x_faults_Liars) (b7v : b8s O) (b7u : b8q O) (c3s : c1g O) (b6g : b8r O) : c1e O := by
 intro l r hm0
 unfold b56 at hm0
 refine b06 hf rfl (b0b (b02 fun a _ => b5g a) b0p) (.tup _ (b0b (b02 fun a _ => b1f a) (b0b (b0a _) b0p))) ?_
 refine b05 (fun t h => t 0 = .fs 4 (List.map b1e l)) rfl fun t h s0 => ?_
 simp only [x_faults_Liars]
 refine b0d fun K hK => ?_
 simp only [go_sem]
 refine hK _ _ ?_
 clear hK K
 refine b0t ?_
 obtain ⟨y2, h_y2, hm0⟩ := b0j hm0
 refine b0d fun K hK => ?_
 simp only [go_sem, s0]
 refine b0r (b7v l _ h_y2) ?_
 simp only [go_sem, s0]
 refine hK _ _ ?_
 clear hK K
 refine b0t ?_
 refine b0d fun K hK => ?_
 simp only [go_sem]
 refine hK _ _ ?_
 clear hK K
 refine b0o fun K3 hK3 => ?_
 simp only [go_sem]
 refine b0g (fun hc4 => ?_) (fun hc4 => ?_)
 ·rw [b0w hc4] at hm0
  refine b0d fun K hK => ?_
  simp only [go_sem]
  refine hK _ _ ?_
  clear hK K
  simp only [b0k, b0m, b0l, b0n]
  obtain rfl := sI9 hm0
  exact c2g (v := .v (.slice none 0 0)) (u := I y2) (by simp only [go_sem, lA9, mA9]) (by simp only [go_sem, lA9, mA9]) (.nil _) (.refl _ (b0a _))
 ·rw [b0v hc4] at hm0
  simp only [b0u, b0h, b0i]
  refine hK3 _ _ ?_
  obtain ⟨q6, h_q6, hm0⟩ := b0j hm0
  refine b0d fun K hK => ?_
  simp only [go_sem, s0, d9c h_q6]
  refine hK _ _ ?_
  clear hK K
  refine b0t ?_
  refine b0d fun K hK => ?_
  simp only [go_sem]
  refine hK _ _ ?_
  clear hK K
  refine b0o fun K7 hK7 => ?_
  have J8 : ∀ (best_5 : Int) (t : Slots) (h : Heap), t 5 = I best_5 → b9m best_5 = some r → K7 t h := by
   intro best_5 t h s5 hm0
   refine hK7 _ _ ?_
   unfold b9m at hm0
   obtain ⟨y10, h_y10, hm0⟩ := b0j hm0
   refine b0d fun K hK => ?_
   simp only [go_sem, s5]
   refine b0r (b6g best_5 _ h_y10) ?_
   simp only [go_sem, s5]
   refine hK _ _ ?_
   clear hK K
   simp only [b0k, b0m, b0l, b0n]
   obtain rfl := sI9 hm0
   exact b9c (by simp only [go_sem, lA9, mA9]) (by simp only [go_sem, lA9, mA9]) (b02 fun a _ => b1f a) (b0a _)
  simp only [b1d]
  obtain ⟨b11, hl11, hm0⟩ := b0j hm0
  refine b2n hl11 (fun | (best_5, x_19), t, h => t 0 = .fs 4 (List.map b1e l) ∧ t 5 = I best_5 ∧ t 18 = I (wr (q6 - 1)) ∧ t 19 = I x_19) ?_ ?_
  ·exact ⟨s0, (by first | (simp only [go_sem, lA9, mA9]; done) | rfl), (by first | (simp only [go_sem, lA9, mA9]; done) | rfl), (by first | (simp only [go_sem, lA9, mA9]; done) | rfl)⟩
  ·rintro ⟨best_5, x_19⟩ o t h ⟨s0, s5, s18, s19⟩ hm1 hb11
   simp only [b7j] at hm1
   rw [d1x]
   refine b0d fun K hK => ?_
   simp only [go_sem, s18, s19]
   refine hK _ _ ?_
   clear hK K
   refine b0o fun K12 hK12 => ?_
   simp only [go_sem]
   refine b0g (fun hc13 => ?_) (fun hc13 => ?_)
   ·rw [b0w hc13] at hm1
    simp only [b0u, b0h, b0i]
    refine hK12 _ _ ?_
    refine b0o fun K14 hK14 => ?_
    have J15 : ∀ (best_5_1 : Int) (t : Slots) (h : Heap), t 0 = .fs 4 (List.map b1e l) → t 5 = I best_5_1 → t 18 = I (wr (q6 - 1)) → t 19 = I x_19 → b5c x_19 best_5_1 = some o → K14 t h := by
     intro best_5_1 t h s0 s5 s18 s19 hm1
     refine hK14 _ _ ?_
     unfold b5c at hm1
     refine b12 fun K hK => ?_
     simp only [go_sem, s19]
     refine hK _ _ ?_
     clear hK K
     simp only [b0h, b0i]
     obtain rfl := sI9 hm1
     refine ⟨_, rfl, ?_⟩
     exact ⟨s0, s5, s18, (by first | (simp only [go_sem, s19, lA9, mA9]; done) | rfl)⟩
    simp only [b1d]
    refine b0d fun K hK => ?_
    simp only [go_sem, s19]
    refine hK _ _ ?_
    clear hK K
    obtain ⟨y17, h_y17, hm1⟩ := b0j hm1
    refine b0d fun K hK => ?_
    simp only [go_sem, s0]
    refine b0r (b7u l x_19 _ h_y17) ?_
    simp only [go_sem, s0]
    refine hK _ _ ?_
    clear hK K
    obtain ⟨c21, h_c21, hm1⟩ := b0j hm1
    refine b1v (fun t h => t 0 = .fs 4 (List.map b1e l) ∧ t 5 = I best_5 ∧ t 6 = I x_19 ∧ t 18 = I (wr (q6 - 1)) ∧ t 19 = I x_19 ∧ t 33 = B c21) (fun K hK => ?_) ?_
    ·simp only [go_sem, s5]
     refine b0g (fun hg22 => ?_) (fun hg22 => ?_)
     ·simp only [hg22, Bool.not_true, Bool.not_false, eq_self, if_true, if_false, Bool.true_or, Bool.or_true, Bool.false_or, Bool.or_false, Bool.true_and, Bool.and_true, Bool.false_and, Bool.and_false, Bool.false_eq_true] at h_c21
      obtain ⟨y20, h_y20, h_c21⟩ := b0j h_c21
      obtain rfl := sI9 h_c21
      simp only [go_sem, s5, hg22]
      refine b0r (c3s x_19 best_5 _ h_y20) ?_
      simp only [go_sem, s5, hg22]
      exact hK _ _ ⟨s0, s5, (by first | (simp only [go_sem, hg22, lA9, mA9]; done) | rfl), s18, s19, (by first | (simp only [go_sem, hg22, lA9, mA9]; done) | rfl)⟩
     ·simp only [hg22, Bool.not_true, Bool.not_false, eq_self, if_true, if_false, Bool.true_or, Bool.or_true, Bool.false_or, Bool.or_false, Bool.true_and, Bool.and_true, Bool.false_and, Bool.and_false, Bool.false_eq_true] at h_c21
      obtain rfl := sI9 h_c21
      simp only [go_sem, s5, hg22]
      exact hK _ _ ⟨s0, s5, (by first | (simp only [go_sem, hg22, lA9, mA9]; done) | rfl), s18, s19, (by first | (simp only [go_sem, hg22, lA9, mA9]; done) | rfl)⟩
    ·rintro t h ⟨s0, s5, s6, s18, s19, s33⟩
     simp only [go_sem, s33]
     refine b0g (fun hc23 => ?_) (fun hc23 => ?_)
     ·rw [b0w hc23] at hm1
      refine b12 fun K hK => ?_
      simp only [go_sem, s6]
      refine hK _ _ ?_
      clear hK K
      simp only [b0h, b0i]
      exact J15 x_19 _ _ s0 (by first | (simp only [go_sem, s5, lA9, mA9]; done) | rfl) s18 s19 hm1
     ·rw [b0v hc23] at hm1
      simp only [b0u, b0h, b0i]
      exact J15 best_5 _ _ s0 s5 s18 s19 hm1
   ·rw [b0v hc13] at hm1
    simp only [b2g, b2k, b2j, b2i, b0h, b0i, Nat.reduceEqDiff, nF9]
    obtain rfl := sI9 hm1
    obtain rfl := hb11 _ rfl
    try dsimp only at hm0
    exact J8 best_5 _ _ s5 hm0
theorem c3r (hf : Has O "newel/faults.Truth" x_faults_Truth) (b7v : b8s O) (b7u : b8q O) : c1f O := by
 intro l r hm0
 unfold b57 at hm0
 refine b06 hf rfl (b0b (b02 fun a _ => b5g a) b0p) (.tup _ (b0b (.agg _ (b0b (b0a _) (b0b (b0a _) b0p))) (b0b (b0a _) b0p))) ?_
 refine b05 (fun t h => t 0 = .fs 4 (List.map b1e l)) rfl fun t h s0 => ?_
 simp only [x_faults_Truth]
 refine b0d fun K hK => ?_
 simp only [go_sem]
 refine hK _ _ ?_
 clear hK K
 refine b0t ?_
 obtain ⟨y2, h_y2, hm0⟩ := b0j hm0
 refine b0d fun K hK => ?_
 simp only [go_sem, s0]
 refine b0r (b7v l _ h_y2) ?_
 simp only [go_sem, s0]
 refine hK _ _ ?_
 clear hK K
 refine b0t ?_
 refine b0d fun K hK => ?_
 simp only [go_sem]
 refine hK _ _ ?_
 clear hK K
 refine b0o fun K3 hK3 => ?_
 simp only [go_sem]
 refine b0g (fun hc4 => ?_) (fun hc4 => ?_)
 ·rw [b0w hc4] at hm0
  refine b0d fun K hK => ?_
  simp only [go_sem]
  refine hK _ _ ?_
  clear hK K
  simp only [b0k, b0m, b0l, b0n]
  obtain rfl := sI9 hm0
  exact b9b (id := h.nx) (m := 2) (cs := [I 0, I 0]) (u := I y2) (by simp only [go_sem, lA9, mA9]) (by simp only [go_sem, lA9, mA9]) rfl (by simp only [go_sem, lA9, mA9]) (.refl _ (.agg _ (b0b (b0a _) (b0b (b0a _) b0p)))) (.refl _ (b0a _))
 ·rw [b0v hc4] at hm0
  simp only [b0u, b0h, b0i]
  refine hK3 _ _ ?_
  obtain ⟨y6, h_y6, hm0⟩ := b0j hm0
  refine b0d fun K hK => ?_
  simp only [go_sem, s0]
  refine b0r (b7u l 0 _ h_y6) ?_
  simp only [go_sem, s0]
  refine hK _ _ ?_
  clear hK K
  refine b0t ?_
  refine b1v (fun t h => ∃ i2 : Nat, ∃ i5 : Nat, t 2 = .rp i2 0 0 ∧ t 5 = .rp i5 0 0 ∧ t 24 = B ((decide ((List.length l : Int) = 0)) || (!y6.2)) ∧ h.ob i2 = some (2, [[I 0, I 0]]) ∧ i2 < h.nx ∧ h.ob i5 = some (2, [[I y6.1.Low, I y6.1.High]]) ∧ i5 < h.nx ∧ ¬i2 = i5) (fun K hK => ?_) ?_
  ·simp only [go_sem, s0]
   refine b0g (fun hg7 => ?_) (fun hg7 => ?_)
   ·simp only [go_sem, s0, hg7]
    exact hK _ _ ⟨h.nx, (nxs h.nx), (by first | (simp only [go_sem, hg7, lA9, mA9]; done) | rfl), (by first | (simp only [go_sem, hg7, lA9, mA9]; done) | rfl), (by first | (simp only [go_sem, hg7, lA9, mA9]; done) | rfl), (by simp only [go_sem, hg7, lA9, mA9]), (by simp only [go_sem]), (by simp only [go_sem, hg7, lA9, mA9]), (by simp only [go_sem]), (by first | first | assumption | omega | (simp only [nxs] <;> omega))⟩
   ·simp only [go_sem, s0, hg7]
    exact hK _ _ ⟨h.nx, (nxs h.nx), (by first | (simp only [go_sem, hg7, lA9, mA9]; done) | rfl), (by first | (simp only [go_sem, hg7, lA9, mA9]; done) | rfl), (by first | (simp only [go_sem, hg7, lA9, mA9]; done) | rfl), (by simp only [go_sem, hg7, lA9, mA9]), (by simp only [go_sem]), (by simp only [go_sem, hg7, lA9, mA9]), (by simp only [go_sem]), (by first | first | assumption | omega | (simp only [nxs] <;> omega))⟩
  ·rintro t h ⟨i2, i5, s2, s5, s24, Q8, Q9, Qc, Qa, Q3⟩
   refine b0o fun K8 hK8 => ?_
   simp only [go_sem, s24]
   refine b0g (fun hc9 => ?_) (fun hc9 => ?_)
   ·rw [b0w hc9] at hm0
    refine b0d fun K hK => ?_
    simp only [go_sem, s2, Q8, Q9, Qa, Q3, b2u Q3]
    refine hK _ _ ?_
    clear hK K
    simp only [b0k, b0m, b0l, b0n]
    obtain rfl := sI9 hm0
    exact b9b (id := i2) (m := 2) (cs := [I 0, I 0]) (u := I 3) (by simp only [go_sem, s2, Q8, Q9, Qc, Qa, Q3, b2u Q3, lA9, mA9]) (by simp only [go_sem, s2, Q8, Q9, Qc, Qa, Q3, b2u Q3, lA9, mA9]) rfl (by simp only [go_sem, s2, Q8, Q9, Qc, Qa, Q3, b2u Q3, lA9, mA9]) (.refl _ (.agg _ (b0b (b0a _) (b0b (b0a _) b0p)))) (.refl _ (b0a _))
   ·rw [b0v hc9] at hm0
    simp only [b0u, b0h, b0i]
    refine hK8 _ _ ?_
    refine b0d fun K hK => ?_
    simp only [go_sem, s2, s5, Q8, Q9, Qc, Qa, Q3, b2u Q3]
    refine hK _ _ ?_
    clear hK K
    simp only [b0k, b0m, b0l, b0n]
    obtain rfl := sI9 hm0
    exact b9b (id := i2) (m := 2) (cs := [I y6.1.Low, I y6.1.High]) (u := I 0) (by simp only [go_sem, s2, Q8, Q9, Qc, Qa, Q3, b2u Q3, lA9, mA9]) (by simp only [go_sem, s2, Q8, Q9, Qc, Qa, Q3, b2u Q3, lA9, mA9]) rfl (by simp only [go_sem, s2, Q8, Q9, Qc, Qa, Q3, b2u Q3, lA9, mA9]) (.refl _ (.agg _ (b0b (b0a _) (b0b (b0a _) b0p)))) (.refl _ (b0a _))
theorem b7u (hf : Has O "newel/faults.common" x_faults_common) : b8q O := by
 intro l out r hm0
 unfold b58 at hm0
 refine b06 hf rfl (b0b (b02 fun a _ => b5g a) (b0b (b0a _) b0p)) (.tup _ (b0b (.agg _ (b0b (b0a _) (b0b (b0a _) b0p))) (b0b (b0a _) b0p))) ?_
 refine b05 (fun t h => t 0 = .fs 4 (List.map b1e l) ∧ t 1 = I out) ⟨rfl, rfl⟩ fun t h ⟨s0, s1⟩ => ?_
 simp only [x_faults_common]
 refine b0d fun K hK => ?_
 simp only [go_sem]
 refine hK _ _ ?_
 clear hK K
 refine b0d fun K hK => ?_
 simp only [go_sem]
 refine hK _ _ ?_
 clear hK K
 refine b0t ?_
 refine b0d fun K hK => ?_
 simp only [go_sem, s0]
 refine hK _ _ ?_
 clear hK K
 refine b0o fun K1 hK1 => ?_
 have J2 : ∀ (s_6_0 : Int) (s_6_1 : Int) (i4 : Nat) (i6 : Nat) (t : Slots) (h : Heap), t 4 = .rp i4 0 0 → t 6 = .rp i6 0 0 → h.ob i4 = some (2, [[I 0, I 0]]) → i4 < h.nx → h.ob i6 = some (2, [[I s_6_0, I s_6_1]]) → i6 < h.nx → ¬i4 = i6 → c2t s_6_0 s_6_1 = some r → K1 t h := by
  intro s_6_0 s_6_1 i4 i6 t h s4 s6 Q5 Q2 Q6 Q1 Q0 hm0
  refine hK1 _ _ ?_
  unfold c2t at hm0
  refine b0t ?_
  refine d5o (s := 6) (id := i6) (n := 2) (cs := [I s_6_0, I s_6_1]) (by simp only [go_sem, s6, Q5, Q2, Q6, Q1, Q0, b2u Q0, lA9, mA9]) (by simp only [go_sem, s6, Q5, Q2, Q6, Q1, Q0, b2u Q0, lA9, mA9]) (b0b (b0a _) (b0b (b0a _) b0p)) ?_
  refine b0d fun K hK => ?_
  simp only [go_sem, s4, s6, Q5, Q2, Q1, Q0, b2u Q0]
  refine hK _ _ ?_
  clear hK K
  simp only [b0k, b0m, b0l, b0n]
  obtain rfl := sI9 hm0
  exact b9b (id := i4) (m := 2) (cs := [I s_6_0, I s_6_1]) (u := B (decide (s_6_0 ≤ s_6_1))) (by simp only [go_sem, s4, Q5, Q2, Q6, Q1, Q0, b2u Q0, lA9, mA9]) (by simp only [go_sem, s4, Q5, Q2, Q6, Q1, Q0, b2u Q0, lA9, mA9]) rfl (by simp only [go_sem, s4, Q5, Q2, Q6, Q1, Q0, b2u Q0, lA9, mA9]) (.refl _ (.agg _ (b0b (b0a _) (b0b (b0a _) b0p)))) (.refl _ (b0a _))
 simp only [b1d]
 obtain ⟨b3, hl3, hm0⟩ := b0j hm0
 refine b2n hl3 (fun | (s_6_0, s_6_1, x_13), t, h => ∃ i4 : Nat, ∃ i6 : Nat, t 1 = I out ∧ t 4 = .rp i4 0 0 ∧ t 6 = .rp i6 0 0 ∧ t 11 = .fs 4 (List.map b1e l) ∧ t 12 = I (List.length l : Int) ∧ t 13 = I x_13 ∧ h.ob i4 = some (2, [[I 0, I 0]]) ∧ i4 < h.nx ∧ h.ob i6 = some (2, [[I s_6_0, I s_6_1]]) ∧ i6 < h.nx ∧ ¬i4 = i6) ?_ ?_
 ·exact ⟨h.nx, (nxs h.nx), s1, (by first | (simp only [go_sem, lA9, mA9]; done) | rfl), (by first | (simp only [go_sem, lA9, mA9]; done) | rfl), (by first | (simp only [go_sem, lA9, mA9]; done) | rfl), (by first | (simp only [go_sem, lA9, mA9]; done) | rfl), (by first | (simp only [go_sem, lA9, mA9]; done) | rfl), (by simp only [go_sem, lA9, mA9]), (by simp only [go_sem]), (by simp only [go_sem, lA9, mA9]), (by simp only [go_sem]), (by first | first | assumption | omega | (simp only [nxs] <;> omega))⟩
 ·rintro ⟨s_6_0, s_6_1, x_13⟩ o t h ⟨i4, i6, s1, s4, s6, s11, s12, s13, Q5, Q2, Q6, Q1, Q0⟩ hm1 hb3
  simp only [b7k] at hm1
  rw [d1y]
  refine b0d fun K hK => ?_
  simp only [go_sem, s12, s13, Q2, Q1]
  refine hK _ _ ?_
  clear hK K
  refine b0o fun K4 hK4 => ?_
  simp only [go_sem]
  refine b0g (fun hc5 => ?_) (fun hc5 => ?_)
  ·rw [b0w hc5] at hm1
   simp only [b0u, b0h, b0i]
   refine hK4 _ _ ?_
   refine b0o fun K6 hK6 => ?_
   have J7 : ∀ (s_6_0_1 : Int) (s_6_1_1 : Int) (t : Slots) (h : Heap), t 1 = I out → t 4 = .rp i4 0 0 → t 6 = .rp i6 0 0 → t 11 = .fs 4 (List.map b1e l) → t 12 = I (List.length l : Int) → t 13 = I x_13 → h.ob i4 = some (2, [[I 0, I 0]]) → i4 < h.nx → h.ob i6 = some (2, [[I s_6_0_1, I s_6_1_1]]) → i6 < h.nx → ¬i4 = i6 → b59 x_13 s_6_0_1 s_6_1_1 = some o → K6 t h := by
    try clear s1 s4 s6 s11 s12 s13 Q5 Q2 Q6 Q1 Q0
    intro s_6_0_1 s_6_1_1 t h s1 s4 s6 s11 s12 s13 Q5 Q2 Q6 Q1 Q0 hm1
    refine hK6 _ _ ?_
    unfold b59 at hm1
    refine b12 fun K hK => ?_
    simp only [go_sem, s13, Q2, Q1]
    refine hK _ _ ?_
    clear hK K
    simp only [b0h, b0i]
    obtain rfl := sI9 hm1
    refine ⟨_, rfl, ?_⟩
    exact ⟨i4, i6, s1, s4, s6, s11, s12, (by first | (simp only [go_sem, s13, lA9, mA9]; done) | rfl), Q5, Q2, Q6, Q1, Q0⟩
   simp only [b1d]
   obtain ⟨x9, h_x9, hm1⟩ := b0j hm1
   have h_x90 := b1t h_x9
   have h_x91 := b14 h_x9
   refine b0d fun K hK => ?_
   simp only [go_sem, s11, s13, Q2, Q1, b09 h_x9, b1a h_x9, h_x90, h_x91]
   refine hK _ _ ?_
   clear hK K
   obtain ⟨q11, h_q11, hm1⟩ := b0j hm1
   refine b0d fun K hK => ?_
   simp only [go_sem, s1, Q2, Q1, b4r h_q11]
   refine hK _ _ ?_
   clear hK K
   simp only [go_sem]
   refine b0g (fun hc12 => ?_) (fun hc12 => ?_)
   ·rw [b0w hc12] at hm1
    refine b0d fun K hK => ?_
    simp only [go_sem, Q2, Q1]
    refine hK _ _ ?_
    clear hK K
    refine b12 fun K hK => ?_
    simp only [go_sem, s6, Q6, Q1, Q2, Q0, b2u Q0]
    refine hK _ _ ?_
    clear hK K
    simp only [b0h, b0i]
    exact J7 (mx s_6_0 (wr (x9.Says - (wr (x9.Error + (wr (x9.Drift * x9.Days))))))) (mn s_6_1 (wr (x9.Says + (wr (x9.Error + (wr (x9.Drift * x9.Days))))))) _ _ s1 s4 s6 s11 s12 s13 (by simp only [go_sem, Q5, Q2, Q1, Q0, b2u Q0, lA9, mA9]) (by simp only [go_sem, Q2]) (by simp only [go_sem, Q6, Q1, lA9, mA9]) (by simp only [go_sem, Q1]) Q0 hm1
   ·rw [b0v hc12] at hm1
    simp only [b0u, b0h, b0i]
    exact J7 s_6_0 s_6_1 _ _ s1 s4 s6 s11 s12 s13 (by simp only [go_sem, Q5, Q2, lA9, mA9]) (by simp only [go_sem, Q2]) (by simp only [go_sem, Q6, Q1, lA9, mA9]) (by simp only [go_sem, Q1]) Q0 hm1
  ·rw [b0v hc5] at hm1
   simp only [b2g, b2k, b2j, b2i, b0h, b0i, Nat.reduceEqDiff, nF9]
   obtain rfl := sI9 hm1
   obtain rfl := hb3 _ rfl
   try dsimp only at hm0
   exact J2 s_6_0 s_6_1 i4 i6 _ _ s4 s6 Q5 Q2 Q6 Q1 Q0 hm0
theorem c3s (hf : Has O "newel/faults.fewer" x_faults_fewer) (b95 : c1k O) (b6g : b8r O) (c36 : c1x O) : c1g O := by
 intro a b r hm0
 unfold b7l at hm0
 refine b06 hf rfl (b0b (b0a _) (b0b (b0a _) b0p)) (b0a _) ?_
 refine b05 (fun t h => t 0 = I a ∧ t 1 = I b) ⟨rfl, rfl⟩ fun t h ⟨s0, s1⟩ => ?_
 simp only [x_faults_fewer]
 refine b0d fun K hK => ?_
 simp only [go_sem]
 refine hK _ _ ?_
 clear hK K
 refine b0t ?_
 obtain ⟨y3, h_y3, hm0⟩ := b0j hm0
 obtain ⟨y4, h_y4, hm0⟩ := b0j hm0
 refine b0d fun K hK => ?_
 simp only [go_sem, s0, s1]
 refine b0r (b95 (IntKind.wrap .u64 a) _ h_y3) ?_
 simp only [go_sem, s0, s1]
 refine b0r (b95 (IntKind.wrap .u64 b) _ h_y4) ?_
 simp only [go_sem, s0, s1]
 refine hK _ _ ?_
 clear hK K
 refine b0t ?_
 refine b0d fun K hK => ?_
 simp only [go_sem]
 refine hK _ _ ?_
 clear hK K
 refine b0o fun K5 hK5 => ?_
 simp only [go_sem]
 refine b0g (fun hc6 => ?_) (fun hc6 => ?_)
 ·rw [b0w hc6] at hm0
  refine b0d fun K hK => ?_
  simp only [go_sem]
  refine hK _ _ ?_
  clear hK K
  simp only [b0k, b0m, b0l, b0n]
  obtain rfl := sI9 hm0
  exact b0q (by simp only [go_sem, lA9, mA9]) (b0a _)
 ·rw [b0v hc6] at hm0
  simp only [b0u, b0h, b0i]
  refine hK5 _ _ ?_
  obtain ⟨y10, h_y10, hm0⟩ := b0j hm0
  obtain ⟨y11, h_y11, hm0⟩ := b0j hm0
  obtain ⟨y12, h_y12, hm0⟩ := b0j hm0
  refine b0d fun K hK => ?_
  simp only [go_sem, s0, s1]
  refine b0r (b6g a _ h_y10) ?_
  simp only [go_sem, s0, s1]
  refine b0r (b6g b _ h_y11) ?_
  simp only [go_sem, s0, s1]
  refine b0r (c36 y10 y11 _ h_y12) ?_
  simp only [go_sem, s0, s1]
  refine hK _ _ ?_
  clear hK K
  simp only [b0k, b0m, b0l, b0n]
  obtain rfl := sI9 hm0
  exact b0q (by simp only [go_sem, lA9, mA9]) (b0a _)
theorem b6g (hf : Has O "newel/faults.members" x_faults_members) (c3w : c1m O) : b8r O := by
 intro set r hm0
 unfold b4m at hm0
 refine b06 hf rfl (b0b (b0a _) b0p) (b02 fun a _ => b1f a) ?_
 refine b05 (fun t h => t 0 = I set) rfl fun t h s0 => ?_
 simp only [x_faults_members]
 refine b0d fun K hK => ?_
 simp only [go_sem]
 refine hK _ _ ?_
 clear hK K
 refine b0d fun K hK => ?_
 simp only [go_sem]
 refine hK _ _ ?_
 clear hK K
 refine b0o fun K1 hK1 => ?_
 have J2 : ∀ (l_3 : List Int) (v3 : AV) (t : Slots) (h : Heap), t 3 = v3 → b1u h v3 1 (List.map eI l_3) → b7m l_3 = some r → K1 t h := by
  intro l_3 v3 t h s3 Qb hm0
  refine hK1 _ _ ?_
  unfold b7m at hm0
  refine b0d fun K hK => ?_
  simp only [go_sem, s3, b2p v3]
  refine hK _ _ ?_
  clear hK K
  simp only [b0k, b0m, b0l, b0n]
  obtain rfl := sI9 hm0
  exact c6e (v := v3) (by simp only [go_sem, b4y Qb, lA9, mA9]) (c25 (f := eI) (l := l_3) (b34 Qb (by intro j hj hl; first | rfl | simp only [go_sem, hl]) (by first | omega | exact Nat.le_refl _ | (simp only [go_sem, nxs] <;> omega))) b1f c9q)
 simp only [b1d]
 obtain ⟨b3, hl3, hm0⟩ := b0j hm0
 refine b2n hl3 (fun | (set_0, l_3), t, h => ∃ v3 : AV, t 0 = I set_0 ∧ t 3 = v3 ∧ b1u h v3 1 (List.map eI l_3)) ?_ ?_
 ·exact ⟨(.v (.slice none 0 0)), s0, (by first | (simp only [go_sem, lA9, mA9]; done) | rfl), d0p⟩
 ·rintro ⟨set_0, l_3⟩ o t h ⟨v3, s0, s3, Qb⟩ hm1 hb3
  simp only [b9n] at hm1
  rw [d1z]
  refine b0t ?_
  refine b0d fun K hK => ?_
  simp only [go_sem, s0, b2p v3]
  refine hK _ _ ?_
  clear hK K
  refine b0o fun K4 hK4 => ?_
  simp only [go_sem]
  refine b0g (fun hc5 => ?_) (fun hc5 => ?_)
  ·rw [b0w hc5] at hm1
   simp only [b0u, b0h, b0i]
   refine hK4 _ _ ?_
   refine b0o fun K6 hK6 => ?_
   simp only [b1d]
   obtain ⟨y9, h_y9, hm1⟩ := b0j hm1
   obtain ⟨l10, h_l10, hm1⟩ := b0j hm1
   refine b12 fun K hK => ?_
   simp only [go_sem, s0, s3, b2p v3]
   refine b0r (c3w (IntKind.wrap .u64 set_0) _ h_y9) ?_
   simp only [go_sem, s0, s3, b2p v3]
   refine c7k (f := eI) (l := l_3) (m := ([y9])) ?_ ?_ ?_ ?_ h_l10 ?_
   ·exact (b34 Qb (by intro j hj hl; first | rfl | simp only [go_sem, hl]) (by first | omega | exact Nat.le_refl _ | (simp only [go_sem, nxs] <;> omega)))
   ·exact (d0r (by simp only [go_sem, b4y Qb, lA9, mA9]) (by simp only [go_sem, b4y Qb, lA9, mA9]))
   ·exact (c94 (by first | exact c98 | exact c99 (by first | omega | (simp only [nxs] <;> omega)) | assumption | exact c4q (by assumption) (by first | omega | (simp only [go_sem, nxs] <;> omega))))
   ·exact (fun _ => by simp)
   simp only [go_sem, s0, s3, b2p v3]
   refine hK _ _ ?_
   clear hK K
   simp only [b0h, b0i]
   refine hK6 _ _ ?_
   refine b12 fun K hK => ?_
   simp only [go_sem, s0, b2p v3]
   refine hK _ _ ?_
   clear hK K
   simp only [b0h, b0i]
   obtain rfl := sI9 hm1
   refine ⟨_, rfl, ?_⟩
   exact ⟨(.rs (nxs h.nx) 0 (List.length l10)), (by first | (simp only [go_sem, s0, lA9, mA9]; done) | rfl), (by first | (simp only [go_sem, s3, lA9, mA9]; done) | rfl), (d0q (by simp only [go_sem, b4y Qb, lA9, mA9]) (by first | rfl | simp only [go_sem, lA9, mA9]) (by simp only [go_sem]))⟩
  ·rw [b0v hc5] at hm1
   simp only [b2g, b2k, b2j, b2i, b0h, b0i, Nat.reduceEqDiff, nF9]
   obtain rfl := sI9 hm1
   obtain rfl := hb3 _ rfl
   try dsimp only at hm0
   exact J2 l_3 v3 _ _ s3 Qb hm0
theorem b7v (hf : Has O "newel/faults.readings" x_faults_readings) (b6h : c1h O) : b8s O := by
 intro l r hm0
 unfold b5d at hm0
 refine b06 hf rfl (b0b (b02 fun a _ => b5g a) b0p) (b0a _) ?_
 refine b05 (fun t h => t 0 = .fs 4 (List.map b1e l)) rfl fun t h s0 => ?_
 simp only [x_faults_readings]
 refine b0d fun K hK => ?_
 simp only [go_sem]
 refine hK _ _ ?_
 clear hK K
 refine b0t ?_
 refine b0d fun K hK => ?_
 simp only [go_sem, s0]
 refine hK _ _ ?_
 clear hK K
 refine b0o fun K1 hK1 => ?_
 simp only [go_sem]
 refine b0g (fun hc2 => ?_) (fun hc2 => ?_)
 ·rw [b0w hc2] at hm0
  refine b0d fun K hK => ?_
  simp only [go_sem]
  refine hK _ _ ?_
  clear hK K
  simp only [b0k, b0m, b0l, b0n]
  obtain rfl := sI9 hm0
  exact b0q (by simp only [go_sem, lA9, mA9]) (b0a _)
 ·rw [b0v hc2] at hm0
  simp only [b0u, b0h, b0i]
  refine hK1 _ _ ?_
  refine b0t ?_
  refine b0d fun K hK => ?_
  simp only [go_sem, s0]
  refine hK _ _ ?_
  clear hK K
  refine b0o fun K3 hK3 => ?_
  have J4 : ∀ (t : Slots) (h : Heap), c2x = some r → K3 t h := by
   intro t h hm0
   refine hK3 _ _ ?_
   unfold c2x at hm0
   refine b0d fun K hK => ?_
   simp only [go_sem]
   refine hK _ _ ?_
   clear hK K
   simp only [b0k, b0m, b0l, b0n]
   obtain rfl := sI9 hm0
   exact b0q (by simp only [go_sem, lA9, mA9]) (b0a _)
  simp only [b1d]
  obtain ⟨b5, hl5, hm0⟩ := b0j hm0
  refine b2n hl5 (fun | x_10, t, h => t 8 = .fs 4 (List.map b1e l) ∧ t 9 = I (List.length l : Int) ∧ t 10 = I x_10) ?_ ?_
  ·exact ⟨(by first | (simp only [go_sem, lA9, mA9]; done) | rfl), (by first | (simp only [go_sem, lA9, mA9]; done) | rfl), (by first | (simp only [go_sem, lA9, mA9]; done) | rfl)⟩
  ·rintro x_10 o t h ⟨s8, s9, s10⟩ hm1 hb5
   simp only [b6a] at hm1
   rw [d10]
   refine b0d fun K hK => ?_
   simp only [go_sem, s9, s10]
   refine hK _ _ ?_
   clear hK K
   refine b0o fun K6 hK6 => ?_
   simp only [go_sem]
   refine b0g (fun hc7 => ?_) (fun hc7 => ?_)
   ·rw [b0w hc7] at hm1
    simp only [b0u, b0h, b0i]
    refine hK6 _ _ ?_
    refine b0o fun K8 hK8 => ?_
    simp only [b1d]
    obtain ⟨x10, h_x10, hm1⟩ := b0j hm1
    have h_x100 := b1t h_x10
    have h_x101 := b14 h_x10
    refine b0d fun K hK => ?_
    simp only [go_sem, s8, s10, b09 h_x10, b1a h_x10, h_x100, h_x101]
    refine hK _ _ ?_
    clear hK K
    refine b1v (fun t h => t 8 = .fs 4 (List.map b1e l) ∧ t 9 = I (List.length l : Int) ∧ t 10 = I x_10 ∧ t 35 = B ((((!(b3c x10.Says (-100000) 100000)) || (!(b3c x10.Error 0 1000))) || (!(b3c x10.Drift 0 1000))) || (!(b3c x10.Days 0 1000)))) (fun K hK => ?_) ?_
    ·simp only [go_sem]
     refine b0r (b6h x10.Says (-100000) 100000) ?_
     simp only [go_sem]
     refine b0g (fun hg11 => ?_) (fun hg11 => ?_)
     ·simp only [go_sem, hg11]
      exact hK _ _ ⟨s8, s9, s10, (by first | (simp only [go_sem, hg11, lA9, mA9]; done) | rfl)⟩
     ·simp only [go_sem, hg11]
      refine b0r (b6h x10.Error 0 1000) ?_
      simp only [go_sem, hg11]
      refine b0g (fun hg12 => ?_) (fun hg12 => ?_)
      ·simp only [go_sem, hg11, hg12]
       exact hK _ _ ⟨s8, s9, s10, (by first | (simp only [go_sem, hg11, hg12, lA9, mA9]; done) | rfl)⟩
      ·simp only [go_sem, hg11, hg12]
       refine b0r (b6h x10.Drift 0 1000) ?_
       simp only [go_sem, hg11, hg12]
       refine b0g (fun hg13 => ?_) (fun hg13 => ?_)
       ·simp only [go_sem, hg11, hg12, hg13]
        exact hK _ _ ⟨s8, s9, s10, (by first | (simp only [go_sem, hg11, hg12, hg13, lA9, mA9]; done) | rfl)⟩
       ·simp only [go_sem, hg11, hg12, hg13]
        refine b0r (b6h x10.Days 0 1000) ?_
        simp only [go_sem, hg11, hg12, hg13]
        exact hK _ _ ⟨s8, s9, s10, (by first | (simp only [go_sem, hg11, hg12, hg13, lA9, mA9]; done) | rfl)⟩
    ·rintro t h ⟨s8, s9, s10, s35⟩
     simp only [go_sem, s35]
     refine b0g (fun hc14 => ?_) (fun hc14 => ?_)
     ·rw [b0w hc14] at hm1
      refine b0d fun K hK => ?_
      simp only [go_sem]
      refine hK _ _ ?_
      clear hK K
      simp only [b0k, b0m, b0l, b0n]
      obtain rfl := sI9 hm1
      obtain rfl := hb5 _ rfl
      try dsimp only at hm0
      obtain rfl := sI9 hm0
      exact b0q (by simp only [go_sem, lA9, mA9]) (b0a _)
     ·rw [b0v hc14] at hm1
      simp only [b0u, b0h, b0i]
      refine hK8 _ _ ?_
      refine b12 fun K hK => ?_
      simp only [go_sem, s10]
      refine hK _ _ ?_
      clear hK K
      simp only [b0h, b0i]
      obtain rfl := sI9 hm1
      refine ⟨_, rfl, ?_⟩
      exact ⟨s8, s9, (by first | (simp only [go_sem, s10, lA9, mA9]; done) | rfl)⟩
   ·rw [b0v hc7] at hm1
    simp only [b2g, b2k, b2j, b2i, b0h, b0i, Nat.reduceEqDiff, nF9]
    obtain rfl := sI9 hm1
    obtain rfl := hb5 _ rfl
    try dsimp only at hm0
    exact J4  _ _  hm0
theorem b6h (hf : Has O "newel/faults.within" x_faults_within) : c1h O := by
 intro n low high
 generalize hm0 : b3c n low high = r
 unfold b3c at hm0
 refine b06 hf rfl (b0b (b0a _) (b0b (b0a _) (b0b (b0a _) b0p))) (b0a _) ?_
 refine b05 (fun t h => t 0 = I n ∧ t 1 = I low ∧ t 2 = I high) ⟨rfl, rfl, rfl⟩ fun t h ⟨s0, s1, s2⟩ => ?_
 simp only [x_faults_within]
 refine b0d fun K hK => ?_
 simp only [go_sem]
 refine hK _ _ ?_
 clear hK K
 refine b1v (fun t h => t 6 = B ((decide (low ≤ n)) && (decide (n ≤ high)))) (fun K hK => ?_) ?_
 ·simp only [go_sem, s0, s1, s2]
  refine b0g (fun hg1 => ?_) (fun hg1 => ?_)
  ·simp only [go_sem, s0, s1, s2, hg1]
   exact hK _ _ (by first | (simp only [go_sem, hg1, lA9, mA9]; done) | rfl)
  ·simp only [go_sem, s0, s1, s2, hg1]
   exact hK _ _ (by first | (simp only [go_sem, hg1, lA9, mA9]; done) | rfl)
 ·rintro t h s6
  simp only [b0k, b0m, b0l, b0n]
  obtain rfl := hm0
  exact b0q (by simp only [go_sem, s6, lA9, mA9]) (b0a _)
theorem c3t (hf : Has O "newel/newellaw11.Far" x_l11_Far) : c1i O := by
 intro b
 generalize hm0 : b7x b = r
 unfold b7x at hm0
 refine b06 hf rfl (b0b (.agg _ (b0b (b0a _) (b0b (b0a _) (b0b (b0a _) (b0b (b0a _) (b0b (b0a _) (b0b (b0a _) (b0b (b02 fun a _ => b1f a) (b0b (b0a _) (b0b (b0a _) b0p)))))))))) b0p) (b0a _) ?_
 refine b05 (fun t h => t 0 = .agg [B b.Up, I b.Pull, I b.Drag, I b.Body, I b.Ride, I b.Most, .fs 1 (List.map eI b.Paces), I b.Num, I b.Den]) rfl fun t h s0 => ?_
 simp only [x_l11_Far]
 refine b0d fun K hK => ?_
 simp only [go_sem, s0]
 refine hK _ _ ?_
 clear hK K
 refine b0d fun K hK => ?_
 simp only [go_sem]
 refine hK _ _ ?_
 clear hK K
 simp only [b0k, b0m, b0l, b0n]
 obtain rfl := hm0
 exact b0q (by simp only [go_sem, lA9, mA9]) (b0a _)
theorem c3u (hf : Has O "newel/newellaw11.FarTimes" x_l11_FarTimes) : c1j O := by
 intro t_
 generalize hm0 : b7y t_ = r
 unfold b7y at hm0
 refine b06 hf rfl (b0b (.agg _ (b0b (b02 fun a _ => b5f a) (b0b (b0a _) b0p))) b0p) (b0a _) ?_
 refine b05 (fun t h => t 0 = .agg [.fs 4 (List.map b1i t_.Periods), I t_.Peak]) rfl fun t h s0 => ?_
 simp only [x_l11_FarTimes]
 refine b0d fun K hK => ?_
 simp only [go_sem, s0]
 refine hK _ _ ?_
 clear hK K
 refine b0d fun K hK => ?_
 simp only [go_sem]
 refine hK _ _ ?_
 clear hK K
 simp only [b0k, b0m, b0l, b0n]
 obtain rfl := hm0
 exact b0q (by simp only [go_sem, lA9, mA9]) (b0a _)
theorem b95 (hf : Has O "math/bits.OnesCount" x_math_bits_OnesCount) (c3v : c1l O) : c1k O := by
 intro x r hm0
 unfold b5l at hm0
 refine b06 hf rfl (b0b (b0a _) b0p) (b0a _) ?_
 refine b05 (fun t h => t 0 = .v (.int .u64 x)) rfl fun t h s0 => ?_
 simp only [x_math_bits_OnesCount]
 refine b0d fun K hK => ?_
 simp only [go_sem]
 refine hK _ _ ?_
 clear hK K
 refine b0o fun K1 hK1 => ?_
 simp only [c3f, c2n, c2o, b9u, b9t, b9s, c00, c0z, Nat.reduceEqDiff, nF9]
 simp only [b0u, b0h, b0i]
 refine hK1 _ _ ?_
 obtain ⟨y3, h_y3, hm0⟩ := b0j hm0
 refine b0d fun K hK => ?_
 simp only [go_sem, s0]
 refine b0r (c3v x _ h_y3) ?_
 simp only [go_sem, s0]
 refine hK _ _ ?_
 clear hK K
 simp only [b0k, b0m, b0l, b0n]
 obtain rfl := sI9 hm0
 exact b0q (by simp only [go_sem, lA9, mA9]) (b0a _)
theorem c3v (hf : Has O "math/bits.OnesCount64" x_math_bits_OnesCount64) : c1l O := by
 intro x r hm0
 unfold b71 at hm0
 refine b06 hf rfl (b0b (b0a _) b0p) (b0a _) ?_
 refine b05 (fun t h => t 0 = .v (.int .u64 x)) rfl fun t h s0 => ?_
 simp only [x_math_bits_OnesCount64]
 refine b0d fun K hK => ?_
 simp only [go_sem]
 refine hK _ _ ?_
 clear hK K
 obtain ⟨q2, h_q2, hm0⟩ := b0j hm0
 refine b0d fun K hK => ?_
 simp only [go_sem, s0, b4r h_q2]
 refine hK _ _ ?_
 clear hK K
 obtain ⟨q4, h_q4, hm0⟩ := b0j hm0
 refine b0d fun K hK => ?_
 simp only [go_sem, s0, b4r h_q4]
 refine hK _ _ ?_
 clear hK K
 obtain ⟨q6, h_q6, hm0⟩ := b0j hm0
 refine b0d fun K hK => ?_
 simp only [go_sem, s0, b4r h_q6]
 refine hK _ _ ?_
 clear hK K
 obtain ⟨q8, h_q8, hm0⟩ := b0j hm0
 refine b0d fun K hK => ?_
 simp only [go_sem, s0, b4r h_q8]
 refine hK _ _ ?_
 clear hK K
 obtain ⟨q10, h_q10, hm0⟩ := b0j hm0
 refine b0d fun K hK => ?_
 simp only [go_sem, s0, b4r h_q10]
 refine hK _ _ ?_
 clear hK K
 obtain ⟨q12, h_q12, hm0⟩ := b0j hm0
 refine b0d fun K hK => ?_
 simp only [go_sem, s0, b4r h_q12]
 refine hK _ _ ?_
 clear hK K
 refine b0d fun K hK => ?_
 simp only [go_sem, s0]
 refine hK _ _ ?_
 clear hK K
 simp only [b0k, b0m, b0l, b0n]
 obtain rfl := sI9 hm0
 exact b0q (by simp only [go_sem, lA9, mA9]) (b0a _)
theorem c3w (hf : Has O "math/bits.TrailingZeros" x_math_bits_TrailingZeros) (c3x : c1n O) : c1m O := by
 intro x r hm0
 unfold b72 at hm0
 refine b06 hf rfl (b0b (b0a _) b0p) (b0a _) ?_
 refine b05 (fun t h => t 0 = .v (.int .u64 x)) rfl fun t h s0 => ?_
 simp only [x_math_bits_TrailingZeros]
 refine b0d fun K hK => ?_
 simp only [go_sem]
 refine hK _ _ ?_
 clear hK K
 refine b0o fun K1 hK1 => ?_
 simp only [c3f, c2n, c2o, b9u, b9t, b9s, c00, c0z, Nat.reduceEqDiff, nF9]
 simp only [b0u, b0h, b0i]
 refine hK1 _ _ ?_
 obtain ⟨y3, h_y3, hm0⟩ := b0j hm0
 refine b0d fun K hK => ?_
 simp only [go_sem, s0]
 refine b0r (c3x x _ h_y3) ?_
 simp only [go_sem, s0]
 refine hK _ _ ?_
 clear hK K
 simp only [b0k, b0m, b0l, b0n]
 obtain rfl := sI9 hm0
 exact b0q (by simp only [go_sem, lA9, mA9]) (b0a _)
theorem c3x (hf : Has O "math/bits.TrailingZeros64" x_math_bits_TrailingZeros64) : c1n O := by
 intro x r hm0
 unfold b73 at hm0
 refine b06 hf rfl (b0b (b0a _) b0p) (b0a _) ?_
 refine b05 (fun t h => t 0 = .v (.int .u64 x)) rfl fun t h s0 => ?_
 simp only [x_math_bits_TrailingZeros64]
 refine b0d fun K hK => ?_
 simp only [go_sem]
 refine hK _ _ ?_
 clear hK K
 refine b0t ?_
 refine b0d fun K hK => ?_
 simp only [go_sem, s0]
 refine hK _ _ ?_
 clear hK K
 refine b0o fun K1 hK1 => ?_
 simp only [go_sem]
 refine b0g (fun hc2 => ?_) (fun hc2 => ?_)
 ·rw [b0w hc2] at hm0
  refine b0d fun K hK => ?_
  simp only [go_sem]
  refine hK _ _ ?_
  clear hK K
  simp only [b0k, b0m, b0l, b0n]
  obtain rfl := sI9 hm0
  exact b0q (by simp only [go_sem, lA9, mA9]) (b0a _)
 ·rw [b0v hc2] at hm0
  simp only [b0u, b0h, b0i]
  refine hK1 _ _ ?_
  obtain ⟨q5, h_q5, hm0⟩ := b0j hm0
  obtain ⟨x6, h_x6, hm0⟩ := b0j hm0
  refine b0d fun K hK => ?_
  simp only [go_sem, s0, b4r h_q5, g01 (kd := .u8) (n := 64) h_x6 c27 rfl, g00 (kd := .u8) h_x6 c27]
  refine hK _ _ ?_
  clear hK K
  simp only [b0k, b0m, b0l, b0n]
  obtain rfl := sI9 hm0
  exact b0q (by simp only [go_sem, lA9, mA9]) (b0a _)
theorem g15 (hf : Has O "newel/neweltop.TopMetered" x_neweltop_TopMetered) (c3t : c1i O) (c3u : c1j O) (c33 : c1u O) (k_neweltop_measures : c5h O) (c3j : c07 O) (c3y : c1o O) (c3r : c1f O) (c3q : c1e O) (c3i : c06 O) (c3z : c1p O) : c5g O := by
 intro b t_ plan x r hm0
 unfold b74 at hm0
 refine b06 hf rfl (b0b (.agg _ (b0b (b0a _) (b0b (b0a _) (b0b (b0a _) (b0b (b0a _) (b0b (b0a _) (b0b (b0a _) (b0b (b02 fun a _ => b1f a) (b0b (b0a _) (b0b (b0a _) b0p)))))))))) (b0b (.agg _ (b0b (b02 fun a _ => b5f a) (b0b (b0a _) b0p))) (b0b (b02 fun a _ => b1f a) (b0b (.agg _ (b0b (b0a _) (b0b (b0a _) (b0b (b02 fun a _ => b5g a) b0p)))) b0p)))) (b0a _) ?_
 refine b05 (fun t h => t 0 = .agg [B b.Up, I b.Pull, I b.Drag, I b.Body, I b.Ride, I b.Most, .fs 1 (List.map eI b.Paces), I b.Num, I b.Den] ∧ t 1 = .agg [.fs 4 (List.map b1i t_.Periods), I t_.Peak] ∧ t 2 = .fs 1 (List.map eI plan) ∧ t 3 = .agg [I x.Period, I x.Flow, .fs 4 (List.map b1e x.Readings)]) ⟨rfl, rfl, rfl, rfl⟩ fun t h ⟨s0, s1, s2, s3⟩ => ?_
 simp only [x_neweltop_TopMetered]
 refine b0d fun K hK => ?_
 simp only [go_sem, s0, s1, s3]
 refine hK _ _ ?_
 clear hK K
 refine b0t ?_
 obtain ⟨c8, h_c8, hm0⟩ := b0j hm0
 obtain ⟨c10, h_c10, hm0⟩ := b0j hm0
 obtain ⟨c12, h_c12, hm0⟩ := b0j hm0
 refine b1v (fun t h => t 2 = .fs 1 (List.map eI plan) ∧ t 4 = .fp [B b.Up, I b.Pull, I b.Drag, I b.Body, I b.Ride, I b.Most, .fs 1 (List.map eI b.Paces), I b.Num, I b.Den] 0 ∧ t 5 = .fp [.fs 4 (List.map b1i t_.Periods), I t_.Peak] 0 ∧ t 7 = .fp [I x.Period, I x.Flow, .fs 4 (List.map b1e x.Readings)] 0 ∧ t 68 = B c12) (fun K hK => ?_) ?_
 ·simp only [go_sem, s2]
  refine b0r (c3t b) ?_
  simp only [go_sem, s2]
  refine b0g (fun hg13 => ?_) (fun hg13 => ?_)
  ·simp only [hg13, Bool.not_true, Bool.not_false, eq_self, if_true, if_false, Bool.true_or, Bool.or_true, Bool.false_or, Bool.or_false, Bool.true_and, Bool.and_true, Bool.false_and, Bool.and_false, Bool.false_eq_true] at h_c8
   obtain rfl := sI9 h_c8
   simp only [hg13, Bool.not_true, Bool.not_false, eq_self, if_true, if_false, Bool.true_or, Bool.or_true, Bool.false_or, Bool.or_false, Bool.true_and, Bool.and_true, Bool.false_and, Bool.and_false, Bool.false_eq_true] at h_c10
   obtain rfl := sI9 h_c10
   simp only [hg13, Bool.not_true, Bool.not_false, eq_self, if_true, if_false, Bool.true_or, Bool.or_true, Bool.false_or, Bool.or_false, Bool.true_and, Bool.and_true, Bool.false_and, Bool.and_false, Bool.false_eq_true] at h_c12
   obtain rfl := sI9 h_c12
   simp only [go_sem, s2, hg13]
   exact hK _ _ ⟨s2, (by first | (simp only [go_sem, hg13, lA9, mA9]; done) | rfl), (by first | (simp only [go_sem, hg13, lA9, mA9]; done) | rfl), (by first | (simp only [go_sem, hg13, lA9, mA9]; done) | rfl), (by first | (simp only [go_sem, hg13, lA9, mA9]; done) | rfl)⟩
  ·simp only [go_sem, s2, hg13]
   refine b0r (c3u t_) ?_
   simp only [go_sem, s2, hg13]
   refine b0g (fun hg14 => ?_) (fun hg14 => ?_)
   ·simp only [hg13, hg14, Bool.not_true, Bool.not_false, eq_self, if_true, if_false, Bool.true_or, Bool.or_true, Bool.false_or, Bool.or_false, Bool.true_and, Bool.and_true, Bool.false_and, Bool.and_false, Bool.false_eq_true] at h_c8
    obtain rfl := sI9 h_c8
    simp only [hg13, hg14, Bool.not_true, Bool.not_false, eq_self, if_true, if_false, Bool.true_or, Bool.or_true, Bool.false_or, Bool.or_false, Bool.true_and, Bool.and_true, Bool.false_and, Bool.and_false, Bool.false_eq_true] at h_c10
    obtain rfl := sI9 h_c10
    simp only [hg13, hg14, Bool.not_true, Bool.not_false, eq_self, if_true, if_false, Bool.true_or, Bool.or_true, Bool.false_or, Bool.or_false, Bool.true_and, Bool.and_true, Bool.false_and, Bool.and_false, Bool.false_eq_true] at h_c12
    obtain rfl := sI9 h_c12
    simp only [go_sem, s2, hg13, hg14]
    exact hK _ _ ⟨s2, (by first | (simp only [go_sem, hg13, hg14, lA9, mA9]; done) | rfl), (by first | (simp only [go_sem, hg13, hg14, lA9, mA9]; done) | rfl), (by first | (simp only [go_sem, hg13, hg14, lA9, mA9]; done) | rfl), (by first | (simp only [go_sem, hg13, hg14, lA9, mA9]; done) | rfl)⟩
   ·simp only [hg13, hg14, Bool.not_true, Bool.not_false, eq_self, if_true, if_false, Bool.true_or, Bool.or_true, Bool.false_or, Bool.or_false, Bool.true_and, Bool.and_true, Bool.false_and, Bool.and_false, Bool.false_eq_true] at h_c8
    obtain ⟨y7, h_y7, h_c8⟩ := b0j h_c8
    obtain rfl := sI9 h_c8
    simp only [go_sem, s2, hg13, hg14]
    refine b0r (c33 b t_ plan _ h_y7) ?_
    simp only [go_sem, s2, hg13, hg14]
    refine b0g (fun hg15 => ?_) (fun hg15 => ?_)
    ·simp only [hg13, hg14, hg15, Bool.not_true, Bool.not_false, eq_self, if_true, if_false, Bool.true_or, Bool.or_true, Bool.false_or, Bool.or_false, Bool.true_and, Bool.and_true, Bool.false_and, Bool.and_false, Bool.false_eq_true] at h_c10
     obtain rfl := sI9 h_c10
     simp only [hg13, hg14, hg15, Bool.not_true, Bool.not_false, eq_self, if_true, if_false, Bool.true_or, Bool.or_true, Bool.false_or, Bool.or_false, Bool.true_and, Bool.and_true, Bool.false_and, Bool.and_false, Bool.false_eq_true] at h_c12
     obtain rfl := sI9 h_c12
     simp only [go_sem, s2, hg13, hg14, hg15]
     exact hK _ _ ⟨s2, (by first | (simp only [go_sem, hg13, hg14, hg15, lA9, mA9]; done) | rfl), (by first | (simp only [go_sem, hg13, hg14, hg15, lA9, mA9]; done) | rfl), (by first | (simp only [go_sem, hg13, hg14, hg15, lA9, mA9]; done) | rfl), (by first | (simp only [go_sem, hg13, hg14, hg15, lA9, mA9]; done) | rfl)⟩
    ·simp only [go_sem, s2, hg13, hg14, hg15]
     refine b0g (fun hg16 => ?_) (fun hg16 => ?_)
     ·simp only [hg13, hg14, hg15, hg16, Bool.not_true, Bool.not_false, eq_self, if_true, if_false, Bool.true_or, Bool.or_true, Bool.false_or, Bool.or_false, Bool.true_and, Bool.and_true, Bool.false_and, Bool.and_false, Bool.false_eq_true] at h_c10
      obtain rfl := sI9 h_c10
      simp only [hg13, hg14, hg15, hg16, Bool.not_true, Bool.not_false, eq_self, if_true, if_false, Bool.true_or, Bool.or_true, Bool.false_or, Bool.or_false, Bool.true_and, Bool.and_true, Bool.false_and, Bool.and_false, Bool.false_eq_true] at h_c12
      obtain rfl := sI9 h_c12
      simp only [go_sem, s2, hg13, hg14, hg15, hg16]
      exact hK _ _ ⟨s2, (by first | (simp only [go_sem, hg13, hg14, hg15, hg16, lA9, mA9]; done) | rfl), (by first | (simp only [go_sem, hg13, hg14, hg15, hg16, lA9, mA9]; done) | rfl), (by first | (simp only [go_sem, hg13, hg14, hg15, hg16, lA9, mA9]; done) | rfl), (by first | (simp only [go_sem, hg13, hg14, hg15, hg16, lA9, mA9]; done) | rfl)⟩
     ·simp only [go_sem, s2, hg13, hg14, hg15, hg16]
      refine b0g (fun hg17 => ?_) (fun hg17 => ?_)
      ·simp only [hg13, hg14, hg15, hg16, hg17, Bool.not_true, Bool.not_false, eq_self, if_true, if_false, Bool.true_or, Bool.or_true, Bool.false_or, Bool.or_false, Bool.true_and, Bool.and_true, Bool.false_and, Bool.and_false, Bool.false_eq_true] at h_c10
       obtain rfl := sI9 h_c10
       simp only [hg13, hg14, hg15, hg16, hg17, Bool.not_true, Bool.not_false, eq_self, if_true, if_false, Bool.true_or, Bool.or_true, Bool.false_or, Bool.or_false, Bool.true_and, Bool.and_true, Bool.false_and, Bool.and_false, Bool.false_eq_true] at h_c12
       obtain rfl := sI9 h_c12
       simp only [go_sem, s2, hg13, hg14, hg15, hg16, hg17]
       exact hK _ _ ⟨s2, (by first | (simp only [go_sem, hg13, hg14, hg15, hg16, hg17, lA9, mA9]; done) | rfl), (by first | (simp only [go_sem, hg13, hg14, hg15, hg16, hg17, lA9, mA9]; done) | rfl), (by first | (simp only [go_sem, hg13, hg14, hg15, hg16, hg17, lA9, mA9]; done) | rfl), (by first | (simp only [go_sem, hg13, hg14, hg15, hg16, hg17, lA9, mA9]; done) | rfl)⟩
      ·simp only [hg13, hg14, hg15, hg16, hg17, Bool.not_true, Bool.not_false, eq_self, if_true, if_false, Bool.true_or, Bool.or_true, Bool.false_or, Bool.or_false, Bool.true_and, Bool.and_true, Bool.false_and, Bool.and_false, Bool.false_eq_true] at h_c10
       obtain ⟨x9, h_x9, h_c10⟩ := b0j h_c10
       have h_x90 := b1t h_x9
       have h_x91 := b14 h_x9
       obtain rfl := sI9 h_c10
       simp only [go_sem, s2, b09 h_x9, b1a h_x9, h_x90, h_x91, hg13, hg14, hg15, hg16, hg17]
       refine b0g (fun hg18 => ?_) (fun hg18 => ?_)
       ·simp only [hg13, hg14, hg15, hg16, hg17, hg18, Bool.not_true, Bool.not_false, eq_self, if_true, if_false, Bool.true_or, Bool.or_true, Bool.false_or, Bool.or_false, Bool.true_and, Bool.and_true, Bool.false_and, Bool.and_false, Bool.false_eq_true] at h_c12
        obtain rfl := sI9 h_c12
        simp only [go_sem, s2, b09 h_x9, b1a h_x9, h_x90, h_x91, hg13, hg14, hg15, hg16, hg17, hg18]
        exact hK _ _ ⟨s2, (by first | (simp only [go_sem, hg13, hg14, hg15, hg16, hg17, hg18, lA9, mA9]; done) | rfl), (by first | (simp only [go_sem, hg13, hg14, hg15, hg16, hg17, hg18, lA9, mA9]; done) | rfl), (by first | (simp only [go_sem, hg13, hg14, hg15, hg16, hg17, hg18, lA9, mA9]; done) | rfl), (by first | (simp only [go_sem, hg13, hg14, hg15, hg16, hg17, hg18, lA9, mA9]; done) | rfl)⟩
       ·simp only [hg13, hg14, hg15, hg16, hg17, hg18, Bool.not_true, Bool.not_false, eq_self, if_true, if_false, Bool.true_or, Bool.or_true, Bool.false_or, Bool.or_false, Bool.true_and, Bool.and_true, Bool.false_and, Bool.and_false, Bool.false_eq_true] at h_c12
        obtain ⟨x11, h_x11, h_c12⟩ := b0j h_c12
        have h_x110 := b1t h_x11
        have h_x111 := b14 h_x11
        obtain rfl := sI9 (h_x9.symm.trans h_x11)
        obtain rfl := sI9 h_c12
        simp only [go_sem, s2, b09 h_x9, b1a h_x9, h_x90, h_x91, b09 h_x11, b1a h_x11, h_x110, h_x111, hg13, hg14, hg15, hg16, hg17, hg18]
        exact hK _ _ ⟨s2, (by first | (simp only [go_sem, hg13, hg14, hg15, hg16, hg17, hg18, lA9, mA9]; done) | rfl), (by first | (simp only [go_sem, hg13, hg14, hg15, hg16, hg17, hg18, lA9, mA9]; done) | rfl), (by first | (simp only [go_sem, hg13, hg14, hg15, hg16, hg17, hg18, lA9, mA9]; done) | rfl), (by first | (simp only [go_sem, hg13, hg14, hg15, hg16, hg17, hg18, lA9, mA9]; done) | rfl)⟩
 ·rintro t h ⟨s2, s4, s5, s7, s68⟩
  refine b0o fun K19 hK19 => ?_
  simp only [go_sem, s68]
  refine b0g (fun hc20 => ?_) (fun hc20 => ?_)
  ·rw [b0w hc20] at hm0
   obtain ⟨y22, h_y22, hm0⟩ := b0j hm0
   refine b0d fun K hK => ?_
   simp only [go_sem]
   refine b0r (k_neweltop_measures  _ h_y22) ?_
   simp only [go_sem]
   refine hK _ _ ?_
   clear hK K
   simp only [b0k, b0m, b0l, b0n]
   obtain rfl := sI9 hm0
   exact b0q (by simp only [go_sem, lA9, mA9]) (b0a _)
  ·rw [b0v hc20] at hm0
   simp only [b0u, b0h, b0i]
   refine hK19 _ _ ?_
   obtain ⟨x25, h_x25, hm0⟩ := b0j hm0
   have h_x250 := b1t h_x25
   have h_x251 := b14 h_x25
   obtain ⟨y26, h_y26, hm0⟩ := b0j hm0
   refine b0d fun K hK => ?_
   simp only [go_sem, s2, s4, s7, b09 h_x25, b1a h_x25, h_x250, h_x251]
   refine b0r (c3j b x.Flow x25 _ h_y26) ?_
   simp only [go_sem, s2, s4, s7, b09 h_x25, b1a h_x25, h_x250, h_x251]
   refine hK _ _ ?_
   clear hK K
   refine b0t ?_
   refine b0d fun K hK => ?_
   simp only [go_sem]
   refine hK _ _ ?_
   clear hK K
   refine b0o fun K27 hK27 => ?_
   simp only [go_sem]
   refine b0g (fun hc28 => ?_) (fun hc28 => ?_)
   ·rw [b0w hc28] at hm0
    refine b0d fun K hK => ?_
    simp only [go_sem]
    refine hK _ _ ?_
    clear hK K
    simp only [b0k, b0m, b0l, b0n]
    obtain rfl := sI9 hm0
    exact b0q (by simp only [go_sem, lA9, mA9]) (b0a _)
   ·rw [b0v hc28] at hm0
    simp only [b0u, b0h, b0i]
    refine hK27 _ _ ?_
    obtain ⟨x30, h_x30, hm0⟩ := b0j hm0
    have h_x300 := b1t h_x30
    have h_x301 := b14 h_x30
    refine b0d fun K hK => ?_
    simp only [go_sem, s5, s7, b09 h_x30, b1a h_x30, h_x300, h_x301]
    refine hK _ _ ?_
    clear hK K
    refine b0t ?_
    obtain ⟨y32, h_y32, hm0⟩ := b0j hm0
    refine b0d fun K hK => ?_
    simp only [go_sem, s7]
    refine b0r (c3y x.Readings (wr (y26.1 * x30.Lasts)) _ h_y32) ?_
    simp only [go_sem, s7]
    refine hK _ _ ?_
    clear hK K
    refine b0o fun K33 hK33 => ?_
    simp only [go_sem]
    refine b0g (fun hc34 => ?_) (fun hc34 => ?_)
    ·rw [b0w hc34] at hm0
     obtain ⟨y36, h_y36, hm0⟩ := b0j hm0
     refine b0d fun K hK => ?_
     simp only [go_sem]
     refine b0r (k_neweltop_measures  _ h_y36) ?_
     simp only [go_sem]
     refine hK _ _ ?_
     clear hK K
     simp only [b0k, b0m, b0l, b0n]
     obtain rfl := sI9 hm0
     exact b0q (by simp only [go_sem, lA9, mA9]) (b0a _)
    ·rw [b0v hc34] at hm0
     simp only [b0u, b0h, b0i]
     refine hK33 _ _ ?_
     obtain ⟨y38, h_y38, hm0⟩ := b0j hm0
     refine b0d fun K hK => ?_
     simp only [go_sem, s7]
     refine b0r (c3r x.Readings _ h_y38) ?_
     simp only [go_sem, s7]
     refine hK _ _ ?_
     clear hK K
     obtain ⟨y40, h_y40, hm0⟩ := b0j hm0
     refine b0d fun K hK => ?_
     simp only [go_sem, s7]
     refine b0r (c3q x.Readings _ h_y40) ?_
     simp only [go_sem, s7]
     refine hK _ _ ?_
     clear hK K
     refine b0t ?_
     refine b1v (fun t h => ∃ i12 : Nat, t 2 = .fs 1 (List.map eI plan) ∧ t 4 = .fp [B b.Up, I b.Pull, I b.Drag, I b.Body, I b.Ride, I b.Most, .fs 1 (List.map eI b.Paces), I b.Num, I b.Den] 0 ∧ t 5 = .fp [.fs 4 (List.map b1i t_.Periods), I t_.Peak] 0 ∧ t 7 = .fp [I x.Period, I x.Flow, .fs 4 (List.map b1e x.Readings)] 0 ∧ t 12 = .rp i12 0 0 ∧ t 133 = B (((((decide (¬y38.2 = 0)) || (decide (¬y40.2 = 0))) || (decide (¬(List.length y40.1 : Int) = 0))) || (decide ((wr (y26.1 * x30.Lasts)) < y38.1.Low))) || (decide (y38.1.High < (wr (y26.1 * x30.Lasts))))) ∧ h.ob i12 = some (2, [[I y38.1.Low, I y38.1.High]]) ∧ i12 < h.nx) (fun K hK => ?_) ?_
     ·simp only [go_sem]
      refine b0g (fun hg41 => ?_) (fun hg41 => ?_)
      ·simp only [go_sem, hg41]
       exact hK _ _ ⟨h.nx, s2, s4, s5, s7, (by first | (simp only [go_sem, hg41, lA9, mA9]; done) | rfl), (by first | (simp only [go_sem, hg41, lA9, mA9]; done) | rfl), (by simp only [go_sem, hg41, lA9, mA9]), (by simp only [go_sem])⟩
      ·simp only [go_sem, hg41]
       refine b0g (fun hg42 => ?_) (fun hg42 => ?_)
       ·simp only [go_sem, hg41, hg42]
        exact hK _ _ ⟨h.nx, s2, s4, s5, s7, (by first | (simp only [go_sem, hg41, hg42, lA9, mA9]; done) | rfl), (by first | (simp only [go_sem, hg41, hg42, lA9, mA9]; done) | rfl), (by simp only [go_sem, hg41, hg42, lA9, mA9]), (by simp only [go_sem])⟩
       ·simp only [go_sem, hg41, hg42]
        refine b0g (fun hg43 => ?_) (fun hg43 => ?_)
        ·simp only [go_sem, hg41, hg42, hg43]
         exact hK _ _ ⟨h.nx, s2, s4, s5, s7, (by first | (simp only [go_sem, hg41, hg42, hg43, lA9, mA9]; done) | rfl), (by first | (simp only [go_sem, hg41, hg42, hg43, lA9, mA9]; done) | rfl), (by simp only [go_sem, hg41, hg42, hg43, lA9, mA9]), (by simp only [go_sem])⟩
        ·simp only [go_sem, hg41, hg42, hg43]
         refine b0g (fun hg44 => ?_) (fun hg44 => ?_)
         ·simp only [go_sem, hg41, hg42, hg43, hg44]
          exact hK _ _ ⟨h.nx, s2, s4, s5, s7, (by first | (simp only [go_sem, hg41, hg42, hg43, hg44, lA9, mA9]; done) | rfl), (by first | (simp only [go_sem, hg41, hg42, hg43, hg44, lA9, mA9]; done) | rfl), (by simp only [go_sem, hg41, hg42, hg43, hg44, lA9, mA9]), (by simp only [go_sem])⟩
         ·simp only [go_sem, hg41, hg42, hg43, hg44]
          exact hK _ _ ⟨h.nx, s2, s4, s5, s7, (by first | (simp only [go_sem, hg41, hg42, hg43, hg44, lA9, mA9]; done) | rfl), (by first | (simp only [go_sem, hg41, hg42, hg43, hg44, lA9, mA9]; done) | rfl), (by simp only [go_sem, hg41, hg42, hg43, hg44, lA9, mA9]), (by simp only [go_sem])⟩
     ·rintro t h ⟨i12, s2, s4, s5, s7, s12, s133, Qd, Q7⟩
      refine b0o fun K45 hK45 => ?_
      simp only [go_sem, s133]
      refine b0g (fun hc46 => ?_) (fun hc46 => ?_)
      ·rw [b0w hc46] at hm0
       refine b0d fun K hK => ?_
       simp only [go_sem, Q7]
       refine hK _ _ ?_
       clear hK K
       simp only [b0k, b0m, b0l, b0n]
       obtain rfl := sI9 hm0
       exact b0q (by simp only [go_sem, Qd, Q7, lA9, mA9]) (b0a _)
      ·rw [b0v hc46] at hm0
       simp only [b0u, b0h, b0i]
       refine hK45 _ _ ?_
       obtain ⟨y48, h_y48, hm0⟩ := b0j hm0
       refine b0d fun K hK => ?_
       simp only [go_sem, s2, s4, s5, s7, s12, Qd, Q7]
       refine b0r (c3i b t_ plan x.Period y38.1 _ h_y48) ?_
       simp only [go_sem, s2, s4, s5, s7, s12, Qd, Q7]
       refine hK _ _ ?_
       clear hK K
       obtain ⟨c54, h_c54, hm0⟩ := b0j hm0
       obtain ⟨c56, h_c56, hm0⟩ := b0j hm0
       refine b1v (fun t h => t 8 = B c56) (fun K hK => ?_) ?_
       ·simp only [go_sem, s7, Q7]
        refine b0g (fun hg57 => ?_) (fun hg57 => ?_)
        ·simp only [hg57, Bool.not_true, Bool.not_false, eq_self, if_true, if_false, Bool.true_or, Bool.or_true, Bool.false_or, Bool.or_false, Bool.true_and, Bool.and_true, Bool.false_and, Bool.and_false, Bool.false_eq_true] at h_c54
         obtain ⟨y53, h_y53, h_c54⟩ := b0j h_c54
         obtain rfl := sI9 h_c54
         simp only [go_sem, s7, Q7, hg57]
         refine b0r (c3z y48.1 x.Flow _ h_y53) ?_
         simp only [go_sem, s7, Q7, hg57]
         refine b0g (fun hg58 => ?_) (fun hg58 => ?_)
         ·simp only [hg57, hg58, Bool.not_true, Bool.not_false, eq_self, if_true, if_false, Bool.true_or, Bool.or_true, Bool.false_or, Bool.or_false, Bool.true_and, Bool.and_true, Bool.false_and, Bool.and_false, Bool.false_eq_true] at h_c56
          obtain ⟨y55, h_y55, h_c56⟩ := b0j h_c56
          obtain rfl := sI9 h_c56
          simp only [go_sem, s7, Q7, hg57, hg58]
          refine b0r (k_neweltop_measures  _ h_y55) ?_
          simp only [go_sem, s7, Q7, hg57, hg58]
          exact hK _ _ (by first | (simp only [go_sem, hg57, hg58, lA9, mA9]; done) | rfl)
         ·simp only [hg57, hg58, Bool.not_true, Bool.not_false, eq_self, if_true, if_false, Bool.true_or, Bool.or_true, Bool.false_or, Bool.or_false, Bool.true_and, Bool.and_true, Bool.false_and, Bool.and_false, Bool.false_eq_true] at h_c56
          obtain rfl := sI9 h_c56
          simp only [go_sem, s7, Q7, hg57, hg58]
          exact hK _ _ (by first | (simp only [go_sem, hg57, hg58, lA9, mA9]; done) | rfl)
        ·simp only [hg57, Bool.not_true, Bool.not_false, eq_self, if_true, if_false, Bool.true_or, Bool.or_true, Bool.false_or, Bool.or_false, Bool.true_and, Bool.and_true, Bool.false_and, Bool.and_false, Bool.false_eq_true] at h_c54
         obtain rfl := sI9 h_c54
         simp only [hg57, Bool.not_true, Bool.not_false, eq_self, if_true, if_false, Bool.true_or, Bool.or_true, Bool.false_or, Bool.or_false, Bool.true_and, Bool.and_true, Bool.false_and, Bool.and_false, Bool.false_eq_true] at h_c56
         obtain rfl := sI9 h_c56
         simp only [go_sem, s7, Q7, hg57]
         exact hK _ _ (by first | (simp only [go_sem, hg57, lA9, mA9]; done) | rfl)
       ·rintro t h s8
        simp only [b0k, b0m, b0l, b0n]
        obtain rfl := sI9 hm0
        exact b0q (by simp only [go_sem, s8, lA9, mA9]) (b0a _)
theorem c3y (hf : Has O "newel/neweltop.allow" x_neweltop_allow) (c31 : c1r O) (c30 : c1q O) : c1o O := by
 intro l n r hm0
 unfold b75 at hm0
 refine b06 hf rfl (b0b (b02 fun a _ => b5g a) (b0b (b0a _) b0p)) (b0a _) ?_
 refine b05 (fun t h => t 0 = .fs 4 (List.map b1e l) ∧ t 1 = I n) ⟨rfl, rfl⟩ fun t h ⟨s0, s1⟩ => ?_
 simp only [x_neweltop_allow]
 refine b0d fun K hK => ?_
 simp only [go_sem]
 refine hK _ _ ?_
 clear hK K
 refine b0t ?_
 obtain ⟨c4, h_c4, hm0⟩ := b0j hm0
 refine b1v (fun t h => t 0 = .fs 4 (List.map b1e l) ∧ t 1 = I n ∧ t 19 = B c4) (fun K hK => ?_) ?_
 ·simp only [go_sem, s0]
  refine b0g (fun hg5 => ?_) (fun hg5 => ?_)
  ·simp only [hg5, Bool.not_true, Bool.not_false, eq_self, if_true, if_false, Bool.true_or, Bool.or_true, Bool.false_or, Bool.or_false, Bool.true_and, Bool.and_true, Bool.false_and, Bool.and_false, Bool.false_eq_true] at h_c4
   obtain rfl := sI9 h_c4
   simp only [go_sem, s0, hg5]
   exact hK _ _ ⟨s0, s1, (by first | (simp only [go_sem, hg5, lA9, mA9]; done) | rfl)⟩
  ·simp only [go_sem, s0, hg5]
   refine b0g (fun hg6 => ?_) (fun hg6 => ?_)
   ·simp only [hg5, hg6, Bool.not_true, Bool.not_false, eq_self, if_true, if_false, Bool.true_or, Bool.or_true, Bool.false_or, Bool.or_false, Bool.true_and, Bool.and_true, Bool.false_and, Bool.and_false, Bool.false_eq_true] at h_c4
    obtain rfl := sI9 h_c4
    simp only [go_sem, s0, hg5, hg6]
    exact hK _ _ ⟨s0, s1, (by first | (simp only [go_sem, hg5, hg6, lA9, mA9]; done) | rfl)⟩
   ·simp only [hg5, hg6, Bool.not_true, Bool.not_false, eq_self, if_true, if_false, Bool.true_or, Bool.or_true, Bool.false_or, Bool.or_false, Bool.true_and, Bool.and_true, Bool.false_and, Bool.and_false, Bool.false_eq_true] at h_c4
    obtain ⟨y3, h_y3, h_c4⟩ := b0j h_c4
    obtain rfl := sI9 h_c4
    simp only [go_sem, s0, hg5, hg6]
    refine b0r (c31 l _ h_y3) ?_
    simp only [go_sem, s0, hg5, hg6]
    exact hK _ _ ⟨s0, s1, (by first | (simp only [go_sem, hg5, hg6, lA9, mA9]; done) | rfl)⟩
 ·rintro t h ⟨s0, s1, s19⟩
  refine b0o fun K7 hK7 => ?_
  simp only [go_sem, s19]
  refine b0g (fun hc8 => ?_) (fun hc8 => ?_)
  ·rw [b0w hc8] at hm0
   refine b0d fun K hK => ?_
   simp only [go_sem]
   refine hK _ _ ?_
   clear hK K
   simp only [b0k, b0m, b0l, b0n]
   obtain rfl := sI9 hm0
   exact b0q (by simp only [go_sem, lA9, mA9]) (b0a _)
  ·rw [b0v hc8] at hm0
   simp only [b0u, b0h, b0i]
   refine hK7 _ _ ?_
   refine b0t ?_
   refine b0d fun K hK => ?_
   simp only [go_sem]
   refine hK _ _ ?_
   clear hK K
   refine b0o fun K9 hK9 => ?_
   have J10 : ∀ (t : Slots) (h : Heap), c4n = some r → K9 t h := by
    intro t h hm0
    refine hK9 _ _ ?_
    unfold c4n at hm0
    refine b0d fun K hK => ?_
    simp only [go_sem]
    refine hK _ _ ?_
    clear hK K
    simp only [b0k, b0m, b0l, b0n]
    obtain rfl := sI9 hm0
    exact b0q (by simp only [go_sem, lA9, mA9]) (b0a _)
   simp only [b1d]
   obtain ⟨b11, hl11, hm0⟩ := b0j hm0
   refine b2n hl11 (fun | i_5, t, h => t 0 = .fs 4 (List.map b1e l) ∧ t 1 = I n ∧ t 5 = I i_5) ?_ ?_
   ·exact ⟨s0, s1, (by first | (simp only [go_sem, lA9, mA9]; done) | rfl)⟩
   ·rintro i_5 o t h ⟨s0, s1, s5⟩ hm1 hb11
    simp only [b6k] at hm1
    rw [d11]
    refine b0t ?_
    refine b0d fun K hK => ?_
    simp only [go_sem, s0, s5]
    refine hK _ _ ?_
    clear hK K
    refine b0o fun K12 hK12 => ?_
    simp only [go_sem]
    refine b0g (fun hc13 => ?_) (fun hc13 => ?_)
    ·rw [b0w hc13] at hm1
     simp only [b0u, b0h, b0i]
     refine hK12 _ _ ?_
     refine b0o fun K14 hK14 => ?_
     simp only [b1d]
     obtain ⟨x16, h_x16, hm1⟩ := b0j hm1
     have h_x160 := b1t h_x16
     have h_x161 := b14 h_x16
     refine b0d fun K hK => ?_
     simp only [go_sem, s0, s5, b09 h_x16, b1a h_x16, h_x160, h_x161]
     refine b0r (c30 x16) ?_
     simp only [go_sem, s0, s5, b09 h_x16, b1a h_x16, h_x160, h_x161]
     refine hK _ _ ?_
     clear hK K
     refine b1v (fun t h => t 0 = .fs 4 (List.map b1e l) ∧ t 1 = I n ∧ t 5 = I i_5 ∧ t 40 = B ((decide (n < ((b35 x16).Low))) || (decide (((b35 x16).High) < n)))) (fun K hK => ?_) ?_
     ·simp only [go_sem, s1]
      refine b0g (fun hg17 => ?_) (fun hg17 => ?_)
      ·simp only [go_sem, s1, hg17]
       exact hK _ _ ⟨s0, s1, s5, (by first | (simp only [go_sem, hg17, lA9, mA9]; done) | rfl)⟩
      ·simp only [go_sem, s1, hg17]
       exact hK _ _ ⟨s0, s1, s5, (by first | (simp only [go_sem, hg17, lA9, mA9]; done) | rfl)⟩
     ·rintro t h ⟨s0, s1, s5, s40⟩
      simp only [go_sem, s40]
      refine b0g (fun hc18 => ?_) (fun hc18 => ?_)
      ·rw [b0w hc18] at hm1
       refine b0d fun K hK => ?_
       simp only [go_sem]
       refine hK _ _ ?_
       clear hK K
       simp only [b0k, b0m, b0l, b0n]
       obtain rfl := sI9 hm1
       obtain rfl := hb11 _ rfl
       try dsimp only at hm0
       obtain rfl := sI9 hm0
       exact b0q (by simp only [go_sem, lA9, mA9]) (b0a _)
      ·rw [b0v hc18] at hm1
       simp only [b0u, b0h, b0i]
       refine hK14 _ _ ?_
       refine b12 fun K hK => ?_
       simp only [go_sem, s5]
       refine hK _ _ ?_
       clear hK K
       simp only [b0h, b0i]
       obtain rfl := sI9 hm1
       refine ⟨_, rfl, ?_⟩
       exact ⟨s0, s1, (by first | (simp only [go_sem, s5, lA9, mA9]; done) | rfl)⟩
    ·rw [b0v hc13] at hm1
     simp only [b2g, b2k, b2j, b2i, b0h, b0i, Nat.reduceEqDiff, nF9]
     obtain rfl := sI9 hm1
     obtain rfl := hb11 _ rfl
     try dsimp only at hm0
     exact J10  _ _  hm0
theorem c3z (hf : Has O "newel/neweltop.names" x_neweltop_names) : c1p O := by
 intro l n r hm0
 unfold b76 at hm0
 refine b06 hf rfl (b0b (b02 fun a _ => b1f a) (b0b (b0a _) b0p)) (b0a _) ?_
 refine b05 (fun t h => t 0 = .fs 1 (List.map eI l) ∧ t 1 = I n) ⟨rfl, rfl⟩ fun t h ⟨s0, s1⟩ => ?_
 simp only [x_neweltop_names]
 refine b0d fun K hK => ?_
 simp only [go_sem]
 refine hK _ _ ?_
 clear hK K
 refine b0t ?_
 refine b0d fun K hK => ?_
 simp only [go_sem]
 refine hK _ _ ?_
 clear hK K
 refine b0o fun K1 hK1 => ?_
 have J2 : ∀ (t : Slots) (h : Heap), c4o = some r → K1 t h := by
  intro t h hm0
  refine hK1 _ _ ?_
  unfold c4o at hm0
  refine b0d fun K hK => ?_
  simp only [go_sem]
  refine hK _ _ ?_
  clear hK K
  simp only [b0k, b0m, b0l, b0n]
  obtain rfl := sI9 hm0
  exact b0q (by simp only [go_sem, lA9, mA9]) (b0a _)
 simp only [b1d]
 obtain ⟨b3, hl3, hm0⟩ := b0j hm0
 refine b2n hl3 (fun | i_5, t, h => t 0 = .fs 1 (List.map eI l) ∧ t 1 = I n ∧ t 5 = I i_5) ?_ ?_
 ·exact ⟨s0, s1, (by first | (simp only [go_sem, lA9, mA9]; done) | rfl)⟩
 ·rintro i_5 o t h ⟨s0, s1, s5⟩ hm1 hb3
  simp only [b6l] at hm1
  rw [d12]
  refine b0t ?_
  refine b0d fun K hK => ?_
  simp only [go_sem, s0, s5]
  refine hK _ _ ?_
  clear hK K
  refine b0o fun K4 hK4 => ?_
  simp only [go_sem]
  refine b0g (fun hc5 => ?_) (fun hc5 => ?_)
  ·rw [b0w hc5] at hm1
   simp only [b0u, b0h, b0i]
   refine hK4 _ _ ?_
   refine b0o fun K6 hK6 => ?_
   simp only [b1d]
   obtain ⟨x8, h_x8, hm1⟩ := b0j hm1
   have h_x80 := b1t h_x8
   have h_x81 := b14 h_x8
   refine b0d fun K hK => ?_
   simp only [go_sem, s0, s1, s5, b09 h_x8, b1a h_x8, h_x80, h_x81]
   refine hK _ _ ?_
   clear hK K
   simp only [go_sem]
   refine b0g (fun hc9 => ?_) (fun hc9 => ?_)
   ·rw [b0w hc9] at hm1
    refine b0d fun K hK => ?_
    simp only [go_sem]
    refine hK _ _ ?_
    clear hK K
    simp only [b0k, b0m, b0l, b0n]
    obtain rfl := sI9 hm1
    obtain rfl := hb3 _ rfl
    try dsimp only at hm0
    obtain rfl := sI9 hm0
    exact b0q (by simp only [go_sem, lA9, mA9]) (b0a _)
   ·rw [b0v hc9] at hm1
    simp only [b0u, b0h, b0i]
    refine hK6 _ _ ?_
    refine b12 fun K hK => ?_
    simp only [go_sem, s5]
    refine hK _ _ ?_
    clear hK K
    simp only [b0h, b0i]
    obtain rfl := sI9 hm1
    refine ⟨_, rfl, ?_⟩
    exact ⟨s0, s1, (by first | (simp only [go_sem, s5, lA9, mA9]; done) | rfl)⟩
  ·rw [b0v hc5] at hm1
   simp only [b2g, b2k, b2j, b2i, b0h, b0i, Nat.reduceEqDiff, nF9]
   obtain rfl := sI9 hm1
   obtain rfl := hb3 _ rfl
   try dsimp only at hm0
   exact J2  _ _  hm0
theorem c30 (hf : Has O "newel/newelref10.Allows" x_r10_Allows) : c1q O := by
 intro r_
 generalize hm0 : b35 r_ = r
 unfold b35 at hm0
 refine b06 hf rfl (b0b (.agg _ (b0b (b0a _) (b0b (b0a _) (b0b (b0a _) (b0b (b0a _) b0p))))) b0p) (.agg _ (b0b (b0a _) (b0b (b0a _) b0p))) ?_
 refine b05 (fun t h => t 0 = .agg [I r_.Says, I r_.Error, I r_.Drift, I r_.Days]) rfl fun t h s0 => ?_
 simp only [x_r10_Allows]
 refine b0d fun K hK => ?_
 simp only [go_sem, s0]
 refine hK _ _ ?_
 clear hK K
 refine b0d fun K hK => ?_
 simp only [go_sem]
 refine hK _ _ ?_
 clear hK K
 refine b0d fun K hK => ?_
 simp only [go_sem]
 refine hK _ _ ?_
 clear hK K
 simp only [b0k, b0m, b0l, b0n]
 obtain rfl := hm0
 exact d5u (id := h.nx) (m := 2) (cs := [I (wr (r_.Says - (wr (r_.Error + (wr (r_.Drift * r_.Days)))))), I (wr (r_.Says + (wr (r_.Error + (wr (r_.Drift * r_.Days))))))]) (by simp only [go_sem, lA9, mA9]) (by simp only [go_sem, lA9, mA9]) rfl (.refl _ (.agg _ (b0b (b0a _) (b0b (b0a _) b0p))))
theorem c31 (hf : Has O "newel/newelref10.Check" x_r10_Check) (b6i : c1s O) : c1r O := by
 intro l r hm0
 unfold b6m at hm0
 refine b06 hf rfl (b0b (b02 fun a _ => b5g a) b0p) (b0a _) ?_
 refine b05 (fun t h => t 0 = .fs 4 (List.map b1e l)) rfl fun t h s0 => ?_
 simp only [x_r10_Check]
 refine b0d fun K hK => ?_
 simp only [go_sem]
 refine hK _ _ ?_
 clear hK K
 refine b0t ?_
 refine b0d fun K hK => ?_
 simp only [go_sem, s0]
 refine hK _ _ ?_
 clear hK K
 refine b0o fun K1 hK1 => ?_
 simp only [go_sem]
 refine b0g (fun hc2 => ?_) (fun hc2 => ?_)
 ·rw [b0w hc2] at hm0
  refine b0d fun K hK => ?_
  simp only [go_sem]
  refine hK _ _ ?_
  clear hK K
  simp only [b0k, b0m, b0l, b0n]
  obtain rfl := sI9 hm0
  exact b0q (by simp only [go_sem, lA9, mA9]) (b0a _)
 ·rw [b0v hc2] at hm0
  simp only [b0u, b0h, b0i]
  refine hK1 _ _ ?_
  refine b0t ?_
  refine b0d fun K hK => ?_
  simp only [go_sem]
  refine hK _ _ ?_
  clear hK K
  refine b0o fun K3 hK3 => ?_
  have J4 : ∀ (t : Slots) (h : Heap), c4t = some r → K3 t h := by
   intro t h hm0
   refine hK3 _ _ ?_
   unfold c4t at hm0
   refine b0d fun K hK => ?_
   simp only [go_sem]
   refine hK _ _ ?_
   clear hK K
   simp only [b0k, b0m, b0l, b0n]
   obtain rfl := sI9 hm0
   exact b0q (by simp only [go_sem, lA9, mA9]) (b0a _)
  simp only [b1d]
  obtain ⟨b5, hl5, hm0⟩ := b0j hm0
  refine b2n hl5 (fun | i_3, t, h => t 0 = .fs 4 (List.map b1e l) ∧ t 3 = I i_3) ?_ ?_
  ·exact ⟨s0, (by first | (simp only [go_sem, lA9, mA9]; done) | rfl)⟩
  ·rintro i_3 o t h ⟨s0, s3⟩ hm1 hb5
   simp only [b6n] at hm1
   rw [d13]
   refine b0t ?_
   refine b0d fun K hK => ?_
   simp only [go_sem, s0, s3]
   refine hK _ _ ?_
   clear hK K
   refine b0o fun K6 hK6 => ?_
   simp only [go_sem]
   refine b0g (fun hc7 => ?_) (fun hc7 => ?_)
   ·rw [b0w hc7] at hm1
    simp only [b0u, b0h, b0i]
    refine hK6 _ _ ?_
    refine b0o fun K8 hK8 => ?_
    simp only [b1d]
    obtain ⟨x10, h_x10, hm1⟩ := b0j hm1
    have h_x100 := b1t h_x10
    have h_x101 := b14 h_x10
    refine b1v (fun t h => t 0 = .fs 4 (List.map b1e l) ∧ t 3 = I i_3 ∧ t 46 = B ((((!(b3g x10.Says (-100000) 100000)) || (!(b3g x10.Error 0 1000))) || (!(b3g x10.Drift 0 1000))) || (!(b3g x10.Days 0 1000)))) (fun K hK => ?_) ?_
    ·simp only [go_sem, s0, s3, b09 h_x10, b1a h_x10, h_x100, h_x101]
     refine b0r (b6i x10.Says (-100000) 100000) ?_
     simp only [go_sem, s0, s3, b09 h_x10, b1a h_x10, h_x100, h_x101]
     refine b0g (fun hg11 => ?_) (fun hg11 => ?_)
     ·simp only [go_sem, s0, s3, b09 h_x10, b1a h_x10, h_x100, h_x101, hg11]
      exact hK _ _ ⟨s0, s3, (by first | (simp only [go_sem, hg11, lA9, mA9]; done) | rfl)⟩
     ·simp only [go_sem, s0, s3, b09 h_x10, b1a h_x10, h_x100, h_x101, hg11]
      refine b0r (b6i x10.Error 0 1000) ?_
      simp only [go_sem, s0, s3, b09 h_x10, b1a h_x10, h_x100, h_x101, hg11]
      refine b0g (fun hg12 => ?_) (fun hg12 => ?_)
      ·simp only [go_sem, s0, s3, b09 h_x10, b1a h_x10, h_x100, h_x101, hg11, hg12]
       exact hK _ _ ⟨s0, s3, (by first | (simp only [go_sem, hg11, hg12, lA9, mA9]; done) | rfl)⟩
      ·simp only [go_sem, s0, s3, b09 h_x10, b1a h_x10, h_x100, h_x101, hg11, hg12]
       refine b0r (b6i x10.Drift 0 1000) ?_
       simp only [go_sem, s0, s3, b09 h_x10, b1a h_x10, h_x100, h_x101, hg11, hg12]
       refine b0g (fun hg13 => ?_) (fun hg13 => ?_)
       ·simp only [go_sem, s0, s3, b09 h_x10, b1a h_x10, h_x100, h_x101, hg11, hg12, hg13]
        exact hK _ _ ⟨s0, s3, (by first | (simp only [go_sem, hg11, hg12, hg13, lA9, mA9]; done) | rfl)⟩
       ·simp only [go_sem, s0, s3, b09 h_x10, b1a h_x10, h_x100, h_x101, hg11, hg12, hg13]
        refine b0r (b6i x10.Days 0 1000) ?_
        simp only [go_sem, s0, s3, b09 h_x10, b1a h_x10, h_x100, h_x101, hg11, hg12, hg13]
        exact hK _ _ ⟨s0, s3, (by first | (simp only [go_sem, hg11, hg12, hg13, lA9, mA9]; done) | rfl)⟩
    ·rintro t h ⟨s0, s3, s46⟩
     simp only [go_sem, s46]
     refine b0g (fun hc14 => ?_) (fun hc14 => ?_)
     ·rw [b0w hc14] at hm1
      refine b0d fun K hK => ?_
      simp only [go_sem]
      refine hK _ _ ?_
      clear hK K
      simp only [b0k, b0m, b0l, b0n]
      obtain rfl := sI9 hm1
      obtain rfl := hb5 _ rfl
      try dsimp only at hm0
      obtain rfl := sI9 hm0
      exact b0q (by simp only [go_sem, lA9, mA9]) (b0a _)
     ·rw [b0v hc14] at hm1
      simp only [b0u, b0h, b0i]
      refine hK8 _ _ ?_
      refine b12 fun K hK => ?_
      simp only [go_sem, s3]
      refine hK _ _ ?_
      clear hK K
      simp only [b0h, b0i]
      obtain rfl := sI9 hm1
      refine ⟨_, rfl, ?_⟩
      exact ⟨s0, (by first | (simp only [go_sem, s3, lA9, mA9]; done) | rfl)⟩
   ·rw [b0v hc7] at hm1
    simp only [b2g, b2k, b2j, b2i, b0h, b0i, Nat.reduceEqDiff, nF9]
    obtain rfl := sI9 hm1
    obtain rfl := hb5 _ rfl
    try dsimp only at hm0
    exact J4  _ _  hm0
theorem b6i (hf : Has O "newel/newelref10.from" x_r10_from) : c1s O := by
 intro n low high
 generalize hm0 : b3g n low high = r
 unfold b3g at hm0
 refine b06 hf rfl (b0b (b0a _) (b0b (b0a _) (b0b (b0a _) b0p))) (b0a _) ?_
 refine b05 (fun t h => t 0 = I n ∧ t 1 = I low ∧ t 2 = I high) ⟨rfl, rfl, rfl⟩ fun t h ⟨s0, s1, s2⟩ => ?_
 simp only [x_r10_from]
 refine b0d fun K hK => ?_
 simp only [go_sem]
 refine hK _ _ ?_
 clear hK K
 refine b1v (fun t h => t 6 = B ((decide (low ≤ n)) && (decide (n ≤ high)))) (fun K hK => ?_) ?_
 ·simp only [go_sem, s0, s1, s2]
  refine b0g (fun hg1 => ?_) (fun hg1 => ?_)
  ·simp only [go_sem, s0, s1, s2, hg1]
   exact hK _ _ (by first | (simp only [go_sem, hg1, lA9, mA9]; done) | rfl)
  ·simp only [go_sem, s0, s1, s2, hg1]
   exact hK _ _ (by first | (simp only [go_sem, hg1, lA9, mA9]; done) | rfl)
 ·rintro t h s6
  simp only [b0k, b0m, b0l, b0n]
  obtain rfl := hm0
  exact b0q (by simp only [go_sem, s6, lA9, mA9]) (b0a _)
theorem c32 (hf : Has O "newel/newelref11.Check" x_r11_Check) (b2t : b8t O) : c1t O := by
 intro b r hm0
 unfold b6o at hm0
 refine b06 hf rfl (b0b (.agg _ (b0b (b0a _) (b0b (b0a _) (b0b (b0a _) (b0b (b0a _) (b0b (b0a _) (b0b (b0a _) (b0b (b02 fun a _ => b1f a) (b0b (b0a _) (b0b (b0a _) b0p)))))))))) b0p) (b0a _) ?_
 refine b05 (fun t h => t 0 = .agg [B b.Up, I b.Pull, I b.Drag, I b.Body, I b.Ride, I b.Most, .fs 1 (List.map eI b.Paces), I b.Num, I b.Den]) rfl fun t h s0 => ?_
 simp only [x_r11_Check]
 refine b0d fun K hK => ?_
 simp only [go_sem, s0]
 refine hK _ _ ?_
 clear hK K
 refine b0t ?_
 refine b1v (fun t h => t 1 = .fp [B b.Up, I b.Pull, I b.Drag, I b.Body, I b.Ride, I b.Most, .fs 1 (List.map eI b.Paces), I b.Num, I b.Den] 0 ∧ t 32 = B (((((!(b04 b.Pull 0 100)) || (!(b04 b.Drag 0 1000000))) || (!(b04 b.Body 0 100))) || (!(b04 b.Ride 1 1000))) || (!(b04 b.Most 0 100000000)))) (fun K hK => ?_) ?_
 ·simp only [go_sem]
  refine b0r (b2t b.Pull 0 100) ?_
  simp only [go_sem]
  refine b0g (fun hg1 => ?_) (fun hg1 => ?_)
  ·simp only [go_sem, hg1]
   exact hK _ _ ⟨(by first | (simp only [go_sem, hg1, lA9, mA9]; done) | rfl), (by first | (simp only [go_sem, hg1, lA9, mA9]; done) | rfl)⟩
  ·simp only [go_sem, hg1]
   refine b0r (b2t b.Drag 0 1000000) ?_
   simp only [go_sem, hg1]
   refine b0g (fun hg2 => ?_) (fun hg2 => ?_)
   ·simp only [go_sem, hg1, hg2]
    exact hK _ _ ⟨(by first | (simp only [go_sem, hg1, hg2, lA9, mA9]; done) | rfl), (by first | (simp only [go_sem, hg1, hg2, lA9, mA9]; done) | rfl)⟩
   ·simp only [go_sem, hg1, hg2]
    refine b0r (b2t b.Body 0 100) ?_
    simp only [go_sem, hg1, hg2]
    refine b0g (fun hg3 => ?_) (fun hg3 => ?_)
    ·simp only [go_sem, hg1, hg2, hg3]
     exact hK _ _ ⟨(by first | (simp only [go_sem, hg1, hg2, hg3, lA9, mA9]; done) | rfl), (by first | (simp only [go_sem, hg1, hg2, hg3, lA9, mA9]; done) | rfl)⟩
    ·simp only [go_sem, hg1, hg2, hg3]
     refine b0r (b2t b.Ride 1 1000) ?_
     simp only [go_sem, hg1, hg2, hg3]
     refine b0g (fun hg4 => ?_) (fun hg4 => ?_)
     ·simp only [go_sem, hg1, hg2, hg3, hg4]
      exact hK _ _ ⟨(by first | (simp only [go_sem, hg1, hg2, hg3, hg4, lA9, mA9]; done) | rfl), (by first | (simp only [go_sem, hg1, hg2, hg3, hg4, lA9, mA9]; done) | rfl)⟩
     ·simp only [go_sem, hg1, hg2, hg3, hg4]
      refine b0r (b2t b.Most 0 100000000) ?_
      simp only [go_sem, hg1, hg2, hg3, hg4]
      exact hK _ _ ⟨(by first | (simp only [go_sem, hg1, hg2, hg3, hg4, lA9, mA9]; done) | rfl), (by first | (simp only [go_sem, hg1, hg2, hg3, hg4, lA9, mA9]; done) | rfl)⟩
 ·rintro t h ⟨s1, s32⟩
  refine b0o fun K5 hK5 => ?_
  simp only [go_sem, s32]
  refine b0g (fun hc6 => ?_) (fun hc6 => ?_)
  ·rw [b0w hc6] at hm0
   refine b0d fun K hK => ?_
   simp only [go_sem]
   refine hK _ _ ?_
   clear hK K
   simp only [b0k, b0m, b0l, b0n]
   obtain rfl := sI9 hm0
   exact b0q (by simp only [go_sem, lA9, mA9]) (b0a _)
  ·rw [b0v hc6] at hm0
   simp only [b0u, b0h, b0i]
   refine hK5 _ _ ?_
   refine b0t ?_
   refine b1v (fun t h => t 1 = .fp [B b.Up, I b.Pull, I b.Drag, I b.Body, I b.Ride, I b.Most, .fs 1 (List.map eI b.Paces), I b.Num, I b.Den] 0 ∧ t 51 = B (((!(b04 (List.length b.Paces : Int) 1 3)) || (!(b04 b.Den 1 100))) || (!(b04 b.Num 0 b.Den)))) (fun K hK => ?_) ?_
   ·simp only [go_sem, s1]
    refine b0r (b2t (List.length b.Paces : Int) 1 3) ?_
    simp only [go_sem, s1]
    refine b0g (fun hg7 => ?_) (fun hg7 => ?_)
    ·simp only [go_sem, s1, hg7]
     exact hK _ _ ⟨s1, (by first | (simp only [go_sem, hg7, lA9, mA9]; done) | rfl)⟩
    ·simp only [go_sem, s1, hg7]
     refine b0r (b2t b.Den 1 100) ?_
     simp only [go_sem, s1, hg7]
     refine b0g (fun hg8 => ?_) (fun hg8 => ?_)
     ·simp only [go_sem, s1, hg7, hg8]
      exact hK _ _ ⟨s1, (by first | (simp only [go_sem, hg7, hg8, lA9, mA9]; done) | rfl)⟩
     ·simp only [go_sem, s1, hg7, hg8]
      refine b0r (b2t b.Num 0 b.Den) ?_
      simp only [go_sem, s1, hg7, hg8]
      exact hK _ _ ⟨s1, (by first | (simp only [go_sem, hg7, hg8, lA9, mA9]; done) | rfl)⟩
   ·rintro t h ⟨s1, s51⟩
    refine b0o fun K9 hK9 => ?_
    simp only [go_sem, s51]
    refine b0g (fun hc10 => ?_) (fun hc10 => ?_)
    ·rw [b0w hc10] at hm0
     refine b0d fun K hK => ?_
     simp only [go_sem]
     refine hK _ _ ?_
     clear hK K
     simp only [b0k, b0m, b0l, b0n]
     obtain rfl := sI9 hm0
     exact b0q (by simp only [go_sem, lA9, mA9]) (b0a _)
    ·rw [b0v hc10] at hm0
     simp only [b0u, b0h, b0i]
     refine hK9 _ _ ?_
     refine b0d fun K hK => ?_
     simp only [go_sem]
     refine hK _ _ ?_
     clear hK K
     refine b0t ?_
     refine b0d fun K hK => ?_
     simp only [go_sem]
     refine hK _ _ ?_
     clear hK K
     refine b0o fun K11 hK11 => ?_
     have J12 : ∀ (t : Slots) (h : Heap), c4w = some r → K11 t h := by
      intro t h hm0
      refine hK11 _ _ ?_
      unfold c4w at hm0
      refine b0d fun K hK => ?_
      simp only [go_sem]
      refine hK _ _ ?_
      clear hK K
      simp only [b0k, b0m, b0l, b0n]
      obtain rfl := sI9 hm0
      exact b0q (by simp only [go_sem, lA9, mA9]) (b0a _)
     simp only [b1d]
     obtain ⟨b13, hl13, hm0⟩ := b0j hm0
     refine b2n hl13 (fun | (last_3, i_4), t, h => t 1 = .fp [B b.Up, I b.Pull, I b.Drag, I b.Body, I b.Ride, I b.Most, .fs 1 (List.map eI b.Paces), I b.Num, I b.Den] 0 ∧ t 3 = I last_3 ∧ t 4 = I i_4) ?_ ?_
     ·exact ⟨s1, (by first | (simp only [go_sem, lA9, mA9]; done) | rfl), (by first | (simp only [go_sem, lA9, mA9]; done) | rfl)⟩
     ·rintro ⟨last_3, i_4⟩ o t h ⟨s1, s3, s4⟩ hm1 hb13
      simp only [b6t] at hm1
      rw [d16]
      refine b0t ?_
      refine b0d fun K hK => ?_
      simp only [go_sem, s1, s4]
      refine hK _ _ ?_
      clear hK K
      refine b0o fun K14 hK14 => ?_
      simp only [go_sem]
      refine b0g (fun hc15 => ?_) (fun hc15 => ?_)
      ·rw [b0w hc15] at hm1
       simp only [b0u, b0h, b0i]
       refine hK14 _ _ ?_
       refine b0o fun K16 hK16 => ?_
       simp only [b1d]
       refine b0t ?_
       obtain ⟨x18, h_x18, hm1⟩ := b0j hm1
       have h_x180 := b1t h_x18
       have h_x181 := b14 h_x18
       refine b0d fun K hK => ?_
       simp only [go_sem, s1, s3, s4, b09 h_x18, b1a h_x18, h_x180, h_x181]
       refine b0r (b2t x18 (wr (last_3 + 1)) 100) ?_
       simp only [go_sem, s1, s3, s4, b09 h_x18, b1a h_x18, h_x180, h_x181]
       refine hK _ _ ?_
       clear hK K
       refine b0o fun K19 hK19 => ?_
       simp only [go_sem]
       refine b0g (fun hc20 => ?_) (fun hc20 => ?_)
       ·rw [b0w hc20] at hm1
        refine b0d fun K hK => ?_
        simp only [go_sem]
        refine hK _ _ ?_
        clear hK K
        simp only [b0k, b0m, b0l, b0n]
        obtain rfl := sI9 hm1
        obtain rfl := hb13 _ rfl
        try dsimp only at hm0
        obtain rfl := sI9 hm0
        exact b0q (by simp only [go_sem, lA9, mA9]) (b0a _)
       ·rw [b0v hc20] at hm1
        simp only [b0u, b0h, b0i]
        refine hK19 _ _ ?_
        refine b12 fun K hK => ?_
        simp only [go_sem, s1, s4, b09 h_x18, b1a h_x18, h_x180, h_x181]
        refine hK _ _ ?_
        clear hK K
        simp only [b0h, b0i]
        refine hK16 _ _ ?_
        refine b12 fun K hK => ?_
        simp only [go_sem, s4]
        refine hK _ _ ?_
        clear hK K
        simp only [b0h, b0i]
        obtain rfl := sI9 hm1
        refine ⟨_, rfl, ?_⟩
        exact ⟨s1, (by first | (simp only [go_sem, s3, lA9, mA9]; done) | rfl), (by first | (simp only [go_sem, s4, lA9, mA9]; done) | rfl)⟩
      ·rw [b0v hc15] at hm1
       simp only [b2g, b2k, b2j, b2i, b0h, b0i, Nat.reduceEqDiff, nF9]
       obtain rfl := sI9 hm1
       obtain rfl := hb13 _ rfl
       try dsimp only at hm0
       exact J12  _ _  hm0
theorem c33 (hf : Has O "newel/newelref11.CheckPlan" x_r11_CheckPlan) (c34 : c1v O) (c35 : c1w O) : c1u O := by
 intro b t_ plan r hm0
 unfold b6p at hm0
 refine b06 hf rfl (b0b (.agg _ (b0b (b0a _) (b0b (b0a _) (b0b (b0a _) (b0b (b0a _) (b0b (b0a _) (b0b (b0a _) (b0b (b02 fun a _ => b1f a) (b0b (b0a _) (b0b (b0a _) b0p)))))))))) (b0b (.agg _ (b0b (b02 fun a _ => b5f a) (b0b (b0a _) b0p))) (b0b (b02 fun a _ => b1f a) b0p))) (b0a _) ?_
 refine b05 (fun t h => t 0 = .agg [B b.Up, I b.Pull, I b.Drag, I b.Body, I b.Ride, I b.Most, .fs 1 (List.map eI b.Paces), I b.Num, I b.Den] ∧ t 1 = .agg [.fs 4 (List.map b1i t_.Periods), I t_.Peak] ∧ t 2 = .fs 1 (List.map eI plan)) ⟨rfl, rfl, rfl⟩ fun t h ⟨s0, s1, s2⟩ => ?_
 simp only [x_r11_CheckPlan]
 refine b0d fun K hK => ?_
 simp only [go_sem, s0, s1]
 refine hK _ _ ?_
 clear hK K
 refine b0t ?_
 obtain ⟨y2, h_y2, hm0⟩ := b0j hm0
 refine b0d fun K hK => ?_
 simp only [go_sem]
 refine b0r (c34 b t_ _ h_y2) ?_
 simp only [go_sem]
 refine hK _ _ ?_
 clear hK K
 refine b0t ?_
 refine b0d fun K hK => ?_
 simp only [go_sem]
 refine hK _ _ ?_
 clear hK K
 refine b0o fun K3 hK3 => ?_
 simp only [go_sem]
 refine b0g (fun hc4 => ?_) (fun hc4 => ?_)
 ·rw [b0w hc4] at hm0
  refine b0d fun K hK => ?_
  simp only [go_sem]
  refine hK _ _ ?_
  clear hK K
  simp only [b0k, b0m, b0l, b0n]
  obtain rfl := sI9 hm0
  exact b0q (by simp only [go_sem, lA9, mA9]) (b0a _)
 ·rw [b0v hc4] at hm0
  simp only [b0u, b0h, b0i]
  refine hK3 _ _ ?_
  refine b0t ?_
  refine b0d fun K hK => ?_
  simp only [go_sem, s2]
  refine hK _ _ ?_
  clear hK K
  refine b0o fun K5 hK5 => ?_
  simp only [go_sem]
  refine b0g (fun hc6 => ?_) (fun hc6 => ?_)
  ·rw [b0w hc6] at hm0
   refine b0d fun K hK => ?_
   simp only [go_sem]
   refine hK _ _ ?_
   clear hK K
   simp only [b0k, b0m, b0l, b0n]
   obtain rfl := sI9 hm0
   exact b0q (by simp only [go_sem, lA9, mA9]) (b0a _)
  ·rw [b0v hc6] at hm0
   simp only [b0u, b0h, b0i]
   refine hK5 _ _ ?_
   refine b0t ?_
   refine b0d fun K hK => ?_
   simp only [go_sem]
   refine hK _ _ ?_
   clear hK K
   refine b0o fun K7 hK7 => ?_
   have J8 : ∀ (t : Slots) (h : Heap), c4u = some r → K7 t h := by
    intro t h hm0
    refine hK7 _ _ ?_
    unfold c4u at hm0
    refine b0d fun K hK => ?_
    simp only [go_sem]
    refine hK _ _ ?_
    clear hK K
    simp only [b0k, b0m, b0l, b0n]
    obtain rfl := sI9 hm0
    exact b0q (by simp only [go_sem, lA9, mA9]) (b0a _)
   simp only [b1d]
   obtain ⟨b9, hl9, hm0⟩ := b0j hm0
   refine b2n hl9 (fun | i_8, t, h => t 2 = .fs 1 (List.map eI plan) ∧ t 3 = .fp [B b.Up, I b.Pull, I b.Drag, I b.Body, I b.Ride, I b.Most, .fs 1 (List.map eI b.Paces), I b.Num, I b.Den] 0 ∧ t 8 = I i_8) ?_ ?_
   ·exact ⟨s2, (by first | (simp only [go_sem, lA9, mA9]; done) | rfl), (by first | (simp only [go_sem, lA9, mA9]; done) | rfl)⟩
   ·rintro i_8 o t h ⟨s2, s3, s8⟩ hm1 hb9
    simp only [b6q] at hm1
    rw [d14]
    refine b0t ?_
    refine b0d fun K hK => ?_
    simp only [go_sem, s2, s8]
    refine hK _ _ ?_
    clear hK K
    refine b0o fun K10 hK10 => ?_
    simp only [go_sem]
    refine b0g (fun hc11 => ?_) (fun hc11 => ?_)
    ·rw [b0w hc11] at hm1
     simp only [b0u, b0h, b0i]
     refine hK10 _ _ ?_
     refine b0o fun K12 hK12 => ?_
     simp only [b1d]
     obtain ⟨x15, h_x15, hm1⟩ := b0j hm1
     have h_x150 := b1t h_x15
     have h_x151 := b14 h_x15
     obtain ⟨y16, h_y16, hm1⟩ := b0j hm1
     refine b0d fun K hK => ?_
     simp only [go_sem, s2, s3, s8, b09 h_x15, b1a h_x15, h_x150, h_x151]
     refine b0r (c35 b x15 _ h_y16) ?_
     simp only [go_sem, s2, s3, s8, b09 h_x15, b1a h_x15, h_x150, h_x151]
     refine hK _ _ ?_
     clear hK K
     simp only [go_sem]
     refine b0g (fun hc17 => ?_) (fun hc17 => ?_)
     ·rw [b0w hc17] at hm1
      refine b0d fun K hK => ?_
      simp only [go_sem]
      refine hK _ _ ?_
      clear hK K
      simp only [b0k, b0m, b0l, b0n]
      obtain rfl := sI9 hm1
      obtain rfl := hb9 _ rfl
      try dsimp only at hm0
      obtain rfl := sI9 hm0
      exact b0q (by simp only [go_sem, lA9, mA9]) (b0a _)
     ·rw [b0v hc17] at hm1
      simp only [b0u, b0h, b0i]
      refine hK12 _ _ ?_
      refine b12 fun K hK => ?_
      simp only [go_sem, s8]
      refine hK _ _ ?_
      clear hK K
      simp only [b0h, b0i]
      obtain rfl := sI9 hm1
      refine ⟨_, rfl, ?_⟩
      exact ⟨s2, s3, (by first | (simp only [go_sem, s8, lA9, mA9]; done) | rfl)⟩
    ·rw [b0v hc11] at hm1
     simp only [b2g, b2k, b2j, b2i, b0h, b0i, Nat.reduceEqDiff, nF9]
     obtain rfl := sI9 hm1
     obtain rfl := hb9 _ rfl
     try dsimp only at hm0
     exact J8  _ _  hm0
theorem c34 (hf : Has O "newel/newelref11.CheckTimes" x_r11_CheckTimes) (c32 : c1t O) (b2t : b8t O) : c1v O := by
 intro b t_ r hm0
 unfold b6r at hm0
 refine b06 hf rfl (b0b (.agg _ (b0b (b0a _) (b0b (b0a _) (b0b (b0a _) (b0b (b0a _) (b0b (b0a _) (b0b (b0a _) (b0b (b02 fun a _ => b1f a) (b0b (b0a _) (b0b (b0a _) b0p)))))))))) (b0b (.agg _ (b0b (b02 fun a _ => b5f a) (b0b (b0a _) b0p))) b0p)) (b0a _) ?_
 refine b05 (fun t h => t 0 = .agg [B b.Up, I b.Pull, I b.Drag, I b.Body, I b.Ride, I b.Most, .fs 1 (List.map eI b.Paces), I b.Num, I b.Den] ∧ t 1 = .agg [.fs 4 (List.map b1i t_.Periods), I t_.Peak]) ⟨rfl, rfl⟩ fun t h ⟨s0, s1⟩ => ?_
 simp only [x_r11_CheckTimes]
 refine b0d fun K hK => ?_
 simp only [go_sem, s0, s1]
 refine hK _ _ ?_
 clear hK K
 refine b0t ?_
 obtain ⟨y2, h_y2, hm0⟩ := b0j hm0
 refine b0d fun K hK => ?_
 simp only [go_sem]
 refine b0r (c32 b _ h_y2) ?_
 simp only [go_sem]
 refine hK _ _ ?_
 clear hK K
 refine b0o fun K3 hK3 => ?_
 simp only [go_sem]
 refine b0g (fun hc4 => ?_) (fun hc4 => ?_)
 ·rw [b0w hc4] at hm0
  refine b0d fun K hK => ?_
  simp only [go_sem]
  refine hK _ _ ?_
  clear hK K
  simp only [b0k, b0m, b0l, b0n]
  obtain rfl := sI9 hm0
  exact b0q (by simp only [go_sem, lA9, mA9]) (b0a _)
 ·rw [b0v hc4] at hm0
  simp only [b0u, b0h, b0i]
  refine hK3 _ _ ?_
  refine b0t ?_
  refine b1v (fun t h => t 3 = .fp [.fs 4 (List.map b1i t_.Periods), I t_.Peak] 0 ∧ t 20 = B ((!(b04 (List.length t_.Periods : Int) 1 8)) || (!(b04 t_.Peak 0 1000)))) (fun K hK => ?_) ?_
  ·simp only [go_sem]
   refine b0r (b2t (List.length t_.Periods : Int) 1 8) ?_
   simp only [go_sem]
   refine b0g (fun hg5 => ?_) (fun hg5 => ?_)
   ·simp only [go_sem, hg5]
    exact hK _ _ ⟨(by first | (simp only [go_sem, hg5, lA9, mA9]; done) | rfl), (by first | (simp only [go_sem, hg5, lA9, mA9]; done) | rfl)⟩
   ·simp only [go_sem, hg5]
    refine b0r (b2t t_.Peak 0 1000) ?_
    simp only [go_sem, hg5]
    exact hK _ _ ⟨(by first | (simp only [go_sem, hg5, lA9, mA9]; done) | rfl), (by first | (simp only [go_sem, hg5, lA9, mA9]; done) | rfl)⟩
  ·rintro t h ⟨s3, s20⟩
   refine b0o fun K6 hK6 => ?_
   simp only [go_sem, s20]
   refine b0g (fun hc7 => ?_) (fun hc7 => ?_)
   ·rw [b0w hc7] at hm0
    refine b0d fun K hK => ?_
    simp only [go_sem]
    refine hK _ _ ?_
    clear hK K
    simp only [b0k, b0m, b0l, b0n]
    obtain rfl := sI9 hm0
    exact b0q (by simp only [go_sem, lA9, mA9]) (b0a _)
   ·rw [b0v hc7] at hm0
    simp only [b0u, b0h, b0i]
    refine hK6 _ _ ?_
    refine b0t ?_
    refine b0d fun K hK => ?_
    simp only [go_sem]
    refine hK _ _ ?_
    clear hK K
    refine b0o fun K8 hK8 => ?_
    have J9 : ∀ (t : Slots) (h : Heap), c4v = some r → K8 t h := by
     intro t h hm0
     refine hK8 _ _ ?_
     unfold c4v at hm0
     refine b0d fun K hK => ?_
     simp only [go_sem]
     refine hK _ _ ?_
     clear hK K
     simp only [b0k, b0m, b0l, b0n]
     obtain rfl := sI9 hm0
     exact b0q (by simp only [go_sem, lA9, mA9]) (b0a _)
    simp only [b1d]
    obtain ⟨b10, hl10, hm0⟩ := b0j hm0
    refine b2n hl10 (fun | i_5, t, h => t 3 = .fp [.fs 4 (List.map b1i t_.Periods), I t_.Peak] 0 ∧ t 5 = I i_5) ?_ ?_
    ·exact ⟨s3, (by first | (simp only [go_sem, lA9, mA9]; done) | rfl)⟩
    ·rintro i_5 o t h ⟨s3, s5⟩ hm1 hb10
     simp only [b6s] at hm1
     rw [d15]
     refine b0t ?_
     refine b0d fun K hK => ?_
     simp only [go_sem, s3, s5]
     refine hK _ _ ?_
     clear hK K
     refine b0o fun K11 hK11 => ?_
     simp only [go_sem]
     refine b0g (fun hc12 => ?_) (fun hc12 => ?_)
     ·rw [b0w hc12] at hm1
      simp only [b0u, b0h, b0i]
      refine hK11 _ _ ?_
      refine b0o fun K13 hK13 => ?_
      simp only [b1d]
      obtain ⟨x15, h_x15, hm1⟩ := b0j hm1
      have h_x150 := b1t h_x15
      have h_x151 := b14 h_x15
      refine b0d fun K hK => ?_
      simp only [go_sem, s3, s5, b09 h_x15, b1a h_x15, h_x150, h_x151]
      refine hK _ _ ?_
      clear hK K
      refine b1v (fun t h => t 3 = .fp [.fs 4 (List.map b1i t_.Periods), I t_.Peak] 0 ∧ t 5 = I i_5 ∧ t 63 = B (((((!(b04 x15.Lasts 1 1000)) || (!(b04 x15.Price 0 100))) || (decide (x15.Flow.Low < 0))) || (decide (x15.Flow.High < x15.Flow.Low))) || (decide (100 < x15.Flow.High)))) (fun K hK => ?_) ?_
      ·simp only [go_sem]
       refine b0r (b2t x15.Lasts 1 1000) ?_
       simp only [go_sem]
       refine b0g (fun hg16 => ?_) (fun hg16 => ?_)
       ·simp only [go_sem, hg16]
        exact hK _ _ ⟨s3, s5, (by first | (simp only [go_sem, hg16, lA9, mA9]; done) | rfl)⟩
       ·simp only [go_sem, hg16]
        refine b0r (b2t x15.Price 0 100) ?_
        simp only [go_sem, hg16]
        refine b0g (fun hg17 => ?_) (fun hg17 => ?_)
        ·simp only [go_sem, hg16, hg17]
         exact hK _ _ ⟨s3, s5, (by first | (simp only [go_sem, hg16, hg17, lA9, mA9]; done) | rfl)⟩
        ·simp only [go_sem, hg16, hg17]
         refine b0g (fun hg18 => ?_) (fun hg18 => ?_)
         ·simp only [go_sem, hg16, hg17, hg18]
          exact hK _ _ ⟨s3, s5, (by first | (simp only [go_sem, hg16, hg17, hg18, lA9, mA9]; done) | rfl)⟩
         ·simp only [go_sem, hg16, hg17, hg18]
          refine b0g (fun hg19 => ?_) (fun hg19 => ?_)
          ·simp only [go_sem, hg16, hg17, hg18, hg19]
           exact hK _ _ ⟨s3, s5, (by first | (simp only [go_sem, hg16, hg17, hg18, hg19, lA9, mA9]; done) | rfl)⟩
          ·simp only [go_sem, hg16, hg17, hg18, hg19]
           exact hK _ _ ⟨s3, s5, (by first | (simp only [go_sem, hg16, hg17, hg18, hg19, lA9, mA9]; done) | rfl)⟩
      ·rintro t h ⟨s3, s5, s63⟩
       simp only [go_sem, s63]
       refine b0g (fun hc20 => ?_) (fun hc20 => ?_)
       ·rw [b0w hc20] at hm1
        refine b0d fun K hK => ?_
        simp only [go_sem]
        refine hK _ _ ?_
        clear hK K
        simp only [b0k, b0m, b0l, b0n]
        obtain rfl := sI9 hm1
        obtain rfl := hb10 _ rfl
        try dsimp only at hm0
        obtain rfl := sI9 hm0
        exact b0q (by simp only [go_sem, lA9, mA9]) (b0a _)
       ·rw [b0v hc20] at hm1
        simp only [b0u, b0h, b0i]
        refine hK13 _ _ ?_
        refine b12 fun K hK => ?_
        simp only [go_sem, s5]
        refine hK _ _ ?_
        clear hK K
        simp only [b0h, b0i]
        obtain rfl := sI9 hm1
        refine ⟨_, rfl, ?_⟩
        exact ⟨s3, (by first | (simp only [go_sem, s5, lA9, mA9]; done) | rfl)⟩
     ·rw [b0v hc12] at hm1
      simp only [b2g, b2k, b2j, b2i, b0h, b0i, Nat.reduceEqDiff, nF9]
      obtain rfl := sI9 hm1
      obtain rfl := hb10 _ rfl
      try dsimp only at hm0
      exact J9  _ _  hm0
theorem c35 (hf : Has O "newel/newelref11.Pace" x_r11_Pace) : c1w O := by
 intro b pace r hm0
 unfold b8a at hm0
 refine b06 hf rfl (b0b (.agg _ (b0b (b0a _) (b0b (b0a _) (b0b (b0a _) (b0b (b0a _) (b0b (b0a _) (b0b (b0a _) (b0b (b02 fun a _ => b1f a) (b0b (b0a _) (b0b (b0a _) b0p)))))))))) (b0b (b0a _) b0p)) (b0a _) ?_
 refine b05 (fun t h => t 0 = .agg [B b.Up, I b.Pull, I b.Drag, I b.Body, I b.Ride, I b.Most, .fs 1 (List.map eI b.Paces), I b.Num, I b.Den] ∧ t 1 = I pace) ⟨rfl, rfl⟩ fun t h ⟨s0, s1⟩ => ?_
 simp only [x_r11_Pace]
 refine b0d fun K hK => ?_
 simp only [go_sem, s0]
 refine hK _ _ ?_
 clear hK K
 refine b0t ?_
 refine b0d fun K hK => ?_
 simp only [go_sem]
 refine hK _ _ ?_
 clear hK K
 refine b0o fun K1 hK1 => ?_
 have J2 : ∀ (t : Slots) (h : Heap), c4x = some r → K1 t h := by
  intro t h hm0
  refine hK1 _ _ ?_
  unfold c4x at hm0
  refine b0d fun K hK => ?_
  simp only [go_sem]
  refine hK _ _ ?_
  clear hK K
  simp only [b0k, b0m, b0l, b0n]
  obtain rfl := sI9 hm0
  exact b0q (by simp only [go_sem, lA9, mA9]) (b0a _)
 simp only [b1d]
 obtain ⟨b3, hl3, hm0⟩ := b0j hm0
 refine b2n hl3 (fun | i_5, t, h => t 1 = I pace ∧ t 2 = .fp [B b.Up, I b.Pull, I b.Drag, I b.Body, I b.Ride, I b.Most, .fs 1 (List.map eI b.Paces), I b.Num, I b.Den] 0 ∧ t 5 = I i_5) ?_ ?_
 ·exact ⟨s1, (by first | (simp only [go_sem, lA9, mA9]; done) | rfl), (by first | (simp only [go_sem, lA9, mA9]; done) | rfl)⟩
 ·rintro i_5 o t h ⟨s1, s2, s5⟩ hm1 hb3
  simp only [b6u] at hm1
  rw [d17]
  refine b0t ?_
  refine b0d fun K hK => ?_
  simp only [go_sem, s2, s5]
  refine hK _ _ ?_
  clear hK K
  refine b0o fun K4 hK4 => ?_
  simp only [go_sem]
  refine b0g (fun hc5 => ?_) (fun hc5 => ?_)
  ·rw [b0w hc5] at hm1
   simp only [b0u, b0h, b0i]
   refine hK4 _ _ ?_
   refine b0o fun K6 hK6 => ?_
   simp only [b1d]
   obtain ⟨x8, h_x8, hm1⟩ := b0j hm1
   have h_x80 := b1t h_x8
   have h_x81 := b14 h_x8
   refine b0d fun K hK => ?_
   simp only [go_sem, s1, s2, s5, b09 h_x8, b1a h_x8, h_x80, h_x81]
   refine hK _ _ ?_
   clear hK K
   simp only [go_sem]
   refine b0g (fun hc9 => ?_) (fun hc9 => ?_)
   ·rw [b0w hc9] at hm1
    refine b0d fun K hK => ?_
    simp only [go_sem]
    refine hK _ _ ?_
    clear hK K
    simp only [b0k, b0m, b0l, b0n]
    obtain rfl := sI9 hm1
    obtain rfl := hb3 _ rfl
    try dsimp only at hm0
    obtain rfl := sI9 hm0
    exact b0q (by simp only [go_sem, lA9, mA9]) (b0a _)
   ·rw [b0v hc9] at hm1
    simp only [b0u, b0h, b0i]
    refine hK6 _ _ ?_
    refine b12 fun K hK => ?_
    simp only [go_sem, s5]
    refine hK _ _ ?_
    clear hK K
    simp only [b0h, b0i]
    obtain rfl := sI9 hm1
    refine ⟨_, rfl, ?_⟩
    exact ⟨s1, s2, (by first | (simp only [go_sem, s5, lA9, mA9]; done) | rfl)⟩
  ·rw [b0v hc5] at hm1
   simp only [b2g, b2k, b2j, b2i, b0h, b0i, Nat.reduceEqDiff, nF9]
   obtain rfl := sI9 hm1
   obtain rfl := hb3 _ rfl
   try dsimp only at hm0
   exact J2  _ _  hm0
theorem b2t (hf : Has O "newel/newelref11.within" x_r11_within) : b8t O := by
 intro n low high
 generalize hm0 : b04 n low high = r
 unfold b04 at hm0
 refine b06 hf rfl (b0b (b0a _) (b0b (b0a _) (b0b (b0a _) b0p))) (b0a _) ?_
 refine b05 (fun t h => t 0 = I n ∧ t 1 = I low ∧ t 2 = I high) ⟨rfl, rfl, rfl⟩ fun t h ⟨s0, s1, s2⟩ => ?_
 simp only [x_r11_within]
 refine b0d fun K hK => ?_
 simp only [go_sem]
 refine hK _ _ ?_
 clear hK K
 refine b1v (fun t h => t 6 = B ((decide (low ≤ n)) && (decide (n ≤ high)))) (fun K hK => ?_) ?_
 ·simp only [go_sem, s0, s1, s2]
  refine b0g (fun hg1 => ?_) (fun hg1 => ?_)
  ·simp only [go_sem, s0, s1, s2, hg1]
   exact hK _ _ (by first | (simp only [go_sem, hg1, lA9, mA9]; done) | rfl)
  ·simp only [go_sem, s0, s1, s2, hg1]
   exact hK _ _ (by first | (simp only [go_sem, hg1, lA9, mA9]; done) | rfl)
 ·rintro t h s6
  simp only [b0k, b0m, b0l, b0n]
  obtain rfl := hm0
  exact b0q (by simp only [go_sem, s6, lA9, mA9]) (b0a _)
theorem c36 (hf : Has O "slices.Compare[[]int,int]" x_slices_Compare___int_int_) (c3h : c04 O) : c1x O := by
 intro s1_ s2_ r hm0
 unfold b8j at hm0
 refine b06 hf rfl (b0b (b02 fun a _ => b1f a) (b0b (b02 fun a _ => b1f a) b0p)) (b0a _) ?_
 refine b05 (fun t h => t 0 = .fs 1 (List.map eI s1_) ∧ t 1 = .fs 1 (List.map eI s2_)) ⟨rfl, rfl⟩ fun t h ⟨s0, s1⟩ => ?_
 simp only [x_slices_Compare___int_int_]
 refine b0d fun K hK => ?_
 simp only [go_sem]
 refine hK _ _ ?_
 clear hK K
 refine b0t ?_
 refine b0d fun K hK => ?_
 simp only [go_sem, s0]
 refine hK _ _ ?_
 clear hK K
 refine b0o fun K1 hK1 => ?_
 have J2 : ∀ (t : Slots) (h : Heap), t 0 = .fs 1 (List.map eI s1_) → t 1 = .fs 1 (List.map eI s2_) → c0v s1_ s2_ = some r → K1 t h := by
  intro t h s0 s1 hm0
  refine hK1 _ _ ?_
  unfold c0v at hm0
  refine b0t ?_
  refine b0d fun K hK => ?_
  simp only [go_sem, s0, s1]
  refine hK _ _ ?_
  clear hK K
  refine b0o fun K3 hK3 => ?_
  simp only [go_sem]
  refine b0g (fun hc4 => ?_) (fun hc4 => ?_)
  ·rw [b0w hc4] at hm0
   refine b0d fun K hK => ?_
   simp only [go_sem]
   refine hK _ _ ?_
   clear hK K
   simp only [b0k, b0m, b0l, b0n]
   obtain rfl := sI9 hm0
   exact b0q (by simp only [go_sem, lA9, mA9]) (b0a _)
  ·rw [b0v hc4] at hm0
   simp only [b0u, b0h, b0i]
   refine hK3 _ _ ?_
   refine b0d fun K hK => ?_
   simp only [go_sem]
   refine hK _ _ ?_
   clear hK K
   simp only [b0k, b0m, b0l, b0n]
   obtain rfl := sI9 hm0
   exact b0q (by simp only [go_sem, lA9, mA9]) (b0a _)
 simp only [b1d]
 obtain ⟨b5, hl5, hm0⟩ := b0j hm0
 refine b2n hl5 (fun | x_11, t, h => t 0 = .fs 1 (List.map eI s1_) ∧ t 1 = .fs 1 (List.map eI s2_) ∧ t 9 = .fs 1 (List.map eI s1_) ∧ t 10 = I (List.length s1_ : Int) ∧ t 11 = I x_11) ?_ ?_
 ·exact ⟨s0, s1, (by first | (simp only [go_sem, lA9, mA9]; done) | rfl), (by first | (simp only [go_sem, lA9, mA9]; done) | rfl), (by first | (simp only [go_sem, lA9, mA9]; done) | rfl)⟩
 ·rintro x_11 o t h ⟨s0, s1, s9, s10, s11⟩ hm1 hb5
  simp only [b6x] at hm1
  rw [d18]
  refine b0d fun K hK => ?_
  simp only [go_sem, s10, s11]
  refine hK _ _ ?_
  clear hK K
  refine b0o fun K6 hK6 => ?_
  simp only [go_sem]
  refine b0g (fun hc7 => ?_) (fun hc7 => ?_)
  ·rw [b0w hc7] at hm1
   simp only [b0u, b0h, b0i]
   refine hK6 _ _ ?_
   refine b0o fun K8 hK8 => ?_
   simp only [b1d]
   obtain ⟨x10, h_x10, hm1⟩ := b0j hm1
   have h_x100 := b1t h_x10
   have h_x101 := b14 h_x10
   refine b0d fun K hK => ?_
   simp only [go_sem, s9, s11, b09 h_x10, b1a h_x10, h_x100, h_x101]
   refine hK _ _ ?_
   clear hK K
   refine b0t ?_
   refine b0d fun K hK => ?_
   simp only [go_sem, s1]
   refine hK _ _ ?_
   clear hK K
   refine b0o fun K11 hK11 => ?_
   simp only [go_sem]
   refine b0g (fun hc12 => ?_) (fun hc12 => ?_)
   ·rw [b0w hc12] at hm1
    refine b0d fun K hK => ?_
    simp only [go_sem]
    refine hK _ _ ?_
    clear hK K
    simp only [b0k, b0m, b0l, b0n]
    obtain rfl := sI9 hm1
    obtain rfl := hb5 _ rfl
    try dsimp only at hm0
    obtain rfl := sI9 hm0
    exact b0q (by simp only [go_sem, lA9, mA9]) (b0a _)
   ·rw [b0v hc12] at hm1
    simp only [b0u, b0h, b0i]
    refine hK11 _ _ ?_
    obtain ⟨x14, h_x14, hm1⟩ := b0j hm1
    have h_x140 := b1t h_x14
    have h_x141 := b14 h_x14
    refine b0d fun K hK => ?_
    simp only [go_sem, s1, b09 h_x14, b1a h_x14, h_x140, h_x141]
    refine hK _ _ ?_
    clear hK K
    refine b0d fun K hK => ?_
    simp only [go_sem]
    refine b0r (c3h x10 x14) ?_
    simp only [go_sem]
    refine hK _ _ ?_
    clear hK K
    refine b0d fun K hK => ?_
    simp only [go_sem]
    refine hK _ _ ?_
    clear hK K
    simp only [go_sem]
    refine b0g (fun hc15 => ?_) (fun hc15 => ?_)
    ·rw [b0w hc15] at hm1
     refine b0d fun K hK => ?_
     simp only [go_sem]
     refine hK _ _ ?_
     clear hK K
     simp only [b0k, b0m, b0l, b0n]
     obtain rfl := sI9 hm1
     obtain rfl := hb5 _ rfl
     try dsimp only at hm0
     obtain rfl := sI9 hm0
     exact b0q (by simp only [go_sem, lA9, mA9]) (b0a _)
    ·rw [b0v hc15] at hm1
     simp only [b0u, b0h, b0i]
     refine hK8 _ _ ?_
     refine b12 fun K hK => ?_
     simp only [go_sem, s11]
     refine hK _ _ ?_
     clear hK K
     simp only [b0h, b0i]
     obtain rfl := sI9 hm1
     refine ⟨_, rfl, ?_⟩
     exact ⟨s0, s1, s9, s10, (by first | (simp only [go_sem, s11, lA9, mA9]; done) | rfl)⟩
  ·rw [b0v hc7] at hm1
   simp only [b2g, b2k, b2j, b2i, b0h, b0i, Nat.reduceEqDiff, nF9]
   obtain rfl := sI9 hm1
   obtain rfl := hb5 _ rfl
   try dsimp only at hm0
   exact J2  _ _ s0 s1 hm0
theorem c37 (hf : Has O "slices.ContainsFunc[[]int,int]" x_slices_ContainsFunc___int_int_) (c38 : c1z O) : c1y O := by
 intro s f_n f_a f_b f f_z f_h r hm0
 unfold c0w at hm0
 refine b06 hf rfl (b0b (b02 fun a _ => b1f a) (b0b f_z b0p)) (b0a _) ?_
 refine b05 (fun t h => t 0 = .fs 1 (List.map eI s) ∧ t 1 = .fn f_n f_a f_b) ⟨rfl, rfl⟩ fun t h ⟨s0, s1⟩ => ?_
 simp only [x_slices_ContainsFunc___int_int_]
 refine b0d fun K hK => ?_
 simp only [go_sem]
 refine hK _ _ ?_
 clear hK K
 obtain ⟨y2, h_y2, hm0⟩ := b0j hm0
 refine b0d fun K hK => ?_
 simp only [go_sem, s0, s1]
 refine b0r (c38 s f_n f_a f_b f f_z f_h _ h_y2) ?_
 simp only [go_sem, s0, s1]
 refine hK _ _ ?_
 clear hK K
 simp only [b0k, b0m, b0l, b0n]
 obtain rfl := sI9 hm0
 exact b0q (by simp only [go_sem, lA9, mA9]) (b0a _)
theorem b7w (hf : Has O "slices.Contains[[]int,int]" x_slices_Contains___int_int_) (c39 : c11 O) : b8u O := by
 intro s v r hm0
 unfold b5r at hm0
 refine b06 hf rfl (b0b (b02 fun a _ => b1f a) (b0b (b0a _) b0p)) (b0a _) ?_
 refine b05 (fun t h => t 0 = .fs 1 (List.map eI s) ∧ t 1 = I v) ⟨rfl, rfl⟩ fun t h ⟨s0, s1⟩ => ?_
 simp only [x_slices_Contains___int_int_]
 refine b0d fun K hK => ?_
 simp only [go_sem]
 refine hK _ _ ?_
 clear hK K
 obtain ⟨y2, h_y2, hm0⟩ := b0j hm0
 refine b0d fun K hK => ?_
 simp only [go_sem, s0, s1]
 refine b0r (c39 s v _ h_y2) ?_
 simp only [go_sem, s0, s1]
 refine hK _ _ ?_
 clear hK K
 simp only [b0k, b0m, b0l, b0n]
 obtain rfl := sI9 hm0
 exact b0q (by simp only [go_sem, lA9, mA9]) (b0a _)
theorem c38 (hf : Has O "slices.IndexFunc[[]int,int]" x_slices_IndexFunc___int_int_) : c1z O := by
 intro s f_n f_a f_b f f_z f_h r hm0
 unfold c47 at hm0
 refine b06 hf rfl (b0b (b02 fun a _ => b1f a) (b0b f_z b0p)) (b0a _) ?_
 refine b05 (fun t h => t 0 = .fs 1 (List.map eI s) ∧ t 1 = .fn f_n f_a f_b) ⟨rfl, rfl⟩ fun t h ⟨s0, s1⟩ => ?_
 simp only [x_slices_IndexFunc___int_int_]
 refine b0d fun K hK => ?_
 simp only [go_sem]
 refine hK _ _ ?_
 clear hK K
 refine b0t ?_
 refine b0d fun K hK => ?_
 simp only [go_sem, s0]
 refine hK _ _ ?_
 clear hK K
 refine b0o fun K1 hK1 => ?_
 have J2 : ∀ (t : Slots) (h : Heap), c48 = some r → K1 t h := by
  intro t h hm0
  refine hK1 _ _ ?_
  unfold c48 at hm0
  refine b0d fun K hK => ?_
  simp only [go_sem]
  refine hK _ _ ?_
  clear hK K
  simp only [b0k, b0m, b0l, b0n]
  obtain rfl := sI9 hm0
  exact b0q (by simp only [go_sem, lA9, mA9]) (b0a _)
 simp only [b1d]
 obtain ⟨b3, hl3, hm0⟩ := b0j hm0
 refine b2n hl3 (fun | x_8, t, h => t 0 = .fs 1 (List.map eI s) ∧ t 1 = .fn f_n f_a f_b ∧ t 7 = I (List.length s : Int) ∧ t 8 = I x_8) ?_ ?_
 ·exact ⟨s0, s1, (by first | (simp only [go_sem, lA9, mA9]; done) | rfl), (by first | (simp only [go_sem, lA9, mA9]; done) | rfl)⟩
 ·rintro x_8 o t h ⟨s0, s1, s7, s8⟩ hm1 hb3
  simp only [d1e] at hm1
  rw [d19]
  refine b0d fun K hK => ?_
  simp only [go_sem, s7, s8]
  refine hK _ _ ?_
  clear hK K
  refine b0o fun K4 hK4 => ?_
  simp only [go_sem]
  refine b0g (fun hc5 => ?_) (fun hc5 => ?_)
  ·rw [b0w hc5] at hm1
   simp only [b0u, b0h, b0i]
   refine hK4 _ _ ?_
   refine b0o fun K6 hK6 => ?_
   simp only [b1d]
   refine b0d fun K hK => ?_
   simp only [go_sem, s8]
   refine hK _ _ ?_
   clear hK K
   obtain ⟨x9, h_x9, hm1⟩ := b0j hm1
   have h_x90 := b1t h_x9
   have h_x91 := b14 h_x9
   obtain ⟨y10, h_y10, hm1⟩ := b0j hm1
   refine b0d fun K hK => ?_
   simp only [go_sem, s0, s1, b09 h_x9, b1a h_x9, h_x90, h_x91]
   refine d95 (f_h x9 _ h_y10) ?_
   simp only [go_sem, s0, s1, b09 h_x9, b1a h_x9, h_x90, h_x91]
   refine hK _ _ ?_
   clear hK K
   simp only [go_sem]
   refine b0g (fun hc11 => ?_) (fun hc11 => ?_)
   ·rw [b0w hc11] at hm1
    refine b0d fun K hK => ?_
    simp only [go_sem]
    refine hK _ _ ?_
    clear hK K
    simp only [b0k, b0m, b0l, b0n]
    obtain rfl := sI9 hm1
    obtain rfl := hb3 _ rfl
    try dsimp only at hm0
    obtain rfl := sI9 hm0
    exact b0q (by simp only [go_sem, lA9, mA9]) (b0a _)
   ·rw [b0v hc11] at hm1
    simp only [b0u, b0h, b0i]
    refine hK6 _ _ ?_
    refine b12 fun K hK => ?_
    simp only [go_sem, s8]
    refine hK _ _ ?_
    clear hK K
    simp only [b0h, b0i]
    obtain rfl := sI9 hm1
    refine ⟨_, rfl, ?_⟩
    exact ⟨s0, s1, s7, (by first | (simp only [go_sem, s8, lA9, mA9]; done) | rfl)⟩
  ·rw [b0v hc5] at hm1
   simp only [b2g, b2k, b2j, b2i, b0h, b0i, Nat.reduceEqDiff, nF9]
   obtain rfl := sI9 hm1
   obtain rfl := hb3 _ rfl
   try dsimp only at hm0
   exact J2  _ _  hm0
theorem c39 (hf : Has O "slices.Index[[]int,int]" x_slices_Index___int_int_) : c11 O := by
 intro s v r hm0
 unfold c0x at hm0
 refine b06 hf rfl (b0b (b02 fun a _ => b1f a) (b0b (b0a _) b0p)) (b0a _) ?_
 refine b05 (fun t h => t 0 = .fs 1 (List.map eI s) ∧ t 1 = I v) ⟨rfl, rfl⟩ fun t h ⟨s0, s1⟩ => ?_
 simp only [x_slices_Index___int_int_]
 refine b0d fun K hK => ?_
 simp only [go_sem]
 refine hK _ _ ?_
 clear hK K
 refine b0t ?_
 refine b0d fun K hK => ?_
 simp only [go_sem, s0]
 refine hK _ _ ?_
 clear hK K
 refine b0o fun K1 hK1 => ?_
 have J2 : ∀ (t : Slots) (h : Heap), c49 = some r → K1 t h := by
  intro t h hm0
  refine hK1 _ _ ?_
  unfold c49 at hm0
  refine b0d fun K hK => ?_
  simp only [go_sem]
  refine hK _ _ ?_
  clear hK K
  simp only [b0k, b0m, b0l, b0n]
  obtain rfl := sI9 hm0
  exact b0q (by simp only [go_sem, lA9, mA9]) (b0a _)
 simp only [b1d]
 obtain ⟨b3, hl3, hm0⟩ := b0j hm0
 refine b2n hl3 (fun | x_8, t, h => t 0 = .fs 1 (List.map eI s) ∧ t 1 = I v ∧ t 7 = I (List.length s : Int) ∧ t 8 = I x_8) ?_ ?_
 ·exact ⟨s0, s1, (by first | (simp only [go_sem, lA9, mA9]; done) | rfl), (by first | (simp only [go_sem, lA9, mA9]; done) | rfl)⟩
 ·rintro x_8 o t h ⟨s0, s1, s7, s8⟩ hm1 hb3
  simp only [c0y] at hm1
  rw [d2a]
  refine b0d fun K hK => ?_
  simp only [go_sem, s7, s8]
  refine hK _ _ ?_
  clear hK K
  refine b0o fun K4 hK4 => ?_
  simp only [go_sem]
  refine b0g (fun hc5 => ?_) (fun hc5 => ?_)
  ·rw [b0w hc5] at hm1
   simp only [b0u, b0h, b0i]
   refine hK4 _ _ ?_
   refine b0o fun K6 hK6 => ?_
   simp only [b1d]
   refine b0d fun K hK => ?_
   simp only [go_sem, s8]
   refine hK _ _ ?_
   clear hK K
   obtain ⟨x8, h_x8, hm1⟩ := b0j hm1
   have h_x80 := b1t h_x8
   have h_x81 := b14 h_x8
   refine b0d fun K hK => ?_
   simp only [go_sem, s0, s1, b09 h_x8, b1a h_x8, h_x80, h_x81]
   refine hK _ _ ?_
   clear hK K
   simp only [go_sem]
   refine b0g (fun hc9 => ?_) (fun hc9 => ?_)
   ·rw [b0w hc9] at hm1
    refine b0d fun K hK => ?_
    simp only [go_sem]
    refine hK _ _ ?_
    clear hK K
    simp only [b0k, b0m, b0l, b0n]
    obtain rfl := sI9 hm1
    obtain rfl := hb3 _ rfl
    try dsimp only at hm0
    obtain rfl := sI9 hm0
    exact b0q (by simp only [go_sem, lA9, mA9]) (b0a _)
   ·rw [b0v hc9] at hm1
    simp only [b0u, b0h, b0i]
    refine hK6 _ _ ?_
    refine b12 fun K hK => ?_
    simp only [go_sem, s8]
    refine hK _ _ ?_
    clear hK K
    simp only [b0h, b0i]
    obtain rfl := sI9 hm1
    refine ⟨_, rfl, ?_⟩
    exact ⟨s0, s1, s7, (by first | (simp only [go_sem, s8, lA9, mA9]; done) | rfl)⟩
  ·rw [b0v hc5] at hm1
   simp only [b2g, b2k, b2j, b2i, b0h, b0i, Nat.reduceEqDiff, nF9]
   obtain rfl := sI9 hm1
   obtain rfl := hb3 _ rfl
   try dsimp only at hm0
   exact J2  _ _  hm0
end Go.Nw.TM
