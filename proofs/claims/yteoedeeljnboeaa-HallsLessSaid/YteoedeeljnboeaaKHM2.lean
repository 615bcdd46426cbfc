/- That the texts make what their models say: printed by a program. -/
import Derived.Test.YteoedeeljnboeaaHM
set_option linter.all false
namespace Go.Nw.HM
open Go.Nw.Halls
set_option maxHeartbeats 4000000
variable {O : Orac} [MapsOk O]
theorem G30 (hf : Has O "newel/newelref06.Check" x_r06_Check) (E7c : G17 O) (E9f : G16 O) : G15 O := by
 intro h_ r hm0;unfold E64 at hm0;refine b1i hf rfl (b0a (.agg _ (b0a (b0c fun a _ => c62 a) (b0a (b0c fun a _ => c19 a) (b0a (b0c fun a _ => c69 a) (b0a (b0e _) b0j))))) b0j) (b0e _) ?_;refine b1c (fun t h => t 0 = .agg [.fs 5 (List.map b15 h_.Combs), .fs 3 (List.map b11 h_.Trains), .fs 3 (List.map b20 h_.Shifts), I h_.Until]) rfl fun t h s0 => ?_;simp only [x_r06_Check];apply b0b;intro K hK;simp only [go_sem, s0];apply hK;refine b0v ?_;refine b2p (fun t h => t 1 = .fp [.fs 5 (List.map b15 h_.Combs), .fs 3 (List.map b11 h_.Trains), .fs 3 (List.map b20 h_.Shifts), I h_.Until] 0 /\ t 34 = B ((((!(s30 h_.Until 1 100)) || (!(s30 (List.length h_.Combs : Int) 1 8))) || (decide (12 < (List.length h_.Trains : Int)))) || (decide (20 < (List.length h_.Shifts : Int))))) (fun K hK => ?_) ?_
 ·simp only [go_sem];refine b01 (E7c h_.Until 1 100) ?_;simp only [go_sem];refine b0k (fun hg1 => ?_) (fun hg1 => ?_)
  ·simp only [go_sem, hg1];exact hK _ _ ⟨(by first | (simp only [go_sem, hg1, lA9, mA9]; done) | rfl), (by first | (simp only [go_sem, hg1, lA9, mA9]; done) | rfl)⟩
  ·simp only [go_sem, hg1];refine b01 (E7c (List.length h_.Combs : Int) 1 8) ?_;simp only [go_sem, hg1];refine b0k (fun hg2 => ?_) (fun hg2 => ?_)
   ·simp only [go_sem, hg1, hg2];exact hK _ _ ⟨(by first | (simp only [go_sem, hg1, hg2, lA9, mA9]; done) | rfl), (by first | (simp only [go_sem, hg1, hg2, lA9, mA9]; done) | rfl)⟩
   ·simp only [go_sem, hg1, hg2];refine b0k (fun hg3 => ?_) (fun hg3 => ?_)
    ·simp only [go_sem, hg1, hg2, hg3];exact hK _ _ ⟨(by first | (simp only [go_sem, hg1, hg2, hg3, lA9, mA9]; done) | rfl), (by first | (simp only [go_sem, hg1, hg2, hg3, lA9, mA9]; done) | rfl)⟩
    ·simp only [go_sem, hg1, hg2, hg3];exact hK _ _ ⟨(by first | (simp only [go_sem, hg1, hg2, hg3, lA9, mA9]; done) | rfl), (by first | (simp only [go_sem, hg1, hg2, hg3, lA9, mA9]; done) | rfl)⟩
 ·rintro t h ⟨s1, s34⟩;refine b0i fun K4 hK4 => ?_;simp only [go_sem, s34];refine b0k (fun hc5 => ?_) (fun hc5 => ?_)
  ·rw [b0r hc5] at hm0;apply b0b;intro K hK;simp only [go_sem];apply hK;simp only [b0x, b1p, b2e, b0y];obtain rfl := sI9 hm0;exact b04 vc9 (b0e _)
  ·rw [b0q hc5] at hm0;simp only [b0s, b02, b0f];refine hK4 _ _ ?_;apply b0b;intro K hK;simp only [go_sem, s1];apply hK;refine b0v ?_;apply b0b;intro K hK;simp only [go_sem];apply hK;refine b0i fun K6 hK6 => ?_
   have J7 : ∀ (t : Slots) (h : Heap), t 1 = .fp [.fs 5 (List.map b15 h_.Combs), .fs 3 (List.map b11 h_.Trains), .fs 3 (List.map b20 h_.Shifts), I h_.Until] 0 -> t 3 = I (List.length h_.Combs : Int) -> G1k h_ = some r -> K6 t h := by
    intro t h s1 s3 hm0;refine hK6 _ _ ?_;unfold G1k at hm0;refine b0v ?_;apply b0b;intro K hK;simp only [go_sem];apply hK;refine b0i fun K8 hK8 => ?_
    have J9 : ∀ (t : Slots) (h : Heap), t 1 = .fp [.fs 5 (List.map b15 h_.Combs), .fs 3 (List.map b11 h_.Trains), .fs 3 (List.map b20 h_.Shifts), I h_.Until] 0 -> t 3 = I (List.length h_.Combs : Int) -> G1l h_ = some r -> K8 t h := by
     intro t h s1 s3 hm0;refine hK8 _ _ ?_;unfold G1l at hm0;refine b0v ?_;apply b0b;intro K hK;simp only [go_sem];apply hK;refine b0i fun K10 hK10 => ?_
     have J11 : ∀ (t : Slots) (h : Heap), G39 = some r -> K10 t h := by
      intro t h hm0;refine hK10 _ _ ?_;unfold G39 at hm0;apply b0b;intro K hK;simp only [go_sem];apply hK;simp only [b0x, b1p, b2e, b0y];obtain rfl := sI9 hm0;exact b04 vc9 (b0e _)
     simp only [b0u];obtain ⟨b12, hl12, hm0⟩ := b0g hm0;refine b1j hl12 (fun | i_10, t, h => t 1 = .fp [.fs 5 (List.map b15 h_.Combs), .fs 3 (List.map b11 h_.Trains), .fs 3 (List.map b20 h_.Shifts), I h_.Until] 0 /\ t 3 = I (List.length h_.Combs : Int) /\ t 10 = I i_10) ?_ ?_
     ·exact ⟨s1, s3, vb9⟩
     ·rintro i_10 o t h ⟨s1, s3, s10⟩ hm1 hb12;simp only [E9m] at hm1;rw [G72];refine b0v ?_;apply b0b;intro K hK;simp only [go_sem, s1, s10];apply hK;refine b0i fun K13 hK13 => ?_;simp only [go_sem];refine b0k (fun hc14 => ?_) (fun hc14 => ?_)
      ·rw [b0r hc14] at hm1;simp only [b0s, b02, b0f];refine hK13 _ _ ?_;refine b0i fun K15 hK15 => ?_;simp only [b0u];obtain ⟨x17, h_x17, hm1⟩ := b0g hm1;have h_x170 := b05 h_x17;have h_x171 := b06 h_x17;apply b0b;intro K hK;simp only [go_sem, s1, s10, b08 h_x17, b3n h_x17, h_x170, h_x171];apply hK;obtain ⟨c23, h_c23, hm1⟩ := b0g hm1;refine b2p (fun t h => t 1 = .fp [.fs 5 (List.map b15 h_.Combs), .fs 3 (List.map b11 h_.Trains), .fs 3 (List.map b20 h_.Shifts), I h_.Until] 0 /\ t 3 = I (List.length h_.Combs : Int) /\ t 10 = I i_10 /\ t 187 = B c23) (fun K hK => ?_) ?_
       ·simp only [go_sem, s1, s3, s10];refine b01 (E7c x17.At 0 (wr (h_.Until - 1))) ?_;simp only [go_sem, s1, s3, s10];refine b0k (fun hg24 => ?_) (fun hg24 => ?_)
        ·simp only [hg24, Bool.not_true, Bool.not_false, eq_self, if_true, if_false, Bool.true_or, Bool.or_true, Bool.false_or, Bool.or_false, Bool.true_and, Bool.and_true, Bool.false_and, Bool.and_false, fT9] at h_c23;obtain rfl := sI9 h_c23;simp only [go_sem, s1, s3, s10, hg24];exact hK _ _ ⟨s1, s3, s10, (by first | (simp only [go_sem, hg24, lA9, mA9]; done) | rfl)⟩
        ·simp only [go_sem, s1, s3, s10, hg24];refine b01 (E7c x17.Comb 0 (wr ((List.length h_.Combs : Int) - 1))) ?_;simp only [go_sem, s1, s3, s10, hg24];refine b0k (fun hg25 => ?_) (fun hg25 => ?_)
         ·simp only [hg24, hg25, Bool.not_true, Bool.not_false, eq_self, if_true, if_false, Bool.true_or, Bool.or_true, Bool.false_or, Bool.or_false, Bool.true_and, Bool.and_true, Bool.false_and, Bool.and_false, fT9] at h_c23;obtain rfl := sI9 h_c23;simp only [go_sem, s1, s3, s10, hg24, hg25];exact hK _ _ ⟨s1, s3, s10, (by first | (simp only [go_sem, hg24, hg25, lA9, mA9]; done) | rfl)⟩
         ·simp only [go_sem, s1, s3, s10, hg24, hg25];refine b01 (E7c x17.Rate 0 1000) ?_;simp only [go_sem, s1, s3, s10, hg24, hg25];refine b0k (fun hg26 => ?_) (fun hg26 => ?_)
          ·simp only [hg24, hg25, hg26, Bool.not_true, Bool.not_false, eq_self, if_true, if_false, Bool.true_or, Bool.or_true, Bool.false_or, Bool.or_false, Bool.true_and, Bool.and_true, Bool.false_and, Bool.and_false, fT9] at h_c23;obtain rfl := sI9 h_c23;simp only [go_sem, s1, s3, s10, hg24, hg25, hg26];exact hK _ _ ⟨s1, s3, s10, (by first | (simp only [go_sem, hg24, hg25, hg26, lA9, mA9]; done) | rfl)⟩
          ·simp only [hg24, hg25, hg26, Bool.not_true, Bool.not_false, eq_self, if_true, if_false, Bool.true_or, Bool.or_true, Bool.false_or, Bool.or_false, Bool.true_and, Bool.and_true, Bool.false_and, Bool.and_false, fT9] at h_c23;obtain ⟨c22, h_c22, h_c23⟩ := b0g h_c23;obtain rfl := sI9 h_c23;simp only [go_sem, s1, s3, s10, hg24, hg25, hg26];refine b0k (fun hg27 => ?_) (fun hg27 => ?_)
           ·simp only [hg24, hg25, hg26, hg27, Bool.not_true, Bool.not_false, eq_self, if_true, if_false, Bool.true_or, Bool.or_true, Bool.false_or, Bool.or_false, Bool.true_and, Bool.and_true, Bool.false_and, Bool.and_false, fT9] at h_c22;obtain ⟨x21, h_x21, h_c22⟩ := b0g h_c22;have h_x210 := b05 h_x21;have h_x211 := b06 h_x21;obtain rfl := sI9 h_c22;simp only [go_sem, s1, s3, s10, b08 h_x21, b3n h_x21, h_x210, h_x211, hg24, hg25, hg26, hg27];exact hK _ _ ⟨s1, s3, s10, (by first | (simp only [go_sem, hg24, hg25, hg26, hg27, lA9, mA9]; done) | rfl)⟩
           ·simp only [hg24, hg25, hg26, hg27, Bool.not_true, Bool.not_false, eq_self, if_true, if_false, Bool.true_or, Bool.or_true, Bool.false_or, Bool.or_false, Bool.true_and, Bool.and_true, Bool.false_and, Bool.and_false, fT9] at h_c22;obtain rfl := sI9 h_c22;simp only [go_sem, s1, s3, s10, hg24, hg25, hg26, hg27];exact hK _ _ ⟨s1, s3, s10, (by first | (simp only [go_sem, hg24, hg25, hg26, hg27, lA9, mA9]; done) | rfl)⟩
       ·rintro t h ⟨s1, s3, s10, s187⟩;simp only [go_sem, s187];refine b0k (fun hc28 => ?_) (fun hc28 => ?_)
        ·rw [b0r hc28] at hm1;apply b0b;intro K hK;simp only [go_sem];apply hK;simp only [b0x, b1p, b2e, b0y];obtain rfl := sI9 hm1;obtain rfl := hb12 _ rfl
         try dsimp only at hm0
         obtain rfl := sI9 hm0;exact b04 vc9 (b0e _)
        ·rw [b0q hc28] at hm1;simp only [b0s, b02, b0f];refine hK15 _ _ ?_;apply b03;intro K hK;simp only [go_sem, s10];apply hK;simp only [b02, b0f];obtain rfl := sI9 hm1;refine ⟨_, rfl, ?_⟩;exact ⟨s1, s3, (by first | (simp only [go_sem, s10, lA9, mA9]; done) | rfl)⟩
      ·rw [b0q hc14] at hm1;simp only [b09, b1b, b1a, c0s, b02, b0f, Nat.reduceEqDiff, nF9];obtain rfl := sI9 hm1;obtain rfl := hb12 _ rfl
       try dsimp only at hm0
       exact J11  _ _  hm0
    simp only [b0u];obtain ⟨b30, hl30, hm0⟩ := b0g hm0;refine b1j hl30 (fun | i_6, t, h => t 1 = .fp [.fs 5 (List.map b15 h_.Combs), .fs 3 (List.map b11 h_.Trains), .fs 3 (List.map b20 h_.Shifts), I h_.Until] 0 /\ t 3 = I (List.length h_.Combs : Int) /\ t 6 = I i_6) ?_ ?_
    ·exact ⟨s1, s3, vb9⟩
    ·rintro i_6 o t h ⟨s1, s3, s6⟩ hm1 hb30;simp only [E9l] at hm1;rw [G71];refine b0v ?_;apply b0b;intro K hK;simp only [go_sem, s1, s6];apply hK;refine b0i fun K31 hK31 => ?_;simp only [go_sem];refine b0k (fun hc32 => ?_) (fun hc32 => ?_)
     ·rw [b0r hc32] at hm1;simp only [b0s, b02, b0f];refine hK31 _ _ ?_;refine b0i fun K33 hK33 => ?_
      have J34 : ∀ (t : Slots) (h : Heap), t 1 = .fp [.fs 5 (List.map b15 h_.Combs), .fs 3 (List.map b11 h_.Trains), .fs 3 (List.map b20 h_.Shifts), I h_.Until] 0 -> t 3 = I (List.length h_.Combs : Int) -> t 6 = I i_6 -> G1j i_6 = some o -> K33 t h := by
       intro t h s1 s3 s6 hm1;refine hK33 _ _ ?_;unfold G1j at hm1;apply b03;intro K hK;simp only [go_sem, s6];apply hK;simp only [b02, b0f];obtain rfl := sI9 hm1;refine ⟨_, rfl, ?_⟩;exact ⟨s1, s3, (by first | (simp only [go_sem, s6, lA9, mA9]; done) | rfl)⟩
      simp only [b0u];obtain ⟨x36, h_x36, hm1⟩ := b0g hm1;have h_x360 := b05 h_x36;have h_x361 := b06 h_x36;apply b0b;intro K hK;simp only [go_sem, s1, s6, b08 h_x36, b3n h_x36, h_x360, h_x361];apply hK;refine b0v ?_;refine b2p (fun t h => ∃ i7 : Nat, t 1 = .fp [.fs 5 (List.map b15 h_.Combs), .fs 3 (List.map b11 h_.Trains), .fs 3 (List.map b20 h_.Shifts), I h_.Until] 0 /\ t 3 = I (List.length h_.Combs : Int) /\ t 6 = I i_6 /\ t 7 = .rp i7 0 0 /\ t 103 = B ((!(y17 x36.At 0 (wr (h_.Until - 1)))) || (decide (4 < (List.length x36.Crowds : Int)))) /\ h.ob i7 = some (3, [[I x36.At.Low, I x36.At.High, .fs 3 (List.map c16 x36.Crowds)]]) /\ i7 < h.nx) (fun K hK => ?_) ?_
      ·simp only [go_sem, s1];refine b01 (E9f x36.At 0 (wr (h_.Until - 1))) ?_;simp only [go_sem, s1];refine b0k (fun hg37 => ?_) (fun hg37 => ?_)
       ·simp only [go_sem, s1, hg37];exact hK _ _ ⟨h.nx, s1, s3, s6, (by first | (simp only [go_sem, hg37, lA9, mA9]; done) | rfl), (by first | (simp only [go_sem, hg37, lA9, mA9]; done) | rfl), (by simp only [go_sem, hg37, lA9, mA9]), vh9⟩
       ·simp only [go_sem, s1, hg37];exact hK _ _ ⟨h.nx, s1, s3, s6, (by first | (simp only [go_sem, hg37, lA9, mA9]; done) | rfl), (by first | (simp only [go_sem, hg37, lA9, mA9]; done) | rfl), (by simp only [go_sem, hg37, lA9, mA9]), vh9⟩
      ·rintro t h ⟨i7, s1, s3, s6, s7, s103, Q1, Q0⟩;refine b0i fun K38 hK38 => ?_;simp only [go_sem, s103];refine b0k (fun hc39 => ?_) (fun hc39 => ?_)
       ·rw [b0r hc39] at hm1;apply b0b;intro K hK;simp only [go_sem, Q0];apply hK;simp only [b0x, b1p, b2e, b0y];obtain rfl := sI9 hm1;obtain rfl := hb30 _ rfl
        try dsimp only at hm0
        obtain rfl := sI9 hm0;exact b04 (by simp only [go_sem, Q1, Q0, lA9, mA9]) (b0e _)
       ·rw [b0q hc39] at hm1;simp only [b0s, b02, b0f];refine hK38 _ _ ?_;apply b0b;intro K hK;simp only [go_sem, Q0];apply hK;apply b0b;intro K hK;simp only [go_sem, Q0];apply hK;simp only [b0u];obtain ⟨b40, hl40, hm1⟩ := b0g hm1;refine b1j hl40 (fun | (last_8, k_9), t, h => t 1 = .fp [.fs 5 (List.map b15 h_.Combs), .fs 3 (List.map b11 h_.Trains), .fs 3 (List.map b20 h_.Shifts), I h_.Until] 0 /\ t 3 = I (List.length h_.Combs : Int) /\ t 6 = I i_6 /\ t 7 = .rp i7 0 0 /\ t 8 = I last_8 /\ t 9 = I k_9 /\ h.ob i7 = some (3, [[I x36.At.Low, I x36.At.High, .fs 3 (List.map c16 x36.Crowds)]]) /\ i7 < h.nx) ?_ ?_
        ·exact ⟨s1, s3, s6, s7, vb9, vb9, Q1, Q0⟩
        ·rintro ⟨last_8, k_9⟩ o t h ⟨s1, s3, s6, s7, s8, s9, Q1, Q0⟩ hm2 hb40;simp only [E75] at hm2;rw [G70];refine b0v ?_;apply b0b;intro K hK;simp only [go_sem, s7, s9, Q1, Q0];apply hK;refine b0i fun K41 hK41 => ?_;simp only [go_sem];refine b0k (fun hc42 => ?_) (fun hc42 => ?_)
         ·rw [b0r hc42] at hm2;simp only [b0s, b02, b0f];refine hK41 _ _ ?_;refine b0i fun K43 hK43 => ?_;simp only [b0u];refine b0v ?_;obtain ⟨x45, h_x45, hm2⟩ := b0g hm2;have h_x450 := b05 h_x45;have h_x451 := b06 h_x45;refine b2p (fun t h => t 1 = .fp [.fs 5 (List.map b15 h_.Combs), .fs 3 (List.map b11 h_.Trains), .fs 3 (List.map b20 h_.Shifts), I h_.Until] 0 /\ t 3 = I (List.length h_.Combs : Int) /\ t 6 = I i_6 /\ t 7 = .rp i7 0 0 /\ t 9 = I k_9 /\ t 132 = B ((!(s30 x45.Comb (wr (last_8 + 1)) (wr ((List.length h_.Combs : Int) - 1)))) || (!(y17 x45.People 0 1000))) /\ h.ob i7 = some (3, [[I x36.At.Low, I x36.At.High, .fs 3 (List.map c16 x36.Crowds)]]) /\ i7 < h.nx) (fun K hK => ?_) ?_
          ·simp only [go_sem, s3, s7, s8, s9, Q1, Q0, b08 h_x45, b3n h_x45, h_x450, h_x451];refine b01 (E7c x45.Comb (wr (last_8 + 1)) (wr ((List.length h_.Combs : Int) - 1))) ?_;simp only [go_sem, s3, s7, s8, s9, Q1, Q0, b08 h_x45, b3n h_x45, h_x450, h_x451];refine b0k (fun hg46 => ?_) (fun hg46 => ?_)
           ·simp only [go_sem, s3, s7, s8, s9, Q1, Q0, b08 h_x45, b3n h_x45, h_x450, h_x451, hg46];exact hK _ _ ⟨s1, s3, s6, s7, s9, (by first | (simp only [go_sem, hg46, lA9, mA9]; done) | rfl), Q1, Q0⟩
           ·simp only [go_sem, s3, s7, s8, s9, Q1, Q0, b08 h_x45, b3n h_x45, h_x450, h_x451, hg46];refine b01 (E9f x45.People 0 1000) ?_;simp only [go_sem, s3, s7, s8, s9, Q1, Q0, b08 h_x45, b3n h_x45, h_x450, h_x451, hg46];exact hK _ _ ⟨s1, s3, s6, s7, s9, (by first | (simp only [go_sem, hg46, lA9, mA9]; done) | rfl), Q1, Q0⟩
          ·rintro t h ⟨s1, s3, s6, s7, s9, s132, Q1, Q0⟩;refine b0i fun K47 hK47 => ?_;simp only [go_sem, s132];refine b0k (fun hc48 => ?_) (fun hc48 => ?_)
           ·rw [b0r hc48] at hm2;apply b0b;intro K hK;simp only [go_sem, Q0];apply hK;simp only [b0x, b1p, b2e, b0y];obtain rfl := sI9 hm2;obtain rfl := hb40 _ rfl
            try dsimp only at hm1
            obtain rfl := sI9 hm1;obtain rfl := hb30 _ rfl
            try dsimp only at hm0
            obtain rfl := sI9 hm0;exact b04 (by simp only [go_sem, Q1, Q0, lA9, mA9]) (b0e _)
           ·rw [b0q hc48] at hm2;simp only [b0s, b02, b0f];refine hK47 _ _ ?_;apply b03;intro K hK;simp only [go_sem, s7, s9, Q1, Q0, b08 h_x45, b3n h_x45, h_x450, h_x451];apply hK;simp only [b02, b0f];refine hK43 _ _ ?_;apply b03;intro K hK;simp only [go_sem, s9, Q0];apply hK;simp only [b02, b0f];obtain rfl := sI9 hm2;refine ⟨_, rfl, ?_⟩;exact ⟨s1, s3, s6, s7, vb9, (by first | (simp only [go_sem, s9, lA9, mA9]; done) | rfl), Q1, Q0⟩
         ·rw [b0q hc42] at hm2;simp only [b09, b1b, b1a, c0s, b02, b0f, Nat.reduceEqDiff, nF9];obtain rfl := sI9 hm2;obtain rfl := hb40 _ rfl
          try dsimp only at hm1
          exact J34  _ _ s1 s3 s6 hm1
     ·rw [b0q hc32] at hm1;simp only [b09, b1b, b1a, c0s, b02, b0f, Nat.reduceEqDiff, nF9];obtain rfl := sI9 hm1;obtain rfl := hb30 _ rfl
      try dsimp only at hm0
      exact J9  _ _ s1 s3 hm0
   simp only [b0u];obtain ⟨b51, hl51, hm0⟩ := b0g hm0;refine b1j hl51 (fun | i_4, t, h => t 1 = .fp [.fs 5 (List.map b15 h_.Combs), .fs 3 (List.map b11 h_.Trains), .fs 3 (List.map b20 h_.Shifts), I h_.Until] 0 /\ t 3 = I (List.length h_.Combs : Int) /\ t 4 = I i_4) ?_ ?_
   ·exact ⟨s1, vb9, vb9⟩
   ·rintro i_4 o t h ⟨s1, s3, s4⟩ hm1 hb51;simp only [E9k] at hm1;rw [G7z];refine b0v ?_;apply b0b;intro K hK;simp only [go_sem, s3, s4];apply hK;refine b0i fun K52 hK52 => ?_;simp only [go_sem];refine b0k (fun hc53 => ?_) (fun hc53 => ?_)
    ·rw [b0r hc53] at hm1;simp only [b0s, b02, b0f];refine hK52 _ _ ?_;refine b0i fun K54 hK54 => ?_;simp only [b0u];obtain ⟨x56, h_x56, hm1⟩ := b0g hm1;have h_x560 := b05 h_x56;have h_x561 := b06 h_x56;apply b0b;intro K hK;simp only [go_sem, s1, s4, b08 h_x56, b3n h_x56, h_x560, h_x561];apply hK;refine b2p (fun t h => t 1 = .fp [.fs 5 (List.map b15 h_.Combs), .fs 3 (List.map b11 h_.Trains), .fs 3 (List.map b20 h_.Shifts), I h_.Until] 0 /\ t 3 = I (List.length h_.Combs : Int) /\ t 4 = I i_4 /\ t 78 = B ((((!(s30 x56.Rate 0 1000)) || (!(s30 x56.Limit 0 100000))) || ((decide (¬x56.Next = (-1))) && (!(s30 x56.Next (wr (i_4 + 1)) (wr ((List.length h_.Combs : Int) - 1)))))) || (!(y17 x56.Walk 1 20)))) (fun K hK => ?_) ?_
     ·simp only [go_sem, s3, s4];refine b01 (E7c x56.Rate 0 1000) ?_;simp only [go_sem, s3, s4];refine b0k (fun hg57 => ?_) (fun hg57 => ?_)
      ·simp only [go_sem, s3, s4, hg57];exact hK _ _ ⟨s1, s3, s4, (by first | (simp only [go_sem, hg57, lA9, mA9]; done) | rfl)⟩
      ·simp only [go_sem, s3, s4, hg57];refine b01 (E7c x56.Limit 0 100000) ?_;simp only [go_sem, s3, s4, hg57];refine b0k (fun hg58 => ?_) (fun hg58 => ?_)
       ·simp only [go_sem, s3, s4, hg57, hg58];exact hK _ _ ⟨s1, s3, s4, (by first | (simp only [go_sem, hg57, hg58, lA9, mA9]; done) | rfl)⟩
       ·simp only [go_sem, s3, s4, hg57, hg58];refine b0k (fun hg59 => ?_) (fun hg59 => ?_)
        ·simp only [go_sem, s3, s4, hg57, hg58, hg59];refine b01 (E7c x56.Next (wr (i_4 + 1)) (wr ((List.length h_.Combs : Int) - 1))) ?_;simp only [go_sem, s3, s4, hg57, hg58, hg59];refine b0k (fun hg60 => ?_) (fun hg60 => ?_)
         ·simp only [go_sem, s3, s4, hg57, hg58, hg59, hg60];exact hK _ _ ⟨s1, s3, s4, (by first | (simp only [go_sem, hg57, hg58, hg59, hg60, lA9, mA9]; done) | rfl)⟩
         ·simp only [go_sem, s3, s4, hg57, hg58, hg59, hg60];refine b01 (E9f x56.Walk 1 20) ?_;simp only [go_sem, s3, s4, hg57, hg58, hg59, hg60];exact hK _ _ ⟨s1, s3, s4, (by first | (simp only [go_sem, hg57, hg58, hg59, hg60, lA9, mA9]; done) | rfl)⟩
        ·simp only [go_sem, s3, s4, hg57, hg58, hg59];refine b01 (E9f x56.Walk 1 20) ?_;simp only [go_sem, s3, s4, hg57, hg58, hg59];exact hK _ _ ⟨s1, s3, s4, (by first | (simp only [go_sem, hg57, hg58, hg59, lA9, mA9]; done) | rfl)⟩
     ·rintro t h ⟨s1, s3, s4, s78⟩;simp only [go_sem, s78];refine b0k (fun hc61 => ?_) (fun hc61 => ?_)
      ·rw [b0r hc61] at hm1;apply b0b;intro K hK;simp only [go_sem];apply hK;simp only [b0x, b1p, b2e, b0y];obtain rfl := sI9 hm1;obtain rfl := hb51 _ rfl
       try dsimp only at hm0
       obtain rfl := sI9 hm0;exact b04 vc9 (b0e _)
      ·rw [b0q hc61] at hm1;simp only [b0s, b02, b0f];refine hK54 _ _ ?_;apply b03;intro K hK;simp only [go_sem, s4];apply hK;simp only [b02, b0f];obtain rfl := sI9 hm1;refine ⟨_, rfl, ?_⟩;exact ⟨s1, s3, (by first | (simp only [go_sem, s4, lA9, mA9]; done) | rfl)⟩
    ·rw [b0q hc53] at hm1;simp only [b09, b1b, b1a, c0s, b02, b0f, Nat.reduceEqDiff, nF9];obtain rfl := sI9 hm1;obtain rfl := hb51 _ rfl
     try dsimp only at hm0
     exact J7  _ _ s1 s3 hm0
theorem G32 (hf : Has O "slices.IndexFunc[[]newel/api.Train,newel/api.Train]" x_slices_IndexFunc___api_Train_api_Train_) : G19 O := by
 intro s f_n f_a f_b f f_z f_h r hm0;unfold G0g at hm0;refine b1i hf rfl (b0a (b0c fun a _ => c19 a) (b0a f_z b0j)) (b0e _) ?_;refine b1c (fun t h => t 0 = .fs 3 (List.map b11 s) /\ t 1 = .fn f_n f_a f_b) ⟨rfl, rfl⟩ fun t h ⟨s0, s1⟩ => ?_;simp only [x_slices_IndexFunc___api_Train_api_Train_];apply b0b;intro K hK;simp only [go_sem];apply hK;refine b0v ?_;apply b0b;intro K hK;simp only [go_sem, s0];apply hK;refine b0i fun K1 hK1 => ?_
 have J2 : ∀ (t : Slots) (h : Heap), G0h = some r -> K1 t h := by
  intro t h hm0;refine hK1 _ _ ?_;unfold G0h at hm0;apply b0b;intro K hK;simp only [go_sem];apply hK;simp only [b0x, b1p, b2e, b0y];obtain rfl := sI9 hm0;exact b04 vc9 (b0e _)
 simp only [b0u];obtain ⟨b3, hl3, hm0⟩ := b0g hm0;refine b1j hl3 (fun | x_8, t, h => t 0 = .fs 3 (List.map b11 s) /\ t 1 = .fn f_n f_a f_b /\ t 7 = I (List.length s : Int) /\ t 8 = I x_8) ?_ ?_
 ·exact ⟨s0, s1, vb9, vb9⟩
 ·rintro x_8 o t h ⟨s0, s1, s7, s8⟩ hm1 hb3;simp only [G1m] at hm1;rw [G73];apply b0b;intro K hK;simp only [go_sem, s7, s8];apply hK;refine b0i fun K4 hK4 => ?_;simp only [go_sem];refine b0k (fun hc5 => ?_) (fun hc5 => ?_)
  ·rw [b0r hc5] at hm1;simp only [b0s, b02, b0f];refine hK4 _ _ ?_;refine b0i fun K6 hK6 => ?_;simp only [b0u];apply b0b;intro K hK;simp only [go_sem, s8];apply hK;obtain ⟨x9, h_x9, hm1⟩ := b0g hm1;have h_x90 := b05 h_x9;have h_x91 := b06 h_x9;obtain ⟨y10, h_y10, hm1⟩ := b0g hm1;apply b0b;intro K hK;simp only [go_sem, s0, s1, b08 h_x9, b3n h_x9, h_x90, h_x91];refine o5t (f_h x9 _ h_y10) ?_;simp only [go_sem, s0, s1, b08 h_x9, b3n h_x9, h_x90, h_x91];apply hK;simp only [go_sem];refine b0k (fun hc11 => ?_) (fun hc11 => ?_)
   ·rw [b0r hc11] at hm1;apply b0b;intro K hK;simp only [go_sem];apply hK;simp only [b0x, b1p, b2e, b0y];obtain rfl := sI9 hm1;obtain rfl := hb3 _ rfl
    try dsimp only at hm0
    obtain rfl := sI9 hm0;exact b04 vc9 (b0e _)
   ·rw [b0q hc11] at hm1;simp only [b0s, b02, b0f];refine hK6 _ _ ?_;apply b03;intro K hK;simp only [go_sem, s8];apply hK;simp only [b02, b0f];obtain rfl := sI9 hm1;refine ⟨_, rfl, ?_⟩;exact ⟨s0, s1, s7, (by first | (simp only [go_sem, s8, lA9, mA9]; done) | rfl)⟩
  ·rw [b0q hc5] at hm1;simp only [b09, b1b, b1a, c0s, b02, b0f, Nat.reduceEqDiff, nF9];obtain rfl := sI9 hm1;obtain rfl := hb3 _ rfl
   try dsimp only at hm0
   exact J2  _ _  hm0
theorem d3u (hf : Has O "slices.IndexFunc[[]int,int]" x_slices_IndexFunc___int_int_) : d0x O := by
 intro s f_n f_a f_b f f_z f_h r hm0;unfold d5a at hm0;refine b1i hf rfl (b0a (b0c fun a _ => b1t a) (b0a f_z b0j)) (b0e _) ?_;refine b1c (fun t h => t 0 = .fs 1 (List.map eI s) /\ t 1 = .fn f_n f_a f_b) ⟨rfl, rfl⟩ fun t h ⟨s0, s1⟩ => ?_;simp only [x_slices_IndexFunc___int_int_];apply b0b;intro K hK;simp only [go_sem];apply hK;refine b0v ?_;apply b0b;intro K hK;simp only [go_sem, s0];apply hK;refine b0i fun K1 hK1 => ?_
 have J2 : ∀ (t : Slots) (h : Heap), d5b = some r -> K1 t h := by
  intro t h hm0;refine hK1 _ _ ?_;unfold d5b at hm0;apply b0b;intro K hK;simp only [go_sem];apply hK;simp only [b0x, b1p, b2e, b0y];obtain rfl := sI9 hm0;exact b04 vc9 (b0e _)
 simp only [b0u];obtain ⟨b3, hl3, hm0⟩ := b0g hm0;refine b1j hl3 (fun | x_8, t, h => t 0 = .fs 1 (List.map eI s) /\ t 1 = .fn f_n f_a f_b /\ t 7 = I (List.length s : Int) /\ t 8 = I x_8) ?_ ?_
 ·exact ⟨s0, s1, vb9, vb9⟩
 ·rintro x_8 o t h ⟨s0, s1, s7, s8⟩ hm1 hb3;simp only [g3c] at hm1;rw [g5d];apply b0b;intro K hK;simp only [go_sem, s7, s8];apply hK;refine b0i fun K4 hK4 => ?_;simp only [go_sem];refine b0k (fun hc5 => ?_) (fun hc5 => ?_)
  ·rw [b0r hc5] at hm1;simp only [b0s, b02, b0f];refine hK4 _ _ ?_;refine b0i fun K6 hK6 => ?_;simp only [b0u];apply b0b;intro K hK;simp only [go_sem, s8];apply hK;obtain ⟨x9, h_x9, hm1⟩ := b0g hm1;have h_x90 := b05 h_x9;have h_x91 := b06 h_x9;obtain ⟨y10, h_y10, hm1⟩ := b0g hm1;apply b0b;intro K hK;simp only [go_sem, s0, s1, b08 h_x9, b3n h_x9, h_x90, h_x91];refine o5t (f_h x9 _ h_y10) ?_;simp only [go_sem, s0, s1, b08 h_x9, b3n h_x9, h_x90, h_x91];apply hK;simp only [go_sem];refine b0k (fun hc11 => ?_) (fun hc11 => ?_)
   ·rw [b0r hc11] at hm1;apply b0b;intro K hK;simp only [go_sem];apply hK;simp only [b0x, b1p, b2e, b0y];obtain rfl := sI9 hm1;obtain rfl := hb3 _ rfl
    try dsimp only at hm0
    obtain rfl := sI9 hm0;exact b04 vc9 (b0e _)
   ·rw [b0q hc11] at hm1;simp only [b0s, b02, b0f];refine hK6 _ _ ?_;apply b03;intro K hK;simp only [go_sem, s8];apply hK;simp only [b02, b0f];obtain rfl := sI9 hm1;refine ⟨_, rfl, ?_⟩;exact ⟨s0, s1, s7, (by first | (simp only [go_sem, s8, lA9, mA9]; done) | rfl)⟩
  ·rw [b0q hc5] at hm1;simp only [b09, b1b, b1a, c0s, b02, b0f, Nat.reduceEqDiff, nF9];obtain rfl := sI9 hm1;obtain rfl := hb3 _ rfl
   try dsimp only at hm0
   exact J2  _ _  hm0
end Go.Nw.HM
