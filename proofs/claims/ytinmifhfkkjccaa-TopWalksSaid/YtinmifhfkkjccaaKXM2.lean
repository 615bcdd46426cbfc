/- That the texts make what their models say: printed by a program. -/
import Derived.Test.YtinmifhfkkjccaaXM
set_option linter.all false
namespace Go.Nw.XM
open Go.Nw.Tp3
set_option maxHeartbeats 4000000
variable {O : Orac} [MapsOk O]
theorem H93 (hf : Has O "newel/neweltop.bits" x_neweltop_bits) : J0g O := by
 intro n r hm0;unfold H9h at hm0;refine b1i hf rfl (b0a (b0e _) b0j) (b0c fun a _ => b2j a) ?_;refine b1c (fun t h => t 0 = I n) rfl fun t h s0 => ?_;simp only [x_neweltop_bits];apply b0b;intro K hK;simp only [go_sem];apply hK;apply b0b;intro K hK;simp only [go_sem];apply hK;refine b0v ?_;apply b0b;intro K hK;simp only [go_sem];apply hK;refine b0i fun K1 hK1 => ?_
 have J2 : ∀ (t_3 : List Literal) (v3 : AV) (t : Slots) (h : Heap), t 3 = v3 -> b2a h v3 4 (List.map b3k t_3) -> H99 t_3 = some r -> K1 t h := by
  intro t_3 v3 t h s3 Q1 hm0;refine hK1 _ _ ?_;unfold H99 at hm0;refine b0v ?_;refine g9j (s := 3) (v := v3) (f := b3k) (l := t_3) (by simp only [go_sem, s3, b8s Q1, lA9, mA9]) (b3x Q1 (by intro j hj hl; first | rfl | simp only [go_sem, hl]) (by first | omega | exact Nat.le_refl _ | (simp only [go_sem, nxs] <;> omega))) c2w j7o ?_;skip;apply b0b;intro K hK;simp only [go_sem, s3, b5r v3];apply hK;simp only [b0x, b1p, b2e, b0y];obtain rfl := sI9 hm0;exact b8e (v := .rs h.nx 0 (1)) (by simp only [go_sem, b8s Q1, lA9, mA9]) (b29 (f := b0t) (l := ([t_3])) (id := h.nx) (by simp only [go_sem, b8s Q1, lA9, mA9]) vf9 b2j g1d)
 simp only [b0u];obtain ⟨b3, hl3, hm0⟩ := b0g hm0;refine b1j hl3 (fun | (t_3, i_4), t, h => ∃ v3 : AV, t 0 = I n /\ t 3 = v3 /\ t 4 = I i_4 /\ b2a h v3 4 (List.map b3k t_3)) ?_ ?_
 ·exact ⟨(.v (.slice none 0 0)), s0, va9, va9, c0o⟩
 ·rintro ⟨t_3, i_4⟩ o t h ⟨v3, s0, s3, s4, Q1⟩ hm1 hb3;simp only [H9q] at hm1;rw [J2c];refine b0v ?_;apply b0b;intro K hK;simp only [go_sem, s4, b5r v3];apply hK;refine b0i fun K4 hK4 => ?_;simp only [go_sem];refine b0k (fun hc5 => ?_) (fun hc5 => ?_)
  ·rw [b0r hc5] at hm1;simp only [b0s, b02, b0f];refine hK4 _ _ ?_;refine b0i fun K6 hK6 => ?_;simp only [b0u];obtain ⟨q9, h_q9, hm1⟩ := b0g hm1;obtain ⟨l10, h_l10, hm1⟩ := b0g hm1;apply b03;intro K hK;simp only [go_sem, s0, s3, s4, l3r Q1, c7d h_q9, b5r v3];refine b3a (f := b3k) (l := t_3) (m := ([(Literal.mk 1 i_4 0 (decide ((b6y q9 1) = 0)))])) ?_ ?_ ?_ ?_ h_l10 ?_
   ·exact (b3x Q1 (by intro j hj hl; first | rfl | simp only [go_sem, hl]) (by first | omega | exact Nat.le_refl _ | (simp only [go_sem, nxs] <;> omega)))
   ·exact (b4t (by simp only [go_sem, b8s Q1, lA9, mA9]) (by simp only [go_sem, b8s Q1, lA9, mA9]))
   ·exact (b4r ve9)
   ·exact (fun _ => by simp)
   simp only [go_sem, s0, s3, s4, l3r Q1, c7d h_q9, b5r v3];apply hK;simp only [b02, b0f];refine hK6 _ _ ?_;apply b03;intro K hK;simp only [go_sem, s4, b5r v3];apply hK;simp only [b02, b0f];obtain rfl := sI9 hm1;refine ⟨_, rfl, ?_⟩;exact ⟨(.rs (nxs h.nx) 0 (List.length l10)), s0, (by first | (simp only [go_sem, s3, lA9, mA9]; done) | rfl), (by first | (simp only [go_sem, s4, lA9, mA9]; done) | rfl), (b2v (by simp only [go_sem, b8s Q1, lA9, mA9]) vf9 vg9)⟩
  ·rw [b0q hc5] at hm1;simp only [b09, b1b, b1a, c0s, b02, b0f, Nat.reduceEqDiff, nF9];obtain rfl := sI9 hm1;obtain rfl := hb3 _ rfl
   try dsimp only at hm0
   exact J2 t_3 v3 _ _ s3 Q1 hm0
theorem C0f (hf : Has O "newel/newelref08.Check" x_r08_Check) (j51 : B91 O) (C0g : B92 O) : B90 O := by
 intro s r hm0;unfold B9c at hm0;refine b1i hf rfl (b0a (.agg _ (b0a (b0e _) (b0a (b0c fun a _ => c82 a) (b0a (b0c fun a _ => b1t a) b0j)))) b0j) (b0e _) ?_;refine b1c (fun t h => t 0 = .agg [I s.Places, .fs 7 (List.map z9o s.Passages), .fs 1 (List.map eI s.Exits)]) rfl fun t h s0 => ?_;simp only [x_r08_Check];apply b0b;intro K hK;simp only [go_sem, s0];apply hK;refine b0v ?_;refine b2p (fun t h => t 1 = .fp [I s.Places, .fs 7 (List.map z9o s.Passages), .fs 1 (List.map eI s.Exits)] 0 /\ t 16 = B ((!(b40 s.Places 1 10)) || (decide (24 < (List.length s.Passages : Int))))) (fun K hK => ?_) ?_
 ·simp only [go_sem];refine b01 (j51 s.Places 1 10) ?_;simp only [go_sem];refine b0k (fun hg1 => ?_) (fun hg1 => ?_)
  ·simp only [go_sem, hg1];exact hK _ _ ⟨(by first | (simp only [go_sem, hg1, lA9, mA9]; done) | rfl), (by first | (simp only [go_sem, hg1, lA9, mA9]; done) | rfl)⟩
  ·simp only [go_sem, hg1];exact hK _ _ ⟨(by first | (simp only [go_sem, hg1, lA9, mA9]; done) | rfl), (by first | (simp only [go_sem, hg1, lA9, mA9]; done) | rfl)⟩
 ·rintro t h ⟨s1, s16⟩;refine b0i fun K2 hK2 => ?_;simp only [go_sem, s16];refine b0k (fun hc3 => ?_) (fun hc3 => ?_)
  ·rw [b0r hc3] at hm0;apply b0b;intro K hK;simp only [go_sem];apply hK;simp only [b0x, b1p, b2e, b0y];obtain rfl := sI9 hm0;exact b04 vc9 (b0e _)
  ·rw [b0q hc3] at hm0;simp only [b0s, b02, b0f];refine hK2 _ _ ?_;apply b0b;intro K hK;simp only [go_sem];apply hK;refine b0v ?_;apply b0b;intro K hK;simp only [go_sem];apply hK;refine b0i fun K4 hK4 => ?_
   have J5 : ∀ (t : Slots) (h : Heap), t 1 = .fp [I s.Places, .fs 7 (List.map z9o s.Passages), .fs 1 (List.map eI s.Exits)] 0 -> B9f s = some r -> K4 t h := by
    intro t h s1 hm0;refine hK4 _ _ ?_;unfold B9f at hm0;refine b0v ?_;apply b0b;intro K hK;simp only [go_sem];apply hK;refine b0i fun K6 hK6 => ?_
    have J7 : ∀ (t : Slots) (h : Heap), C0n = some r -> K6 t h := by
     intro t h hm0;refine hK6 _ _ ?_;unfold C0n at hm0;apply b0b;intro K hK;simp only [go_sem];apply hK;simp only [b0x, b1p, b2e, b0y];obtain rfl := sI9 hm0;exact b04 vc9 (b0e _)
    simp only [b0u];obtain ⟨b8, hl8, hm0⟩ := b0g hm0;refine b1j hl8 (fun | i_6, t, h => t 1 = .fp [I s.Places, .fs 7 (List.map z9o s.Passages), .fs 1 (List.map eI s.Exits)] 0 /\ t 6 = I i_6) ?_ ?_
    ·exact ⟨s1, va9⟩
    ·rintro i_6 o t h ⟨s1, s6⟩ hm1 hb8;simp only [B8v] at hm1;rw [C1b];refine b0v ?_;apply b0b;intro K hK;simp only [go_sem, s1, s6];apply hK;refine b0i fun K9 hK9 => ?_;simp only [go_sem];refine b0k (fun hc10 => ?_) (fun hc10 => ?_)
     ·rw [b0r hc10] at hm1;simp only [b0s, b02, b0f];refine hK9 _ _ ?_;refine b0i fun K11 hK11 => ?_;simp only [b0u];obtain ⟨x16, h_x16, hm1⟩ := b0g hm1;have h_x160 := b05 h_x16;have h_x161 := b06 h_x16;obtain ⟨c19, h_c19, hm1⟩ := b0g hm1;refine b2p (fun t h => t 1 = .fp [I s.Places, .fs 7 (List.map z9o s.Passages), .fs 1 (List.map eI s.Exits)] 0 /\ t 6 = I i_6 /\ t 140 = B c19) (fun K hK => ?_) ?_
      ·simp only [go_sem, s1, s6, b08 h_x16, b3n h_x16, h_x160, h_x161];refine b01 (j51 x16 0 (wr (s.Places - 1))) ?_;simp only [go_sem, s1, s6, b08 h_x16, b3n h_x16, h_x160, h_x161];refine b0k (fun hg20 => ?_) (fun hg20 => ?_)
       ·simp only [hg20, Bool.not_true, Bool.not_false, eq_self, if_true, if_false, Bool.true_or, Bool.or_true, Bool.false_or, Bool.or_false, Bool.true_and, Bool.and_true, Bool.false_and, Bool.and_false, fT9] at h_c19;obtain rfl := sI9 h_c19;simp only [go_sem, s1, s6, b08 h_x16, b3n h_x16, h_x160, h_x161, hg20];exact hK _ _ ⟨s1, s6, (by first | (simp only [go_sem, hg20, lA9, mA9]; done) | rfl)⟩
       ·simp only [hg20, Bool.not_true, Bool.not_false, eq_self, if_true, if_false, Bool.true_or, Bool.or_true, Bool.false_or, Bool.or_false, Bool.true_and, Bool.and_true, Bool.false_and, Bool.and_false, fT9] at h_c19;obtain ⟨c18, h_c18, h_c19⟩ := b0g h_c19;obtain rfl := sI9 h_c19;simp only [go_sem, s1, s6, b08 h_x16, b3n h_x16, h_x160, h_x161, hg20];refine b0k (fun hg21 => ?_) (fun hg21 => ?_)
        ·simp only [hg20, hg21, Bool.not_true, Bool.not_false, eq_self, if_true, if_false, Bool.true_or, Bool.or_true, Bool.false_or, Bool.or_false, Bool.true_and, Bool.and_true, Bool.false_and, Bool.and_false, fT9] at h_c18;obtain ⟨x17, h_x17, h_c18⟩ := b0g h_c18;have h_x170 := b05 h_x17;have h_x171 := b06 h_x17;obtain rfl := sI9 h_c18;simp only [go_sem, s1, s6, b08 h_x16, b3n h_x16, h_x160, h_x161, b08 h_x17, b3n h_x17, h_x170, h_x171, hg20, hg21];exact hK _ _ ⟨s1, s6, (by first | (simp only [go_sem, hg20, hg21, lA9, mA9]; done) | rfl)⟩
        ·simp only [hg20, hg21, Bool.not_true, Bool.not_false, eq_self, if_true, if_false, Bool.true_or, Bool.or_true, Bool.false_or, Bool.or_false, Bool.true_and, Bool.and_true, Bool.false_and, Bool.and_false, fT9] at h_c18;obtain rfl := sI9 h_c18;simp only [go_sem, s1, s6, b08 h_x16, b3n h_x16, h_x160, h_x161, hg20, hg21];exact hK _ _ ⟨s1, s6, (by first | (simp only [go_sem, hg20, hg21, lA9, mA9]; done) | rfl)⟩
      ·rintro t h ⟨s1, s6, s140⟩;simp only [go_sem, s140];refine b0k (fun hc22 => ?_) (fun hc22 => ?_)
       ·rw [b0r hc22] at hm1;apply b0b;intro K hK;simp only [go_sem];apply hK;simp only [b0x, b1p, b2e, b0y];obtain rfl := sI9 hm1;obtain rfl := hb8 _ rfl
        try dsimp only at hm0
        obtain rfl := sI9 hm0;exact b04 vc9 (b0e _)
       ·rw [b0q hc22] at hm1;simp only [b0s, b02, b0f];refine hK11 _ _ ?_;apply b03;intro K hK;simp only [go_sem, s6];apply hK;simp only [b02, b0f];obtain rfl := sI9 hm1;refine ⟨_, rfl, ?_⟩;exact ⟨s1, (by first | (simp only [go_sem, s6, lA9, mA9]; done) | rfl)⟩
     ·rw [b0q hc10] at hm1;simp only [b09, b1b, b1a, c0s, b02, b0f, Nat.reduceEqDiff, nF9];obtain rfl := sI9 hm1;obtain rfl := hb8 _ rfl
      try dsimp only at hm0
      exact J7  _ _  hm0
   simp only [b0u];obtain ⟨b24, hl24, hm0⟩ := b0g hm0;refine b1j hl24 (fun | (machines_3, i_4), t, h => ∃ v3 : AV, t 1 = .fp [I s.Places, .fs 7 (List.map z9o s.Passages), .fs 1 (List.map eI s.Exits)] 0 /\ t 3 = v3 /\ t 4 = I i_4 /\ b2a h v3 1 (List.map eI machines_3)) ?_ ?_
   ·exact ⟨(.v (.slice none 0 0)), s1, va9, va9, c0o⟩
   ·rintro ⟨machines_3, i_4⟩ o t h ⟨v3, s1, s3, s4, Q1⟩ hm1 hb24;simp only [B9d] at hm1;rw [C1a];refine b0v ?_;apply b0b;intro K hK;simp only [go_sem, s1, s4, b5r v3];apply hK;refine b0i fun K25 hK25 => ?_;simp only [go_sem];refine b0k (fun hc26 => ?_) (fun hc26 => ?_)
    ·rw [b0r hc26] at hm1;simp only [b0s, b02, b0f];refine hK25 _ _ ?_;refine b0i fun K27 hK27 => ?_
     have J28 : ∀ (machines_3_1 : List Int) (v3_1 : AV) (t : Slots) (h : Heap), t 1 = .fp [I s.Places, .fs 7 (List.map z9o s.Passages), .fs 1 (List.map eI s.Exits)] 0 -> t 3 = v3_1 -> t 4 = I i_4 -> b2a h v3_1 1 (List.map eI machines_3_1) -> B9e i_4 machines_3_1 = some o -> K27 t h := by
      intro machines_3_1 v3_1 t h s1 s3 s4 Q1 hm1;refine hK27 _ _ ?_;unfold B9e at hm1;apply b03;intro K hK;simp only [go_sem, s4, b5r v3, b5r v3_1];apply hK;simp only [b02, b0f];obtain rfl := sI9 hm1;refine ⟨_, rfl, ?_⟩;exact ⟨v3_1, s1, s3, (by first | (simp only [go_sem, s4, lA9, mA9]; done) | rfl), Q1⟩
     simp only [b0u];obtain ⟨x30, h_x30, hm1⟩ := b0g hm1;have h_x300 := b05 h_x30;have h_x301 := b06 h_x30;apply b0b;intro K hK;simp only [go_sem, s1, s4, b08 h_x30, b3n h_x30, h_x300, h_x301, b5r v3];apply hK;refine b0v ?_;refine b2p (fun t h => ∃ i5 : Nat, t 1 = .fp [I s.Places, .fs 7 (List.map z9o s.Passages), .fs 1 (List.map eI s.Exits)] 0 /\ t 3 = v3 /\ t 4 = I i_4 /\ t 5 = .rp i5 0 0 /\ t 69 = B ((((((!(b40 x30.A 0 (wr (s.Places - 1)))) || (!(b40 x30.B 0 (wr (s.Places - 1))))) || (decide (x30.A = x30.B))) || (!(b40 x30.Ticks 1 20))) || (!(b40 x30.Wide 1 50))) || (!(b40 x30.Kind 1 5))) /\ b2a h v3 1 (List.map eI machines_3) /\ h.ob i5 = some (7, [[I x30.A, I x30.B, I x30.Kind, I x30.Ticks, I x30.Wide, I x30.Machine, I x30.Still]]) /\ i5 < h.nx /\ b07 v3 i5) (fun K hK => ?_) ?_
     ·simp only [go_sem, s1, b5r v3];refine b01 (j51 x30.A 0 (wr (s.Places - 1))) ?_;simp only [go_sem, s1, b5r v3];refine b0k (fun hg31 => ?_) (fun hg31 => ?_)
      ·simp only [go_sem, s1, hg31, b5r v3];exact hK _ _ ⟨h.nx, s1, s3, s4, (by first | (simp only [go_sem, hg31, lA9, mA9]; done) | rfl), (by first | (simp only [go_sem, hg31, lA9, mA9]; done) | rfl), (b3x Q1 (by intro j hj hl; first | rfl | simp only [go_sem, hl]) (by first | omega | exact Nat.le_refl _ | (simp only [go_sem, nxs] <;> omega))), (by simp only [go_sem, hg31, lA9, mA9]), vg9, vb9⟩
      ·simp only [go_sem, s1, hg31, b5r v3];refine b01 (j51 x30.B 0 (wr (s.Places - 1))) ?_;simp only [go_sem, s1, hg31, b5r v3];refine b0k (fun hg32 => ?_) (fun hg32 => ?_)
       ·simp only [go_sem, s1, hg31, hg32, b5r v3];exact hK _ _ ⟨h.nx, s1, s3, s4, (by first | (simp only [go_sem, hg31, hg32, lA9, mA9]; done) | rfl), (by first | (simp only [go_sem, hg31, hg32, lA9, mA9]; done) | rfl), (b3x Q1 (by intro j hj hl; first | rfl | simp only [go_sem, hl]) (by first | omega | exact Nat.le_refl _ | (simp only [go_sem, nxs] <;> omega))), (by simp only [go_sem, hg31, hg32, lA9, mA9]), vg9, vb9⟩
       ·simp only [go_sem, s1, hg31, hg32, b5r v3];refine b0k (fun hg33 => ?_) (fun hg33 => ?_)
        ·simp only [go_sem, s1, hg31, hg32, hg33, b5r v3];exact hK _ _ ⟨h.nx, s1, s3, s4, (by first | (simp only [go_sem, hg31, hg32, hg33, lA9, mA9]; done) | rfl), (by first | (simp only [go_sem, hg31, hg32, hg33, lA9, mA9]; done) | rfl), (b3x Q1 (by intro j hj hl; first | rfl | simp only [go_sem, hl]) (by first | omega | exact Nat.le_refl _ | (simp only [go_sem, nxs] <;> omega))), (by simp only [go_sem, hg31, hg32, hg33, lA9, mA9]), vg9, vb9⟩
        ·simp only [go_sem, s1, hg31, hg32, hg33, b5r v3];refine b01 (j51 x30.Ticks 1 20) ?_;simp only [go_sem, s1, hg31, hg32, hg33, b5r v3];refine b0k (fun hg34 => ?_) (fun hg34 => ?_)
         ·simp only [go_sem, s1, hg31, hg32, hg33, hg34, b5r v3];exact hK _ _ ⟨h.nx, s1, s3, s4, (by first | (simp only [go_sem, hg31, hg32, hg33, hg34, lA9, mA9]; done) | rfl), (by first | (simp only [go_sem, hg31, hg32, hg33, hg34, lA9, mA9]; done) | rfl), (b3x Q1 (by intro j hj hl; first | rfl | simp only [go_sem, hl]) (by first | omega | exact Nat.le_refl _ | (simp only [go_sem, nxs] <;> omega))), (by simp only [go_sem, hg31, hg32, hg33, hg34, lA9, mA9]), vg9, vb9⟩
         ·simp only [go_sem, s1, hg31, hg32, hg33, hg34, b5r v3];refine b01 (j51 x30.Wide 1 50) ?_;simp only [go_sem, s1, hg31, hg32, hg33, hg34, b5r v3];refine b0k (fun hg35 => ?_) (fun hg35 => ?_)
          ·simp only [go_sem, s1, hg31, hg32, hg33, hg34, hg35, b5r v3];exact hK _ _ ⟨h.nx, s1, s3, s4, (by first | (simp only [go_sem, hg31, hg32, hg33, hg34, hg35, lA9, mA9]; done) | rfl), (by first | (simp only [go_sem, hg31, hg32, hg33, hg34, hg35, lA9, mA9]; done) | rfl), (b3x Q1 (by intro j hj hl; first | rfl | simp only [go_sem, hl]) (by first | omega | exact Nat.le_refl _ | (simp only [go_sem, nxs] <;> omega))), (by simp only [go_sem, hg31, hg32, hg33, hg34, hg35, lA9, mA9]), vg9, vb9⟩
          ·simp only [go_sem, s1, hg31, hg32, hg33, hg34, hg35, b5r v3];refine b01 (j51 x30.Kind 1 5) ?_;simp only [go_sem, s1, hg31, hg32, hg33, hg34, hg35, b5r v3];exact hK _ _ ⟨h.nx, s1, s3, s4, (by first | (simp only [go_sem, hg31, hg32, hg33, hg34, hg35, lA9, mA9]; done) | rfl), (by first | (simp only [go_sem, hg31, hg32, hg33, hg34, hg35, lA9, mA9]; done) | rfl), (b3x Q1 (by intro j hj hl; first | rfl | simp only [go_sem, hl]) (by first | omega | exact Nat.le_refl _ | (simp only [go_sem, nxs] <;> omega))), (by simp only [go_sem, hg31, hg32, hg33, hg34, hg35, lA9, mA9]), vg9, vb9⟩
     ·rintro t h ⟨i5, s1, s3, s4, s5, s69, Q1, Q6, Q3, Q4⟩;refine b0i fun K36 hK36 => ?_;simp only [go_sem, s69];refine b0k (fun hc37 => ?_) (fun hc37 => ?_)
      ·rw [b0r hc37] at hm1;apply b0b;intro K hK;simp only [go_sem, Q3, b5r v3];apply hK;simp only [b0x, b1p, b2e, b0y];obtain rfl := sI9 hm1;obtain rfl := hb24 _ rfl
       try dsimp only at hm0
       obtain rfl := sI9 hm0;exact b04 (by simp only [go_sem, b8s Q1, Q6, Q3, Q4, lA9, mA9]) (b0e _)
      ·rw [b0q hc37] at hm1;simp only [b0s, b02, b0f];refine hK36 _ _ ?_;refine b0v ?_;refine b2p (fun t h => t 1 = .fp [I s.Places, .fs 7 (List.map z9o s.Passages), .fs 1 (List.map eI s.Exits)] 0 /\ t 3 = v3 /\ t 4 = I i_4 /\ t 5 = .rp i5 0 0 /\ t 77 = B ((decide (x30.Kind = 3)) || (decide (x30.Kind = 4))) /\ b2a h v3 1 (List.map eI machines_3) /\ h.ob i5 = some (7, [[I x30.A, I x30.B, I x30.Kind, I x30.Ticks, I x30.Wide, I x30.Machine, I x30.Still]]) /\ i5 < h.nx /\ b07 v3 i5) (fun K hK => ?_) ?_
       ·simp only [go_sem, s5, Q6, Q3, Q4, b5r v3];refine b0k (fun hg38 => ?_) (fun hg38 => ?_)
        ·simp only [go_sem, s5, Q6, Q3, Q4, hg38, b5r v3];exact hK _ _ ⟨s1, s3, s4, s5, (by first | (simp only [go_sem, hg38, lA9, mA9]; done) | rfl), Q1, Q6, Q3, Q4⟩
        ·simp only [go_sem, s5, Q6, Q3, Q4, hg38, b5r v3];exact hK _ _ ⟨s1, s3, s4, s5, (by first | (simp only [go_sem, hg38, lA9, mA9]; done) | rfl), Q1, Q6, Q3, Q4⟩
       ·try clear s1 s3 s4 s5 s69 Q1 Q6 Q3 Q4
        rintro t h ⟨s1, s3, s4, s5, s77, Q1, Q6, Q3, Q4⟩;refine b0i fun K39 hK39 => ?_
        have J40 : ∀ (machines_3_1 : List Int) (v3_1 : AV) (t : Slots) (h : Heap), t 1 = .fp [I s.Places, .fs 7 (List.map z9o s.Passages), .fs 1 (List.map eI s.Exits)] 0 -> t 3 = v3_1 -> t 4 = I i_4 -> t 5 = .rp i5 0 0 -> b2a h v3_1 1 (List.map eI machines_3_1) -> h.ob i5 = some (7, [[I x30.A, I x30.B, I x30.Kind, I x30.Ticks, I x30.Wide, I x30.Machine, I x30.Still]]) -> i5 < h.nx -> b07 v3_1 i5 -> B8f i_4 x30 machines_3_1 = some o -> K39 t h := by
         try clear s1 s3 s4 s5 s77 Q1 Q6 Q3 Q4
         intro machines_3_1 v3_1 t h s1 s3 s4 s5 Q1 Q6 Q3 Q4 hm1;refine hK39 _ _ ?_;unfold B8f at hm1;apply b0b;intro K hK;simp only [go_sem, s5, Q6, Q3, Q4, b5r v3, b5r v3_1];apply hK;simp only [go_sem];refine b0k (fun hc41 => ?_) (fun hc41 => ?_)
         ·rw [b0r hc41] at hm1;apply b0b;intro K hK;simp only [go_sem, s5, Q6, Q3, Q4, b5r v3, b5r v3_1];refine b01 (j51 x30.Still 1 20) ?_;simp only [go_sem, s5, Q6, Q3, Q4, b5r v3, b5r v3_1];apply hK;simp only [go_sem];refine b0k (fun hc42 => ?_) (fun hc42 => ?_)
          ·rw [b0r hc42] at hm1;apply b0b;intro K hK;simp only [go_sem, Q3, b5r v3, b5r v3_1];apply hK;simp only [b0x, b1p, b2e, b0y];obtain rfl := sI9 hm1;obtain rfl := hb24 _ rfl
           try dsimp only at hm0
           obtain rfl := sI9 hm0;exact b04 (by simp only [go_sem, b8s Q1, Q6, Q3, Q4, lA9, mA9]) (b0e _)
          ·rw [b0q hc42] at hm1;simp only [b0s, b02, b0f];exact J28 machines_3_1 v3_1 _ _ s1 s3 s4 Q1 hm1
         ·rw [b0q hc41] at hm1;apply b0b;intro K hK;simp only [go_sem, s5, Q6, Q3, Q4, b5r v3, b5r v3_1];apply hK;simp only [go_sem];refine b0k (fun hc43 => ?_) (fun hc43 => ?_)
          ·rw [b0r hc43] at hm1;apply b0b;intro K hK;simp only [go_sem, Q3, b5r v3, b5r v3_1];apply hK;simp only [b0x, b1p, b2e, b0y];obtain rfl := sI9 hm1;obtain rfl := hb24 _ rfl
           try dsimp only at hm0
           obtain rfl := sI9 hm0;exact b04 (by simp only [go_sem, b8s Q1, Q6, Q3, Q4, lA9, mA9]) (b0e _)
          ·rw [b0q hc43] at hm1;simp only [b0s, b02, b0f];exact J28 machines_3_1 v3_1 _ _ s1 s3 s4 Q1 hm1
        simp only [go_sem, s77];refine b0k (fun hc44 => ?_) (fun hc44 => ?_)
        ·rw [b0r hc44] at hm1;refine b0v ?_;obtain ⟨c48, h_c48, hm1⟩ := b0g hm1;refine b2p (fun t h => t 1 = .fp [I s.Places, .fs 7 (List.map z9o s.Passages), .fs 1 (List.map eI s.Exits)] 0 /\ t 3 = v3 /\ t 4 = I i_4 /\ t 5 = .rp i5 0 0 /\ t 87 = B c48 /\ b2a h v3 1 (List.map eI machines_3) /\ h.ob i5 = some (7, [[I x30.A, I x30.B, I x30.Kind, I x30.Ticks, I x30.Wide, I x30.Machine, I x30.Still]]) /\ i5 < h.nx /\ b07 v3 i5) (fun K hK => ?_) ?_
         ·simp only [go_sem, s3, s5, l3r Q1, Q6, Q3, Q4, b5r v3];refine b01 (j51 x30.Machine 0 11) ?_;simp only [go_sem, s3, s5, l3r Q1, Q6, Q3, Q4, b5r v3];refine b0k (fun hg49 => ?_) (fun hg49 => ?_)
          ·simp only [hg49, Bool.not_true, Bool.not_false, eq_self, if_true, if_false, Bool.true_or, Bool.or_true, Bool.false_or, Bool.or_false, Bool.true_and, Bool.and_true, Bool.false_and, Bool.and_false, fT9] at h_c48;obtain rfl := sI9 h_c48;simp only [go_sem, s3, s5, l3r Q1, Q6, Q3, Q4, hg49, b5r v3];exact hK _ _ ⟨s1, s3, s4, s5, (by first | (simp only [go_sem, hg49, lA9, mA9]; done) | rfl), Q1, Q6, Q3, Q4⟩
          ·simp only [hg49, Bool.not_true, Bool.not_false, eq_self, if_true, if_false, Bool.true_or, Bool.or_true, Bool.false_or, Bool.or_false, Bool.true_and, Bool.and_true, Bool.false_and, Bool.and_false, fT9] at h_c48;obtain ⟨y47, h_y47, h_c48⟩ := b0g h_c48;obtain rfl := sI9 h_c48;simp only [go_sem, s3, s5, l3r Q1, Q6, Q3, Q4, hg49, b5r v3];refine b8l ?_ (C0g machines_3 x30.Machine _ h_y47) (.v _) ?_
           ·exact .cons (r8x (f := eI) (l := machines_3) (b3x Q1 (by intro j hj hl; first | rfl | simp only [go_sem, hl, b4s hj Q4]) (by first | omega | exact Nat.le_refl _ | (simp only [go_sem, nxs] <;> omega))) b1t b8p) (.cons (.refl _ (b0e _)) (.nil))
           simp only [go_sem, s3, s5, l3r Q1, Q6, Q3, Q4, hg49, b5r v3];exact hK _ _ ⟨s1, s3, s4, s5, (by first | (simp only [go_sem, hg49, lA9, mA9]; done) | rfl), Q1, Q6, Q3, Q4⟩
         ·try clear s1 s3 s4 s5 s77 Q1 Q6 Q3 Q4
          rintro t h ⟨s1, s3, s4, s5, s87, Q1, Q6, Q3, Q4⟩;refine b0i fun K50 hK50 => ?_;simp only [go_sem, s87];refine b0k (fun hc51 => ?_) (fun hc51 => ?_)
          ·rw [b0r hc51] at hm1;apply b0b;intro K hK;simp only [go_sem, Q3, b5r v3];apply hK;simp only [b0x, b1p, b2e, b0y];obtain rfl := sI9 hm1;obtain rfl := hb24 _ rfl
           try dsimp only at hm0
           obtain rfl := sI9 hm0;exact b04 (by simp only [go_sem, b8s Q1, Q6, Q3, Q4, lA9, mA9]) (b0e _)
          ·rw [b0q hc51] at hm1;simp only [b0s, b02, b0f];refine hK50 _ _ ?_;obtain ⟨l53, h_l53, hm1⟩ := b0g hm1;apply b03;intro K hK;simp only [go_sem, s3, s5, l3r Q1, Q6, Q3, Q4, b5r v3];refine b3a (f := eI) (l := machines_3) (m := ([x30.Machine])) ?_ ?_ ?_ ?_ h_l53 ?_
           ·exact (b3x Q1 (by intro j hj hl; first | rfl | simp only [go_sem, hl, b4s hj Q4]) (by first | omega | exact Nat.le_refl _ | (simp only [go_sem, nxs] <;> omega)))
           ·exact (b4t (by simp only [go_sem, b8s Q1, Q6, Q3, Q4, lA9, mA9]) (by simp only [go_sem, b8s Q1, Q6, Q3, Q4, lA9, mA9]))
           ·exact (b4r ve9)
           ·exact (fun _ => by simp)
           simp only [go_sem, s3, s5, l3r Q1, Q6, Q3, Q4, b5r v3];apply hK;simp only [b02, b0f];exact J40 l53 (.rs (nxs h.nx) 0 (List.length l53)) _ _ s1 (by first | (simp only [go_sem, s3, lA9, mA9]; done) | rfl) s4 s5 (b2v (by simp only [go_sem, b8s Q1, lA9, mA9]) vf9 vg9) (by simp only [go_sem, b8s Q1, Q6, Q3, Q4, lA9, mA9]) (by simp only [go_sem, Q3]) vb9 hm1
        ·rw [b0q hc44] at hm1;apply b0b;intro K hK;simp only [go_sem, s5, Q6, Q3, Q4, b5r v3];apply hK;simp only [go_sem];refine b0k (fun hc54 => ?_) (fun hc54 => ?_)
         ·rw [b0r hc54] at hm1;apply b0b;intro K hK;simp only [go_sem, Q3, b5r v3];apply hK;simp only [b0x, b1p, b2e, b0y];obtain rfl := sI9 hm1;obtain rfl := hb24 _ rfl
          try dsimp only at hm0
          obtain rfl := sI9 hm0;exact b04 (by simp only [go_sem, b8s Q1, Q6, Q3, Q4, lA9, mA9]) (b0e _)
         ·rw [b0q hc54] at hm1;simp only [b0s, b02, b0f];exact J40 machines_3 v3 _ _ s1 s3 s4 s5 Q1 Q6 Q3 Q4 hm1
    ·rw [b0q hc26] at hm1;simp only [b09, b1b, b1a, c0s, b02, b0f, Nat.reduceEqDiff, nF9];obtain rfl := sI9 hm1;obtain rfl := hb24 _ rfl
     try dsimp only at hm0
     exact J5  _ _ s1 hm0
theorem J0v (hf : Has O "newel/newelref08.Free" x_r08_Free) (j51 : B91 O) (J0w : J0m O) (J0x : J0n O) : J0l O := by
 intro s out help a b way r hm0;unfold H9t at hm0;refine b1i hf rfl (b0a (.agg _ (b0a (b0e _) (b0a (b0c fun a _ => c82 a) (b0a (b0c fun a _ => b1t a) b0j)))) (b0a (b0e _) (b0a (b0e _) (b0a (b0e _) (b0a (b0e _) (b0a (b0c fun a _ => b1t a) b0j)))))) (.tup _ (b0a (b0e _) (b0a (b0e _) b0j))) ?_;refine b1c (fun t h => t 0 = .agg [I s.Places, .fs 7 (List.map z9o s.Passages), .fs 1 (List.map eI s.Exits)] /\ t 1 = I out /\ t 2 = B help /\ t 3 = I a /\ t 4 = I b /\ t 5 = .fs 1 (List.map eI way)) ⟨rfl, rfl, rfl, rfl, rfl, rfl⟩ fun t h ⟨s0, s1, s2, s3, s4, s5⟩ => ?_;simp only [x_r08_Free];apply b0b;intro K hK;simp only [go_sem, s0];apply hK;apply b0b;intro K hK;simp only [go_sem];apply hK;refine b0v ?_;apply b0b;intro K hK;simp only [go_sem];apply hK;refine b0i fun K1 hK1 => ?_
 have J2 : ∀ (a_3 ticks_14 : Int) (t : Slots) (h : Heap), t 3 = I a_3 -> t 4 = I b -> t 14 = I ticks_14 -> J0b b a_3 ticks_14 = some r -> K1 t h := by
  intro a_3 ticks_14 t h s3 s4 s14 hm0;refine hK1 _ _ ?_;unfold J0b at hm0;apply b0b;intro K hK;simp only [go_sem, s3, s4, s14];apply hK;simp only [b0x, b1p, b2e, b0y];obtain rfl := sI9 hm0;exact d1m vc9 vc9 (b0e _) (b0e _)
 simp only [b0u];obtain ⟨b3, hl3, hm0⟩ := b0g hm0;refine b1j hl3 (fun | (a_3, ticks_14, i_15), t, h => t 1 = I out /\ t 2 = B help /\ t 3 = I a_3 /\ t 4 = I b /\ t 5 = .fs 1 (List.map eI way) /\ t 6 = .fp [I s.Places, .fs 7 (List.map z9o s.Passages), .fs 1 (List.map eI s.Exits)] 0 /\ t 14 = I ticks_14 /\ t 15 = I i_15) ?_ ?_
 ·exact ⟨s1, s2, s3, s4, s5, va9, va9, va9⟩
 ·rintro ⟨a_3, ticks_14, i_15⟩ o t h ⟨s1, s2, s3, s4, s5, s6, s14, s15⟩ hm1 hb3;simp only [H9u] at hm1;rw [J2d];refine b0v ?_;apply b0b;intro K hK;simp only [go_sem, s5, s15];apply hK;refine b0i fun K4 hK4 => ?_;simp only [go_sem];refine b0k (fun hc5 => ?_) (fun hc5 => ?_)
  ·rw [b0r hc5] at hm1;simp only [b0s, b02, b0f];refine hK4 _ _ ?_;refine b0i fun K6 hK6 => ?_;simp only [b0u];refine b0v ?_;obtain ⟨x8, h_x8, hm1⟩ := b0g hm1;have h_x80 := b05 h_x8;have h_x81 := b06 h_x8;apply b0b;intro K hK;simp only [go_sem, s5, s6, s15, b08 h_x8, b3n h_x8, h_x80, h_x81];refine b01 (j51 x8 0 (wr ((List.length s.Passages : Int) - 1))) ?_;simp only [go_sem, s5, s6, s15, b08 h_x8, b3n h_x8, h_x80, h_x81];apply hK;refine b0i fun K9 hK9 => ?_;simp only [go_sem];refine b0k (fun hc10 => ?_) (fun hc10 => ?_)
   ·rw [b0r hc10] at hm1;apply b0b;intro K hK;simp only [go_sem];apply hK;simp only [b0x, b1p, b2e, b0y];obtain rfl := sI9 hm1;obtain rfl := hb3 _ rfl
    try dsimp only at hm0
    obtain rfl := sI9 hm0;exact d1m vc9 vc9 (b0e _) (b0e _)
   ·rw [b0q hc10] at hm1;simp only [b0s, b02, b0f];refine hK9 _ _ ?_;obtain ⟨x12, h_x12, hm1⟩ := b0g hm1;have h_x120 := b05 h_x12;have h_x121 := b06 h_x12;apply b0b;intro K hK;simp only [go_sem, s5, s6, s15, b08 h_x12, b3n h_x12, h_x120, h_x121, b08 h_x8, b3n h_x8, h_x80, h_x81];apply hK;apply b0b;intro K hK;simp only [go_sem, s3];refine b01 (J0w x12 a_3) ?_;simp only [go_sem, s3];apply hK;refine b0v ?_;obtain ⟨c16, h_c16, hm1⟩ := b0g hm1;refine b2p (fun t h => ∃ i16 : Nat, t 1 = I out /\ t 2 = B help /\ t 3 = I (H83 x12 a_3) /\ t 4 = I b /\ t 5 = .fs 1 (List.map eI way) /\ t 6 = .fp [I s.Places, .fs 7 (List.map z9o s.Passages), .fs 1 (List.map eI s.Exits)] 0 /\ t 14 = I ticks_14 /\ t 15 = I i_15 /\ t 16 = .rp i16 0 0 /\ t 52 = B c16 /\ h.ob i16 = some (7, [[I x12.A, I x12.B, I x12.Kind, I x12.Ticks, I x12.Wide, I x12.Machine, I x12.Still]]) /\ i16 < h.nx) (fun K hK => ?_) ?_
    ·simp only [go_sem, s1, s2, s3];refine b0k (fun hg17 => ?_) (fun hg17 => ?_)
     ·simp only [hg17, Bool.not_true, Bool.not_false, eq_self, if_true, if_false, Bool.true_or, Bool.or_true, Bool.false_or, Bool.or_false, Bool.true_and, Bool.and_true, Bool.false_and, Bool.and_false, fT9] at h_c16;obtain rfl := sI9 h_c16;simp only [go_sem, s1, s2, s3, hg17];exact hK _ _ ⟨h.nx, s1, s2, (by first | (simp only [go_sem, s3, hg17, lA9, mA9]; done) | rfl), s4, s5, s6, s14, s15, (by first | (simp only [go_sem, hg17, lA9, mA9]; done) | rfl), (by first | (simp only [go_sem, hg17, lA9, mA9]; done) | rfl), (by simp only [go_sem, hg17, lA9, mA9]), vg9⟩
     ·simp only [hg17, Bool.not_true, Bool.not_false, eq_self, if_true, if_false, Bool.true_or, Bool.or_true, Bool.false_or, Bool.or_false, Bool.true_and, Bool.and_true, Bool.false_and, Bool.and_false, fT9] at h_c16;obtain ⟨y15, h_y15, h_c16⟩ := b0g h_c16;obtain rfl := sI9 h_c16;simp only [go_sem, s1, s2, s3, hg17];refine b01 (J0x x12 out help _ h_y15) ?_;simp only [go_sem, s1, s2, s3, hg17];exact hK _ _ ⟨h.nx, s1, s2, (by first | (simp only [go_sem, s3, hg17, lA9, mA9]; done) | rfl), s4, s5, s6, s14, s15, (by first | (simp only [go_sem, hg17, lA9, mA9]; done) | rfl), (by first | (simp only [go_sem, hg17, lA9, mA9]; done) | rfl), (by simp only [go_sem, hg17, lA9, mA9]), vg9⟩
    ·rintro t h ⟨i16, s1, s2, s3, s4, s5, s6, s14, s15, s16, s52, Qe, Qc⟩;refine b0i fun K18 hK18 => ?_;simp only [go_sem, s52];refine b0k (fun hc19 => ?_) (fun hc19 => ?_)
     ·rw [b0r hc19] at hm1;apply b0b;intro K hK;simp only [go_sem, Qc];apply hK;simp only [b0x, b1p, b2e, b0y];obtain rfl := sI9 hm1;obtain rfl := hb3 _ rfl
      try dsimp only at hm0
      obtain rfl := sI9 hm0;exact d1m (by simp only [go_sem, Qe, Qc, lA9, mA9]) (by simp only [go_sem, Qe, Qc, lA9, mA9]) (b0e _) (b0e _)
     ·rw [b0q hc19] at hm1;simp only [b0s, b02, b0f];refine hK18 _ _ ?_;apply b03;intro K hK;simp only [go_sem, s14, s16, Qe, Qc];apply hK;simp only [b02, b0f];refine hK6 _ _ ?_;apply b03;intro K hK;simp only [go_sem, s15, Qc];apply hK;simp only [b02, b0f];obtain rfl := sI9 hm1;refine ⟨_, rfl, ?_⟩;exact ⟨s1, s2, s3, s4, s5, s6, (by first | (simp only [go_sem, s14, lA9, mA9]; done) | rfl), (by first | (simp only [go_sem, s15, lA9, mA9]; done) | rfl)⟩
  ·rw [b0q hc5] at hm1;simp only [b09, b1b, b1a, c0s, b02, b0f, Nat.reduceEqDiff, nF9];obtain rfl := sI9 hm1;obtain rfl := hb3 _ rfl
   try dsimp only at hm0
   exact J2 a_3 ticks_14 _ _ s3 s4 s14 hm0
theorem J0w (hf : Has O "newel/newelref08.Other" x_r08_Other) : J0m O := by
 intro p place;generalize hm0 : H83 p place = r;unfold H83 at hm0;refine b1i hf rfl (b0a (.agg _ (b0a (b0e _) (b0a (b0e _) (b0a (b0e _) (b0a (b0e _) (b0a (b0e _) (b0a (b0e _) (b0a (b0e _) b0j)))))))) (b0a (b0e _) b0j)) (b0e _) ?_;refine b1c (fun t h => t 0 = .agg [I p.A, I p.B, I p.Kind, I p.Ticks, I p.Wide, I p.Machine, I p.Still] /\ t 1 = I place) ⟨rfl, rfl⟩ fun t h ⟨s0, s1⟩ => ?_;simp only [x_r08_Other];apply b0b;intro K hK;simp only [go_sem, s0];apply hK;refine b0v ?_;apply b0b;intro K hK;simp only [go_sem, s1];apply hK;refine b0i fun K1 hK1 => ?_;simp only [go_sem];refine b0k (fun hc2 => ?_) (fun hc2 => ?_)
 ·rw [b0r hc2] at hm0;apply b0b;intro K hK;simp only [go_sem];apply hK;simp only [b0x, b1p, b2e, b0y];obtain rfl := hm0;exact b04 vc9 (b0e _)
 ·rw [b0q hc2] at hm0;simp only [b0s, b02, b0f];refine hK1 _ _ ?_;refine b0v ?_;apply b0b;intro K hK;simp only [go_sem, s1];apply hK;refine b0i fun K3 hK3 => ?_;simp only [go_sem];refine b0k (fun hc4 => ?_) (fun hc4 => ?_)
  ·rw [b0r hc4] at hm0;apply b0b;intro K hK;simp only [go_sem];apply hK;simp only [b0x, b1p, b2e, b0y];obtain rfl := hm0;exact b04 vc9 (b0e _)
  ·rw [b0q hc4] at hm0;simp only [b0s, b02, b0f];refine hK3 _ _ ?_;apply b0b;intro K hK;simp only [go_sem];apply hK;simp only [b0x, b1p, b2e, b0y];obtain rfl := hm0;exact b04 vc9 (b0e _)
theorem J0x (hf : Has O "newel/newelref08.free" x_r08_free) (J0y : J0o O) : J0n O := by
 intro p out help r hm0;unfold H9v at hm0;refine b1i hf rfl (b0a (.agg _ (b0a (b0e _) (b0a (b0e _) (b0a (b0e _) (b0a (b0e _) (b0a (b0e _) (b0a (b0e _) (b0a (b0e _) b0j)))))))) (b0a (b0e _) (b0a (b0e _) b0j))) (b0e _) ?_;refine b1c (fun t h => t 0 = .agg [I p.A, I p.B, I p.Kind, I p.Ticks, I p.Wide, I p.Machine, I p.Still] /\ t 1 = I out /\ t 2 = B help) ⟨rfl, rfl, rfl⟩ fun t h ⟨s0, s1, s2⟩ => ?_;simp only [x_r08_free];apply b0b;intro K hK;simp only [go_sem, s0];apply hK;obtain ⟨c6, h_c6, hm0⟩ := b0g hm0;refine b2p (fun t h => t 6 = B (c6 || ((decide (p.Kind = 5)) && help))) (fun K hK => ?_) ?_
 ·simp only [go_sem, s1, s2];refine b0k (fun hg7 => ?_) (fun hg7 => ?_)
  ·simp only [hg7, Bool.not_true, Bool.not_false, eq_self, if_true, if_false, Bool.true_or, Bool.or_true, Bool.false_or, Bool.or_false, Bool.true_and, Bool.and_true, Bool.false_and, Bool.and_false, fT9] at h_c6;obtain rfl := sI9 h_c6;simp only [go_sem, s1, s2, hg7];exact hK _ _ (by first | (simp only [go_sem, hg7, lA9, mA9]; done) | rfl)
  ·simp only [hg7, Bool.not_true, Bool.not_false, eq_self, if_true, if_false, Bool.true_or, Bool.or_true, Bool.false_or, Bool.or_false, Bool.true_and, Bool.and_true, Bool.false_and, Bool.and_false, fT9] at h_c6;obtain ⟨c5, h_c5, h_c6⟩ := b0g h_c6;obtain rfl := sI9 h_c6;simp only [go_sem, s1, s2, hg7];refine b0k (fun hg8 => ?_) (fun hg8 => ?_)
   ·simp only [hg7, hg8, Bool.not_true, Bool.not_false, eq_self, if_true, if_false, Bool.true_or, Bool.or_true, Bool.false_or, Bool.or_false, Bool.true_and, Bool.and_true, Bool.false_and, Bool.and_false, fT9] at h_c5;obtain ⟨y4, h_y4, h_c5⟩ := b0g h_c5;obtain rfl := sI9 h_c5;simp only [go_sem, s1, s2, hg7, hg8];refine b01 (J0y out p.Machine _ h_y4) ?_;simp only [go_sem, s1, s2, hg7, hg8];refine b0k (fun hg9 => ?_) (fun hg9 => ?_)
    ·simp only [go_sem, s1, s2, hg7, hg8, hg9];exact hK _ _ (by first | (simp only [go_sem, hg7, hg8, hg9, lA9, mA9]; done) | rfl)
    ·simp only [go_sem, s1, s2, hg7, hg8, hg9];refine b0k (fun hg10 => ?_) (fun hg10 => ?_)
     ·simp only [go_sem, s1, s2, hg7, hg8, hg9, hg10];exact hK _ _ (by first | (simp only [go_sem, hg7, hg8, hg9, hg10, lA9, mA9]; done) | rfl)
     ·simp only [go_sem, s1, s2, hg7, hg8, hg9, hg10];exact hK _ _ (by first | (simp only [go_sem, hg7, hg8, hg9, hg10, lA9, mA9]; done) | rfl)
   ·simp only [hg7, hg8, Bool.not_true, Bool.not_false, eq_self, if_true, if_false, Bool.true_or, Bool.or_true, Bool.false_or, Bool.or_false, Bool.true_and, Bool.and_true, Bool.false_and, Bool.and_false, fT9] at h_c5;obtain rfl := sI9 h_c5;simp only [go_sem, s1, s2, hg7, hg8];refine b0k (fun hg11 => ?_) (fun hg11 => ?_)
    ·simp only [go_sem, s1, s2, hg7, hg8, hg11];exact hK _ _ (by first | (simp only [go_sem, hg7, hg8, hg11, lA9, mA9]; done) | rfl)
    ·simp only [go_sem, s1, s2, hg7, hg8, hg11];exact hK _ _ (by first | (simp only [go_sem, hg7, hg8, hg11, lA9, mA9]; done) | rfl)
 ·rintro t h s6;simp only [b0x, b1p, b2e, b0y];obtain rfl := sI9 hm0;exact b04 (by simp only [go_sem, s6, lA9, mA9]) (b0e _)
theorem j51 (hf : Has O "newel/newelref08.from" x_r08_from) : B91 O := by
 intro n low high;generalize hm0 : b40 n low high = r;unfold b40 at hm0;refine b1i hf rfl (b0a (b0e _) (b0a (b0e _) (b0a (b0e _) b0j))) (b0e _) ?_;refine b1c (fun t h => t 0 = I n /\ t 1 = I low /\ t 2 = I high) ⟨rfl, rfl, rfl⟩ fun t h ⟨s0, s1, s2⟩ => ?_;simp only [x_r08_from];apply b0b;intro K hK;simp only [go_sem];apply hK;refine b2p (fun t h => t 6 = B ((decide (low <= n)) && (decide (n <= high)))) (fun K hK => ?_) ?_
 ·simp only [go_sem, s0, s1, s2];refine b0k (fun hg1 => ?_) (fun hg1 => ?_)
  ·simp only [go_sem, s0, s1, s2, hg1];exact hK _ _ (by first | (simp only [go_sem, hg1, lA9, mA9]; done) | rfl)
  ·simp only [go_sem, s0, s1, s2, hg1];exact hK _ _ (by first | (simp only [go_sem, hg1, lA9, mA9]; done) | rfl)
 ·rintro t h s6;simp only [b0x, b1p, b2e, b0y];obtain rfl := hm0;exact b04 (by simp only [go_sem, s6, lA9, mA9]) (b0e _)
theorem C0g (hf : Has O "newel/newelref08.has" x_r08_has) : B92 O := by
 intro l n r hm0;unfold B9g at hm0;refine b1i hf rfl (b0a (b0c fun a _ => b1t a) (b0a (b0e _) b0j)) (b0e _) ?_;refine b1c (fun t h => t 0 = .fs 1 (List.map eI l) /\ t 1 = I n) ⟨rfl, rfl⟩ fun t h ⟨s0, s1⟩ => ?_;simp only [x_r08_has];apply b0b;intro K hK;simp only [go_sem];apply hK;refine b0v ?_;apply b0b;intro K hK;simp only [go_sem];apply hK;refine b0i fun K1 hK1 => ?_
 have J2 : ∀ (t : Slots) (h : Heap), C0o = some r -> K1 t h := by
  intro t h hm0;refine hK1 _ _ ?_;unfold C0o at hm0;apply b0b;intro K hK;simp only [go_sem];apply hK;simp only [b0x, b1p, b2e, b0y];obtain rfl := sI9 hm0;exact b04 vc9 (b0e _)
 simp only [b0u];obtain ⟨b3, hl3, hm0⟩ := b0g hm0;refine b1j hl3 (fun | i_5, t, h => t 0 = .fs 1 (List.map eI l) /\ t 1 = I n /\ t 5 = I i_5) ?_ ?_
 ·exact ⟨s0, s1, va9⟩
 ·rintro i_5 o t h ⟨s0, s1, s5⟩ hm1 hb3;simp only [B8w] at hm1;rw [C1c];refine b0v ?_;apply b0b;intro K hK;simp only [go_sem, s0, s5];apply hK;refine b0i fun K4 hK4 => ?_;simp only [go_sem];refine b0k (fun hc5 => ?_) (fun hc5 => ?_)
  ·rw [b0r hc5] at hm1;simp only [b0s, b02, b0f];refine hK4 _ _ ?_;refine b0i fun K6 hK6 => ?_;simp only [b0u];obtain ⟨x8, h_x8, hm1⟩ := b0g hm1;have h_x80 := b05 h_x8;have h_x81 := b06 h_x8;apply b0b;intro K hK;simp only [go_sem, s0, s1, s5, b08 h_x8, b3n h_x8, h_x80, h_x81];apply hK;simp only [go_sem];refine b0k (fun hc9 => ?_) (fun hc9 => ?_)
   ·rw [b0r hc9] at hm1;apply b0b;intro K hK;simp only [go_sem];apply hK;simp only [b0x, b1p, b2e, b0y];obtain rfl := sI9 hm1;obtain rfl := hb3 _ rfl
    try dsimp only at hm0
    obtain rfl := sI9 hm0;exact b04 vc9 (b0e _)
   ·rw [b0q hc9] at hm1;simp only [b0s, b02, b0f];refine hK6 _ _ ?_;apply b03;intro K hK;simp only [go_sem, s5];apply hK;simp only [b02, b0f];obtain rfl := sI9 hm1;refine ⟨_, rfl, ?_⟩;exact ⟨s0, s1, (by first | (simp only [go_sem, s5, lA9, mA9]; done) | rfl)⟩
  ·rw [b0q hc5] at hm1;simp only [b09, b1b, b1a, c0s, b02, b0f, Nat.reduceEqDiff, nF9];obtain rfl := sI9 hm1;obtain rfl := hb3 _ rfl
   try dsimp only at hm0
   exact J2  _ _  hm0
theorem J0y (hf : Has O "newel/newelref08.isOut" x_r08_isOut) : J0o O := by
 intro out machine r hm0;unfold J0c at hm0;refine b1i hf rfl (b0a (b0e _) (b0a (b0e _) b0j)) (b0e _) ?_;refine b1c (fun t h => t 0 = I out /\ t 1 = I machine) ⟨rfl, rfl⟩ fun t h ⟨s0, s1⟩ => ?_;simp only [x_r08_isOut];apply b0b;intro K hK;simp only [go_sem];apply hK;obtain ⟨q2, h_q2, hm0⟩ := b0g hm0;apply b0b;intro K hK;simp only [go_sem, s0, s1, c7d h_q2];apply hK;simp only [b0x, b1p, b2e, b0y];obtain rfl := sI9 hm0;exact b04 vc9 (b0e _)
theorem c3p (hf : Has O "newel/situation.Asked" x_situation_Asked) (b8n : c1o O) (d3g : d0j O) : c5t O := by
 intro m c r hm0;unfold c1h at hm0;refine b1i hf rfl (b0a (fM _) (b0a (b0c fun a _ => b2j a) b0j)) (b0e _) ?_;refine b1c (fun t h => t 0 = .agg (vM m) /\ t 1 = .fs 1 (List.map b0t c)) ⟨rfl, rfl⟩ fun t h ⟨s0, s1⟩ => ?_;simp only [x_situation_Asked];apply b0b;intro K hK;simp only [go_sem, s0];apply hK;refine b0v ?_;apply b0b;intro K hK;simp only [go_sem, s1];apply hK;refine b0i fun K1 hK1 => ?_;simp only [go_sem];refine b0k (fun hc2 => ?_) (fun hc2 => ?_)
 ·rw [b0r hc2] at hm0;apply b0b;intro K hK;simp only [go_sem];apply hK;simp only [b0x, b1p, b2e, b0y];obtain rfl := sI9 hm0;exact b04 vc9 (b0e _)
 ·rw [b0q hc2] at hm0;simp only [b0s, b02, b0f];refine hK1 _ _ ?_;refine b0v ?_;apply b0b;intro K hK;simp only [go_sem, s1];apply hK;refine b0i fun K3 hK3 => ?_
  have J4 : ∀ (t : Slots) (h : Heap), d46 = some r -> K3 t h := by
   intro t h hm0;refine hK3 _ _ ?_;unfold d46 at hm0;apply b0b;intro K hK;simp only [go_sem];apply hK;simp only [b0x, b1p, b2e, b0y];obtain rfl := sI9 hm0;exact b04 vc9 (b0e _)
  simp only [b0u];obtain ⟨b5, hl5, hm0⟩ := b0g hm0;refine b1j hl5 (fun | x_12, t, h => t 2 = .fp (vM m) 0 /\ t 10 = .fs 1 (List.map b0t c) /\ t 11 = I (List.length c : Int) /\ t 12 = I x_12) ?_ ?_
  ·exact ⟨va9, va9, va9, va9⟩
  ·rintro x_12 o t h ⟨s2, s10, s11, s12⟩ hm1 hb5;simp only [c4u] at hm1;rw [g45];apply b0b;intro K hK;simp only [go_sem, s11, s12];apply hK;refine b0i fun K6 hK6 => ?_;simp only [go_sem];refine b0k (fun hc7 => ?_) (fun hc7 => ?_)
   ·rw [b0r hc7] at hm1;simp only [b0s, b02, b0f];refine hK6 _ _ ?_;refine b0i fun K8 hK8 => ?_;simp only [b0u];obtain ⟨x10, h_x10, hm1⟩ := b0g hm1;have h_x100 := b05 h_x10;have h_x101 := b06 h_x10;apply b0b;intro K hK;simp only [go_sem, s10, s12, b08 h_x10, b3n h_x10, h_x100, h_x101];apply hK;obtain ⟨c16, h_c16, hm1⟩ := b0g hm1;refine b2p (fun t h => t 2 = .fp (vM m) 0 /\ t 10 = .fs 1 (List.map b0t c) /\ t 11 = I (List.length c : Int) /\ t 12 = I x_12 /\ t 23 = B c16) (fun K hK => ?_) ?_
    ·simp only [go_sem, s2];refine b0k (fun hg17 => ?_) (fun hg17 => ?_)
     ·simp only [hg17, Bool.not_true, Bool.not_false, eq_self, if_true, if_false, Bool.true_or, Bool.or_true, Bool.false_or, Bool.or_false, Bool.true_and, Bool.and_true, Bool.false_and, Bool.and_false, fT9] at h_c16;obtain rfl := sI9 h_c16;simp only [go_sem, s2, hg17];exact hK _ _ ⟨s2, s10, s11, s12, (by first | (simp only [go_sem, hg17, lA9, mA9]; done) | rfl)⟩
     ·simp only [hg17, Bool.not_true, Bool.not_false, eq_self, if_true, if_false, Bool.true_or, Bool.or_true, Bool.false_or, Bool.or_false, Bool.true_and, Bool.and_true, Bool.false_and, Bool.and_false, fT9] at h_c16;obtain ⟨y15, h_y15, h_c16⟩ := b0g h_c16;obtain rfl := sI9 h_c16;simp only [go_sem, s2, hg17];refine b01 (b8n x10 "newel/situation.Asked$1" [] [.fp (vM m) 0] (fun z14 => b82 z14 m) (.fn _ _ _ b0j (b0a (.fp _ _ (b0a (b0c fun a _ => b0z a) (b0a (b0c fun a _ => b0z a) (b0a (b0c fun a _ => b1q a) (b0a (b0c fun a _ => b1s a) (b0a (b0c fun a _ => b1r a) b0j)))))) b0j)) (fun z0 y hz => d3g z0 m y hz) _ h_y15) ?_;simp only [go_sem, s2, hg17];exact hK _ _ ⟨s2, s10, s11, s12, (by first | (simp only [go_sem, hg17, lA9, mA9]; done) | rfl)⟩
    ·rintro t h ⟨s2, s10, s11, s12, s23⟩;simp only [go_sem, s23];refine b0k (fun hc18 => ?_) (fun hc18 => ?_)
     ·rw [b0r hc18] at hm1;apply b0b;intro K hK;simp only [go_sem];apply hK;simp only [b0x, b1p, b2e, b0y];obtain rfl := sI9 hm1;obtain rfl := hb5 _ rfl
      try dsimp only at hm0
      obtain rfl := sI9 hm0;exact b04 vc9 (b0e _)
     ·rw [b0q hc18] at hm1;simp only [b0s, b02, b0f];refine hK8 _ _ ?_;apply b03;intro K hK;simp only [go_sem, s12];apply hK;simp only [b02, b0f];obtain rfl := sI9 hm1;refine ⟨_, rfl, ?_⟩;exact ⟨s2, s10, s11, (by first | (simp only [go_sem, s12, lA9, mA9]; done) | rfl)⟩
   ·rw [b0q hc7] at hm1;simp only [b09, b1b, b1a, c0s, b02, b0f, Nat.reduceEqDiff, nF9];obtain rfl := sI9 hm1;obtain rfl := hb5 _ rfl
    try dsimp only at hm0
    exact J4  _ _  hm0
theorem d3g (hf : Has O "newel/situation.Asked$1" x_situation_AskedD1) (d3l : d0o O) : d0j O := by
 intro x c0 r hm0;unfold b82 at hm0;refine b1i hf rfl (b0a (.agg _ (b0a (b0e _) (b0a (b0e _) (b0a (b0e _) (b0a (b0e _) b0j))))) (b0a (.fp _ _ (b0a (b0c fun a _ => b0z a) (b0a (b0c fun a _ => b0z a) (b0a (b0c fun a _ => b1q a) (b0a (b0c fun a _ => b1s a) (b0a (b0c fun a _ => b1r a) b0j)))))) b0j)) (b0e _) ?_;refine b1c (fun t h => t 0 = .agg [I x.Kind, I x.Number, I x.Value, B x.Not] /\ t 1 = .fp (vM c0) 0) ⟨rfl, rfl⟩ fun t h ⟨s0, s1⟩ => ?_;simp only [x_situation_AskedD1];apply b0b;intro K hK;simp only [go_sem, s0];apply hK;obtain ⟨y2, h_y2, hm0⟩ := b0g hm0;apply b0b;intro K hK;simp only [go_sem, s1];refine b01 (d3l c0 x _ h_y2) ?_;simp only [go_sem, s1];apply hK;simp only [b0x, b1p, b2e, b0y];obtain rfl := sI9 hm0;exact b04 vc9 (b0e _)
theorem d3h (hf : Has O "newel/situation.Check" x_situation_Check) (b4q : c5u O) (d3m : d0p O) (c3p : c5t O) (b8n : c1o O) (d3i : d0l O) : d0k O := by
 intro m r hm0;unfold c4v at hm0;refine b1i hf rfl (b0a (fM _) b0j) (b0e _) ?_;refine b1c (fun t h => t 0 = .agg (vM m)) rfl fun t h s0 => ?_;simp only [x_situation_Check];apply b0b;intro K hK;simp only [go_sem, s0];apply hK;refine b0v ?_;obtain ⟨c4, h_c4, hm0⟩ := b0g hm0;refine b2p (fun t h => t 1 = .fp (vM m) 0 /\ t 46 = B c4) (fun K hK => ?_) ?_
 ·simp only [go_sem];refine b0k (fun hg5 => ?_) (fun hg5 => ?_)
  ·simp only [hg5, Bool.not_true, Bool.not_false, eq_self, if_true, if_false, Bool.true_or, Bool.or_true, Bool.false_or, Bool.or_false, Bool.true_and, Bool.and_true, Bool.false_and, Bool.and_false, fT9] at h_c4;obtain rfl := sI9 h_c4;simp only [go_sem, hg5];exact hK _ _ ⟨(by first | (simp only [go_sem, hg5, lA9, mA9]; done) | rfl), (by first | (simp only [go_sem, hg5, lA9, mA9]; done) | rfl)⟩
  ·simp only [go_sem, hg5];refine b0k (fun hg6 => ?_) (fun hg6 => ?_)
   ·simp only [hg5, hg6, Bool.not_true, Bool.not_false, eq_self, if_true, if_false, Bool.true_or, Bool.or_true, Bool.false_or, Bool.or_false, Bool.true_and, Bool.and_true, Bool.false_and, Bool.and_false, fT9] at h_c4;obtain rfl := sI9 h_c4;simp only [go_sem, hg5, hg6];exact hK _ _ ⟨(by first | (simp only [go_sem, hg5, hg6, lA9, mA9]; done) | rfl), (by first | (simp only [go_sem, hg5, hg6, lA9, mA9]; done) | rfl)⟩
   ·simp only [go_sem, hg5, hg6];refine b0k (fun hg7 => ?_) (fun hg7 => ?_)
    ·simp only [hg5, hg6, hg7, Bool.not_true, Bool.not_false, eq_self, if_true, if_false, Bool.true_or, Bool.or_true, Bool.false_or, Bool.or_false, Bool.true_and, Bool.and_true, Bool.false_and, Bool.and_false, fT9] at h_c4;obtain rfl := sI9 h_c4;simp only [go_sem, hg5, hg6, hg7];exact hK _ _ ⟨(by first | (simp only [go_sem, hg5, hg6, hg7, lA9, mA9]; done) | rfl), (by first | (simp only [go_sem, hg5, hg6, hg7, lA9, mA9]; done) | rfl)⟩
    ·simp only [go_sem, hg5, hg6, hg7];refine b01 (b4q (List.length m.States : Int) 1 12) ?_;simp only [go_sem, hg5, hg6, hg7];refine b0k (fun hg8 => ?_) (fun hg8 => ?_)
     ·simp only [hg5, hg6, hg7, hg8, Bool.not_true, Bool.not_false, eq_self, if_true, if_false, Bool.true_or, Bool.or_true, Bool.false_or, Bool.or_false, Bool.true_and, Bool.and_true, Bool.false_and, Bool.and_false, fT9] at h_c4;obtain rfl := sI9 h_c4;simp only [go_sem, hg5, hg6, hg7, hg8];exact hK _ _ ⟨(by first | (simp only [go_sem, hg5, hg6, hg7, hg8, lA9, mA9]; done) | rfl), (by first | (simp only [go_sem, hg5, hg6, hg7, hg8, lA9, mA9]; done) | rfl)⟩
     ·simp only [go_sem, hg5, hg6, hg7, hg8];refine b0k (fun hg9 => ?_) (fun hg9 => ?_)
      ·simp only [hg5, hg6, hg7, hg8, hg9, Bool.not_true, Bool.not_false, eq_self, if_true, if_false, Bool.true_or, Bool.or_true, Bool.false_or, Bool.or_false, Bool.true_and, Bool.and_true, Bool.false_and, Bool.and_false, fT9] at h_c4;obtain rfl := sI9 h_c4;simp only [go_sem, hg5, hg6, hg7, hg8, hg9];exact hK _ _ ⟨(by first | (simp only [go_sem, hg5, hg6, hg7, hg8, hg9, lA9, mA9]; done) | rfl), (by first | (simp only [go_sem, hg5, hg6, hg7, hg8, hg9, lA9, mA9]; done) | rfl)⟩
      ·simp only [hg5, hg6, hg7, hg8, hg9, Bool.not_true, Bool.not_false, eq_self, if_true, if_false, Bool.true_or, Bool.or_true, Bool.false_or, Bool.or_false, Bool.true_and, Bool.and_true, Bool.false_and, Bool.and_false, fT9] at h_c4;obtain ⟨y3, h_y3, h_c4⟩ := b0g h_c4;obtain rfl := sI9 h_c4;simp only [go_sem, hg5, hg6, hg7, hg8, hg9];refine b01 (d3m m _ h_y3) ?_;simp only [go_sem, hg5, hg6, hg7, hg8, hg9];exact hK _ _ ⟨(by first | (simp only [go_sem, hg5, hg6, hg7, hg8, hg9, lA9, mA9]; done) | rfl), (by first | (simp only [go_sem, hg5, hg6, hg7, hg8, hg9, lA9, mA9]; done) | rfl)⟩
 ·rintro t h ⟨s1, s46⟩;refine b0i fun K10 hK10 => ?_;simp only [go_sem, s46];refine b0k (fun hc11 => ?_) (fun hc11 => ?_)
  ·rw [b0r hc11] at hm0;apply b0b;intro K hK;simp only [go_sem];apply hK;simp only [b0x, b1p, b2e, b0y];obtain rfl := sI9 hm0;exact b04 vc9 (b0e _)
  ·rw [b0q hc11] at hm0;simp only [b0s, b02, b0f];refine hK10 _ _ ?_;refine b0v ?_;apply b0b;intro K hK;simp only [go_sem, s1];apply hK;refine b0i fun K12 hK12 => ?_
   have J13 : ∀ (t : Slots) (h : Heap), t 1 = .fp (vM m) 0 -> p84 m = some r -> K12 t h := by
    intro t h s1 hm0;refine hK12 _ _ ?_;unfold p84 at hm0;refine b0v ?_;apply b0b;intro K hK;simp only [go_sem, s1];apply hK;refine b0i fun K14 hK14 => ?_
    have J15 : ∀ (t : Slots) (h : Heap), t 1 = .fp (vM m) 0 -> c85 m = some r -> K14 t h := by
     intro t h s1 hm0;refine hK14 _ _ ?_;unfold c85 at hm0;refine b0v ?_;apply b0b;intro K hK;simp only [go_sem, s1];apply hK;refine b0i fun K16 hK16 => ?_
     have J17 : ∀ (t : Slots) (h : Heap), d47 = some r -> K16 t h := by
      intro t h hm0;refine hK16 _ _ ?_;unfold d47 at hm0;apply b0b;intro K hK;simp only [go_sem];apply hK;simp only [b0x, b1p, b2e, b0y];obtain rfl := sI9 hm0;exact b04 vc9 (b0e _)
     simp only [b0u];obtain ⟨b18, hl18, hm0⟩ := b0g hm0;refine b1j hl18 (fun | x_79, t, h => t 1 = .fp (vM m) 0 /\ t 77 = .fs 4 (List.map b0m m.Rules) /\ t 78 = I (List.length m.Rules : Int) /\ t 79 = I x_79) ?_ ?_
     ·exact ⟨s1, va9, va9, va9⟩
     ·rintro x_79 o t h ⟨s1, s77, s78, s79⟩ hm1 hb18;simp only [b83] at hm1;rw [g49];apply b0b;intro K hK;simp only [go_sem, s78, s79];apply hK;refine b0i fun K19 hK19 => ?_;simp only [go_sem];refine b0k (fun hc20 => ?_) (fun hc20 => ?_)
      ·rw [b0r hc20] at hm1;simp only [b0s, b02, b0f];refine hK19 _ _ ?_;refine b0i fun K21 hK21 => ?_
       have J22 : ∀ (t : Slots) (h : Heap), t 1 = .fp (vM m) 0 -> t 77 = .fs 4 (List.map b0m m.Rules) -> t 78 = I (List.length m.Rules : Int) -> t 79 = I x_79 -> c86 x_79 = some o -> K21 t h := by
        intro t h s1 s77 s78 s79 hm1;refine hK21 _ _ ?_;unfold c86 at hm1;apply b03;intro K hK;simp only [go_sem, s79];apply hK;simp only [b02, b0f];obtain rfl := sI9 hm1;refine ⟨_, rfl, ?_⟩;exact ⟨s1, s77, s78, (by first | (simp only [go_sem, s79, lA9, mA9]; done) | rfl)⟩
       simp only [b0u];obtain ⟨x24, h_x24, hm1⟩ := b0g hm1;have h_x240 := b05 h_x24;have h_x241 := b06 h_x24;apply b0b;intro K hK;simp only [go_sem, s77, s79, b08 h_x24, b3n h_x24, h_x240, h_x241];apply hK;refine b0v ?_;obtain ⟨c28, h_c28, hm1⟩ := b0g hm1;refine b2p (fun t h => ∃ i8 : Nat, t 1 = .fp (vM m) 0 /\ t 8 = .rp i8 0 0 /\ t 77 = .fs 4 (List.map b0m m.Rules) /\ t 78 = I (List.length m.Rules : Int) /\ t 79 = I x_79 /\ t 113 = B (c28 || (decide (4 < (List.length x24.Sets : Int)))) /\ h.ob i8 = some (4, [[I x24.From, I x24.To, .fs 1 (List.map b0t x24.When), .fs 2 (List.map b2o x24.Sets)]]) /\ i8 < h.nx) (fun K hK => ?_) ?_
       ·simp only [go_sem, s1];refine b01 (b4q x24.From (-1) (wr ((List.length m.States : Int) - 1))) ?_;simp only [go_sem, s1];refine b0k (fun hg29 => ?_) (fun hg29 => ?_)
        ·simp only [hg29, Bool.not_true, Bool.not_false, eq_self, if_true, if_false, Bool.true_or, Bool.or_true, Bool.false_or, Bool.or_false, Bool.true_and, Bool.and_true, Bool.false_and, Bool.and_false, fT9] at h_c28;obtain rfl := sI9 h_c28;simp only [go_sem, s1, hg29];exact hK _ _ ⟨h.nx, s1, (by first | (simp only [go_sem, hg29, lA9, mA9]; done) | rfl), s77, s78, s79, (by first | (simp only [go_sem, hg29, lA9, mA9]; done) | rfl), (by simp only [go_sem, hg29, lA9, mA9]), vg9⟩
        ·simp only [go_sem, s1, hg29];refine b01 (b4q x24.To 0 (wr ((List.length m.States : Int) - 1))) ?_;simp only [go_sem, s1, hg29];refine b0k (fun hg30 => ?_) (fun hg30 => ?_)
         ·simp only [hg29, hg30, Bool.not_true, Bool.not_false, eq_self, if_true, if_false, Bool.true_or, Bool.or_true, Bool.false_or, Bool.or_false, Bool.true_and, Bool.and_true, Bool.false_and, Bool.and_false, fT9] at h_c28;obtain rfl := sI9 h_c28;simp only [go_sem, s1, hg29, hg30];exact hK _ _ ⟨h.nx, s1, (by first | (simp only [go_sem, hg29, hg30, lA9, mA9]; done) | rfl), s77, s78, s79, (by first | (simp only [go_sem, hg29, hg30, lA9, mA9]; done) | rfl), (by simp only [go_sem, hg29, hg30, lA9, mA9]), vg9⟩
         ·simp only [hg29, hg30, Bool.not_true, Bool.not_false, eq_self, if_true, if_false, Bool.true_or, Bool.or_true, Bool.false_or, Bool.or_false, Bool.true_and, Bool.and_true, Bool.false_and, Bool.and_false, fT9] at h_c28;obtain ⟨y27, h_y27, h_c28⟩ := b0g h_c28;obtain rfl := sI9 h_c28;simp only [go_sem, s1, hg29, hg30];refine b01 (c3p m x24.When _ h_y27) ?_;simp only [go_sem, s1, hg29, hg30];refine b0k (fun hg31 => ?_) (fun hg31 => ?_)
          ·simp only [go_sem, s1, hg29, hg30, hg31];exact hK _ _ ⟨h.nx, s1, (by first | (simp only [go_sem, hg29, hg30, hg31, lA9, mA9]; done) | rfl), s77, s78, s79, (by first | (simp only [go_sem, hg29, hg30, hg31, lA9, mA9]; done) | rfl), (by simp only [go_sem, hg29, hg30, hg31, lA9, mA9]), vg9⟩
          ·simp only [go_sem, s1, hg29, hg30, hg31];exact hK _ _ ⟨h.nx, s1, (by first | (simp only [go_sem, hg29, hg30, hg31, lA9, mA9]; done) | rfl), s77, s78, s79, (by first | (simp only [go_sem, hg29, hg30, hg31, lA9, mA9]; done) | rfl), (by simp only [go_sem, hg29, hg30, hg31, lA9, mA9]), vg9⟩
       ·rintro t h ⟨i8, s1, s8, s77, s78, s79, s113, Qb, Qa⟩;refine b0i fun K32 hK32 => ?_;simp only [go_sem, s113];refine b0k (fun hc33 => ?_) (fun hc33 => ?_)
        ·rw [b0r hc33] at hm1;apply b0b;intro K hK;simp only [go_sem, Qa];apply hK;simp only [b0x, b1p, b2e, b0y];obtain rfl := sI9 hm1;obtain rfl := hb18 _ rfl
         try dsimp only at hm0
         obtain rfl := sI9 hm0;exact b04 (by simp only [go_sem, Qb, Qa, lA9, mA9]) (b0e _)
        ·rw [b0q hc33] at hm1;simp only [b0s, b02, b0f];refine hK32 _ _ ?_;refine b0v ?_;apply b0b;intro K hK;simp only [go_sem, s8, Qb, Qa];apply hK;refine b0i fun K34 hK34 => ?_
         have J35 : ∀ (t : Slots) (h : Heap), t 1 = .fp (vM m) 0 -> t 8 = .rp i8 0 0 -> t 77 = .fs 4 (List.map b0m m.Rules) -> t 78 = I (List.length m.Rules : Int) -> t 79 = I x_79 -> h.ob i8 = some (4, [[I x24.From, I x24.To, .fs 1 (List.map b0t x24.When), .fs 2 (List.map b2o x24.Sets)]]) -> i8 < h.nx -> c87 m x_79 x24 = some o -> K34 t h := by
          intro t h s1 s8 s77 s78 s79 Qb Qa hm1;refine hK34 _ _ ?_;unfold c87 at hm1;apply b0b;intro K hK;simp only [go_sem, s8, Qb, Qa];apply hK;simp only [b0u];obtain ⟨b36, hl36, hm1⟩ := b0g hm1;refine b1j hl36 (fun | x_127, t, h => t 1 = .fp (vM m) 0 /\ t 77 = .fs 4 (List.map b0m m.Rules) /\ t 78 = I (List.length m.Rules : Int) /\ t 79 = I x_79 /\ t 125 = .fs 2 (List.map b2o x24.Sets) /\ t 126 = I (List.length x24.Sets : Int) /\ t 127 = I x_127) ?_ ?_
          ·exact ⟨s1, s77, s78, s79, va9, va9, va9⟩
          ·rintro x_127 o t h ⟨s1, s77, s78, s79, s125, s126, s127⟩ hm2 hb36;simp only [c4y] at hm2;rw [g48];apply b0b;intro K hK;simp only [go_sem, s126, s127];apply hK;refine b0i fun K37 hK37 => ?_;simp only [go_sem];refine b0k (fun hc38 => ?_) (fun hc38 => ?_)
           ·rw [b0r hc38] at hm2;simp only [b0s, b02, b0f];refine hK37 _ _ ?_;refine b0i fun K39 hK39 => ?_;simp only [b0u];obtain ⟨x41, h_x41, hm2⟩ := b0g hm2;have h_x410 := b05 h_x41;have h_x411 := b06 h_x41;apply b0b;intro K hK;simp only [go_sem, s125, s127, b08 h_x41, b3n h_x41, h_x410, h_x411];apply hK;refine b2p (fun t h => t 1 = .fp (vM m) 0 /\ t 77 = .fs 4 (List.map b0m m.Rules) /\ t 78 = I (List.length m.Rules : Int) /\ t 79 = I x_79 /\ t 125 = .fs 2 (List.map b2o x24.Sets) /\ t 126 = I (List.length x24.Sets : Int) /\ t 127 = I x_127 /\ t 144 = B ((!(b2q x41.Kind 1 3)) || (!(b2q x41.Counter 0 (wr ((List.length m.Counters : Int) - 1)))))) (fun K hK => ?_) ?_
            ·simp only [go_sem, s1];refine b01 (b4q x41.Kind 1 3) ?_;simp only [go_sem, s1];refine b0k (fun hg42 => ?_) (fun hg42 => ?_)
             ·simp only [go_sem, s1, hg42];exact hK _ _ ⟨s1, s77, s78, s79, s125, s126, s127, (by first | (simp only [go_sem, hg42, lA9, mA9]; done) | rfl)⟩
             ·simp only [go_sem, s1, hg42];refine b01 (b4q x41.Counter 0 (wr ((List.length m.Counters : Int) - 1))) ?_;simp only [go_sem, s1, hg42];exact hK _ _ ⟨s1, s77, s78, s79, s125, s126, s127, (by first | (simp only [go_sem, hg42, lA9, mA9]; done) | rfl)⟩
            ·rintro t h ⟨s1, s77, s78, s79, s125, s126, s127, s144⟩;simp only [go_sem, s144];refine b0k (fun hc43 => ?_) (fun hc43 => ?_)
             ·rw [b0r hc43] at hm2;apply b0b;intro K hK;simp only [go_sem];apply hK;simp only [b0x, b1p, b2e, b0y];obtain rfl := sI9 hm2;obtain rfl := hb36 _ rfl
              try dsimp only at hm1
              obtain rfl := sI9 hm1;obtain rfl := hb18 _ rfl
              try dsimp only at hm0
              obtain rfl := sI9 hm0;exact b04 vc9 (b0e _)
             ·rw [b0q hc43] at hm2;simp only [b0s, b02, b0f];refine hK39 _ _ ?_;apply b03;intro K hK;simp only [go_sem, s127];apply hK;simp only [b02, b0f];obtain rfl := sI9 hm2;refine ⟨_, rfl, ?_⟩;exact ⟨s1, s77, s78, s79, s125, s126, (by first | (simp only [go_sem, s127, lA9, mA9]; done) | rfl)⟩
           ·rw [b0q hc38] at hm2;simp only [b09, b1b, b1a, c0s, b02, b0f, Nat.reduceEqDiff, nF9];obtain rfl := sI9 hm2;obtain rfl := hb36 _ rfl
            try dsimp only at hm1
            exact J22  _ _ s1 s77 s78 s79 hm1
         simp only [b0u];obtain ⟨b45, hl45, hm1⟩ := b0g hm1;refine b1j hl45 (fun | x_117, t, h => t 1 = .fp (vM m) 0 /\ t 8 = .rp i8 0 0 /\ t 77 = .fs 4 (List.map b0m m.Rules) /\ t 78 = I (List.length m.Rules : Int) /\ t 79 = I x_79 /\ t 115 = .fs 1 (List.map b0t x24.When) /\ t 116 = I (List.length x24.When : Int) /\ t 117 = I x_117 /\ h.ob i8 = some (4, [[I x24.From, I x24.To, .fs 1 (List.map b0t x24.When), .fs 2 (List.map b2o x24.Sets)]]) /\ i8 < h.nx) ?_ ?_
         ·exact ⟨s1, s8, s77, s78, s79, va9, va9, va9, Qb, Qa⟩
         ·rintro x_117 o t h ⟨s1, s8, s77, s78, s79, s115, s116, s117, Qb, Qa⟩ hm2 hb45;simp only [c4x] at hm2;rw [g47];apply b0b;intro K hK;simp only [go_sem, s116, s117, Qa];apply hK;refine b0i fun K46 hK46 => ?_;simp only [go_sem];refine b0k (fun hc47 => ?_) (fun hc47 => ?_)
          ·rw [b0r hc47] at hm2;simp only [b0s, b02, b0f];refine hK46 _ _ ?_;refine b0i fun K48 hK48 => ?_;simp only [b0u];obtain ⟨x50, h_x50, hm2⟩ := b0g hm2;have h_x500 := b05 h_x50;have h_x501 := b06 h_x50;apply b0b;intro K hK;simp only [go_sem, s115, s117, Qa, b08 h_x50, b3n h_x50, h_x500, h_x501];apply hK;obtain ⟨y54, h_y54, hm2⟩ := b0g hm2;apply b0b;intro K hK;simp only [go_sem, Qa];refine b01 (b8n x50 "newel/situation.Check$1" [] [] (fun z53 => some (b7s z53)) (.fn _ _ _ b0j b0j) (fun z0 y hz => by cases hz; exact d3i z0) _ h_y54) ?_;simp only [go_sem, Qa];apply hK;simp only [go_sem];refine b0k (fun hc55 => ?_) (fun hc55 => ?_)
           ·rw [b0r hc55] at hm2;apply b0b;intro K hK;simp only [go_sem, Qa];apply hK;simp only [b0x, b1p, b2e, b0y];obtain rfl := sI9 hm2;obtain rfl := hb45 _ rfl
            try dsimp only at hm1
            obtain rfl := sI9 hm1;obtain rfl := hb18 _ rfl
            try dsimp only at hm0
            obtain rfl := sI9 hm0;exact b04 (by simp only [go_sem, Qb, Qa, lA9, mA9]) (b0e _)
           ·rw [b0q hc55] at hm2;simp only [b0s, b02, b0f];refine hK48 _ _ ?_;apply b03;intro K hK;simp only [go_sem, s117, Qa];apply hK;simp only [b02, b0f];obtain rfl := sI9 hm2;refine ⟨_, rfl, ?_⟩;exact ⟨s1, s8, s77, s78, s79, s115, s116, (by first | (simp only [go_sem, s117, lA9, mA9]; done) | rfl), Qb, Qa⟩
          ·rw [b0q hc47] at hm2;simp only [b09, b1b, b1a, c0s, b02, b0f, Nat.reduceEqDiff, nF9];obtain rfl := sI9 hm2;obtain rfl := hb45 _ rfl
           try dsimp only at hm1
           exact J35  _ _ s1 s8 s77 s78 s79 Qb Qa hm1
      ·rw [b0q hc20] at hm1;simp only [b09, b1b, b1a, c0s, b02, b0f, Nat.reduceEqDiff, nF9];obtain rfl := sI9 hm1;obtain rfl := hb18 _ rfl
       try dsimp only at hm0
       exact J17  _ _  hm0
    simp only [b0u];obtain ⟨b58, hl58, hm0⟩ := b0g hm0;refine b1j hl58 (fun | x_62, t, h => t 1 = .fp (vM m) 0 /\ t 60 = .fs 2 (List.map b0p m.States) /\ t 61 = I (List.length m.States : Int) /\ t 62 = I x_62) ?_ ?_
    ·exact ⟨s1, va9, va9, va9⟩
    ·rintro x_62 o t h ⟨s1, s60, s61, s62⟩ hm1 hb58;simp only [c4w] at hm1;rw [g46];apply b0b;intro K hK;simp only [go_sem, s61, s62];apply hK;refine b0i fun K59 hK59 => ?_;simp only [go_sem];refine b0k (fun hc60 => ?_) (fun hc60 => ?_)
     ·rw [b0r hc60] at hm1;simp only [b0s, b02, b0f];refine hK59 _ _ ?_;refine b0i fun K61 hK61 => ?_;simp only [b0u];obtain ⟨x63, h_x63, hm1⟩ := b0g hm1;have h_x630 := b05 h_x63;have h_x631 := b06 h_x63;apply b0b;intro K hK;simp only [go_sem, s60, s62, b08 h_x63, b3n h_x63, h_x630, h_x631];apply hK;obtain ⟨q65, h_q65, hm1⟩ := b0g hm1;apply b0b;intro K hK;simp only [go_sem, s1, B8s h_q65];refine b01 (b4q x63.Shows 0 (wr (q65 - 1))) ?_;simp only [go_sem, s1, B8s h_q65];apply hK;simp only [go_sem];refine b0k (fun hc66 => ?_) (fun hc66 => ?_)
      ·rw [b0r hc66] at hm1;apply b0b;intro K hK;simp only [go_sem];apply hK;simp only [b0x, b1p, b2e, b0y];obtain rfl := sI9 hm1;obtain rfl := hb58 _ rfl
       try dsimp only at hm0
       obtain rfl := sI9 hm0;exact b04 vc9 (b0e _)
      ·rw [b0q hc66] at hm1;simp only [b0s, b02, b0f];refine hK61 _ _ ?_;apply b03;intro K hK;simp only [go_sem, s62];apply hK;simp only [b02, b0f];obtain rfl := sI9 hm1;refine ⟨_, rfl, ?_⟩;exact ⟨s1, s60, s61, (by first | (simp only [go_sem, s62, lA9, mA9]; done) | rfl)⟩
     ·rw [b0q hc60] at hm1;simp only [b09, b1b, b1a, c0s, b02, b0f, Nat.reduceEqDiff, nF9];obtain rfl := sI9 hm1;obtain rfl := hb58 _ rfl
      try dsimp only at hm0
      exact J15  _ _ s1 hm0
   simp only [b0u];obtain ⟨b68, hl68, hm0⟩ := b0g hm0;refine b1j hl68 (fun | x_50, t, h => t 1 = .fp (vM m) 0 /\ t 48 = .fs 2 (List.map b0o m.Counters) /\ t 49 = I (List.length m.Counters : Int) /\ t 50 = I x_50) ?_ ?_
   ·exact ⟨s1, va9, va9, va9⟩
   ·rintro x_50 o t h ⟨s1, s48, s49, s50⟩ hm1 hb68;simp only [c4z] at hm1;rw [g5a];apply b0b;intro K hK;simp only [go_sem, s49, s50];apply hK;refine b0i fun K69 hK69 => ?_;simp only [go_sem];refine b0k (fun hc70 => ?_) (fun hc70 => ?_)
    ·rw [b0r hc70] at hm1;simp only [b0s, b02, b0f];refine hK69 _ _ ?_;refine b0i fun K71 hK71 => ?_;simp only [b0u];obtain ⟨x73, h_x73, hm1⟩ := b0g hm1;have h_x730 := b05 h_x73;have h_x731 := b06 h_x73;apply b0b;intro K hK;simp only [go_sem, s48, s50, b08 h_x73, b3n h_x73, h_x730, h_x731];apply hK;apply b0b;intro K hK;simp only [go_sem];refine b01 (b4q x73.Max 1 7) ?_;simp only [go_sem];apply hK;simp only [go_sem];refine b0k (fun hc74 => ?_) (fun hc74 => ?_)
     ·rw [b0r hc74] at hm1;apply b0b;intro K hK;simp only [go_sem];apply hK;simp only [b0x, b1p, b2e, b0y];obtain rfl := sI9 hm1;obtain rfl := hb68 _ rfl
      try dsimp only at hm0
      obtain rfl := sI9 hm0;exact b04 vc9 (b0e _)
     ·rw [b0q hc74] at hm1;simp only [b0s, b02, b0f];refine hK71 _ _ ?_;apply b03;intro K hK;simp only [go_sem, s50];apply hK;simp only [b02, b0f];obtain rfl := sI9 hm1;refine ⟨_, rfl, ?_⟩;exact ⟨s1, s48, s49, (by first | (simp only [go_sem, s50, lA9, mA9]; done) | rfl)⟩
    ·rw [b0q hc70] at hm1;simp only [b09, b1b, b1a, c0s, b02, b0f, Nat.reduceEqDiff, nF9];obtain rfl := sI9 hm1;obtain rfl := hb68 _ rfl
     try dsimp only at hm0
     exact J13  _ _ s1 hm0
theorem d3i (hf : Has O "newel/situation.Check$1" x_situation_CheckD1) : d0l O := by
 intro x;generalize hm0 : b7s x = r;unfold b7s at hm0;refine b1i hf rfl (b0a (.agg _ (b0a (b0e _) (b0a (b0e _) (b0a (b0e _) (b0a (b0e _) b0j))))) b0j) (b0e _) ?_;refine b1c (fun t h => t 0 = .agg [I x.Kind, I x.Number, I x.Value, B x.Not]) rfl fun t h s0 => ?_;simp only [x_situation_CheckD1];apply b0b;intro K hK;simp only [go_sem, s0];apply hK;apply b0b;intro K hK;simp only [go_sem];apply hK;simp only [b0x, b1p, b2e, b0y];obtain rfl := hm0;exact b04 vc9 (b0e _)
theorem d3j (hf : Has O "newel/situation.Plain" x_situation_Plain) : d0m O := by
 intro word r hm0;unfold r1j at hm0;refine b1i hf rfl (b0a (b0e _) b0j) (b0e _) ?_;refine b1c (fun t h => t 0 = .v (.string word)) rfl fun t h s0 => ?_;simp only [x_situation_Plain];apply b0b;intro K hK;simp only [go_sem];apply hK;refine b0v ?_;apply b0b;intro K hK;simp only [go_sem, s0];refine j5y (O := O) ?_;simp only [go_sem, s0];apply hK;refine b0i fun K1 hK1 => ?_
 have J2 : ∀ (t : Slots) (h : Heap), t 0 = .v (.string word) -> d48 word = some r -> K1 t h := by
  intro t h s0 hm0;refine hK1 _ _ ?_;unfold d48 at hm0;apply b0b;intro K hK;simp only [go_sem, s0];apply hK;simp only [b0x, b1p, b2e, b0y];obtain rfl := sI9 hm0;exact b04 vc9 (b0e _)
 simp only [b0u];obtain ⟨b3, hl3, hm0⟩ := b0g hm0;refine b1j hl3 (fun | x_8, t, h => t 0 = .v (.string word) /\ t 6 = .fs 1 (List.map c2m (b3q word)) /\ t 7 = I (List.length (b3q word) : Int) /\ t 8 = I x_8) ?_ ?_
 ·exact ⟨s0, va9, va9, va9⟩
 ·rintro x_8 o t h ⟨s0, s6, s7, s8⟩ hm1 hb3;simp only [c42] at hm1;rw [g5b];apply b0b;intro K hK;simp only [go_sem, s7, s8];apply hK;refine b0i fun K4 hK4 => ?_;simp only [go_sem];refine b0k (fun hc5 => ?_) (fun hc5 => ?_)
  ·rw [b0r hc5] at hm1;simp only [b0s, b02, b0f];refine hK4 _ _ ?_;refine b0i fun K6 hK6 => ?_;simp only [b0u];obtain ⟨x8, h_x8, hm1⟩ := b0g hm1;have h_x80 := b05 h_x8;have h_x81 := b06 h_x8;apply b0b;intro K hK;simp only [go_sem, s6, s8, b08 h_x8, b3n h_x8, h_x80, h_x81];apply hK;refine b2p (fun t h => t 0 = .v (.string word) /\ t 6 = .fs 1 (List.map c2m (b3q word)) /\ t 7 = I (List.length (b3q word) : Int) /\ t 8 = I x_8 /\ t 17 = B ((decide (x8 < 97)) || (decide (122 < x8)))) (fun K hK => ?_) ?_
   ·simp only [go_sem];refine b0k (fun hg9 => ?_) (fun hg9 => ?_)
    ·simp only [go_sem, hg9];exact hK _ _ ⟨s0, s6, s7, s8, (by first | (simp only [go_sem, hg9, lA9, mA9]; done) | rfl)⟩
    ·simp only [go_sem, hg9];exact hK _ _ ⟨s0, s6, s7, s8, (by first | (simp only [go_sem, hg9, lA9, mA9]; done) | rfl)⟩
   ·rintro t h ⟨s0, s6, s7, s8, s17⟩;simp only [go_sem, s17];refine b0k (fun hc10 => ?_) (fun hc10 => ?_)
    ·rw [b0r hc10] at hm1;apply b0b;intro K hK;simp only [go_sem];apply hK;simp only [b0x, b1p, b2e, b0y];obtain rfl := sI9 hm1;obtain rfl := hb3 _ rfl
     try dsimp only at hm0
     obtain rfl := sI9 hm0;exact b04 vc9 (b0e _)
    ·rw [b0q hc10] at hm1;simp only [b0s, b02, b0f];refine hK6 _ _ ?_;apply b03;intro K hK;simp only [go_sem, s8];apply hK;simp only [b02, b0f];obtain rfl := sI9 hm1;refine ⟨_, rfl, ?_⟩;exact ⟨s0, s6, s7, (by first | (simp only [go_sem, s8, lA9, mA9]; done) | rfl)⟩
  ·rw [b0q hc5] at hm1;simp only [b09, b1b, b1a, c0s, b02, b0f, Nat.reduceEqDiff, nF9];obtain rfl := sI9 hm1;obtain rfl := hb3 _ rfl
   try dsimp only at hm0
   exact J2  _ _ s0 hm0
theorem d3k (hf : Has O "newel/situation.Reserved" x_situation_Reserved) : d0n O := by
 intro word;generalize hm0 : b84 word = r;unfold b84 at hm0;refine b1i hf rfl (b0a (b0e _) b0j) (b0e _) ?_;refine b1c (fun t h => t 0 = .v (.string word)) rfl fun t h s0 => ?_;simp only [x_situation_Reserved];apply b0b;intro K hK;simp only [go_sem];apply hK;refine b0v ?_;apply b0b;intro K hK;simp only [go_sem, s0];apply hK;refine b0i fun K1 hK1 => ?_;simp only [b0u];refine b0v ?_;apply b0b;intro K hK;simp only [go_sem];apply hK;refine b0i fun K2 hK2 => ?_
 have J3 : ∀ (x_4 : Bool) (t : Slots) (h : Heap), t 4 = B x_4 -> b5w x_4 = r -> K2 t h := by
  intro x_4 t h s4 hm0;refine hK2 _ _ ?_;unfold b5w at hm0;simp only [go_sem, s4];refine b0k (fun hc4 => ?_) (fun hc4 => ?_)
  ·rw [b0r hc4] at hm0;apply b0b;intro K hK;simp only [go_sem];apply hK;simp only [b0x, b1p, b2e, b0y];obtain rfl := hm0;exact b04 vc9 (b0e _)
  ·rw [b0q hc4] at hm0;simp only [b0s, b02, b0f];refine hK1 _ _ ?_;apply b0b;intro K hK;simp only [go_sem];apply hK;simp only [b0x, b1p, b2e, b0y];obtain rfl := hm0;exact b04 vc9 (b0e _)
 simp only [go_sem];refine b0k (fun hc5 => ?_) (fun hc5 => ?_)
 ·rw [b0r hc5] at hm0;simp only [b0s, b02, b0f];exact J3 (decide (word = (ByteArray.mk #[97, 110, 121]))) _ _ va9 hm0
 ·rw [b0q hc5] at hm0;apply b0b;intro K hK;simp only [go_sem];apply hK;simp only [go_sem];refine b0k (fun hc6 => ?_) (fun hc6 => ?_)
  ·rw [b0r hc6] at hm0;simp only [b0s, b02, b0f];exact J3 (decide (word = (ByteArray.mk #[116, 111]))) _ _ va9 hm0
  ·rw [b0q hc6] at hm0;apply b0b;intro K hK;simp only [go_sem];apply hK;simp only [go_sem];refine b0k (fun hc7 => ?_) (fun hc7 => ?_)
   ·rw [b0r hc7] at hm0;simp only [b0s, b02, b0f];exact J3 (decide (word = (ByteArray.mk #[122, 101, 114, 111]))) _ _ va9 hm0
   ·rw [b0q hc7] at hm0;apply b0b;intro K hK;simp only [go_sem];apply hK;simp only [go_sem];refine b0k (fun hc8 => ?_) (fun hc8 => ?_)
    ·rw [b0r hc8] at hm0;simp only [b0s, b02, b0f];exact J3 (decide (word = (ByteArray.mk #[109, 111, 114, 101]))) _ _ va9 hm0
    ·rw [b0q hc8] at hm0;apply b0b;intro K hK;simp only [go_sem];apply hK;simp only [go_sem];refine b0k (fun hc9 => ?_) (fun hc9 => ?_)
     ·rw [b0r hc9] at hm0;simp only [b0s, b02, b0f];exact J3 (decide (word = (ByteArray.mk #[108, 101, 115, 115]))) _ _ va9 hm0
     ·rw [b0q hc9] at hm0;apply b0b;intro K hK;simp only [go_sem];apply hK;simp only [go_sem];refine b0k (fun hc10 => ?_) (fun hc10 => ?_)
      ·rw [b0r hc10] at hm0;simp only [b0s, b02, b0f];exact J3 (decide (word = (ByteArray.mk #[105, 102]))) _ _ va9 hm0
      ·rw [b0q hc10] at hm0;apply b0b;intro K hK;simp only [go_sem];apply hK;simp only [go_sem];refine b0k (fun hc11 => ?_) (fun hc11 => ?_)
       ·rw [b0r hc11] at hm0;simp only [b0s, b02, b0f];exact J3 (decide (word = (ByteArray.mk #[121, 101, 115]))) _ _ va9 hm0
       ·rw [b0q hc11] at hm0;apply b03;intro K hK;simp only [go_sem];apply hK;simp only [b02, b0f];exact J3 (decide (word = (ByteArray.mk #[110, 111]))) _ _ va9 hm0
theorem d3l (hf : Has O "newel/situation.asks" x_situation_asks) (b4q : c5u O) : d0o O := by
 intro m x r hm0;unfold c43 at hm0;refine b1i hf rfl (b0a (fM _) (b0a (.agg _ (b0a (b0e _) (b0a (b0e _) (b0a (b0e _) (b0a (b0e _) b0j))))) b0j)) (b0e _) ?_;refine b1c (fun t h => t 0 = .agg (vM m) /\ t 1 = .agg [I x.Kind, I x.Number, I x.Value, B x.Not]) ⟨rfl, rfl⟩ fun t h ⟨s0, s1⟩ => ?_;simp only [x_situation_asks];apply b0b;intro K hK;simp only [go_sem, s0, s1];apply hK;refine b0v ?_;apply b0b;intro K hK;simp only [go_sem];apply hK;refine b0i fun K1 hK1 => ?_;simp only [b0u];apply b0b;intro K hK;simp only [go_sem];apply hK;simp only [go_sem];refine b0k (fun hc2 => ?_) (fun hc2 => ?_)
 ·rw [b0r hc2] at hm0;refine b2p (fun t h => t 4 = B ((b2q x.Number 0 (wr ((List.length m.Inputs : Int) - 1))) && (decide (x.Value = 0)))) (fun K hK => ?_) ?_
  ·simp only [go_sem];refine b01 (b4q x.Number 0 (wr ((List.length m.Inputs : Int) - 1))) ?_;simp only [go_sem];refine b0k (fun hg3 => ?_) (fun hg3 => ?_)
   ·simp only [go_sem, hg3];exact hK _ _ (by first | (simp only [go_sem, hg3, lA9, mA9]; done) | rfl)
   ·simp only [go_sem, hg3];exact hK _ _ (by first | (simp only [go_sem, hg3, lA9, mA9]; done) | rfl)
  ·rintro t h s4;simp only [b0x, b1p, b2e, b0y];obtain rfl := sI9 hm0;exact b04 (by simp only [go_sem, s4, lA9, mA9]) (b0e _)
 ·rw [b0q hc2] at hm0;apply b0b;intro K hK;simp only [go_sem];apply hK;simp only [go_sem];refine b0k (fun hc4 => ?_) (fun hc4 => ?_)
  ·rw [b0r hc4] at hm0;obtain ⟨c8, h_c8, hm0⟩ := b0g hm0;refine b2p (fun t h => t 4 = B c8) (fun K hK => ?_) ?_
   ·simp only [go_sem];refine b01 (b4q x.Number 0 (wr ((List.length m.Counters : Int) - 1))) ?_;simp only [go_sem];refine b0k (fun hg9 => ?_) (fun hg9 => ?_)
    ·simp only [hg9, Bool.not_true, Bool.not_false, eq_self, if_true, if_false, Bool.true_or, Bool.or_true, Bool.false_or, Bool.or_false, Bool.true_and, Bool.and_true, Bool.false_and, Bool.and_false, fT9] at h_c8;obtain ⟨x7, h_x7, h_c8⟩ := b0g h_c8;have h_x70 := b05 h_x7;have h_x71 := b06 h_x7;obtain rfl := sI9 h_c8;simp only [go_sem, b08 h_x7, b3n h_x7, h_x70, h_x71, hg9];refine b01 (b4q x.Value 0 x7.Max) ?_;simp only [go_sem, b08 h_x7, b3n h_x7, h_x70, h_x71, hg9];exact hK _ _ (by first | (simp only [go_sem, hg9, lA9, mA9]; done) | rfl)
    ·simp only [hg9, Bool.not_true, Bool.not_false, eq_self, if_true, if_false, Bool.true_or, Bool.or_true, Bool.false_or, Bool.or_false, Bool.true_and, Bool.and_true, Bool.false_and, Bool.and_false, fT9] at h_c8;obtain rfl := sI9 h_c8;simp only [go_sem, hg9];exact hK _ _ (by first | (simp only [go_sem, hg9, lA9, mA9]; done) | rfl)
   ·rintro t h s4;simp only [b0x, b1p, b2e, b0y];obtain rfl := sI9 hm0;exact b04 (by simp only [go_sem, s4, lA9, mA9]) (b0e _)
  ·rw [b0q hc4] at hm0;apply b0b;intro K hK;simp only [go_sem];apply hK;simp only [go_sem];refine b0k (fun hc10 => ?_) (fun hc10 => ?_)
   ·rw [b0r hc10] at hm0;refine b2p (fun t h => t 4 = B ((b2q x.Number 0 (wr ((List.length m.States : Int) - 1))) && (decide (x.Value = 0)))) (fun K hK => ?_) ?_
    ·simp only [go_sem];refine b01 (b4q x.Number 0 (wr ((List.length m.States : Int) - 1))) ?_;simp only [go_sem];refine b0k (fun hg11 => ?_) (fun hg11 => ?_)
     ·simp only [go_sem, hg11];exact hK _ _ (by first | (simp only [go_sem, hg11, lA9, mA9]; done) | rfl)
     ·simp only [go_sem, hg11];exact hK _ _ (by first | (simp only [go_sem, hg11, lA9, mA9]; done) | rfl)
    ·rintro t h s4;simp only [b0x, b1p, b2e, b0y];obtain rfl := sI9 hm0;exact b04 (by simp only [go_sem, s4, lA9, mA9]) (b0e _)
   ·rw [b0q hc10] at hm0;apply b0b;intro K hK;simp only [go_sem];apply hK;simp only [go_sem];refine b0k (fun hc12 => ?_) (fun hc12 => ?_)
    ·rw [b0r hc12] at hm0;refine b2p (fun t h => t 4 = B ((b2q x.Number 0 (wr ((List.length m.Outputs : Int) - 1))) && (decide (x.Value = 0)))) (fun K hK => ?_) ?_
     ·simp only [go_sem];refine b01 (b4q x.Number 0 (wr ((List.length m.Outputs : Int) - 1))) ?_;simp only [go_sem];refine b0k (fun hg13 => ?_) (fun hg13 => ?_)
      ·simp only [go_sem, hg13];exact hK _ _ (by first | (simp only [go_sem, hg13, lA9, mA9]; done) | rfl)
      ·simp only [go_sem, hg13];exact hK _ _ (by first | (simp only [go_sem, hg13, lA9, mA9]; done) | rfl)
     ·rintro t h s4;simp only [b0x, b1p, b2e, b0y];obtain rfl := sI9 hm0;exact b04 (by simp only [go_sem, s4, lA9, mA9]) (b0e _)
    ·rw [b0q hc12] at hm0;simp only [b0s, b02, b0f];refine hK1 _ _ ?_;apply b0b;intro K hK;simp only [go_sem];apply hK;simp only [b0x, b1p, b2e, b0y];obtain rfl := sI9 hm0;exact b04 vc9 (b0e _)
theorem d3m (hf : Has O "newel/situation.named" x_situation_named) (d3n : d0q O) (d3j : d0m O) (d3k : d0n O) : d0p O := by
 intro m r hm0;unfold c44 at hm0;refine b1i hf rfl (b0a (fM _) b0j) (b0e _) ?_;refine b1c (fun t h => t 0 = .agg (vM m)) rfl fun t h s0 => ?_;simp only [x_situation_named];apply b0b;intro K hK;simp only [go_sem, s0];apply hK;apply b0b;intro K hK;simp only [go_sem];refine g0d (O := O) (e := List.map (eM vS vI) ([] : List (ByteArray × Int))) rfl ?_;simp only [go_sem];apply hK;refine b0v ?_;obtain ⟨y2, h_y2, hm0⟩ := b0g hm0;apply b0b;intro K hK;simp only [go_sem];refine b01 (d3n m _ h_y2) ?_;simp only [go_sem];apply hK;refine b0i fun K3 hK3 => ?_
 have J4 : ∀ (t : Slots) (h : Heap), d49 = some r -> K3 t h := by
  intro t h hm0;refine hK3 _ _ ?_;unfold d49 at hm0;apply b0b;intro K hK;simp only [go_sem];apply hK;simp only [b0x, b1p, b2e, b0y];obtain rfl := sI9 hm0;exact b04 vc9 (b0e _)
 simp only [b0u];obtain ⟨b5, hl5, hm0⟩ := b0g hm0;refine b1j hl5 (fun | (seen_3, x_10), t, h => ∃ i3 : Nat, t 3 = .mp i3 /\ t 8 = .fs 1 (List.map eS y2) /\ t 9 = I (List.length y2 : Int) /\ t 10 = I x_10 /\ h.ob i3 = some (0, List.map (eM vS vI) seen_3) /\ i3 < h.nx) ?_ ?_
 ·exact ⟨h.nx, va9, va9, va9, va9, vc9, vg9⟩
 ·rintro ⟨seen_3, x_10⟩ o t h ⟨i3, s3, s8, s9, s10, Q2, Q0⟩ hm1 hb5;simp only [c1i] at hm1;rw [g5c];apply b0b;intro K hK;simp only [go_sem, s9, s10, Q0];apply hK;refine b0i fun K6 hK6 => ?_;simp only [go_sem];refine b0k (fun hc7 => ?_) (fun hc7 => ?_)
  ·rw [b0r hc7] at hm1;simp only [b0s, b02, b0f];refine hK6 _ _ ?_;refine b0i fun K8 hK8 => ?_;simp only [b0u];obtain ⟨x10, h_x10, hm1⟩ := b0g hm1;have h_x100 := b05 h_x10;have h_x101 := b06 h_x10;apply b0b;intro K hK;simp only [go_sem, s8, s10, Q0, b08 h_x10, b3n h_x10, h_x100, h_x101];apply hK;apply b0b;intro K hK;simp only [go_sem, s3, Q2, Q0];refine g0c (O := O) (fk := vS) (fv := vI) (l := seen_3) (x := x10) (z := 0) g1s d3z ?_ ?_ ?_
   ·rfl
   ·simp only [go_sem, Q2, Q0, lA9, mA9]
   simp only [go_sem, s3, Q2, Q0];refine d2i (O := O) (fk := vS) (fv := vI) (l := seen_3) (x := x10) (v := (wr ((b2w seen_3 x10 0) + 1))) j8d d3z ?_ ?_ ?_
   ·rfl
   ·simp only [go_sem, Q2, Q0, lA9, mA9]
   simp only [go_sem, s3, Q2, Q0];apply hK;obtain ⟨y12, h_y12, hm1⟩ := b0g hm1;refine b2p (fun t h => t 3 = .mp i3 /\ t 8 = .fs 1 (List.map eS y2) /\ t 9 = I (List.length y2 : Int) /\ t 10 = I x_10 /\ t 35 = B ((((!y12) || (decide (8 < (ByteArray.size x10 : Int)))) || (b84 x10)) || (decide (1 < (b2w (b3w seen_3 x10 (wr ((b2w seen_3 x10 0) + 1))) x10 0)))) /\ h.ob i3 = some (0, List.map (eM vS vI) (b3w seen_3 x10 (wr ((b2w seen_3 x10 0) + 1)))) /\ i3 < h.nx) (fun K hK => ?_) ?_
   ·simp only [go_sem, s3, Q2, Q0];refine b01 (d3j x10 _ h_y12) ?_;simp only [go_sem, s3, Q2, Q0];refine b0k (fun hg13 => ?_) (fun hg13 => ?_)
    ·simp only [go_sem, s3, Q2, Q0, hg13];exact hK _ _ ⟨s3, s8, s9, s10, (by first | (simp only [go_sem, hg13, lA9, mA9]; done) | rfl), (by simp only [go_sem, Q2, Q0, hg13, lA9, mA9]), (by simp only [go_sem, Q0])⟩
    ·simp only [go_sem, s3, Q2, Q0, hg13];refine b0k (fun hg14 => ?_) (fun hg14 => ?_)
     ·simp only [go_sem, s3, Q2, Q0, hg13, hg14];exact hK _ _ ⟨s3, s8, s9, s10, (by first | (simp only [go_sem, hg13, hg14, lA9, mA9]; done) | rfl), (by simp only [go_sem, Q2, Q0, hg13, hg14, lA9, mA9]), (by simp only [go_sem, Q0])⟩
     ·simp only [go_sem, s3, Q2, Q0, hg13, hg14];refine b01 (d3k x10) ?_;simp only [go_sem, s3, Q2, Q0, hg13, hg14];refine b0k (fun hg15 => ?_) (fun hg15 => ?_)
      ·simp only [go_sem, s3, Q2, Q0, hg13, hg14, hg15];exact hK _ _ ⟨s3, s8, s9, s10, (by first | (simp only [go_sem, hg13, hg14, hg15, lA9, mA9]; done) | rfl), (by simp only [go_sem, Q2, Q0, hg13, hg14, hg15, lA9, mA9]), (by simp only [go_sem, Q0])⟩
      ·simp only [go_sem, s3, Q2, Q0, hg13, hg14, hg15];refine g0c (O := O) (fk := vS) (fv := vI) (l := (b3w seen_3 x10 (wr ((b2w seen_3 x10 0) + 1)))) (x := x10) (z := 0) g1s d3z ?_ ?_ ?_
       ·rfl
       ·simp only [go_sem, hg13, hg14, hg15, Q2, Q0, lA9, mA9]
       simp only [go_sem, s3, Q2, Q0, hg13, hg14, hg15];exact hK _ _ ⟨s3, s8, s9, s10, (by first | (simp only [go_sem, hg13, hg14, hg15, lA9, mA9]; done) | rfl), (by simp only [go_sem, Q2, Q0, hg13, hg14, hg15, lA9, mA9]), (by simp only [go_sem, Q0])⟩
   ·rintro t h ⟨s3, s8, s9, s10, s35, Q2, Q0⟩;simp only [go_sem, s35];refine b0k (fun hc16 => ?_) (fun hc16 => ?_)
    ·rw [b0r hc16] at hm1;apply b0b;intro K hK;simp only [go_sem, Q0];apply hK;simp only [b0x, b1p, b2e, b0y];obtain rfl := sI9 hm1;obtain rfl := hb5 _ rfl
     try dsimp only at hm0
     obtain rfl := sI9 hm0;exact b04 (by simp only [go_sem, Q2, Q0, lA9, mA9]) (b0e _)
    ·rw [b0q hc16] at hm1;simp only [b0s, b02, b0f];refine hK8 _ _ ?_;apply b03;intro K hK;simp only [go_sem, s10, Q0];apply hK;simp only [b02, b0f];obtain rfl := sI9 hm1;refine ⟨_, rfl, ?_⟩;exact ⟨i3, s3, s8, s9, (by first | (simp only [go_sem, s10, lA9, mA9]; done) | rfl), Q2, Q0⟩
  ·rw [b0q hc7] at hm1;simp only [b09, b1b, b1a, c0s, b02, b0f, Nat.reduceEqDiff, nF9];obtain rfl := sI9 hm1;obtain rfl := hb5 _ rfl
   try dsimp only at hm0
   exact J4  _ _  hm0
theorem d3n (d3o : d0r O) (d3p : d0s O) : d0q O := by
 intro m r hm0;unfold c45 at hm0;split at hm0
 ·exact d3o m r hm0
 ·exact d3p m r hm0
theorem d3o (hf : Has O "newel/situation.names" x_situation_names) (d3q : d0t O) : d0r O := by
 intro m r hm0;unfold c88 at hm0;refine b1i hf rfl (b0a (fM _) b0j) (b0c fun a _ => b0z a) ?_;refine b1c (fun t h => t 0 = .agg (vM m)) rfl fun t h s0 => ?_;simp only [x_situation_names];apply b0b;intro K hK;simp only [go_sem, s0];apply hK;obtain ⟨y2, h_y2, hm0⟩ := b0g hm0;apply b0b;intro K hK;simp only [go_sem];refine j4w (e := eS) (l := y2) ?_ (d3q ([m.Inputs, m.Outputs]) _ h_y2) ?_
 ·exact .cons (b29 (f := b4f) (l := ([m.Inputs, m.Outputs])) (id := h.nx) vc9 vf9 c65 g1e) (.nil)
 simp only [go_sem];apply hK;refine b0v ?_;apply b0b;intro K hK;simp only [go_sem];apply hK;refine b0i fun K3 hK3 => ?_
 have J4 : ∀ (l_3 : List ByteArray) (i3 : Nat) (t : Slots) (h : Heap), t 1 = .fp (vM m) 0 -> t 3 = .rs i3 0 (List.length l_3) -> h.ob i3 = some (1, List.map eS l_3) -> i3 < h.nx -> c9b m l_3 = some r -> K3 t h := by
  intro l_3 i3 t h s1 s3 Q2 Q0 hm0;refine hK3 _ _ ?_;unfold c9b at hm0;refine b0v ?_;apply b0b;intro K hK;simp only [go_sem, s1, Q0];apply hK;refine b0i fun K5 hK5 => ?_
  have J6 : ∀ (l_3_1 : List ByteArray) (i3_1 : Nat) (t : Slots) (h : Heap), t 3 = .rs i3_1 0 (List.length l_3_1) -> h.ob i3_1 = some (1, List.map eS l_3_1) -> i3_1 < h.nx -> c9c l_3_1 = some r -> K5 t h := by
   intro l_3_1 i3_1 t h s3 Q2 Q0 hm0;refine hK5 _ _ ?_;unfold c9c at hm0;apply b0b;intro K hK;simp only [go_sem, s3, Q2, Q0];apply hK;simp only [b0x, b1p, b2e, b0y];obtain rfl := sI9 hm0;exact b8e (v := .rs i3_1 0 (List.length l_3_1)) (by simp only [go_sem, Q2, Q0, lA9, mA9]) (b29 (f := eS) (l := l_3_1) (id := i3_1) (by simp only [go_sem, Q2, Q0, lA9, mA9]) vf9 b0z c3u)
  simp only [b0u];obtain ⟨b7, hl7, hm0⟩ := b0g hm0;refine b1j hl7 (fun | (l_3_1, x_30), t, h => ∃ i3_1 : Nat, t 3 = .rs i3_1 0 (List.length l_3_1) /\ t 28 = .fs 2 (List.map b0p m.States) /\ t 29 = I (List.length m.States : Int) /\ t 30 = I x_30 /\ h.ob i3_1 = some (1, List.map eS l_3_1) /\ i3_1 < h.nx) ?_ ?_
  ·exact ⟨i3, (by first | exact s3 | simp only [go_sem, s3, lA9, mA9]), va9, va9, va9, Q2, Q0⟩
  ·rintro ⟨l_3_1, x_30⟩ o t h ⟨i3_1, s3, s28, s29, s30, Q2, Q0⟩ hm1 hb7;simp only [c89] at hm1;rw [d5k];apply b0b;intro K hK;simp only [go_sem, s29, s30, Q0];apply hK;refine b0i fun K8 hK8 => ?_;simp only [go_sem];refine b0k (fun hc9 => ?_) (fun hc9 => ?_)
   ·rw [b0r hc9] at hm1;simp only [b0s, b02, b0f];refine hK8 _ _ ?_;refine b0i fun K10 hK10 => ?_;simp only [b0u];obtain ⟨x12, h_x12, hm1⟩ := b0g hm1;have h_x120 := b05 h_x12;have h_x121 := b06 h_x12;apply b0b;intro K hK;simp only [go_sem, s28, s30, Q0, b08 h_x12, b3n h_x12, h_x120, h_x121];apply hK;obtain ⟨l14, h_l14, hm1⟩ := b0g hm1;apply b03;intro K hK;simp only [go_sem, s3, Q2, Q0];refine b3a (f := eS) (l := l_3_1) (m := ([x12.Name])) ?_ ?_ ?_ ?_ h_l14 ?_
    ·exact (b2v (by simp only [go_sem, Q2, Q0, lA9, mA9]) (by simp only [go_sem, Q2, Q0, lA9, mA9]) (by simp only [go_sem, Q0]))
    ·exact (b4t (by simp only [go_sem, Q2, Q0, lA9, mA9]) (by simp only [go_sem, Q2, Q0, lA9, mA9]))
    ·exact (b4r ve9)
    ·exact (fun _ => by simp)
    simp only [go_sem, s3, Q2, Q0];apply hK;simp only [b02, b0f];refine hK10 _ _ ?_;apply b03;intro K hK;simp only [go_sem, s30, Q0];apply hK;simp only [b02, b0f];obtain rfl := sI9 hm1;refine ⟨_, rfl, ?_⟩;exact ⟨(nxs (nxs h.nx)), (by first | (simp only [go_sem, s3, lA9, mA9]; done) | rfl), s28, s29, (by first | (simp only [go_sem, s30, lA9, mA9]; done) | rfl), (by simp only [go_sem, Q0, lA9, mA9]), vg9⟩
   ·rw [b0q hc9] at hm1;simp only [b09, b1b, b1a, c0s, b02, b0f, Nat.reduceEqDiff, nF9];obtain rfl := sI9 hm1;obtain rfl := hb7 _ rfl
    try dsimp only at hm0
    exact J6 l_3_1 i3_1 _ _ (by first | exact s3 | simp only [go_sem, s3, lA9, mA9]) Q2 Q0 hm0
 simp only [b0u];obtain ⟨b16, hl16, hm0⟩ := b0g hm0;refine b1j hl16 (fun | (l_3, x_17), t, h => ∃ i3 : Nat, t 1 = .fp (vM m) 0 /\ t 3 = .rs i3 0 (List.length l_3) /\ t 15 = .fs 2 (List.map b0o m.Counters) /\ t 16 = I (List.length m.Counters : Int) /\ t 17 = I x_17 /\ h.ob i3 = some (1, List.map eS l_3) /\ i3 < h.nx) ?_ ?_
 ·exact ⟨(nxs h.nx), va9, va9, va9, va9, va9, vc9, vg9⟩
 ·rintro ⟨l_3, x_17⟩ o t h ⟨i3, s1, s3, s15, s16, s17, Q2, Q0⟩ hm1 hb16;simp only [c9a] at hm1;rw [d5l];apply b0b;intro K hK;simp only [go_sem, s16, s17, Q0];apply hK;refine b0i fun K17 hK17 => ?_;simp only [go_sem];refine b0k (fun hc18 => ?_) (fun hc18 => ?_)
  ·rw [b0r hc18] at hm1;simp only [b0s, b02, b0f];refine hK17 _ _ ?_;refine b0i fun K19 hK19 => ?_;simp only [b0u];obtain ⟨x21, h_x21, hm1⟩ := b0g hm1;have h_x210 := b05 h_x21;have h_x211 := b06 h_x21;apply b0b;intro K hK;simp only [go_sem, s15, s17, Q0, b08 h_x21, b3n h_x21, h_x210, h_x211];apply hK;obtain ⟨l23, h_l23, hm1⟩ := b0g hm1;apply b03;intro K hK;simp only [go_sem, s3, Q2, Q0];refine b3a (f := eS) (l := l_3) (m := ([x21.Name])) ?_ ?_ ?_ ?_ h_l23 ?_
   ·exact (b2v (by simp only [go_sem, Q2, Q0, lA9, mA9]) (by simp only [go_sem, Q2, Q0, lA9, mA9]) (by simp only [go_sem, Q0]))
   ·exact (b4t (by simp only [go_sem, Q2, Q0, lA9, mA9]) (by simp only [go_sem, Q2, Q0, lA9, mA9]))
   ·exact (b4r ve9)
   ·exact (fun _ => by simp)
   simp only [go_sem, s3, Q2, Q0];apply hK;simp only [b02, b0f];refine hK19 _ _ ?_;apply b03;intro K hK;simp only [go_sem, s17, Q0];apply hK;simp only [b02, b0f];obtain rfl := sI9 hm1;refine ⟨_, rfl, ?_⟩;exact ⟨(nxs (nxs h.nx)), s1, (by first | (simp only [go_sem, s3, lA9, mA9]; done) | rfl), s15, s16, (by first | (simp only [go_sem, s17, lA9, mA9]; done) | rfl), (by simp only [go_sem, Q0, lA9, mA9]), vg9⟩
  ·rw [b0q hc18] at hm1;simp only [b09, b1b, b1a, c0s, b02, b0f, Nat.reduceEqDiff, nF9];obtain rfl := sI9 hm1;obtain rfl := hb16 _ rfl
   try dsimp only at hm0
   exact J4 l_3 i3 _ _ s1 (by first | exact s3 | simp only [go_sem, s3, lA9, mA9]) Q2 Q0 hm0
theorem d3p (hf : Has O "newel/situation.names" x_situation_names) (d3r : d0u O) : d0s O := by
 intro m r hm0;unfold c9d at hm0;refine b1i hf rfl (b0a (fM _) b0j) (b0c fun a _ => b0z a) ?_;refine b1c (fun t h => t 0 = .agg (vM m)) rfl fun t h s0 => ?_;simp only [x_situation_names];apply b0b;intro K hK;simp only [go_sem, s0];apply hK;obtain ⟨y2, h_y2, hm0⟩ := b0g hm0;apply b0b;intro K hK;simp only [go_sem];refine b8l ?_ (d3r ([m.Inputs, m.Outputs]) _ h_y2) (.v _) ?_
 ·exact .cons (b29 (f := b4f) (l := ([m.Inputs, m.Outputs])) (id := h.nx) vc9 vf9 c65 g1e) (.nil)
 simp only [go_sem];apply hK;refine b0v ?_;apply b0b;intro K hK;simp only [go_sem];apply hK;refine b0i fun K3 hK3 => ?_
 have J4 : ∀ (l_3 : List ByteArray) (v3 : AV) (t : Slots) (h : Heap), t 1 = .fp (vM m) 0 -> t 3 = v3 -> b2a h v3 1 (List.map eS l_3) -> c9g m l_3 = some r -> K3 t h := by
  intro l_3 v3 t h s1 s3 Q1 hm0;refine hK3 _ _ ?_;unfold c9g at hm0;refine b0v ?_;apply b0b;intro K hK;simp only [go_sem, s1, b5r v3];apply hK;refine b0i fun K5 hK5 => ?_
  have J6 : ∀ (l_3_1 : List ByteArray) (v3_1 : AV) (t : Slots) (h : Heap), t 3 = v3_1 -> b2a h v3_1 1 (List.map eS l_3_1) -> c9h l_3_1 = some r -> K5 t h := by
   intro l_3_1 v3_1 t h s3 Q1 hm0;refine hK5 _ _ ?_;unfold c9h at hm0;apply b0b;intro K hK;simp only [go_sem, s3, l3r Q1, b5r v3, b5r v3_1];apply hK;simp only [b0x, b1p, b2e, b0y];obtain rfl := sI9 hm0;exact b8e (v := v3_1) (by simp only [go_sem, b8s Q1, lA9, mA9]) (r8x (f := eS) (l := l_3_1) (b3x Q1 (by intro j hj hl; first | rfl | simp only [go_sem, hl]) (by first | omega | exact Nat.le_refl _ | (simp only [go_sem, nxs] <;> omega))) b0z c3u)
  simp only [b0u];obtain ⟨b7, hl7, hm0⟩ := b0g hm0;refine b1j hl7 (fun | (l_3_1, x_30), t, h => ∃ v3_1 : AV, t 3 = v3_1 /\ t 28 = .fs 2 (List.map b0p m.States) /\ t 29 = I (List.length m.States : Int) /\ t 30 = I x_30 /\ b2a h v3_1 1 (List.map eS l_3_1)) ?_ ?_
  ·exact ⟨v3, s3, va9, va9, va9, Q1⟩
  ·rintro ⟨l_3_1, x_30⟩ o t h ⟨v3_1, s3, s28, s29, s30, Q1⟩ hm1 hb7;simp only [c9e] at hm1;rw [d5k];apply b0b;intro K hK;simp only [go_sem, s29, s30, b5r v3, b5r v3_1];apply hK;refine b0i fun K8 hK8 => ?_;simp only [go_sem];refine b0k (fun hc9 => ?_) (fun hc9 => ?_)
   ·rw [b0r hc9] at hm1;simp only [b0s, b02, b0f];refine hK8 _ _ ?_;refine b0i fun K10 hK10 => ?_;simp only [b0u];obtain ⟨x12, h_x12, hm1⟩ := b0g hm1;have h_x120 := b05 h_x12;have h_x121 := b06 h_x12;apply b0b;intro K hK;simp only [go_sem, s28, s30, b08 h_x12, b3n h_x12, h_x120, h_x121, b5r v3, b5r v3_1];apply hK;obtain ⟨l14, h_l14, hm1⟩ := b0g hm1;apply b03;intro K hK;simp only [go_sem, s3, l3r Q1, b5r v3, b5r v3_1];refine b3a (f := eS) (l := l_3_1) (m := ([x12.Name])) ?_ ?_ ?_ ?_ h_l14 ?_
    ·exact (b3x Q1 (by intro j hj hl; first | rfl | simp only [go_sem, hl]) (by first | omega | exact Nat.le_refl _ | (simp only [go_sem, nxs] <;> omega)))
    ·exact (b4t (by simp only [go_sem, b8s Q1, lA9, mA9]) (by simp only [go_sem, b8s Q1, lA9, mA9]))
    ·exact (b4r ve9)
    ·exact (fun _ => by simp)
    simp only [go_sem, s3, l3r Q1, b5r v3, b5r v3_1];apply hK;simp only [b02, b0f];refine hK10 _ _ ?_;apply b03;intro K hK;simp only [go_sem, s30, b5r v3, b5r v3_1];apply hK;simp only [b02, b0f];obtain rfl := sI9 hm1;refine ⟨_, rfl, ?_⟩;exact ⟨(.rs (nxs (nxs h.nx)) 0 (List.length l14)), (by first | (simp only [go_sem, s3, lA9, mA9]; done) | rfl), s28, s29, (by first | (simp only [go_sem, s30, lA9, mA9]; done) | rfl), (b2v (by simp only [go_sem, b8s Q1, lA9, mA9]) vf9 vg9)⟩
   ·rw [b0q hc9] at hm1;simp only [b09, b1b, b1a, c0s, b02, b0f, Nat.reduceEqDiff, nF9];obtain rfl := sI9 hm1;obtain rfl := hb7 _ rfl
    try dsimp only at hm0
    exact J6 l_3_1 v3_1 _ _ s3 Q1 hm0
 simp only [b0u];obtain ⟨b16, hl16, hm0⟩ := b0g hm0;refine b1j hl16 (fun | (l_3, x_17), t, h => ∃ v3 : AV, t 1 = .fp (vM m) 0 /\ t 3 = v3 /\ t 15 = .fs 2 (List.map b0o m.Counters) /\ t 16 = I (List.length m.Counters : Int) /\ t 17 = I x_17 /\ b2a h v3 1 (List.map eS l_3)) ?_ ?_
 ·exact ⟨(.v (.slice none 0 0)), va9, va9, va9, va9, va9, c0o⟩
 ·rintro ⟨l_3, x_17⟩ o t h ⟨v3, s1, s3, s15, s16, s17, Q1⟩ hm1 hb16;simp only [c9f] at hm1;rw [d5l];apply b0b;intro K hK;simp only [go_sem, s16, s17, b5r v3];apply hK;refine b0i fun K17 hK17 => ?_;simp only [go_sem];refine b0k (fun hc18 => ?_) (fun hc18 => ?_)
  ·rw [b0r hc18] at hm1;simp only [b0s, b02, b0f];refine hK17 _ _ ?_;refine b0i fun K19 hK19 => ?_;simp only [b0u];obtain ⟨x21, h_x21, hm1⟩ := b0g hm1;have h_x210 := b05 h_x21;have h_x211 := b06 h_x21;apply b0b;intro K hK;simp only [go_sem, s15, s17, b08 h_x21, b3n h_x21, h_x210, h_x211, b5r v3];apply hK;obtain ⟨l23, h_l23, hm1⟩ := b0g hm1;apply b03;intro K hK;simp only [go_sem, s3, l3r Q1, b5r v3];refine b3a (f := eS) (l := l_3) (m := ([x21.Name])) ?_ ?_ ?_ ?_ h_l23 ?_
   ·exact (b3x Q1 (by intro j hj hl; first | rfl | simp only [go_sem, hl]) (by first | omega | exact Nat.le_refl _ | (simp only [go_sem, nxs] <;> omega)))
   ·exact (b4t (by simp only [go_sem, b8s Q1, lA9, mA9]) (by simp only [go_sem, b8s Q1, lA9, mA9]))
   ·exact (b4r ve9)
   ·exact (fun _ => by simp)
   simp only [go_sem, s3, l3r Q1, b5r v3];apply hK;simp only [b02, b0f];refine hK19 _ _ ?_;apply b03;intro K hK;simp only [go_sem, s17, b5r v3];apply hK;simp only [b02, b0f];obtain rfl := sI9 hm1;refine ⟨_, rfl, ?_⟩;exact ⟨(.rs (nxs (nxs h.nx)) 0 (List.length l23)), s1, (by first | (simp only [go_sem, s3, lA9, mA9]; done) | rfl), s15, s16, (by first | (simp only [go_sem, s17, lA9, mA9]; done) | rfl), (b2v (by simp only [go_sem, b8s Q1, lA9, mA9]) vf9 vg9)⟩
  ·rw [b0q hc18] at hm1;simp only [b09, b1b, b1a, c0s, b02, b0f, Nat.reduceEqDiff, nF9];obtain rfl := sI9 hm1;obtain rfl := hb16 _ rfl
   try dsimp only at hm0
   exact J4 l_3 v3 _ _ s1 s3 Q1 hm0
theorem b4q (hf : Has O "newel/situation.within" x_situation_within) : c5u O := by
 intro n low high;generalize hm0 : b2q n low high = r;unfold b2q at hm0;refine b1i hf rfl (b0a (b0e _) (b0a (b0e _) (b0a (b0e _) b0j))) (b0e _) ?_;refine b1c (fun t h => t 0 = I n /\ t 1 = I low /\ t 2 = I high) ⟨rfl, rfl, rfl⟩ fun t h ⟨s0, s1, s2⟩ => ?_;simp only [x_situation_within];apply b0b;intro K hK;simp only [go_sem];apply hK;refine b2p (fun t h => t 6 = B ((decide (low <= n)) && (decide (n <= high)))) (fun K hK => ?_) ?_
 ·simp only [go_sem, s0, s1, s2];refine b0k (fun hg1 => ?_) (fun hg1 => ?_)
  ·simp only [go_sem, s0, s1, s2, hg1];exact hK _ _ (by first | (simp only [go_sem, hg1, lA9, mA9]; done) | rfl)
  ·simp only [go_sem, s0, s1, s2, hg1];exact hK _ _ (by first | (simp only [go_sem, hg1, lA9, mA9]; done) | rfl)
 ·rintro t h s6;simp only [b0x, b1p, b2e, b0y];obtain rfl := hm0;exact b04 (by simp only [go_sem, s6, lA9, mA9]) (b0e _)
theorem d3t (hf : Has O "slices.ContainsFunc[newel/api.Cond,newel/api.Term]" x_slices_ContainsFunc_api_Cond_api_Term_) (d3v : d0y O) : d0w O := by
 intro s f_n f_a f_b f f_z f_h r hm0;unfold c9k at hm0;refine b1i hf rfl (b0a (b0c fun a _ => b2j a) (b0a f_z b0j)) (b0e _) ?_;refine b1c (fun t h => t 0 = .fs 1 (List.map b0t s) /\ t 1 = .fn f_n f_a f_b) ⟨rfl, rfl⟩ fun t h ⟨s0, s1⟩ => ?_;simp only [x_slices_ContainsFunc_api_Cond_api_Term_];apply b0b;intro K hK;simp only [go_sem];apply hK;obtain ⟨y2, h_y2, hm0⟩ := b0g hm0;apply b0b;intro K hK;simp only [go_sem, s0, s1];refine b01 (d3v s f_n f_a f_b f f_z f_h _ h_y2) ?_;simp only [go_sem, s0, s1];apply hK;simp only [b0x, b1p, b2e, b0y];obtain rfl := sI9 hm0;exact b04 vc9 (b0e _)
theorem b8n (hf : Has O "slices.ContainsFunc[newel/api.Term,newel/api.Literal]" x_slices_ContainsFunc_api_Term_api_Literal_) (d3w : d0z O) : c1o O := by
 intro s f_n f_a f_b f f_z f_h r hm0;unfold b7t at hm0;refine b1i hf rfl (b0a (b0c fun a _ => c2w a) (b0a f_z b0j)) (b0e _) ?_;refine b1c (fun t h => t 0 = .fs 4 (List.map b3k s) /\ t 1 = .fn f_n f_a f_b) ⟨rfl, rfl⟩ fun t h ⟨s0, s1⟩ => ?_;simp only [x_slices_ContainsFunc_api_Term_api_Literal_];apply b0b;intro K hK;simp only [go_sem];apply hK;obtain ⟨y2, h_y2, hm0⟩ := b0g hm0;apply b0b;intro K hK;simp only [go_sem, s0, s1];refine b01 (d3w s f_n f_a f_b f f_z f_h _ h_y2) ?_;simp only [go_sem, s0, s1];apply hK;simp only [b0x, b1p, b2e, b0y];obtain rfl := sI9 hm0;exact b04 vc9 (b0e _)
theorem d3v (hf : Has O "slices.IndexFunc[newel/api.Cond,newel/api.Term]" x_slices_IndexFunc_api_Cond_api_Term_) : d0y O := by
 intro s f_n f_a f_b f f_z f_h r hm0;unfold d5c at hm0;refine b1i hf rfl (b0a (b0c fun a _ => b2j a) (b0a f_z b0j)) (b0e _) ?_;refine b1c (fun t h => t 0 = .fs 1 (List.map b0t s) /\ t 1 = .fn f_n f_a f_b) ⟨rfl, rfl⟩ fun t h ⟨s0, s1⟩ => ?_;simp only [x_slices_IndexFunc_api_Cond_api_Term_];apply b0b;intro K hK;simp only [go_sem];apply hK;refine b0v ?_;apply b0b;intro K hK;simp only [go_sem, s0];apply hK;refine b0i fun K1 hK1 => ?_
 have J2 : ∀ (t : Slots) (h : Heap), d5d = some r -> K1 t h := by
  intro t h hm0;refine hK1 _ _ ?_;unfold d5d at hm0;apply b0b;intro K hK;simp only [go_sem];apply hK;simp only [b0x, b1p, b2e, b0y];obtain rfl := sI9 hm0;exact b04 vc9 (b0e _)
 simp only [b0u];obtain ⟨b3, hl3, hm0⟩ := b0g hm0;refine b1j hl3 (fun | x_8, t, h => t 0 = .fs 1 (List.map b0t s) /\ t 1 = .fn f_n f_a f_b /\ t 7 = I (List.length s : Int) /\ t 8 = I x_8) ?_ ?_
 ·exact ⟨s0, s1, va9, va9⟩
 ·rintro x_8 o t h ⟨s0, s1, s7, s8⟩ hm1 hb3;simp only [g3d] at hm1;rw [g5e];apply b0b;intro K hK;simp only [go_sem, s7, s8];apply hK;refine b0i fun K4 hK4 => ?_;simp only [go_sem];refine b0k (fun hc5 => ?_) (fun hc5 => ?_)
  ·rw [b0r hc5] at hm1;simp only [b0s, b02, b0f];refine hK4 _ _ ?_;refine b0i fun K6 hK6 => ?_;simp only [b0u];apply b0b;intro K hK;simp only [go_sem, s8];apply hK;obtain ⟨x9, h_x9, hm1⟩ := b0g hm1;have h_x90 := b05 h_x9;have h_x91 := b06 h_x9;obtain ⟨y10, h_y10, hm1⟩ := b0g hm1;apply b0b;intro K hK;simp only [go_sem, s0, s1, b08 h_x9, b3n h_x9, h_x90, h_x91];refine o5t (f_h x9 _ h_y10) ?_;simp only [go_sem, s0, s1, b08 h_x9, b3n h_x9, h_x90, h_x91];apply hK;simp only [go_sem];refine b0k (fun hc11 => ?_) (fun hc11 => ?_)
   ·rw [b0r hc11] at hm1;apply b0b;intro K hK;simp only [go_sem];apply hK;simp only [b0x, b1p, b2e, b0y];obtain rfl := sI9 hm1;obtain rfl := hb3 _ rfl
    try dsimp only at hm0
    obtain rfl := sI9 hm0;exact b04 vc9 (b0e _)
   ·rw [b0q hc11] at hm1;simp only [b0s, b02, b0f];refine hK6 _ _ ?_;apply b03;intro K hK;simp only [go_sem, s8];apply hK;simp only [b02, b0f];obtain rfl := sI9 hm1;refine ⟨_, rfl, ?_⟩;exact ⟨s0, s1, s7, (by first | (simp only [go_sem, s8, lA9, mA9]; done) | rfl)⟩
  ·rw [b0q hc5] at hm1;simp only [b09, b1b, b1a, c0s, b02, b0f, Nat.reduceEqDiff, nF9];obtain rfl := sI9 hm1;obtain rfl := hb3 _ rfl
   try dsimp only at hm0
   exact J2  _ _  hm0
theorem d3w (hf : Has O "slices.IndexFunc[newel/api.Term,newel/api.Literal]" x_slices_IndexFunc_api_Term_api_Literal_) : d0z O := by
 intro s f_n f_a f_b f f_z f_h r hm0;unfold d5e at hm0;refine b1i hf rfl (b0a (b0c fun a _ => c2w a) (b0a f_z b0j)) (b0e _) ?_;refine b1c (fun t h => t 0 = .fs 4 (List.map b3k s) /\ t 1 = .fn f_n f_a f_b) ⟨rfl, rfl⟩ fun t h ⟨s0, s1⟩ => ?_;simp only [x_slices_IndexFunc_api_Term_api_Literal_];apply b0b;intro K hK;simp only [go_sem];apply hK;refine b0v ?_;apply b0b;intro K hK;simp only [go_sem, s0];apply hK;refine b0i fun K1 hK1 => ?_
 have J2 : ∀ (t : Slots) (h : Heap), d5f = some r -> K1 t h := by
  intro t h hm0;refine hK1 _ _ ?_;unfold d5f at hm0;apply b0b;intro K hK;simp only [go_sem];apply hK;simp only [b0x, b1p, b2e, b0y];obtain rfl := sI9 hm0;exact b04 vc9 (b0e _)
 simp only [b0u];obtain ⟨b3, hl3, hm0⟩ := b0g hm0;refine b1j hl3 (fun | x_8, t, h => t 0 = .fs 4 (List.map b3k s) /\ t 1 = .fn f_n f_a f_b /\ t 7 = I (List.length s : Int) /\ t 8 = I x_8) ?_ ?_
 ·exact ⟨s0, s1, va9, va9⟩
 ·rintro x_8 o t h ⟨s0, s1, s7, s8⟩ hm1 hb3;simp only [g3e] at hm1;rw [g5f];apply b0b;intro K hK;simp only [go_sem, s7, s8];apply hK;refine b0i fun K4 hK4 => ?_;simp only [go_sem];refine b0k (fun hc5 => ?_) (fun hc5 => ?_)
  ·rw [b0r hc5] at hm1;simp only [b0s, b02, b0f];refine hK4 _ _ ?_;refine b0i fun K6 hK6 => ?_;simp only [b0u];apply b0b;intro K hK;simp only [go_sem, s8];apply hK;obtain ⟨x9, h_x9, hm1⟩ := b0g hm1;have h_x90 := b05 h_x9;have h_x91 := b06 h_x9;obtain ⟨y10, h_y10, hm1⟩ := b0g hm1;apply b0b;intro K hK;simp only [go_sem, s0, s1, b08 h_x9, b3n h_x9, h_x90, h_x91];refine o5t (f_h x9 _ h_y10) ?_;simp only [go_sem, s0, s1, b08 h_x9, b3n h_x9, h_x90, h_x91];apply hK;simp only [go_sem];refine b0k (fun hc11 => ?_) (fun hc11 => ?_)
   ·rw [b0r hc11] at hm1;apply b0b;intro K hK;simp only [go_sem];apply hK;simp only [b0x, b1p, b2e, b0y];obtain rfl := sI9 hm1;obtain rfl := hb3 _ rfl
    try dsimp only at hm0
    obtain rfl := sI9 hm0;exact b04 vc9 (b0e _)
   ·rw [b0q hc11] at hm1;simp only [b0s, b02, b0f];refine hK6 _ _ ?_;apply b03;intro K hK;simp only [go_sem, s8];apply hK;simp only [b02, b0f];obtain rfl := sI9 hm1;refine ⟨_, rfl, ?_⟩;exact ⟨s0, s1, s7, (by first | (simp only [go_sem, s8, lA9, mA9]; done) | rfl)⟩
  ·rw [b0q hc5] at hm1;simp only [b09, b1b, b1a, c0s, b02, b0f, Nat.reduceEqDiff, nF9];obtain rfl := sI9 hm1;obtain rfl := hb3 _ rfl
   try dsimp only at hm0
   exact J2  _ _  hm0
theorem d3x (hf : Has O "slices.Reverse[[]int,int]" x_slices_Reverse___int_int_) : d00 O := by
 intro s v_0 h0 ow_p0 r hm0;unfold H9x at hm0;refine d8g hf rfl ?_;refine b1c (fun t h => t 0 = v_0 /\ b2a h v_0 1 (List.map eI s) /\ (∀ j, j < h0.nx -> b07 v_0 j -> h.ob j = h0.ob j) /\ h0.nx <= h.nx) ⟨rfl, ow_p0, fun _ _ _ => rfl, Nat.le_refl _⟩ fun t h ⟨s0, ow_p0, fr, fx⟩ => ?_;simp only [x_slices_Reverse___int_int_];apply b0b;intro K hK;simp only [go_sem, s0, l3r ow_p0, b5r v_0];apply hK;refine d1l ?_;refine b0i fun K1 hK1 => ?_
 have J2 : ∀ (s_1 : List Int) (t : Slots) (h : Heap), b2a h v_0 1 (List.map eI s_1) -> (∀ j, j < h0.nx -> b07 v_0 j -> h.ob j = h0.ob j) -> h0.nx <= h.nx -> c9l s_1 = some r -> K1 t h := by
  intro s_1 t h Qh fr fx hm0;refine hK1 _ _ ?_;unfold c9l at hm0;simp only [b0s, b02, b0f];obtain rfl := sI9 hm0;exact c4o (Post := fun v h => v = .tup [] /\ b2a h v_0 1 (List.map eI s_1) /\ (∀ j, j < h0.nx -> b07 v_0 j -> h.ob j = h0.ob j) /\ h0.nx <= h.nx) ⟨rfl, Qh, fr, fx⟩
 simp only [b0u];obtain ⟨b3, hl3, hm0⟩ := b0g hm0;refine b1j hl3 (fun | (s_0, i_2, j_3), t, h => t 0 = v_0 /\ t 2 = I i_2 /\ t 3 = I j_3 /\ b2a h v_0 1 (List.map eI s_0) /\ (∀ j, j < h0.nx -> b07 v_0 j -> h.ob j = h0.ob j) /\ h0.nx <= h.nx) ?_ ?_
 ·exact ⟨s0, va9, va9, ow_p0, fr, fx⟩
 ·rintro ⟨s_0, i_2, j_3⟩ o t h ⟨s0, s2, s3, Qf, fr, fx⟩ hm1 hb3;simp only [c1j] at hm1;rw [g5g];refine b0v ?_;apply b0b;intro K hK;simp only [go_sem, s2, s3, b5r v_0];apply hK;refine b0i fun K4 hK4 => ?_;simp only [go_sem];refine b0k (fun hc5 => ?_) (fun hc5 => ?_)
  ·rw [b0r hc5] at hm1;simp only [b0s, b02, b0f];refine hK4 _ _ ?_;refine b0i fun K6 hK6 => ?_;simp only [b0u];obtain ⟨x11, h_x11, hm1⟩ := b0g hm1;have h_x110 := b05 h_x11;have h_x111 := b06 h_x11;obtain ⟨iq12, e_iq12, Qg, Qd⟩ := l3q Qf h_x11;obtain ⟨x13, h_x13, hm1⟩ := b0g hm1;have h_x130 := b05 h_x13;have h_x131 := b06 h_x13;obtain ⟨x14, h_x14, hm1⟩ := b0g hm1;have h_x140 := b05 h_x14;have h_x141 := b06 h_x14; (try simp only [List.length_set] at h_x141);apply b03;intro K hK;simp only [go_sem, s0, s2, s3, Qg, Qd, b08 h_x11, b3n h_x11, h_x110, h_x111, b08 h_x13, b3n h_x13, h_x130, h_x131, b08 h_x14, b3n h_x14, h_x140, h_x141, e_iq12];apply hK;simp only [b02, b0f];refine hK6 _ _ ?_;apply b03;intro K hK;simp only [go_sem, s2, s3, Qd, e_iq12];apply hK;simp only [b02, b0f];obtain rfl := sI9 hm1;refine ⟨_, rfl, ?_⟩;exact ⟨(by first | (simp only [go_sem, s0, lA9, mA9, e_iq12]; done) | rfl), (by first | (simp only [go_sem, s2, lA9, mA9, e_iq12]; done) | rfl), (by first | (simp only [go_sem, s3, lA9, mA9, e_iq12]; done) | rfl), (by rw [e_iq12]; exact (b2v (by simp only [go_sem, Qg, Qd, lA9, mA9, e_iq12]) (by first | rfl | simp only [go_sem, lA9, mA9, e_iq12]) (by simp only [go_sem, Qd, e_iq12]))), (by intro j hj hx0; first | exact fr j hj hx0 | (refine Eq.trans ?_ (fr j hj hx0); first | rfl | simp only [go_sem, Nat.lt_of_lt_of_le hj fx, hx0, G6w (l0p e_iq12 hx0), b1z (G6w (l0p e_iq12 hx0)), e_iq12])), (by first | exact fx | omega | (simp only [go_sem, nxs] <;> omega))⟩
  ·rw [b0q hc5] at hm1;simp only [b09, b1b, b1a, c0s, b02, b0f, Nat.reduceEqDiff, nF9];obtain rfl := sI9 hm1;obtain rfl := hb3 _ rfl
   try dsimp only at hm0
   exact J2 s_0 _ _ Qf fr fx hm0
theorem C0i (hf : Has O "newel/ways.Check" x_ways_Check) (c15 : B8j O) (C0k : B96 O) : B94 O := by
 intro s r hm0;unfold B9i at hm0;refine b1i hf rfl (b0a (.agg _ (b0a (b0e _) (b0a (b0c fun a _ => c82 a) (b0a (b0c fun a _ => b1t a) b0j)))) b0j) (b0e _) ?_;refine b1c (fun t h => t 0 = .agg [I s.Places, .fs 7 (List.map z9o s.Passages), .fs 1 (List.map eI s.Exits)]) rfl fun t h s0 => ?_;simp only [x_ways_Check];apply b0b;intro K hK;simp only [go_sem, s0];apply hK;refine b0v ?_;refine b2p (fun t h => t 1 = .fp [I s.Places, .fs 7 (List.map z9o s.Passages), .fs 1 (List.map eI s.Exits)] 0 /\ t 18 = B ((!(b53 s.Places 1 10)) || (decide (24 < (List.length s.Passages : Int))))) (fun K hK => ?_) ?_
 ·simp only [go_sem];refine b01 (c15 s.Places 1 10) ?_;simp only [go_sem];refine b0k (fun hg1 => ?_) (fun hg1 => ?_)
  ·simp only [go_sem, hg1];exact hK _ _ ⟨(by first | (simp only [go_sem, hg1, lA9, mA9]; done) | rfl), (by first | (simp only [go_sem, hg1, lA9, mA9]; done) | rfl)⟩
  ·simp only [go_sem, hg1];exact hK _ _ ⟨(by first | (simp only [go_sem, hg1, lA9, mA9]; done) | rfl), (by first | (simp only [go_sem, hg1, lA9, mA9]; done) | rfl)⟩
 ·rintro t h ⟨s1, s18⟩;refine b0i fun K2 hK2 => ?_;simp only [go_sem, s18];refine b0k (fun hc3 => ?_) (fun hc3 => ?_)
  ·rw [b0r hc3] at hm0;apply b0b;intro K hK;simp only [go_sem];apply hK;simp only [b0x, b1p, b2e, b0y];obtain rfl := sI9 hm0;exact b04 vc9 (b0e _)
  ·rw [b0q hc3] at hm0;simp only [b0s, b02, b0f];refine hK2 _ _ ?_;apply b0b;intro K hK;simp only [go_sem];refine g0d (O := O) (e := List.map (eM vI vI) ([] : List (Int × Int))) rfl ?_;simp only [go_sem];apply hK;refine b0v ?_;apply b0b;intro K hK;simp only [go_sem, s1];apply hK;refine b0i fun K4 hK4 => ?_
   have J5 : ∀ (t : Slots) (h : Heap), t 1 = .fp [I s.Places, .fs 7 (List.map z9o s.Passages), .fs 1 (List.map eI s.Exits)] 0 -> B9l s = some r -> K4 t h := by
    intro t h s1 hm0;refine hK4 _ _ ?_;unfold B9l at hm0;apply b0b;intro K hK;simp only [go_sem];apply hK;refine b0v ?_;apply b0b;intro K hK;simp only [go_sem, s1];apply hK;refine b0i fun K6 hK6 => ?_
    have J7 : ∀ (t : Slots) (h : Heap), C0u = some r -> K6 t h := by
     intro t h hm0;refine hK6 _ _ ?_;unfold C0u at hm0;apply b0b;intro K hK;simp only [go_sem];apply hK;simp only [b0x, b1p, b2e, b0y];obtain rfl := sI9 hm0;exact b04 vc9 (b0e _)
    simp only [b0u];obtain ⟨b8, hl8, hm0⟩ := b0g hm0;refine b1j hl8 (fun | (last_6, x_51), t, h => t 1 = .fp [I s.Places, .fs 7 (List.map z9o s.Passages), .fs 1 (List.map eI s.Exits)] 0 /\ t 6 = I last_6 /\ t 49 = .fs 1 (List.map eI s.Exits) /\ t 50 = I (List.length s.Exits : Int) /\ t 51 = I x_51) ?_ ?_
    ·exact ⟨s1, va9, va9, va9, va9⟩
    ·rintro ⟨last_6, x_51⟩ o t h ⟨s1, s6, s49, s50, s51⟩ hm1 hb8;simp only [B9k] at hm1;rw [C1g];apply b0b;intro K hK;simp only [go_sem, s50, s51];apply hK;refine b0i fun K9 hK9 => ?_;simp only [go_sem];refine b0k (fun hc10 => ?_) (fun hc10 => ?_)
     ·rw [b0r hc10] at hm1;simp only [b0s, b02, b0f];refine hK9 _ _ ?_;refine b0i fun K11 hK11 => ?_;simp only [b0u];obtain ⟨x13, h_x13, hm1⟩ := b0g hm1;have h_x130 := b05 h_x13;have h_x131 := b06 h_x13;apply b0b;intro K hK;simp only [go_sem, s49, s51, b08 h_x13, b3n h_x13, h_x130, h_x131];apply hK;refine b0v ?_;apply b0b;intro K hK;simp only [go_sem, s1, s6];refine b01 (c15 x13 (wr (last_6 + 1)) (wr (s.Places - 1))) ?_;simp only [go_sem, s1, s6];apply hK;refine b0i fun K14 hK14 => ?_;simp only [go_sem];refine b0k (fun hc15 => ?_) (fun hc15 => ?_)
      ·rw [b0r hc15] at hm1;apply b0b;intro K hK;simp only [go_sem];apply hK;simp only [b0x, b1p, b2e, b0y];obtain rfl := sI9 hm1;obtain rfl := hb8 _ rfl
       try dsimp only at hm0
       obtain rfl := sI9 hm0;exact b04 vc9 (b0e _)
      ·rw [b0q hc15] at hm1;simp only [b0s, b02, b0f];refine hK14 _ _ ?_;apply b03;intro K hK;simp only [go_sem];apply hK;simp only [b02, b0f];refine hK11 _ _ ?_;apply b03;intro K hK;simp only [go_sem, s51];apply hK;simp only [b02, b0f];obtain rfl := sI9 hm1;refine ⟨_, rfl, ?_⟩;exact ⟨s1, (by first | (simp only [go_sem, s6, lA9, mA9]; done) | rfl), s49, s50, (by first | (simp only [go_sem, s51, lA9, mA9]; done) | rfl)⟩
     ·rw [b0q hc10] at hm1;simp only [b09, b1b, b1a, c0s, b02, b0f, Nat.reduceEqDiff, nF9];obtain rfl := sI9 hm1;obtain rfl := hb8 _ rfl
      try dsimp only at hm0
      exact J7  _ _  hm0
   simp only [b0u];obtain ⟨b17, hl17, hm0⟩ := b0g hm0;refine b1j hl17 (fun | (machines_3, x_23), t, h => ∃ i3 : Nat, t 1 = .fp [I s.Places, .fs 7 (List.map z9o s.Passages), .fs 1 (List.map eI s.Exits)] 0 /\ t 3 = .mp i3 /\ t 21 = .fs 7 (List.map z9o s.Passages) /\ t 22 = I (List.length s.Passages : Int) /\ t 23 = I x_23 /\ h.ob i3 = some (0, List.map (eM vI vI) machines_3) /\ i3 < h.nx) ?_ ?_
   ·exact ⟨h.nx, s1, va9, va9, va9, va9, vc9, vg9⟩
   ·rintro ⟨machines_3, x_23⟩ o t h ⟨i3, s1, s3, s21, s22, s23, Q2, Q0⟩ hm1 hb17;simp only [B9j] at hm1;rw [C1f];apply b0b;intro K hK;simp only [go_sem, s22, s23, Q0];apply hK;refine b0i fun K18 hK18 => ?_;simp only [go_sem];refine b0k (fun hc19 => ?_) (fun hc19 => ?_)
    ·rw [b0r hc19] at hm1;simp only [b0s, b02, b0f];refine hK18 _ _ ?_;refine b0i fun K20 hK20 => ?_;simp only [b0u];obtain ⟨x22, h_x22, hm1⟩ := b0g hm1;have h_x220 := b05 h_x22;have h_x221 := b06 h_x22;apply b0b;intro K hK;simp only [go_sem, s21, s23, Q0, b08 h_x22, b3n h_x22, h_x220, h_x221];apply hK;refine b0v ?_;apply b0b;intro K hK;simp only [go_sem, s1, Q0];refine b01 (C0k x22 s.Places) ?_;simp only [go_sem, s1, Q0];apply hK;refine b0i fun K23 hK23 => ?_;simp only [go_sem];refine b0k (fun hc24 => ?_) (fun hc24 => ?_)
     ·rw [b0r hc24] at hm1;apply b0b;intro K hK;simp only [go_sem, Q0];apply hK;simp only [b0x, b1p, b2e, b0y];obtain rfl := sI9 hm1;obtain rfl := hb17 _ rfl
      try dsimp only at hm0
      obtain rfl := sI9 hm0;exact b04 (by simp only [go_sem, Q2, Q0, lA9, mA9]) (b0e _)
     ·rw [b0q hc24] at hm1;simp only [b0s, b02, b0f];refine hK23 _ _ ?_;apply b0b;intro K hK;simp only [go_sem, s3, Q2, Q0];refine g0c (O := O) (fk := vI) (fv := vI) (l := machines_3) (x := x22.Machine) (z := 0) u8y C0m ?_ ?_ ?_
      ·rfl
      ·simp only [go_sem, Q2, Q0, lA9, mA9]
      simp only [go_sem, s3, Q2, Q0];refine d2i (O := O) (fk := vI) (fv := vI) (l := machines_3) (x := x22.Machine) (v := (wr ((b2w machines_3 x22.Machine 0) + 1))) g1t C0m ?_ ?_ ?_
      ·rfl
      ·simp only [go_sem, Q2, Q0, lA9, mA9]
      simp only [go_sem, s3, Q2, Q0];apply hK;refine b2p (fun t h => t 1 = .fp [I s.Places, .fs 7 (List.map z9o s.Passages), .fs 1 (List.map eI s.Exits)] 0 /\ t 3 = .mp i3 /\ t 21 = .fs 7 (List.map z9o s.Passages) /\ t 22 = I (List.length s.Passages : Int) /\ t 23 = I x_23 /\ t 46 = B ((decide (0 <= x22.Machine)) && (decide (1 < (b2w (b3w machines_3 x22.Machine (wr ((b2w machines_3 x22.Machine 0) + 1))) x22.Machine 0)))) /\ h.ob i3 = some (0, List.map (eM vI vI) (b3w machines_3 x22.Machine (wr ((b2w machines_3 x22.Machine 0) + 1)))) /\ i3 < h.nx) (fun K hK => ?_) ?_
      ·simp only [go_sem, s3, Q2, Q0];refine b0k (fun hg25 => ?_) (fun hg25 => ?_)
       ·simp only [go_sem, s3, Q2, Q0, hg25];refine g0c (O := O) (fk := vI) (fv := vI) (l := (b3w machines_3 x22.Machine (wr ((b2w machines_3 x22.Machine 0) + 1)))) (x := x22.Machine) (z := 0) u8y C0m ?_ ?_ ?_
        ·rfl
        ·simp only [go_sem, hg25, Q2, Q0, lA9, mA9]
        simp only [go_sem, s3, Q2, Q0, hg25];exact hK _ _ ⟨s1, s3, s21, s22, s23, (by first | (simp only [go_sem, hg25, lA9, mA9]; done) | rfl), (by simp only [go_sem, Q2, Q0, hg25, lA9, mA9]), (by simp only [go_sem, Q0])⟩
       ·simp only [go_sem, s3, Q2, Q0, hg25];exact hK _ _ ⟨s1, s3, s21, s22, s23, (by first | (simp only [go_sem, hg25, lA9, mA9]; done) | rfl), (by simp only [go_sem, Q2, Q0, hg25, lA9, mA9]), (by simp only [go_sem, Q0])⟩
      ·rintro t h ⟨s1, s3, s21, s22, s23, s46, Q2, Q0⟩;simp only [go_sem, s46];refine b0k (fun hc26 => ?_) (fun hc26 => ?_)
       ·rw [b0r hc26] at hm1;apply b0b;intro K hK;simp only [go_sem, Q0];apply hK;simp only [b0x, b1p, b2e, b0y];obtain rfl := sI9 hm1;obtain rfl := hb17 _ rfl
        try dsimp only at hm0
        obtain rfl := sI9 hm0;exact b04 (by simp only [go_sem, Q2, Q0, lA9, mA9]) (b0e _)
       ·rw [b0q hc26] at hm1;simp only [b0s, b02, b0f];refine hK20 _ _ ?_;apply b03;intro K hK;simp only [go_sem, s23, Q0];apply hK;simp only [b02, b0f];obtain rfl := sI9 hm1;refine ⟨_, rfl, ?_⟩;exact ⟨i3, s1, s3, s21, s22, (by first | (simp only [go_sem, s23, lA9, mA9]; done) | rfl), Q2, Q0⟩
    ·rw [b0q hc19] at hm1;simp only [b09, b1b, b1a, c0s, b02, b0f, Nat.reduceEqDiff, nF9];obtain rfl := sI9 hm1;obtain rfl := hb17 _ rfl
     try dsimp only at hm0
     exact J5  _ _ s1 hm0
theorem J0z (hf : Has O "newel/ways.Way" x_ways_Way) (B85 : B9s O) (C0d : B9y O) (C0e : B9z O) : J0p O := by
 intro s out help from_ to_ r hm0;unfold H9j at hm0;refine b1i hf rfl (b0a (.agg _ (b0a (b0e _) (b0a (b0c fun a _ => c82 a) (b0a (b0c fun a _ => b1t a) b0j)))) (b0a (b0e _) (b0a (b0e _) (b0a (b0e _) (b0a (b0e _) b0j))))) (.tup _ (b0a (b0e _) (b0a (b0c fun a _ => b1t a) (b0a (b0e _) b0j)))) ?_;refine b1c (fun t h => t 0 = .agg [I s.Places, .fs 7 (List.map z9o s.Passages), .fs 1 (List.map eI s.Exits)] /\ t 1 = I out /\ t 2 = B help /\ t 3 = I from_ /\ t 4 = I to_) ⟨rfl, rfl, rfl, rfl, rfl⟩ fun t h ⟨s0, s1, s2, s3, s4⟩ => ?_;simp only [x_ways_Way];apply b0b;intro K hK;simp only [go_sem, s0];apply hK;refine b0v ?_;obtain ⟨y2, h_y2, hm0⟩ := b0g hm0;apply b0b;intro K hK;simp only [go_sem, s1, s3, s4];refine b8l ?_ (B85 s out ([from_, to_]) _ h_y2) (.v _) ?_
 ·exact .cons (.refl _ (.agg _ (b0a (b0e _) (b0a (b0c fun a _ => c82 a) (b0a (b0c fun a _ => b1t a) b0j))))) (.cons (.refl _ (b0e _)) (.cons (b29 (f := eI) (l := ([from_, to_])) (id := h.nx) vc9 vf9 b1t b8p) (.nil)))
 simp only [go_sem, s1, s3, s4];apply hK;refine b0v ?_;apply b0b;intro K hK;simp only [go_sem];apply hK;refine b0i fun K3 hK3 => ?_;simp only [go_sem];refine b0k (fun hc4 => ?_) (fun hc4 => ?_)
 ·rw [b0r hc4] at hm0;apply b0b;intro K hK;simp only [go_sem];apply hK;simp only [b0x, b1p, b2e, b0y];obtain rfl := sI9 hm0;exact c2l (v := I 0) (u := .v (.slice none 0 0)) (x := I y2) vc9 vc9 vc9 (.refl _ (b0e _)) (.nil _) (.refl _ (b0e _))
 ·rw [b0q hc4] at hm0;simp only [b0s, b02, b0f];refine hK3 _ _ ?_;apply b0b;intro K hK;simp only [go_sem, s1, s2];apply hK;obtain ⟨y6, h_y6, hm0⟩ := b0g hm0;apply b0b;intro K hK;simp only [go_sem, s4];refine b01 (C0d (ways_level.mk s out help) to_ _ h_y6) ?_;simp only [go_sem, s4];apply hK;refine b0v ?_;obtain ⟨x8, h_x8, hm0⟩ := b0g hm0;have h_x80 := b05 h_x8;have h_x81 := b06 h_x8;apply b0b;intro K hK;simp only [go_sem, s3, b08 h_x8, b3n h_x8, h_x80, h_x81];apply hK;refine b0i fun K9 hK9 => ?_;simp only [go_sem];refine b0k (fun hc10 => ?_) (fun hc10 => ?_)
  ·rw [b0r hc10] at hm0;apply b0b;intro K hK;simp only [go_sem];apply hK;simp only [b0x, b1p, b2e, b0y];obtain rfl := sI9 hm0;exact c2l (v := I 0) (u := .v (.slice none 0 0)) (x := I 3) vc9 vc9 vc9 (.refl _ (b0e _)) (.nil _) (.refl _ (b0e _))
  ·rw [b0q hc10] at hm0;simp only [b0s, b02, b0f];refine hK9 _ _ ?_;refine b0v ?_;apply b0b;intro K hK;simp only [go_sem, s3];apply hK;refine b0i fun K11 hK11 => ?_
   have J12 : ∀ (way_11 : List Int) (v11 : AV) (t : Slots) (h : Heap), t 3 = I from_ -> t 11 = v11 -> t 14 = .fs 1 (List.map eI y6) -> b2a h v11 1 (List.map eI way_11) -> J0e from_ y6 way_11 = some r -> K11 t h := by
    intro way_11 v11 t h s3 s11 s14 Q7 hm0;refine hK11 _ _ ?_;unfold J0e at hm0;obtain ⟨x14, h_x14, hm0⟩ := b0g hm0;have h_x140 := b05 h_x14;have h_x141 := b06 h_x14;apply b0b;intro K hK;simp only [go_sem, s3, s11, s14, l3r Q7, b08 h_x14, b3n h_x14, h_x140, h_x141, b5r v11];apply hK;simp only [b0x, b1p, b2e, b0y];obtain rfl := sI9 hm0;exact c2l (v := I x14) (u := v11) (x := I 0) (by simp only [go_sem, s11, b8s Q7, lA9, mA9]) (by simp only [go_sem, s11, b8s Q7, lA9, mA9]) (by simp only [go_sem, s11, b8s Q7, lA9, mA9]) (.refl _ (b0e _)) (r8x (f := eI) (l := way_11) (b3x Q7 (by intro j hj hl; first | rfl | simp only [go_sem, hl]) (by first | omega | exact Nat.le_refl _ | (simp only [go_sem, nxs] <;> omega))) b1t b8p) (.refl _ (b0e _))
   simp only [b0u];obtain ⟨b15, hl15, hm0⟩ := b0g hm0;refine b1j hl15 (fun | (way_11, at_15), t, h => ∃ v11 : AV, ∃ i13 : Nat, t 3 = I from_ /\ t 4 = I to_ /\ t 5 = .fp [I s.Places, .fs 7 (List.map z9o s.Passages), .fs 1 (List.map eI s.Exits)] 0 /\ t 11 = v11 /\ t 13 = .rp i13 0 0 /\ t 14 = .fs 1 (List.map eI y6) /\ t 15 = I at_15 /\ b2a h v11 1 (List.map eI way_11) /\ h.ob i13 = some (5, [[I s.Places, .fs 7 (List.map z9o s.Passages), .fs 1 (List.map eI s.Exits), I out, B help]]) /\ i13 < h.nx /\ b07 v11 i13) ?_ ?_
   ·exact ⟨(.v (.slice none 0 0)), (nxs h.nx), s3, s4, va9, va9, va9, va9, va9, c0o, vc9, vg9, vb9⟩
   ·rintro ⟨way_11, at_15⟩ o t h ⟨v11, i13, s3, s4, s5, s11, s13, s14, s15, Q7, Q9, Q5, Q8⟩ hm1 hb15;simp only [H9a] at hm1;rw [J2f];refine b0v ?_;apply b0b;intro K hK;simp only [go_sem, s4, s15, Q5, b5r v11];apply hK;refine b0i fun K16 hK16 => ?_;simp only [go_sem];refine b0k (fun hc17 => ?_) (fun hc17 => ?_)
    ·rw [b0r hc17] at hm1;simp only [b0s, b02, b0f];refine hK16 _ _ ?_;refine d1l ?_;refine b0i fun K18 hK18 => ?_
     have J19 : ∀ (way_11_1 : List Int) (at_15_1 : Int) (v11_1 : AV) (t : Slots) (h : Heap), t 3 = I from_ -> t 4 = I to_ -> t 5 = .fp [I s.Places, .fs 7 (List.map z9o s.Passages), .fs 1 (List.map eI s.Exits)] 0 -> t 11 = v11_1 -> t 13 = .rp i13 0 0 -> t 14 = .fs 1 (List.map eI y6) -> t 15 = I at_15_1 -> b2a h v11_1 1 (List.map eI way_11_1) -> h.ob i13 = some (5, [[I s.Places, .fs 7 (List.map z9o s.Passages), .fs 1 (List.map eI s.Exits), I out, B help]]) -> i13 < h.nx -> b07 v11_1 i13 -> J0f way_11_1 at_15_1 = some o -> K18 t h := by
      try clear s3 s4 s5 s11 s13 s14 s15 Q7 Q9 Q5 Q8
      intro way_11_1 at_15_1 v11_1 t h s3 s4 s5 s11 s13 s14 s15 Q7 Q9 Q5 Q8 hm1;refine hK18 _ _ ?_;unfold J0f at hm1;simp only [b0s, b02, b0f];obtain rfl := sI9 hm1;refine ⟨_, rfl, ?_⟩;exact ⟨v11_1, i13, s3, s4, s5, s11, s13, s14, s15, Q7, Q9, Q5, Q8⟩
     simp only [b0u];apply b0b;intro K hK;simp only [go_sem, s5, Q5, b5r v11];apply hK;simp only [b0u];obtain ⟨b20, hl20, hm1⟩ := b0g hm1;refine b1j hl20 (fun | (at_15_1, x_47), t, h => t 3 = I from_ /\ t 4 = I to_ /\ t 5 = .fp [I s.Places, .fs 7 (List.map z9o s.Passages), .fs 1 (List.map eI s.Exits)] 0 /\ t 11 = v11 /\ t 13 = .rp i13 0 0 /\ t 14 = .fs 1 (List.map eI y6) /\ t 15 = I at_15_1 /\ t 45 = .fs 7 (List.map z9o s.Passages) /\ t 46 = I (List.length s.Passages : Int) /\ t 47 = I x_47 /\ b2a h v11 1 (List.map eI way_11) /\ h.ob i13 = some (5, [[I s.Places, .fs 7 (List.map z9o s.Passages), .fs 1 (List.map eI s.Exits), I out, B help]]) /\ i13 < h.nx /\ b07 v11 i13) ?_ ?_
     ·exact ⟨s3, s4, s5, s11, s13, s14, s15, va9, va9, va9, Q7, Q9, Q5, Q8⟩
     ·try clear s3 s4 s5 s11 s13 s14 s15 Q7 Q9 Q5 Q8
      rintro ⟨at_15_1, x_47⟩ o t h ⟨s3, s4, s5, s11, s13, s14, s15, s45, s46, s47, Q7, Q9, Q5, Q8⟩ hm2 hb20;simp only [H9k] at hm2;rw [J2e];apply b0b;intro K hK;simp only [go_sem, s46, s47, Q5, b5r v11];apply hK;refine b0i fun K21 hK21 => ?_;simp only [go_sem];refine b0k (fun hc22 => ?_) (fun hc22 => ?_)
      ·rw [b0r hc22] at hm2;simp only [b0s, b02, b0f];refine hK21 _ _ ?_;refine b0i fun K23 hK23 => ?_;simp only [b0u];obtain ⟨x25, h_x25, hm2⟩ := b0g hm2;have h_x250 := b05 h_x25;have h_x251 := b06 h_x25;apply b0b;intro K hK;simp only [go_sem, s45, s47, Q5, b08 h_x25, b3n h_x25, h_x250, h_x251, b5r v11];apply hK;obtain ⟨y27, h_y27, hm2⟩ := b0g hm2;apply b0b;intro K hK;simp only [go_sem, s13, s15, Q9, Q5, Q8, b5r v11];refine b01 (C0e (ways_level.mk s out help) x25 at_15_1 _ h_y27) ?_;simp only [go_sem, s13, s15, Q9, Q5, Q8, b5r v11];apply hK;obtain ⟨c34, h_c34, hm2⟩ := b0g hm2;obtain ⟨c37, h_c37, hm2⟩ := b0g hm2;refine b2p (fun t h => t 3 = I from_ /\ t 4 = I to_ /\ t 5 = .fp [I s.Places, .fs 7 (List.map z9o s.Passages), .fs 1 (List.map eI s.Exits)] 0 /\ t 11 = v11 /\ t 13 = .rp i13 0 0 /\ t 14 = .fs 1 (List.map eI y6) /\ t 15 = I at_15_1 /\ t 16 = I x_47 /\ t 18 = I y27 /\ t 45 = .fs 7 (List.map z9o s.Passages) /\ t 46 = I (List.length s.Passages : Int) /\ t 47 = I x_47 /\ t 78 = B c37 /\ b2a h v11 1 (List.map eI way_11) /\ h.ob i13 = some (5, [[I s.Places, .fs 7 (List.map z9o s.Passages), .fs 1 (List.map eI s.Exits), I out, B help]]) /\ i13 < h.nx /\ b07 v11 i13) (fun K hK => ?_) ?_
       ·simp only [go_sem, s14, s15, Q5, b5r v11];refine b0k (fun hg38 => ?_) (fun hg38 => ?_)
        ·simp only [hg38, Bool.not_true, Bool.not_false, eq_self, if_true, if_false, Bool.true_or, Bool.or_true, Bool.false_or, Bool.or_false, Bool.true_and, Bool.and_true, Bool.false_and, Bool.and_false, fT9] at h_c34;obtain ⟨x33, h_x33, h_c34⟩ := b0g h_c34;have h_x330 := b05 h_x33;have h_x331 := b06 h_x33;obtain rfl := sI9 h_c34;simp only [go_sem, s14, s15, Q5, b08 h_x33, b3n h_x33, h_x330, h_x331, hg38, b5r v11];refine b0k (fun hg39 => ?_) (fun hg39 => ?_)
         ·simp only [hg38, hg39, Bool.not_true, Bool.not_false, eq_self, if_true, if_false, Bool.true_or, Bool.or_true, Bool.false_or, Bool.or_false, Bool.true_and, Bool.and_true, Bool.false_and, Bool.and_false, fT9] at h_c37;obtain ⟨x35, h_x35, h_c37⟩ := b0g h_c37;have h_x350 := b05 h_x35;have h_x351 := b06 h_x35;obtain rfl := sI9 (h_x33.symm.trans h_x35);obtain ⟨x36, h_x36, h_c37⟩ := b0g h_c37;have h_x360 := b05 h_x36;have h_x361 := b06 h_x36;obtain rfl := sI9 h_c37;simp only [go_sem, s14, s15, Q5, b08 h_x33, b3n h_x33, h_x330, h_x331, b08 h_x35, b3n h_x35, h_x350, h_x351, b08 h_x36, b3n h_x36, h_x360, h_x361, hg38, hg39, b5r v11];exact hK _ _ ⟨s3, s4, s5, s11, s13, s14, s15, (by first | (simp only [go_sem, hg38, hg39, lA9, mA9]; done) | rfl), (by first | (simp only [go_sem, hg38, hg39, lA9, mA9]; done) | rfl), s45, s46, s47, (by first | (simp only [go_sem, hg38, hg39, lA9, mA9]; done) | rfl), (b3x Q7 (by intro j hj hl; first | rfl | simp only [go_sem, hl]) (by first | omega | exact Nat.le_refl _ | (simp only [go_sem, nxs] <;> omega))), (by simp only [go_sem, Q9, Q5, hg38, hg39, lA9, mA9]), (by simp only [go_sem, Q5]), Q8⟩
         ·simp only [hg38, hg39, Bool.not_true, Bool.not_false, eq_self, if_true, if_false, Bool.true_or, Bool.or_true, Bool.false_or, Bool.or_false, Bool.true_and, Bool.and_true, Bool.false_and, Bool.and_false, fT9] at h_c37;obtain rfl := sI9 h_c37;simp only [go_sem, s14, s15, Q5, b08 h_x33, b3n h_x33, h_x330, h_x331, hg38, hg39, b5r v11];exact hK _ _ ⟨s3, s4, s5, s11, s13, s14, s15, (by first | (simp only [go_sem, hg38, hg39, lA9, mA9]; done) | rfl), (by first | (simp only [go_sem, hg38, hg39, lA9, mA9]; done) | rfl), s45, s46, s47, (by first | (simp only [go_sem, hg38, hg39, lA9, mA9]; done) | rfl), (b3x Q7 (by intro j hj hl; first | rfl | simp only [go_sem, hl]) (by first | omega | exact Nat.le_refl _ | (simp only [go_sem, nxs] <;> omega))), (by simp only [go_sem, Q9, Q5, hg38, hg39, lA9, mA9]), (by simp only [go_sem, Q5]), Q8⟩
        ·simp only [hg38, Bool.not_true, Bool.not_false, eq_self, if_true, if_false, Bool.true_or, Bool.or_true, Bool.false_or, Bool.or_false, Bool.true_and, Bool.and_true, Bool.false_and, Bool.and_false, fT9] at h_c34;obtain rfl := sI9 h_c34;simp only [hg38, Bool.not_true, Bool.not_false, eq_self, if_true, if_false, Bool.true_or, Bool.or_true, Bool.false_or, Bool.or_false, Bool.true_and, Bool.and_true, Bool.false_and, Bool.and_false, fT9] at h_c37;obtain rfl := sI9 h_c37;simp only [go_sem, s14, s15, Q5, hg38, b5r v11];exact hK _ _ ⟨s3, s4, s5, s11, s13, s14, s15, (by first | (simp only [go_sem, hg38, lA9, mA9]; done) | rfl), (by first | (simp only [go_sem, hg38, lA9, mA9]; done) | rfl), s45, s46, s47, (by first | (simp only [go_sem, hg38, lA9, mA9]; done) | rfl), (b3x Q7 (by intro j hj hl; first | rfl | simp only [go_sem, hl]) (by first | omega | exact Nat.le_refl _ | (simp only [go_sem, nxs] <;> omega))), (by simp only [go_sem, Q9, Q5, hg38, lA9, mA9]), (by simp only [go_sem, Q5]), Q8⟩
       ·try clear s3 s4 s5 s11 s13 s14 s15 s45 s46 s47 Q7 Q9 Q5 Q8
        rintro t h ⟨s3, s4, s5, s11, s13, s14, s15, s16, s18, s45, s46, s47, s78, Q7, Q9, Q5, Q8⟩;simp only [go_sem, s78];refine b0k (fun hc40 => ?_) (fun hc40 => ?_)
        ·rw [b0r hc40] at hm2;obtain ⟨l42, h_l42, hm2⟩ := b0g hm2;apply b0b;intro K hK;simp only [go_sem, s11, s16, l3r Q7, Q5, Q8, b5r v11];refine b3a (f := eI) (l := way_11) (m := ([x_47])) ?_ ?_ ?_ ?_ h_l42 ?_
         ·exact (b3x Q7 (by intro j hj hl; first | rfl | simp only [go_sem, hl, b4s hj Q8]) (by first | omega | exact Nat.le_refl _ | (simp only [go_sem, nxs] <;> omega)))
         ·exact (b4t (by simp only [go_sem, b8s Q7, Q9, Q5, Q8, lA9, mA9]) (by simp only [go_sem, b8s Q7, Q9, Q5, Q8, lA9, mA9]))
         ·exact (b4r ve9)
         ·exact (fun _ => by simp)
         simp only [go_sem, s11, s16, l3r Q7, Q5, Q8, b5r v11];apply hK;apply b0b;intro K hK;simp only [go_sem, s18, Q5, b5r v11];apply hK;simp only [b09, b1b, b1a, c0s, b02, b0f, Nat.reduceEqDiff, nF9];obtain rfl := sI9 hm2;obtain rfl := hb20 _ rfl
         try dsimp only at hm1
         exact J19 l42 y27 (.rs (nxs h.nx) 0 (List.length l42)) _ _ s3 s4 s5 (by first | (simp only [go_sem, s11, lA9, mA9]; done) | rfl) s13 s14 (by first | (simp only [go_sem, s15, lA9, mA9]; done) | rfl) (b2v (by simp only [go_sem, b8s Q7, lA9, mA9]) vf9 vg9) (by simp only [go_sem, b8s Q7, Q9, Q5, Q8, lA9, mA9]) (by simp only [go_sem, Q5]) vb9 hm1
        ·rw [b0q hc40] at hm2;simp only [b0s, b02, b0f];refine hK23 _ _ ?_;apply b03;intro K hK;simp only [go_sem, s47, Q5, b5r v11];apply hK;simp only [b02, b0f];obtain rfl := sI9 hm2;refine ⟨_, rfl, ?_⟩;exact ⟨s3, s4, s5, s11, s13, s14, s15, s45, s46, (by first | (simp only [go_sem, s47, lA9, mA9]; done) | rfl), Q7, Q9, Q5, Q8⟩
      ·rw [b0q hc22] at hm2;simp only [b09, b1b, b1a, c0s, b02, b0f, Nat.reduceEqDiff, nF9];obtain rfl := sI9 hm2;obtain rfl := hb20 _ rfl
       try dsimp only at hm1
       exact J19 way_11 at_15_1 v11 _ _ s3 s4 s5 s11 s13 s14 s15 Q7 Q9 Q5 Q8 hm1
    ·rw [b0q hc17] at hm1;simp only [b09, b1b, b1a, c0s, b02, b0f, Nat.reduceEqDiff, nF9];obtain rfl := sI9 hm1;obtain rfl := hb15 _ rfl
     try dsimp only at hm0
     exact J12 way_11 v11 _ _ s3 s11 s14 Q7 hm0
theorem B85 (hf : Has O "newel/ways.asked" x_ways_asked) (C0i : B94 O) (c15 : B8j O) (C0l : B97 O) : B9s O := by
 intro s out places r hm0;unfold B8z at hm0;refine b1i hf rfl (b0a (.agg _ (b0a (b0e _) (b0a (b0c fun a _ => c82 a) (b0a (b0c fun a _ => b1t a) b0j)))) (b0a (b0e _) (b0a (b0c fun a _ => b1t a) b0j))) (b0e _) ?_;refine b1c (fun t h => t 0 = .agg [I s.Places, .fs 7 (List.map z9o s.Passages), .fs 1 (List.map eI s.Exits)] /\ t 1 = I out /\ t 2 = .fs 1 (List.map eI places)) ⟨rfl, rfl, rfl⟩ fun t h ⟨s0, s1, s2⟩ => ?_;simp only [x_ways_asked];apply b0b;intro K hK;simp only [go_sem, s0];apply hK;refine b0v ?_;obtain ⟨y2, h_y2, hm0⟩ := b0g hm0;apply b0b;intro K hK;simp only [go_sem];refine b01 (C0i s _ h_y2) ?_;simp only [go_sem];apply hK;refine b0v ?_;apply b0b;intro K hK;simp only [go_sem];apply hK;refine b0i fun K3 hK3 => ?_;simp only [go_sem];refine b0k (fun hc4 => ?_) (fun hc4 => ?_)
 ·rw [b0r hc4] at hm0;apply b0b;intro K hK;simp only [go_sem];apply hK;simp only [b0x, b1p, b2e, b0y];obtain rfl := sI9 hm0;exact b04 vc9 (b0e _)
 ·rw [b0q hc4] at hm0;simp only [b0s, b02, b0f];refine hK3 _ _ ?_;refine b0v ?_;obtain ⟨c8, h_c8, hm0⟩ := b0g hm0;refine b2p (fun t h => t 21 = B c8) (fun K hK => ?_) ?_
  ·simp only [go_sem, s1, s2];refine b01 (c15 out 0 4095) ?_;simp only [go_sem, s1, s2];refine b0k (fun hg9 => ?_) (fun hg9 => ?_)
   ·simp only [hg9, Bool.not_true, Bool.not_false, eq_self, if_true, if_false, Bool.true_or, Bool.or_true, Bool.false_or, Bool.or_false, Bool.true_and, Bool.and_true, Bool.false_and, Bool.and_false, fT9] at h_c8;obtain rfl := sI9 h_c8;simp only [go_sem, s1, s2, hg9];exact hK _ _ (by first | (simp only [go_sem, hg9, lA9, mA9]; done) | rfl)
   ·simp only [hg9, Bool.not_true, Bool.not_false, eq_self, if_true, if_false, Bool.true_or, Bool.or_true, Bool.false_or, Bool.or_false, Bool.true_and, Bool.and_true, Bool.false_and, Bool.and_false, fT9] at h_c8;obtain ⟨y7, h_y7, h_c8⟩ := b0g h_c8;obtain rfl := sI9 h_c8;simp only [go_sem, s1, s2, hg9];refine b01 (C0l s places _ h_y7) ?_;simp only [go_sem, s1, s2, hg9];exact hK _ _ (by first | (simp only [go_sem, hg9, lA9, mA9]; done) | rfl)
  ·rintro t h s21;refine b0i fun K10 hK10 => ?_;simp only [go_sem, s21];refine b0k (fun hc11 => ?_) (fun hc11 => ?_)
   ·rw [b0r hc11] at hm0;apply b0b;intro K hK;simp only [go_sem];apply hK;simp only [b0x, b1p, b2e, b0y];obtain rfl := sI9 hm0;exact b04 vc9 (b0e _)
   ·rw [b0q hc11] at hm0;simp only [b0s, b02, b0f];refine hK10 _ _ ?_;apply b0b;intro K hK;simp only [go_sem];apply hK;simp only [b0x, b1p, b2e, b0y];obtain rfl := sI9 hm0;exact b04 vc9 (b0e _)
theorem C0k (hf : Has O "newel/ways.passage" x_ways_passage) (c15 : B8j O) : B96 O := by
 intro p places;generalize hm0 : B80 p places = r;unfold B80 at hm0;refine b1i hf rfl (b0a (.agg _ (b0a (b0e _) (b0a (b0e _) (b0a (b0e _) (b0a (b0e _) (b0a (b0e _) (b0a (b0e _) (b0a (b0e _) b0j)))))))) (b0a (b0e _) b0j)) (b0e _) ?_;refine b1c (fun t h => t 0 = .agg [I p.A, I p.B, I p.Kind, I p.Ticks, I p.Wide, I p.Machine, I p.Still] /\ t 1 = I places) ⟨rfl, rfl⟩ fun t h ⟨s0, s1⟩ => ?_;simp only [x_ways_passage];apply b0b;intro K hK;simp only [go_sem, s0];apply hK;refine b0v ?_;refine b2p (fun t h => t 2 = .fp [I p.A, I p.B, I p.Kind, I p.Ticks, I p.Wide, I p.Machine, I p.Still] 0 /\ t 37 = B (((((!(b53 p.A 0 (wr (places - 1)))) || (!(b53 p.B 0 (wr (places - 1))))) || (decide (p.A = p.B))) || (!(b53 p.Ticks 1 20))) || (!(b53 p.Wide 1 50)))) (fun K hK => ?_) ?_
 ·simp only [go_sem, s1];refine b01 (c15 p.A 0 (wr (places - 1))) ?_;simp only [go_sem, s1];refine b0k (fun hg1 => ?_) (fun hg1 => ?_)
  ·simp only [go_sem, s1, hg1];exact hK _ _ ⟨(by first | (simp only [go_sem, hg1, lA9, mA9]; done) | rfl), (by first | (simp only [go_sem, hg1, lA9, mA9]; done) | rfl)⟩
  ·simp only [go_sem, s1, hg1];refine b01 (c15 p.B 0 (wr (places - 1))) ?_;simp only [go_sem, s1, hg1];refine b0k (fun hg2 => ?_) (fun hg2 => ?_)
   ·simp only [go_sem, s1, hg1, hg2];exact hK _ _ ⟨(by first | (simp only [go_sem, hg1, hg2, lA9, mA9]; done) | rfl), (by first | (simp only [go_sem, hg1, hg2, lA9, mA9]; done) | rfl)⟩
   ·simp only [go_sem, s1, hg1, hg2];refine b0k (fun hg3 => ?_) (fun hg3 => ?_)
    ·simp only [go_sem, s1, hg1, hg2, hg3];exact hK _ _ ⟨(by first | (simp only [go_sem, hg1, hg2, hg3, lA9, mA9]; done) | rfl), (by first | (simp only [go_sem, hg1, hg2, hg3, lA9, mA9]; done) | rfl)⟩
    ·simp only [go_sem, s1, hg1, hg2, hg3];refine b01 (c15 p.Ticks 1 20) ?_;simp only [go_sem, s1, hg1, hg2, hg3];refine b0k (fun hg4 => ?_) (fun hg4 => ?_)
     ·simp only [go_sem, s1, hg1, hg2, hg3, hg4];exact hK _ _ ⟨(by first | (simp only [go_sem, hg1, hg2, hg3, hg4, lA9, mA9]; done) | rfl), (by first | (simp only [go_sem, hg1, hg2, hg3, hg4, lA9, mA9]; done) | rfl)⟩
     ·simp only [go_sem, s1, hg1, hg2, hg3, hg4];refine b01 (c15 p.Wide 1 50) ?_;simp only [go_sem, s1, hg1, hg2, hg3, hg4];exact hK _ _ ⟨(by first | (simp only [go_sem, hg1, hg2, hg3, hg4, lA9, mA9]; done) | rfl), (by first | (simp only [go_sem, hg1, hg2, hg3, hg4, lA9, mA9]; done) | rfl)⟩
 ·rintro t h ⟨s2, s37⟩;refine b0i fun K5 hK5 => ?_;simp only [go_sem, s37];refine b0k (fun hc6 => ?_) (fun hc6 => ?_)
  ·rw [b0r hc6] at hm0;apply b0b;intro K hK;simp only [go_sem];apply hK;simp only [b0x, b1p, b2e, b0y];obtain rfl := hm0;exact b04 vc9 (b0e _)
  ·rw [b0q hc6] at hm0;simp only [b0s, b02, b0f];refine hK5 _ _ ?_;refine b0v ?_;apply b0b;intro K hK;simp only [go_sem, s2];apply hK;refine b0i fun K7 hK7 => ?_;simp only [b0u];refine b0v ?_;apply b0b;intro K hK;simp only [go_sem];apply hK;refine b0i fun K8 hK8 => ?_
   have J9 : ∀ (x_40 : Bool) (t : Slots) (h : Heap), t 2 = .fp [I p.A, I p.B, I p.Kind, I p.Ticks, I p.Wide, I p.Machine, I p.Still] 0 -> t 39 = I p.Kind -> t 40 = B x_40 -> B81 p x_40 = r -> K8 t h := by
    intro x_40 t h s2 s39 s40 hm0;refine hK8 _ _ ?_;unfold B81 at hm0;simp only [go_sem, s40];refine b0k (fun hc10 => ?_) (fun hc10 => ?_)
    ·rw [b0r hc10] at hm0;refine b2p (fun t h => t 4 = B ((decide (p.Machine = (-1))) && (decide (p.Still = 0)))) (fun K hK => ?_) ?_
     ·simp only [go_sem, s2];refine b0k (fun hg11 => ?_) (fun hg11 => ?_)
      ·simp only [go_sem, s2, hg11];exact hK _ _ (by first | (simp only [go_sem, hg11, lA9, mA9]; done) | rfl)
      ·simp only [go_sem, s2, hg11];exact hK _ _ (by first | (simp only [go_sem, hg11, lA9, mA9]; done) | rfl)
     ·rintro t h s4;simp only [b0x, b1p, b2e, b0y];obtain rfl := hm0;exact b04 (by simp only [go_sem, s4, lA9, mA9]) (b0e _)
    ·rw [b0q hc10] at hm0;apply b0b;intro K hK;simp only [go_sem, s39];apply hK;simp only [go_sem];refine b0k (fun hc12 => ?_) (fun hc12 => ?_)
     ·rw [b0r hc12] at hm0;refine b2p (fun t h => t 4 = B ((b53 p.Machine 0 11) && (b53 p.Still 1 20))) (fun K hK => ?_) ?_
      ·simp only [go_sem, s2];refine b01 (c15 p.Machine 0 11) ?_;simp only [go_sem, s2];refine b0k (fun hg13 => ?_) (fun hg13 => ?_)
       ·simp only [go_sem, s2, hg13];refine b01 (c15 p.Still 1 20) ?_;simp only [go_sem, s2, hg13];exact hK _ _ (by first | (simp only [go_sem, hg13, lA9, mA9]; done) | rfl)
       ·simp only [go_sem, s2, hg13];exact hK _ _ (by first | (simp only [go_sem, hg13, lA9, mA9]; done) | rfl)
      ·rintro t h s4;simp only [b0x, b1p, b2e, b0y];obtain rfl := hm0;exact b04 (by simp only [go_sem, s4, lA9, mA9]) (b0e _)
     ·rw [b0q hc12] at hm0;apply b0b;intro K hK;simp only [go_sem, s39];apply hK;simp only [go_sem];refine b0k (fun hc14 => ?_) (fun hc14 => ?_)
      ·rw [b0r hc14] at hm0;refine b2p (fun t h => t 4 = B ((b53 p.Machine 0 11) && (decide (p.Still = 0)))) (fun K hK => ?_) ?_
       ·simp only [go_sem, s2];refine b01 (c15 p.Machine 0 11) ?_;simp only [go_sem, s2];refine b0k (fun hg15 => ?_) (fun hg15 => ?_)
        ·simp only [go_sem, s2, hg15];exact hK _ _ (by first | (simp only [go_sem, hg15, lA9, mA9]; done) | rfl)
        ·simp only [go_sem, s2, hg15];exact hK _ _ (by first | (simp only [go_sem, hg15, lA9, mA9]; done) | rfl)
       ·rintro t h s4;simp only [b0x, b1p, b2e, b0y];obtain rfl := hm0;exact b04 (by simp only [go_sem, s4, lA9, mA9]) (b0e _)
      ·rw [b0q hc14] at hm0;simp only [b0s, b02, b0f];refine hK7 _ _ ?_;apply b0b;intro K hK;simp only [go_sem];apply hK;simp only [b0x, b1p, b2e, b0y];obtain rfl := hm0;exact b04 vc9 (b0e _)
   simp only [go_sem];refine b0k (fun hc16 => ?_) (fun hc16 => ?_)
   ·rw [b0r hc16] at hm0;simp only [b0s, b02, b0f];exact J9 (decide (p.Kind = 1)) _ _ s2 va9 va9 hm0
   ·rw [b0q hc16] at hm0;apply b0b;intro K hK;simp only [go_sem];apply hK;simp only [go_sem];refine b0k (fun hc17 => ?_) (fun hc17 => ?_)
    ·rw [b0r hc17] at hm0;simp only [b0s, b02, b0f];exact J9 (decide (p.Kind = 2)) _ _ s2 va9 va9 hm0
    ·rw [b0q hc17] at hm0;apply b03;intro K hK;simp only [go_sem];apply hK;simp only [b02, b0f];exact J9 (decide (p.Kind = 5)) _ _ s2 va9 va9 hm0
theorem C0l (hf : Has O "newel/ways.place" x_ways_place) (c15 : B8j O) : B97 O := by
 intro s l r hm0;unfold B9o at hm0;refine b1i hf rfl (b0a (.agg _ (b0a (b0e _) (b0a (b0c fun a _ => c82 a) (b0a (b0c fun a _ => b1t a) b0j)))) (b0a (b0c fun a _ => b1t a) b0j)) (b0e _) ?_;refine b1c (fun t h => t 0 = .agg [I s.Places, .fs 7 (List.map z9o s.Passages), .fs 1 (List.map eI s.Exits)] /\ t 1 = .fs 1 (List.map eI l)) ⟨rfl, rfl⟩ fun t h ⟨s0, s1⟩ => ?_;simp only [x_ways_place];apply b0b;intro K hK;simp only [go_sem, s0];apply hK;refine b0v ?_;apply b0b;intro K hK;simp only [go_sem, s1];apply hK;refine b0i fun K1 hK1 => ?_
 have J2 : ∀ (t : Slots) (h : Heap), C0w = some r -> K1 t h := by
  intro t h hm0;refine hK1 _ _ ?_;unfold C0w at hm0;apply b0b;intro K hK;simp only [go_sem];apply hK;simp only [b0x, b1p, b2e, b0y];obtain rfl := sI9 hm0;exact b04 vc9 (b0e _)
 simp only [b0u];obtain ⟨b3, hl3, hm0⟩ := b0g hm0;refine b1j hl3 (fun | x_9, t, h => t 2 = .fp [I s.Places, .fs 7 (List.map z9o s.Passages), .fs 1 (List.map eI s.Exits)] 0 /\ t 7 = .fs 1 (List.map eI l) /\ t 8 = I (List.length l : Int) /\ t 9 = I x_9) ?_ ?_
 ·exact ⟨va9, va9, va9, va9⟩
 ·rintro x_9 o t h ⟨s2, s7, s8, s9⟩ hm1 hb3;simp only [B9p] at hm1;rw [C1i];apply b0b;intro K hK;simp only [go_sem, s8, s9];apply hK;refine b0i fun K4 hK4 => ?_;simp only [go_sem];refine b0k (fun hc5 => ?_) (fun hc5 => ?_)
  ·rw [b0r hc5] at hm1;simp only [b0s, b02, b0f];refine hK4 _ _ ?_;refine b0i fun K6 hK6 => ?_;simp only [b0u];obtain ⟨x8, h_x8, hm1⟩ := b0g hm1;have h_x80 := b05 h_x8;have h_x81 := b06 h_x8;apply b0b;intro K hK;simp only [go_sem, s7, s9, b08 h_x8, b3n h_x8, h_x80, h_x81];apply hK;apply b0b;intro K hK;simp only [go_sem, s2];refine b01 (c15 x8 0 (wr (s.Places - 1))) ?_;simp only [go_sem, s2];apply hK;simp only [go_sem];refine b0k (fun hc9 => ?_) (fun hc9 => ?_)
   ·rw [b0r hc9] at hm1;apply b0b;intro K hK;simp only [go_sem];apply hK;simp only [b0x, b1p, b2e, b0y];obtain rfl := sI9 hm1;obtain rfl := hb3 _ rfl
    try dsimp only at hm0
    obtain rfl := sI9 hm0;exact b04 vc9 (b0e _)
   ·rw [b0q hc9] at hm1;simp only [b0s, b02, b0f];refine hK6 _ _ ?_;apply b03;intro K hK;simp only [go_sem, s9];apply hK;simp only [b02, b0f];obtain rfl := sI9 hm1;refine ⟨_, rfl, ?_⟩;exact ⟨s2, s7, s8, (by first | (simp only [go_sem, s9, lA9, mA9]; done) | rfl)⟩
  ·rw [b0q hc5] at hm1;simp only [b09, b1b, b1a, c0s, b02, b0f, Nat.reduceEqDiff, nF9];obtain rfl := sI9 hm1;obtain rfl := hb3 _ rfl
   try dsimp only at hm0
   exact J2  _ _  hm0
theorem c15 (hf : Has O "newel/ways.within" x_ways_within) : B8j O := by
 intro n low high;generalize hm0 : b53 n low high = r;unfold b53 at hm0;refine b1i hf rfl (b0a (b0e _) (b0a (b0e _) (b0a (b0e _) b0j))) (b0e _) ?_;refine b1c (fun t h => t 0 = I n /\ t 1 = I low /\ t 2 = I high) ⟨rfl, rfl, rfl⟩ fun t h ⟨s0, s1, s2⟩ => ?_;simp only [x_ways_within];apply b0b;intro K hK;simp only [go_sem];apply hK;refine b2p (fun t h => t 6 = B ((decide (low <= n)) && (decide (n <= high)))) (fun K hK => ?_) ?_
 ·simp only [go_sem, s0, s1, s2];refine b0k (fun hg1 => ?_) (fun hg1 => ?_)
  ·simp only [go_sem, s0, s1, s2, hg1];exact hK _ _ (by first | (simp only [go_sem, hg1, lA9, mA9]; done) | rfl)
  ·simp only [go_sem, s0, s1, s2, hg1];exact hK _ _ (by first | (simp only [go_sem, hg1, lA9, mA9]; done) | rfl)
 ·rintro t h s6;simp only [b0x, b1p, b2e, b0y];obtain rfl := hm0;exact b04 (by simp only [go_sem, s6, lA9, mA9]) (b0e _)
end Go.Nw.XM
