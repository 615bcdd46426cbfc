/- That the texts make what their models say: printed by a program. -/
import Derived.Test.YtccjacnppmciaaaGreatDoorAM
set_option linter.all false
namespace Go.Nw.AM
open Go.Nw.Acc
set_option maxHeartbeats 4000000
variable {O : Orac} [MapsOk O]
theorem u3l (hf : Has O "newel/faults.search$1" x_faults_searchD1) : s98 O := by
 intro p0_;generalize hm0 : u29 p0_ = r;unfold u29 at hm0;refine b1i hf rfl (b0a (b0e _) b0j) (b0e _) ?_;refine b1c (fun t h => t 0 = I p0_) rfl fun t h s0 => ?_;simp only [x_faults_searchD1];apply b0b;intro K hK;simp only [go_sem];apply hK;apply b0b;intro K hK;simp only [go_sem];apply hK;simp only [b0x, b0y];obtain rfl := hm0;exact b04 vb9 (b0e _)
theorem u3m (hf : Has O "newel/faults.search$2" x_faults_searchD2) : y71 O := by
 intro p0_ p1_ p2_;generalize hm0 : u3a p0_ p1_ p2_ = r;unfold u3a at hm0;refine b1i hf rfl (b0a (b0e _) (b0a (.agg _ (b0a (b0e _) (b0a (b0e _) (b0a (b0e _) b0j)))) (b0a (b0e _) b0j))) (b0e _) ?_;refine b1c (fun t h => t 0 = I p0_ /\ t 1 = .agg [I p1_.State, I p1_.Values.1, I p1_.Values.2] /\ t 2 = I p2_) ⟨rfl, rfl, rfl⟩ fun t h ⟨s0, s1, s2⟩ => ?_;simp only [x_faults_searchD2];apply b0b;intro K hK;simp only [go_sem, s1];apply hK;apply b0b;intro K hK;simp only [go_sem];apply hK;simp only [b0x, b0y];obtain rfl := hm0;exact b04 vb9 (b0e _)
theorem u3f (hf : Has O "(*newel/faults.inquiry).heard" x___faults_inquiry__heard) : u1g O := by
 intro q i_0 d1 d2 tick input keep_n keep_a keep_b keep keep_z keep_h fits_n fits_a fits_b fits fits_z fits_h h0 ob_p0 lt_p0 r hm0;unfold s9e at hm0;refine d8g hf rfl ?_;refine b1c (fun t h => t 0 = .rp i_0 0 0 /\ t 1 = I tick /\ t 2 = I input /\ h.ob i_0 = some (20, [(vQ q (.fn keep_n keep_a keep_b) (.fn fits_n fits_a fits_b) d1 d2)]) /\ i_0 < h.nx /\ (∀ j, j < h0.nx -> h.ob j = h0.ob j) /\ h0.nx <= h.nx) ⟨rfl, rfl, rfl, ob_p0, lt_p0, fun _ _ => rfl, Nat.le_refl _⟩ fun t h ⟨s0, s1, s2, ob_p0, lt_p0, fr, fx⟩ => ?_;simp only [x___faults_inquiry__heard];apply b0b;intro K hK;simp only [go_sem];apply hK;refine b0v ?_;refine b2p (fun t h => t 0 = .rp i_0 0 0 /\ t 2 = I input /\ t 21 = B ((decide (q.theory.Input < 0)) || (decide (tick < q.theory.From))) /\ h.ob i_0 = some (20, [(vQ q (.fn keep_n keep_a keep_b) (.fn fits_n fits_a fits_b) d1 d2)]) /\ i_0 < h.nx /\ (∀ j, j < h0.nx -> h.ob j = h0.ob j) /\ h0.nx <= h.nx) (fun K hK => ?_) ?_
 ·simp only [go_sem, s0, ob_p0];refine b0k (fun hg1 => ?_) (fun hg1 => ?_)
  ·simp only [go_sem, hg1];exact hK _ _ ⟨s0, s2, (by first | (simp only [go_sem, hg1]; done) | rfl), ob_p0, lt_p0, fr, fx⟩
  ·simp only [go_sem, s0, s1, ob_p0, hg1];exact hK _ _ ⟨s0, s2, (by first | (simp only [go_sem, hg1]; done) | rfl), ob_p0, lt_p0, fr, fx⟩
 ·rintro t h ⟨s0, s2, s21, Q4, Q3, fr, fx⟩;refine b0i fun K2 hK2 => ?_;simp only [go_sem, s21];refine b0k (fun hc3 => ?_) (fun hc3 => ?_)
  ·rw [b0r hc3] at hm0;apply b0b;intro K hK;simp only [go_sem, s2];apply hK;simp only [b0x, b1p];obtain rfl := sI9 hm0;exact y38 (Post := fun v h => v = I input /\ (∀ j, j < h0.nx -> h.ob j = h0.ob j) /\ h0.nx <= h.nx) (v := I input) vb9 ⟨rfl, fr, fx⟩
  ·rw [b0q hc3] at hm0;simp only [b0s, b0f];refine hK2 _ _ ?_;obtain ⟨q6, h_q6, hm0⟩ := b0g hm0;obtain ⟨q7, h_q7, hm0⟩ := b0g hm0;apply b0b;intro K hK;simp only [go_sem, s0, s2, Q4, c23 h_q6, c23 h_q7];apply hK;simp only [b0x];obtain rfl := sI9 hm0;exact y38 (Post := fun v h => v = I (bor (g6a input q6) q7) /\ (∀ j, j < h0.nx -> h.ob j = h0.ob j) /\ h0.nx <= h.nx) (v := I (bor (g6a input q6) q7)) vb9 ⟨rfl, fr, fx⟩
theorem u3g (hf : Has O "(*newel/faults.inquiry).seen" x___faults_inquiry__seen) (b52 : b89 O) : u1h O := by
 intro q i_0 d1 d2 m input keep_n keep_a keep_b keep keep_z keep_h fits_n fits_a fits_b fits fits_z fits_h h0 ob_p0 lt_p0 r hm0;unfold s9f at hm0;refine d8g hf rfl ?_;refine b1c (fun t h => t 0 = .rp i_0 0 0 /\ t 1 = .agg [I m.tick, I m.place.State, I m.place.Values.1, I m.place.Values.2, I m.done] /\ t 2 = I input /\ h.ob i_0 = some (20, [(vQ q (.fn keep_n keep_a keep_b) (.fn fits_n fits_a fits_b) d1 d2)]) /\ i_0 < h.nx /\ (∀ j, j < h0.nx -> h.ob j = h0.ob j) /\ h0.nx <= h.nx) ⟨rfl, rfl, rfl, ob_p0, lt_p0, fun _ _ => rfl, Nat.le_refl _⟩ fun t h ⟨s0, s1, s2, ob_p0, lt_p0, fr, fx⟩ => ?_;simp only [x___faults_inquiry__seen];apply b0b;intro K hK;simp only [go_sem, s1];apply hK;apply b0b;intro K hK;simp only [go_sem];apply hK;refine b0v ?_;apply b0b;intro K hK;simp only [go_sem, s0, ob_p0];apply hK;refine b0i fun K1 hK1 => ?_
 have J2 : ∀ (done_8 : Int) (t : Slots) (h : Heap), t 8 = I done_8 -> (∀ j, j < h0.nx -> h.ob j = h0.ob j) -> h0.nx <= h.nx -> u2v done_8 = some r -> K1 t h := by
  intro done_8 t h s8 fr fx hm0;refine hK1 _ _ ?_;unfold u2v at hm0;apply b0b;intro K hK;simp only [go_sem, s8];apply hK;simp only [b0x];obtain rfl := sI9 hm0;exact u39 (Post := fun v h => v = .tup [I ((done_8, true).1), B ((done_8, true).2)] /\ (∀ j, j < h0.nx -> h.ob j = h0.ob j) /\ h0.nx <= h.nx) (v := I done_8) (u := B true) vb9 vb9 ⟨rfl, fr, fx⟩
 simp only [b0u];obtain ⟨b3, hl3, hm0⟩ := b0g hm0;refine b1j hl3 (fun | (done_8, x_20), t, h => t 0 = .rp i_0 0 0 /\ t 2 = I input /\ t 4 = .fp [I m.tick, I m.place.State, I m.place.Values.1, I m.place.Values.2, I m.done] 0 /\ t 8 = I done_8 /\ t 18 = .fs 4 (List.map b26 q.Accident.Records) /\ t 19 = I (List.length q.Accident.Records : Int) /\ t 20 = I x_20 /\ h.ob i_0 = some (20, [(vQ q (.fn keep_n keep_a keep_b) (.fn fits_n fits_a fits_b) d1 d2)]) /\ i_0 < h.nx /\ (∀ j, j < h0.nx -> h.ob j = h0.ob j) /\ h0.nx <= h.nx) ?_ ?_
 ·exact ⟨s0, s2, va9, va9, va9, va9, va9, ob_p0, lt_p0, fr, fx⟩
 ·rintro ⟨done_8, x_20⟩ o t h ⟨s0, s2, s4, s8, s18, s19, s20, Q4, Q3, fr, fx⟩ hm1 hb3;simp only [u0d] at hm1;rw [u5p];apply b0b;intro K hK;simp only [go_sem, s19, s20];apply hK;refine b0i fun K4 hK4 => ?_;simp only [go_sem];refine b0k (fun hc5 => ?_) (fun hc5 => ?_)
  ·rw [b0r hc5] at hm1;simp only [b0s, b0f];refine hK4 _ _ ?_;refine b0i fun K6 hK6 => ?_
   have J7 : ∀ (done_8_1 : Int) (t : Slots) (h : Heap), t 0 = .rp i_0 0 0 -> t 2 = I input -> t 4 = .fp [I m.tick, I m.place.State, I m.place.Values.1, I m.place.Values.2, I m.done] 0 -> t 8 = I done_8_1 -> t 18 = .fs 4 (List.map b26 q.Accident.Records) -> t 19 = I (List.length q.Accident.Records : Int) -> t 20 = I x_20 -> h.ob i_0 = some (20, [(vQ q (.fn keep_n keep_a keep_b) (.fn fits_n fits_a fits_b) d1 d2)]) -> i_0 < h.nx -> (∀ j, j < h0.nx -> h.ob j = h0.ob j) -> h0.nx <= h.nx -> s82 x_20 done_8_1 = some o -> K6 t h := by
    try clear s0 s2 s4 s8 s18 s19 s20 Q4 Q3 fr fx
    intro done_8_1 t h s0 s2 s4 s8 s18 s19 s20 Q4 Q3 fr fx hm1;refine hK6 _ _ ?_;unfold s82 at hm1;apply b03;intro K hK;simp only [go_sem, s20];apply hK;simp only [b0f];obtain rfl := sI9 hm1;refine ⟨_, rfl, ?_⟩;exact ⟨s0, s2, s4, s8, s18, s19, va9, Q4, Q3, fr, fx⟩
   simp only [b0u];obtain ⟨x9, h_x9, hm1⟩ := b0g hm1;have h_x90 := b05 h_x9;have h_x91 := b06 h_x9;apply b0b;intro K hK;simp only [go_sem, s18, s20, b08 h_x9, h_x91];apply hK;refine b0v ?_;obtain ⟨y11, h_y11, hm1⟩ := b0g hm1;refine b2p (fun t h => ∃ i10 : Nat, t 0 = .rp i_0 0 0 /\ t 2 = I input /\ t 4 = .fp [I m.tick, I m.place.State, I m.place.Values.1, I m.place.Values.2, I m.done] 0 /\ t 8 = I done_8 /\ t 9 = I x_20 /\ t 10 = .rp i10 0 0 /\ t 18 = .fs 4 (List.map b26 q.Accident.Records) /\ t 19 = I (List.length q.Accident.Records : Int) /\ t 20 = I x_20 /\ t 45 = B (((!y11) || (decide (m.tick < x9.From))) || (decide (x9.To < m.tick))) /\ h.ob i_0 = some (20, [(vQ q (.fn keep_n keep_a keep_b) (.fn fits_n fits_a fits_b) d1 d2)]) /\ i_0 < h.nx /\ h.ob i10 = some (4, [[I x9.From, I x9.To, B x9.All, .fs 1 (List.map b0t x9.Cond)]]) /\ i10 < h.nx /\ ¬i_0 = i10 /\ (∀ j, j < h0.nx -> h.ob j = h0.ob j) /\ h0.nx <= h.nx /\ h0.nx <= i10) (fun K hK => ?_) ?_
   ·simp only [go_sem, s0, Q4, Q3];refine o5t (keep_h x_20 _ h_y11) ?_;simp only [go_sem];refine b0k (fun hg12 => ?_) (fun hg12 => ?_)
    ·simp only [go_sem, hg12];exact hK _ _ ⟨h.nx, s0, s2, s4, s8, va9, va9, s18, s19, s20, (by first | (simp only [go_sem, hg12]; done) | rfl), (by simp only [go_sem, Q4, Q3]), (by simp only [go_sem, Q3]), vb9, vb9, ve9, (by intro j hj; first | exact fr j hj | (refine Eq.trans ?_ (fr j hj); first | rfl | simp only [go_sem, Nat.lt_of_lt_of_le hj fx])), (by first | exact fx | omega | (simp only [go_sem, nxs] <;> omega)), vg9⟩
    ·simp only [go_sem, s4, hg12];refine b0k (fun hg13 => ?_) (fun hg13 => ?_)
     ·simp only [go_sem, hg12, hg13];exact hK _ _ ⟨h.nx, s0, s2, s4, s8, va9, va9, s18, s19, s20, (by first | (simp only [go_sem, hg12, hg13]; done) | rfl), (by simp only [go_sem, Q4, Q3]), (by simp only [go_sem, Q3]), vb9, vb9, ve9, (by intro j hj; first | exact fr j hj | (refine Eq.trans ?_ (fr j hj); first | rfl | simp only [go_sem, Nat.lt_of_lt_of_le hj fx])), (by first | exact fx | omega | (simp only [go_sem, nxs] <;> omega)), vg9⟩
     ·simp only [go_sem, s4, hg12, hg13];exact hK _ _ ⟨h.nx, s0, s2, s4, s8, va9, va9, s18, s19, s20, (by first | (simp only [go_sem, hg12, hg13]; done) | rfl), (by simp only [go_sem, Q4, Q3]), (by simp only [go_sem, Q3]), vb9, vb9, ve9, (by intro j hj; first | exact fr j hj | (refine Eq.trans ?_ (fr j hj); first | rfl | simp only [go_sem, Nat.lt_of_lt_of_le hj fx])), (by first | exact fx | omega | (simp only [go_sem, nxs] <;> omega)), vg9⟩
   ·try clear s0 s2 s4 s8 s18 s19 s20 Q4 Q3 fr fx
    rintro t h ⟨i10, s0, s2, s4, s8, s9, s10, s18, s19, s20, s45, Q4, Q3, Qa, Qd, Qe, fr, fx, Qf⟩;refine b0i fun K14 hK14 => ?_;simp only [go_sem, s45];refine b0k (fun hc15 => ?_) (fun hc15 => ?_)
    ·rw [b0r hc15] at hm1;simp only [b09, b1b, b1a, b0f];exact J7 done_8 _ _ s0 s2 s4 s8 s18 s19 s20 Q4 Q3 fr fx hm1
    ·rw [b0q hc15] at hm1;simp only [b0s, b0f];refine hK14 _ _ ?_;obtain ⟨y17, h_y17, hm1⟩ := b0g hm1;apply b0b;intro K hK;simp only [go_sem, s0, s2, s4, s10, Q4, Qa];refine b01 (b52 q.plant x9.Cond (Place.mk m.place.State (m.place.Values.1, m.place.Values.2)) input _ h_y17) ?_;simp only [go_sem];apply hK;refine b0i fun K18 hK18 => ?_
     have J19 : ∀ (done_8_1 : Int) (t : Slots) (h : Heap), t 0 = .rp i_0 0 0 -> t 2 = I input -> t 4 = .fp [I m.tick, I m.place.State, I m.place.Values.1, I m.place.Values.2, I m.done] 0 -> t 8 = I done_8_1 -> t 9 = I x_20 -> t 10 = .rp i10 0 0 -> t 18 = .fs 4 (List.map b26 q.Accident.Records) -> t 19 = I (List.length q.Accident.Records : Int) -> t 20 = I x_20 -> h.ob i_0 = some (20, [(vQ q (.fn keep_n keep_a keep_b) (.fn fits_n fits_a fits_b) d1 d2)]) -> i_0 < h.nx -> h.ob i10 = some (4, [[I x9.From, I x9.To, B x9.All, .fs 1 (List.map b0t x9.Cond)]]) -> i10 < h.nx -> ¬i_0 = i10 -> (∀ j, j < h0.nx -> h.ob j = h0.ob j) -> h0.nx <= h.nx -> h0.nx <= i10 -> s81 m x_20 x9 done_8_1 = some o -> K18 t h := by
      try clear s0 s2 s4 s8 s9 s10 s18 s19 s20 s45 Q4 Q3 Qa Qd Qe fr fx Qf
      intro done_8_1 t h s0 s2 s4 s8 s9 s10 s18 s19 s20 Q4 Q3 Qa Qd Qe fr fx Qf hm1;refine hK18 _ _ ?_;unfold s81 at hm1;apply b0b;intro K hK;simp only [go_sem, s4, s10, Qa];apply hK;simp only [go_sem];refine b0k (fun hc20 => ?_) (fun hc20 => ?_)
      ·rw [b0r hc20] at hm1;obtain ⟨q22, h_q22, hm1⟩ := b0g hm1;apply b03;intro K hK;simp only [go_sem, s8, s9, c23 h_q22];apply hK;simp only [b02, b0f];exact J7 (g6a done_8_1 q22) _ _ s0 s2 s4 va9 s18 s19 s20 Q4 Q3 fr fx hm1
      ·rw [b0q hc20] at hm1;simp only [b0s, b02, b0f];exact J7 done_8_1 _ _ s0 s2 s4 s8 s18 s19 s20 Q4 Q3 fr fx hm1
     simp only [b0u];refine b2p (fun t h => t 0 = .rp i_0 0 0 /\ t 2 = I input /\ t 4 = .fp [I m.tick, I m.place.State, I m.place.Values.1, I m.place.Values.2, I m.done] 0 /\ t 8 = I done_8 /\ t 9 = I x_20 /\ t 10 = .rp i10 0 0 /\ t 11 = B y17 /\ t 18 = .fs 4 (List.map b26 q.Accident.Records) /\ t 19 = I (List.length q.Accident.Records : Int) /\ t 20 = I x_20 /\ t 56 = B (x9.All && (!y17)) /\ h.ob i_0 = some (20, [(vQ q (.fn keep_n keep_a keep_b) (.fn fits_n fits_a fits_b) d1 d2)]) /\ i_0 < h.nx /\ h.ob i10 = some (4, [[I x9.From, I x9.To, B x9.All, .fs 1 (List.map b0t x9.Cond)]]) /\ i10 < h.nx /\ ¬i_0 = i10 /\ (∀ j, j < h0.nx -> h.ob j = h0.ob j) /\ h0.nx <= h.nx /\ h0.nx <= i10) (fun K hK => ?_) ?_
     ·simp only [go_sem, s10, Qa];refine b0k (fun hg23 => ?_) (fun hg23 => ?_)
      ·simp only [go_sem, hg23];exact hK _ _ ⟨s0, s2, s4, s8, s9, s10, va9, s18, s19, s20, (by first | (simp only [go_sem, hg23]; done) | rfl), Q4, Q3, Qa, Qd, Qe, fr, fx, Qf⟩
      ·simp only [go_sem, hg23];exact hK _ _ ⟨s0, s2, s4, s8, s9, s10, va9, s18, s19, s20, (by first | (simp only [go_sem, hg23]; done) | rfl), Q4, Q3, Qa, Qd, Qe, fr, fx, Qf⟩
     ·try clear s0 s2 s4 s8 s9 s10 s18 s19 s20 s45 Q4 Q3 Qa Qd Qe fr fx Qf
      rintro t h ⟨s0, s2, s4, s8, s9, s10, s11, s18, s19, s20, s56, Q4, Q3, Qa, Qd, Qe, fr, fx, Qf⟩;simp only [go_sem, s56];refine b0k (fun hc24 => ?_) (fun hc24 => ?_)
      ·rw [b0r hc24] at hm1;apply b0b;intro K hK;simp only [go_sem];apply hK;simp only [b0x, b1p, b2e];obtain rfl := sI9 hm1;obtain rfl := hb3 _ rfl
       try dsimp only at hm0
       obtain rfl := sI9 hm0;exact u39 (Post := fun v h => v = .tup [I ((0, false).1), B ((0, false).2)] /\ (∀ j, j < h0.nx -> h.ob j = h0.ob j) /\ h0.nx <= h.nx) (v := I 0) (u := B false) vb9 vb9 ⟨rfl, fr, fx⟩
      ·rw [b0q hc24] at hm1;apply b0b;intro K hK;simp only [go_sem, s10, Qa];apply hK;simp only [go_sem];refine b0k (fun hc25 => ?_) (fun hc25 => ?_)
       ·rw [b0r hc25] at hm1;simp only [b0s, b02, b0f];exact J19 done_8 _ _ s0 s2 s4 s8 s9 s10 s18 s19 s20 Q4 Q3 Qa Qd Qe fr fx Qf hm1
       ·rw [b0q hc25] at hm1;refine b2p (fun t h => t 0 = .rp i_0 0 0 /\ t 2 = I input /\ t 4 = .fp [I m.tick, I m.place.State, I m.place.Values.1, I m.place.Values.2, I m.done] 0 /\ t 8 = I done_8 /\ t 9 = I x_20 /\ t 10 = .rp i10 0 0 /\ t 11 = B y17 /\ t 18 = .fs 4 (List.map b26 q.Accident.Records) /\ t 19 = I (List.length q.Accident.Records : Int) /\ t 20 = I x_20 /\ t 66 = B (y17 && (decide (m.tick < x9.To))) /\ h.ob i_0 = some (20, [(vQ q (.fn keep_n keep_a keep_b) (.fn fits_n fits_a fits_b) d1 d2)]) /\ i_0 < h.nx /\ h.ob i10 = some (4, [[I x9.From, I x9.To, B x9.All, .fs 1 (List.map b0t x9.Cond)]]) /\ i10 < h.nx /\ ¬i_0 = i10 /\ (∀ j, j < h0.nx -> h.ob j = h0.ob j) /\ h0.nx <= h.nx /\ h0.nx <= i10) (fun K hK => ?_) ?_
        ·simp only [go_sem, s11];refine b0k (fun hg26 => ?_) (fun hg26 => ?_)
         ·simp only [go_sem, s4, s10, Qa, hg26];exact hK _ _ ⟨s0, s2, s4, s8, s9, s10, s11, s18, s19, s20, (by first | (simp only [go_sem, hg26]; done) | rfl), Q4, Q3, Qa, Qd, Qe, fr, fx, Qf⟩
         ·simp only [go_sem, hg26];exact hK _ _ ⟨s0, s2, s4, s8, s9, s10, s11, s18, s19, s20, (by first | (simp only [go_sem, hg26]; done) | rfl), Q4, Q3, Qa, Qd, Qe, fr, fx, Qf⟩
        ·try clear s0 s2 s4 s8 s9 s10 s11 s18 s19 s20 s56 Q4 Q3 Qa Qd Qe fr fx Qf
         rintro t h ⟨s0, s2, s4, s8, s9, s10, s11, s18, s19, s20, s66, Q4, Q3, Qa, Qd, Qe, fr, fx, Qf⟩;simp only [go_sem, s66];refine b0k (fun hc27 => ?_) (fun hc27 => ?_)
         ·rw [b0r hc27] at hm1;obtain ⟨q29, h_q29, hm1⟩ := b0g hm1;apply b03;intro K hK;simp only [go_sem, s8, s9, c23 h_q29];apply hK;simp only [b02, b0f];exact J19 (bor done_8 q29) _ _ s0 s2 s4 va9 s9 s10 s18 s19 s20 Q4 Q3 Qa Qd Qe fr fx Qf hm1
         ·rw [b0q hc27] at hm1;obtain ⟨c33, h_c33, hm1⟩ := b0g hm1;refine b2p (fun t h => t 0 = .rp i_0 0 0 /\ t 2 = I input /\ t 4 = .fp [I m.tick, I m.place.State, I m.place.Values.1, I m.place.Values.2, I m.done] 0 /\ t 8 = I done_8 /\ t 9 = I x_20 /\ t 10 = .rp i10 0 0 /\ t 18 = .fs 4 (List.map b26 q.Accident.Records) /\ t 19 = I (List.length q.Accident.Records : Int) /\ t 20 = I x_20 /\ t 79 = B c33 /\ h.ob i_0 = some (20, [(vQ q (.fn keep_n keep_a keep_b) (.fn fits_n fits_a fits_b) d1 d2)]) /\ i_0 < h.nx /\ h.ob i10 = some (4, [[I x9.From, I x9.To, B x9.All, .fs 1 (List.map b0t x9.Cond)]]) /\ i10 < h.nx /\ ¬i_0 = i10 /\ (∀ j, j < h0.nx -> h.ob j = h0.ob j) /\ h0.nx <= h.nx /\ h0.nx <= i10) (fun K hK => ?_) ?_
          ·simp only [go_sem, s11];refine b0k (fun hg34 => ?_) (fun hg34 => ?_)
           ·simp only [go_sem, s4, s10, Qa, hg34];refine b0k (fun hg35 => ?_) (fun hg35 => ?_)
            ·simp only [hg34, hg35, eq_self, if_true, Bool.and_true] at h_c33;obtain ⟨q32, h_q32, h_c33⟩ := b0g h_c33;obtain rfl := sI9 h_c33;simp only [go_sem, s8, s9, c7d h_q32, hg34, hg35];exact hK _ _ ⟨s0, s2, s4, s8, s9, s10, s18, s19, s20, va9, Q4, Q3, Qa, Qd, Qe, fr, fx, Qf⟩
            ·simp only [hg34, hg35, if_false, Bool.and_false, fT9] at h_c33;obtain rfl := sI9 h_c33;simp only [go_sem, hg34, hg35];exact hK _ _ ⟨s0, s2, s4, s8, s9, s10, s18, s19, s20, va9, Q4, Q3, Qa, Qd, Qe, fr, fx, Qf⟩
           ·simp only [hg34, if_false, Bool.false_and, fT9] at h_c33;obtain rfl := sI9 h_c33;simp only [go_sem, hg34];exact hK _ _ ⟨s0, s2, s4, s8, s9, s10, s18, s19, s20, va9, Q4, Q3, Qa, Qd, Qe, fr, fx, Qf⟩
          ·try clear s0 s2 s4 s8 s9 s10 s11 s18 s19 s20 s66 Q4 Q3 Qa Qd Qe fr fx Qf
           rintro t h ⟨s0, s2, s4, s8, s9, s10, s18, s19, s20, s79, Q4, Q3, Qa, Qd, Qe, fr, fx, Qf⟩;simp only [go_sem, s79];refine b0k (fun hc36 => ?_) (fun hc36 => ?_)
           ·rw [b0r hc36] at hm1;apply b0b;intro K hK;simp only [go_sem];apply hK;simp only [b0x, b1p, b2e];obtain rfl := sI9 hm1;obtain rfl := hb3 _ rfl
            try dsimp only at hm0
            obtain rfl := sI9 hm0;exact u39 (Post := fun v h => v = .tup [I ((0, false).1), B ((0, false).2)] /\ (∀ j, j < h0.nx -> h.ob j = h0.ob j) /\ h0.nx <= h.nx) (v := I 0) (u := B false) vb9 vb9 ⟨rfl, fr, fx⟩
           ·rw [b0q hc36] at hm1;simp only [b0s, b02, b0f];exact J19 done_8 _ _ s0 s2 s4 s8 s9 s10 s18 s19 s20 Q4 Q3 Qa Qd Qe fr fx Qf hm1
  ·rw [b0q hc5] at hm1;simp only [b09, b1b, b1a, b0f];obtain rfl := sI9 hm1;obtain rfl := hb3 _ rfl
   try dsimp only at hm0
   exact J2 done_8 _ _ s8 fr fx hm0
theorem d2w (hf : Has O "(newel/situation.Plant).All" x__situation_Plant__All) : c9y O := by
 intro m r hm0;unfold c1y at hm0;refine b1i hf rfl (b0a (fM _) b0j) (b0e _) ?_;refine b1c (fun t h => t 0 = .agg (vM m.Machine)) rfl fun t h s0 => ?_;simp only [x__situation_Plant__All];apply b0b;intro K hK;simp only [go_sem, s0];apply hK;obtain ⟨q2, h_q2, hm0⟩ := b0g hm0;apply b0b;intro K hK;simp only [go_sem, c23 h_q2];apply hK;simp only [b0x, b0y];obtain rfl := sI9 hm0;exact b04 vb9 (b0e _)
theorem d2x (hf : Has O "(newel/situation.Plant).Allowed" x__situation_Plant__Allowed) (b52 : b89 O) : c9z O := by
 intro m assume p input r hm0;unfold c1z at hm0;refine b1i hf rfl (b0a (fM _) (b0a (b0c fun a _ => b2j a) (b0a (.agg _ (b0a (b0e _) (b0a (b0e _) (b0a (b0e _) b0j)))) (b0a (b0e _) b0j)))) (b0e _) ?_;refine b1c (fun t h => t 0 = .agg (vM m.Machine) /\ t 1 = .fs 1 (List.map b0t assume) /\ t 2 = .agg [I p.State, I p.Values.1, I p.Values.2] /\ t 3 = I input) ⟨rfl, rfl, rfl, rfl⟩ fun t h ⟨s0, s1, s2, s3⟩ => ?_;simp only [x__situation_Plant__Allowed];apply b0b;intro K hK;simp only [go_sem, s0, s2];apply hK;obtain ⟨c4, h_c4, hm0⟩ := b0g hm0;refine b2p (fun t h => t 8 = B c4) (fun K hK => ?_) ?_
 ·simp only [go_sem, s1];refine b0k (fun hg5 => ?_) (fun hg5 => ?_)
  ·simp only [hg5, eq_self, if_true] at h_c4;obtain rfl := sI9 h_c4;simp only [go_sem, hg5];exact hK _ _ va9
  ·simp only [hg5, if_false, fT9] at h_c4;obtain ⟨y3, h_y3, h_c4⟩ := b0g h_c4;obtain rfl := sI9 h_c4;simp only [go_sem, s1, s3, hg5];refine b01 (b52 m assume p input _ h_y3) ?_;simp only [go_sem, hg5];exact hK _ _ va9
 ·rintro t h s8;simp only [b0x, b0y];obtain rfl := sI9 hm0;exact b04 (by simp only [go_sem, s8]) (b0e _)
theorem b52 (hf : Has O "(newel/situation.Plant).Holds" x__situation_Plant__Holds) (d3t : d0w O) (d2y : c90 O) : b89 O := by
 intro m c p input r hm0;unfold b6v at hm0;refine b1i hf rfl (b0a (fM _) (b0a (b0c fun a _ => b2j a) (b0a (.agg _ (b0a (b0e _) (b0a (b0e _) (b0a (b0e _) b0j)))) (b0a (b0e _) b0j)))) (b0e _) ?_;refine b1c (fun t h => t 0 = .agg (vM m.Machine) /\ t 1 = .fs 1 (List.map b0t c) /\ t 2 = .agg [I p.State, I p.Values.1, I p.Values.2] /\ t 3 = I input) ⟨rfl, rfl, rfl, rfl⟩ fun t h ⟨s0, s1, s2, s3⟩ => ?_;simp only [x__situation_Plant__Holds];apply b0b;intro K hK;simp only [go_sem, s0, s2, s3];apply hK;obtain ⟨y4, h_y4, hm0⟩ := b0g hm0;apply b0b;intro K hK;simp only [go_sem, s1];refine b01 (d3t c "(newel/situation.Plant).Holds$1" [] [.fp (vM m.Machine) 0, .fp [I p.State, I p.Values.1, I p.Values.2] 0, .fp [I input] 0] (fun z3 => b74 z3 m p input) (.fn _ _ _ b0j (b0a (.fp _ _ (b0a (b0c fun a _ => b0z a) (b0a (b0c fun a _ => b0z a) (b0a (b0c fun a _ => b1q a) (b0a (b0c fun a _ => b1s a) (b0a (b0c fun a _ => b1r a) b0j)))))) (b0a (.fp _ _ (b0a (b0e _) (b0a (b0e _) (b0a (b0e _) b0j)))) (b0a (.fp _ _ (b0a (b0e _) b0j)) b0j)))) (fun z0 y hz => d2y z0 m p input y hz) _ h_y4) ?_;simp only [go_sem]
 apply hK;simp only [b0x, b0y];obtain rfl := sI9 hm0;exact b04 vb9 (b0e _)
theorem d2y (hf : Has O "(newel/situation.Plant).Holds$1" x__situation_Plant__HoldsD1) (b8n : c1o O) (d2z : c91 O) : c90 O := by
 intro t_ c0 c1 c2 r hm0;unfold b74 at hm0;refine b1i hf rfl (b0a (b0c fun a _ => c2w a) (b0a (.fp _ _ (b0a (b0c fun a _ => b0z a) (b0a (b0c fun a _ => b0z a) (b0a (b0c fun a _ => b1q a) (b0a (b0c fun a _ => b1s a) (b0a (b0c fun a _ => b1r a) b0j)))))) (b0a (.fp _ _ (b0a (b0e _) (b0a (b0e _) (b0a (b0e _) b0j)))) (b0a (.fp _ _ (b0a (b0e _) b0j)) b0j)))) (b0e _) ?_;refine b1c (fun t h => t 0 = .fs 4 (List.map b3k t_) /\ t 1 = .fp (vM c0.Machine) 0 /\ t 2 = .fp [I c1.State, I c1.Values.1, I c1.Values.2] 0 /\ t 3 = .fp [I c2] 0) ⟨rfl, rfl, rfl, rfl⟩ fun t h ⟨s0, s1, s2, s3⟩ => ?_;simp only [x__situation_Plant__HoldsD1];apply b0b;intro K hK;simp only [go_sem];apply hK;obtain ⟨y4, h_y4, hm0⟩ := b0g hm0;apply b0b;intro K hK;simp only [go_sem, s0, s1, s2, s3];refine b01 (b8n t_ "(newel/situation.Plant).Holds$1$1" [] [.fp (vM c0.Machine) 0, .fp [I c1.State, I c1.Values.1, I c1.Values.2] 0, .fp [I c2] 0] (fun z3 => b76 z3 c0 c1 c2) (.fn _ _ _ b0j (b0a (.fp _ _ (b0a (b0c fun a _ => b0z a) (b0a (b0c fun a _ => b0z a) (b0a (b0c fun a _ => b1q a) (b0a (b0c fun a _ => b1s a) (b0a (b0c fun a _ => b1r a) b0j)))))) (b0a (.fp _ _ (b0a (b0e _) (b0a (b0e _) (b0a (b0e _) b0j)))) (b0a (.fp _ _ (b0a (b0e _) b0j)) b0j)))) (fun z0 y hz => d2z z0 c0 c1 c2 y hz) _ h_y4) ?_
 simp only [go_sem, s1, s2, s3];apply hK;simp only [b0x, b0y];obtain rfl := sI9 hm0;exact b04 vb9 (b0e _)
theorem d2z (hf : Has O "(newel/situation.Plant).Holds$1$1" x__situation_Plant__HoldsD1D1) (d21 : c93 O) : c91 O := by
 intro x c0 c1 c2 r hm0;unfold b76 at hm0;refine b1i hf rfl (b0a (.agg _ (b0a (b0e _) (b0a (b0e _) (b0a (b0e _) (b0a (b0e _) b0j))))) (b0a (.fp _ _ (b0a (b0c fun a _ => b0z a) (b0a (b0c fun a _ => b0z a) (b0a (b0c fun a _ => b1q a) (b0a (b0c fun a _ => b1s a) (b0a (b0c fun a _ => b1r a) b0j)))))) (b0a (.fp _ _ (b0a (b0e _) (b0a (b0e _) (b0a (b0e _) b0j)))) (b0a (.fp _ _ (b0a (b0e _) b0j)) b0j)))) (b0e _) ?_;refine b1c (fun t h => t 0 = .agg [I x.Kind, I x.Number, I x.Value, B x.Not] /\ t 1 = .fp (vM c0.Machine) 0 /\ t 2 = .fp [I c1.State, I c1.Values.1, I c1.Values.2] 0 /\ t 3 = .fp [I c2] 0) ⟨rfl, rfl, rfl, rfl⟩ fun t h ⟨s0, s1, s2, s3⟩ => ?_;simp only [x__situation_Plant__HoldsD1D1];apply b0b;intro K hK;simp only [go_sem, s0];apply hK;obtain ⟨y2, h_y2, hm0⟩ := b0g hm0;apply b0b;intro K hK;simp only [go_sem, s1, s2, s3];refine b01 (d21 c0 x c1 c2 _ h_y2) ?_;simp only [go_sem];apply hK;simp only [b0x, b0y];obtain rfl := sI9 hm0;exact b04 vb9 (b0e _)
theorem d20 (hf : Has O "(newel/situation.Plant).Step" x__situation_Plant__Step) (b52 : b89 O) (d22 : c94 O) : c92 O := by
 intro m p input r hm0;unfold r7y at hm0;refine b1i hf rfl (b0a (fM _) (b0a (.agg _ (b0a (b0e _) (b0a (b0e _) (b0a (b0e _) b0j)))) (b0a (b0e _) b0j))) (.agg _ (b0a (b0e _) (b0a (b0e _) (b0a (b0e _) b0j)))) ?_;refine b1c (fun t h => t 0 = .agg (vM m.Machine) /\ t 1 = .agg [I p.State, I p.Values.1, I p.Values.2] /\ t 2 = I input) ⟨rfl, rfl, rfl⟩ fun t h ⟨s0, s1, s2⟩ => ?_;simp only [x__situation_Plant__Step];apply b0b;intro K hK;simp only [go_sem, s0, s1];apply hK;refine b0v ?_;apply b0b;intro K hK;simp only [go_sem];apply hK;refine b0i fun K1 hK1 => ?_
 have J2 : ∀ (p_4_0 p_4_1 p_4_2 : Int) (i4 i6 : Nat) (t : Slots) (h : Heap), t 4 = .rp i4 0 0 -> t 6 = .rp i6 0 0 -> h.ob i4 = some (3, [[I p_4_0, I p_4_1, I p_4_2]]) -> i4 < h.nx -> h.ob i6 = some (3, [[I 0, I 0, I 0]]) -> i6 < h.nx -> ¬i4 = i6 -> c6h p_4_0 p_4_1 p_4_2 = some r -> K1 t h := by
  intro p_4_0 p_4_1 p_4_2 i4 i6 t h s4 s6 Q9 Q5 Q1 Q0 Qb hm0;refine hK1 _ _ ?_;unfold c6h at hm0;apply b0b;intro K hK;simp only [go_sem, s4, s6, Q9, Q1];apply hK;simp only [b0x, b0y];obtain rfl := sI9 hm0;exact b90 (id := i6) (m := 3) (cs := [I p_4_0, I p_4_1, I p_4_2]) (by simp only [go_sem, s6]) vb9 rfl (.refl _ (.agg _ (b0a (b0e _) (b0a (b0e _) (b0a (b0e _) b0j)))))
 simp only [b0u];obtain ⟨b3, hl3, hm0⟩ := b0g hm0;refine b1j hl3 (fun | x_15, t, h => ∃ i4 i6 : Nat, t 2 = I input /\ t 3 = .fp (vM m.Machine) 0 /\ t 4 = .rp i4 0 0 /\ t 6 = .rp i6 0 0 /\ t 13 = .fs 4 (List.map b0m m.Machine.Rules) /\ t 14 = I (List.length m.Machine.Rules : Int) /\ t 15 = I x_15 /\ h.ob i4 = some (3, [[I p.State, I p.Values.1, I p.Values.2]]) /\ i4 < h.nx /\ h.ob i6 = some (3, [[I 0, I 0, I 0]]) /\ i6 < h.nx /\ ¬i4 = i6) ?_ ?_
 ·exact ⟨h.nx, (nxs h.nx), s2, va9, va9, va9, va9, va9, va9, vb9, vb9, vb9, vb9, ve9⟩
 ·rintro x_15 o t h ⟨i4, i6, s2, s3, s4, s6, s13, s14, s15, Q9, Q5, Q1, Q0, Qb⟩ hm1 hb3;simp only [c6f] at hm1;rw [g37];apply b0b;intro K hK;simp only [go_sem, s14, s15];apply hK;refine b0i fun K4 hK4 => ?_;simp only [go_sem];refine b0k (fun hc5 => ?_) (fun hc5 => ?_)
  ·rw [b0r hc5] at hm1;simp only [b0s, b0f];refine hK4 _ _ ?_;refine b0i fun K6 hK6 => ?_
   have J7 : ∀ (t : Slots) (h : Heap), t 2 = I input -> t 3 = .fp (vM m.Machine) 0 -> t 4 = .rp i4 0 0 -> t 6 = .rp i6 0 0 -> t 13 = .fs 4 (List.map b0m m.Machine.Rules) -> t 14 = I (List.length m.Machine.Rules : Int) -> t 15 = I x_15 -> h.ob i4 = some (3, [[I p.State, I p.Values.1, I p.Values.2]]) -> i4 < h.nx -> h.ob i6 = some (3, [[I 0, I 0, I 0]]) -> i6 < h.nx -> ¬i4 = i6 -> c6i x_15 = some o -> K6 t h := by
    try clear s2 s3 s4 s6 s13 s14 s15 Q9 Q5 Q1 Q0 Qb
    intro t h s2 s3 s4 s6 s13 s14 s15 Q9 Q5 Q1 Q0 Qb hm1;refine hK6 _ _ ?_;unfold c6i at hm1;apply b03;intro K hK;simp only [go_sem, s15];apply hK;simp only [b0f];obtain rfl := sI9 hm1;refine ⟨_, rfl, ?_⟩;exact ⟨i4, i6, s2, s3, s4, s6, s13, s14, va9, Q9, Q5, Q1, Q0, Qb⟩
   simp only [b0u];obtain ⟨x9, h_x9, hm1⟩ := b0g hm1;have h_x90 := b05 h_x9;have h_x91 := b06 h_x9;apply b0b;intro K hK;simp only [go_sem, s13, s15, b08 h_x9, h_x91];apply hK;refine b0v ?_;obtain ⟨c13, h_c13, hm1⟩ := b0g hm1;refine b2p (fun t h => ∃ i8 : Nat, t 2 = I input /\ t 3 = .fp (vM m.Machine) 0 /\ t 4 = .rp i4 0 0 /\ t 6 = .rp i6 0 0 /\ t 8 = .rp i8 0 0 /\ t 13 = .fs 4 (List.map b0m m.Machine.Rules) /\ t 14 = I (List.length m.Machine.Rules : Int) /\ t 15 = I x_15 /\ t 37 = B c13 /\ h.ob i4 = some (3, [[I p.State, I p.Values.1, I p.Values.2]]) /\ i4 < h.nx /\ h.ob i6 = some (3, [[I 0, I 0, I 0]]) /\ i6 < h.nx /\ h.ob i8 = some (4, [[I x9.From, I x9.To, .fs 1 (List.map b0t x9.When), .fs 2 (List.map b2o x9.Sets)]]) /\ i8 < h.nx /\ ¬i4 = i6 /\ ¬i4 = i8 /\ ¬i6 = i8) (fun K hK => ?_) ?_
   ·simp only [go_sem];refine b0k (fun hg14 => ?_) (fun hg14 => ?_)
    ·simp only [go_sem, s4, Q9, Q5, hg14];refine b0k (fun hg15 => ?_) (fun hg15 => ?_)
     ·simp only [hg14, hg15, eq_self, if_true, Bool.and_true] at h_c13;obtain rfl := sI9 h_c13;simp only [go_sem, hg14, hg15];exact hK _ _ ⟨h.nx, s2, s3, s4, s6, va9, s13, s14, s15, va9, (by simp only [go_sem, Q9, Q5]), (by simp only [go_sem, Q5]), (by simp only [go_sem, Q1, Q0]), (by simp only [go_sem, Q0]), vb9, vb9, Qb, ve9, ve9⟩
     ·simp only [hg14, hg15, if_false, Bool.and_false, fT9] at h_c13;obtain ⟨y12, h_y12, h_c13⟩ := b0g h_c13;obtain rfl := sI9 h_c13;simp only [go_sem, s2, s3, s4, Q9, Q5, hg14, hg15];refine b01 (b52 m x9.When (Place.mk p.State (p.Values.1, p.Values.2)) input _ h_y12) ?_;simp only [go_sem, hg14, hg15];exact hK _ _ ⟨h.nx, s2, s3, s4, s6, va9, s13, s14, s15, va9, (by simp only [go_sem, Q9, Q5]), (by simp only [go_sem, Q5]), (by simp only [go_sem, Q1, Q0]), (by simp only [go_sem, Q0]), vb9, vb9, Qb, ve9, ve9⟩
    ·simp only [hg14, if_false, Bool.false_and, fT9] at h_c13;obtain ⟨y12, h_y12, h_c13⟩ := b0g h_c13;obtain rfl := sI9 h_c13;simp only [go_sem, s2, s3, s4, Q9, Q5, hg14];refine b01 (b52 m x9.When (Place.mk p.State (p.Values.1, p.Values.2)) input _ h_y12) ?_;simp only [go_sem, hg14];exact hK _ _ ⟨h.nx, s2, s3, s4, s6, va9, s13, s14, s15, va9, (by simp only [go_sem, Q9, Q5]), (by simp only [go_sem, Q5]), (by simp only [go_sem, Q1, Q0]), (by simp only [go_sem, Q0]), vb9, vb9, Qb, ve9, ve9⟩
   ·try clear s2 s3 s4 s6 s13 s14 s15 Q9 Q5 Q1 Q0 Qb
    rintro t h ⟨i8, s2, s3, s4, s6, s8, s13, s14, s15, s37, Q9, Q5, Q1, Q0, Q7, Q8, Qb, Qk, Qc⟩;refine b0i fun K16 hK16 => ?_;simp only [go_sem, s37];refine b0k (fun hc17 => ?_) (fun hc17 => ?_)
    ·rw [b0r hc17] at hm1;simp only [b09, b1b, b1a, b0f];exact J7  _ _ s2 s3 s4 s6 s13 s14 s15 Q9 Q5 Q1 Q0 Qb hm1
    ·rw [b0q hc17] at hm1;simp only [b0s, b0f];refine hK16 _ _ ?_;refine b0v ?_;apply b0b;intro K hK;simp only [go_sem, s8, Q7];apply hK;refine b0i fun K18 hK18 => ?_
     have J19 : ∀ (p_4_0 p_4_1 p_4_2 : Int) (t : Slots) (h : Heap), t 4 = .rp i4 0 0 -> t 6 = .rp i6 0 0 -> t 8 = .rp i8 0 0 -> h.ob i4 = some (3, [[I p_4_0, I p_4_1, I p_4_2]]) -> i4 < h.nx -> h.ob i6 = some (3, [[I 0, I 0, I 0]]) -> i6 < h.nx -> h.ob i8 = some (4, [[I x9.From, I x9.To, .fs 1 (List.map b0t x9.When), .fs 2 (List.map b2o x9.Sets)]]) -> i8 < h.nx -> ¬i4 = i6 -> ¬i4 = i8 -> ¬i6 = i8 -> c6g x9 p_4_0 p_4_1 p_4_2 = some o -> K18 t h := by
      try clear s2 s3 s4 s6 s8 s13 s14 s15 s37 Q9 Q5 Q1 Q0 Q7 Q8 Qb Qk Qc
      intro p_4_0 p_4_1 p_4_2 t h s4 s6 s8 Q9 Q5 Q1 Q0 Q7 Q8 Qb Qk Qc hm1;refine hK18 _ _ ?_;unfold c6g at hm1;apply b0b;intro K hK;simp only [go_sem, s4, s8, Q9, Q7];apply hK;simp only [b09, b1b, b1a, c0s, b0f, Nat.reduceEqDiff, nF9];obtain rfl := sI9 hm1;obtain rfl := hb3 _ rfl
      try dsimp only at hm0
      exact J2 x9.To p_4_1 p_4_2 i4 i6 _ _ s4 s6 vb9 (by simp only [go_sem, Q5]) (by simp only [go_sem, Q1, b1z Qb]) (by simp only [go_sem, Q0]) Qb hm0
     simp only [b0u];obtain ⟨b20, hl20, hm1⟩ := b0g hm1;refine b1j hl20 (fun | (p_4_0, p_4_1, p_4_2, x_41), t, h => t 3 = .fp (vM m.Machine) 0 /\ t 4 = .rp i4 0 0 /\ t 6 = .rp i6 0 0 /\ t 8 = .rp i8 0 0 /\ t 39 = .fs 2 (List.map b2o x9.Sets) /\ t 40 = I (List.length x9.Sets : Int) /\ t 41 = I x_41 /\ h.ob i4 = some (3, [[I p_4_0, I p_4_1, I p_4_2]]) /\ i4 < h.nx /\ h.ob i6 = some (3, [[I 0, I 0, I 0]]) /\ i6 < h.nx /\ h.ob i8 = some (4, [[I x9.From, I x9.To, .fs 1 (List.map b0t x9.When), .fs 2 (List.map b2o x9.Sets)]]) /\ i8 < h.nx /\ ¬i4 = i6 /\ ¬i4 = i8 /\ ¬i6 = i8) ?_ ?_
     ·exact ⟨s3, s4, s6, s8, va9, va9, va9, Q9, Q5, Q1, Q0, Q7, Q8, Qb, Qk, Qc⟩
     ·try clear s2 s3 s4 s6 s8 s13 s14 s15 s37 Q9 Q5 Q1 Q0 Q7 Q8 Qb Qk Qc
      rintro ⟨p_4_0, p_4_1, p_4_2, x_41⟩ o t h ⟨s3, s4, s6, s8, s39, s40, s41, Q9, Q5, Q1, Q0, Q7, Q8, Qb, Qk, Qc⟩ hm2 hb20;simp only [c11] at hm2;rw [g36];apply b0b;intro K hK;simp only [go_sem, s40, s41];apply hK;refine b0i fun K21 hK21 => ?_;simp only [go_sem];refine b0k (fun hc22 => ?_) (fun hc22 => ?_)
      ·rw [b0r hc22] at hm2;simp only [b0s, b0f];refine hK21 _ _ ?_;refine b0i fun K23 hK23 => ?_;simp only [b0u];obtain ⟨x25, h_x25, hm2⟩ := b0g hm2;have h_x250 := b05 h_x25;have h_x251 := b06 h_x25;apply b0b;intro K hK;simp only [go_sem, s39, s41, b08 h_x25, h_x251];apply hK;obtain ⟨y27, h_y27, hm2⟩ := b0g hm2;refine b9y (fun t h => t 3 = .fp (vM m.Machine) 0 /\ t 4 = .rp i4 0 0 /\ t 6 = .rp i6 0 0 /\ t 8 = .rp i8 0 0 /\ t 39 = .fs 2 (List.map b2o x9.Sets) /\ t 40 = I (List.length x9.Sets : Int) /\ t 41 = I x_41 /\ h.ob i4 = some (3, [[I y27.State, I y27.Values.1, I y27.Values.2]]) /\ i4 < h.nx /\ h.ob i6 = some (3, [[I 0, I 0, I 0]]) /\ i6 < h.nx /\ h.ob i8 = some (4, [[I x9.From, I x9.To, .fs 1 (List.map b0t x9.When), .fs 2 (List.map b2o x9.Sets)]]) /\ i8 < h.nx /\ ¬i4 = i6 /\ ¬i4 = i8 /\ ¬i6 = i8) (fun K hK => ?_) ?_
       ·simp only [go_sem, s3, s4];refine d9m (d22 m x25 (Place.mk p_4_0 (p_4_1, p_4_2)) i4 _ (by simp only [go_sem, Q9, Q5]) (by first | omega | simp only [go_sem, Q5]) _ h_y27) ?_;rintro _ hq_y27 ⟨rfl, ob_y27, fr_y27, fx_y27⟩;have lw_y270 : i4 < hq_y27.nx := Nat.lt_of_lt_of_le (by first | omega | simp only [go_sem, Q5]) fx_y27;have lw_y271 : i6 < hq_y27.nx := Nat.lt_of_lt_of_le (by first | omega | simp only [go_sem, Q0]) fx_y27;have lw_y272 : i8 < hq_y27.nx := Nat.lt_of_lt_of_le (by first | omega | simp only [go_sem, Q8]) fx_y27;have lw_y273 : h.nx < hq_y27.nx := Nat.lt_of_lt_of_le (by first | omega | simp only [go_sem]) fx_y27;simp only [go_sem];exact hK _ _ ⟨s3, s4, s6, s8, s39, s40, s41, (by simp only [go_sem, ob_y27]), (by first | omega | simp only [go_sem, Q5]), (by simp only [go_sem, Q1, Q0, b1z Qb, fr_y27]), (by first | omega | simp only [go_sem, Q0]), (by simp only [go_sem, Q7, Q8, b1z Qk, fr_y27]), (by first | omega | simp only [go_sem, Q8]), Qb, Qk, Qc⟩
       ·try clear s3 s4 s6 s8 s39 s40 s41 Q9 Q5 Q1 Q0 Q7 Q8 Qb Qk Qc
        rintro t h ⟨s3, s4, s6, s8, s39, s40, s41, Q9, Q5, Q1, Q0, Q7, Q8, Qb, Qk, Qc⟩;simp only [b02, b0f];refine hK23 _ _ ?_;apply b03;intro K hK;simp only [go_sem, s41];apply hK;simp only [b0f];obtain rfl := sI9 hm2;refine ⟨_, rfl, ?_⟩;exact ⟨s3, s4, s6, s8, s39, s40, va9, Q9, Q5, Q1, Q0, Q7, Q8, Qb, Qk, Qc⟩
      ·rw [b0q hc22] at hm2;simp only [b09, b1b, b1a, b0f];obtain rfl := sI9 hm2;obtain rfl := hb20 _ rfl
       try dsimp only at hm1
       exact J19 p_4_0 p_4_1 p_4_2 _ _ s4 s6 s8 Q9 Q5 Q1 Q0 Q7 Q8 Qb Qk Qc hm1
  ·rw [b0q hc5] at hm1;simp only [b09, b1b, b1a, b0f];obtain rfl := sI9 hm1;obtain rfl := hb3 _ rfl
   try dsimp only at hm0
   exact J2 p.State p.Values.1 p.Values.2 i4 i6 _ _ s4 s6 Q9 Q5 Q1 Q0 Qb hm0
theorem d21 (hf : Has O "(newel/situation.Plant).literal" x__situation_Plant__literal) : c93 O := by
 intro m x p input r hm0;unfold b77 at hm0;refine b1i hf rfl (b0a (fM _) (b0a (.agg _ (b0a (b0e _) (b0a (b0e _) (b0a (b0e _) (b0a (b0e _) b0j))))) (b0a (.agg _ (b0a (b0e _) (b0a (b0e _) (b0a (b0e _) b0j)))) (b0a (b0e _) b0j)))) (b0e _) ?_;refine b1c (fun t h => t 0 = .agg (vM m.Machine) /\ t 1 = .agg [I x.Kind, I x.Number, I x.Value, B x.Not] /\ t 2 = .agg [I p.State, I p.Values.1, I p.Values.2] /\ t 3 = I input) ⟨rfl, rfl, rfl, rfl⟩ fun t h ⟨s0, s1, s2, s3⟩ => ?_;simp only [x__situation_Plant__literal];apply b0b;intro K hK;simp only [go_sem, s0, s1, s2];apply hK;apply b0b;intro K hK;simp only [go_sem];apply hK;refine b0v ?_;apply b0b;intro K hK;simp only [go_sem];apply hK;refine b0i fun K1 hK1 => ?_
 have J2 : ∀ (holds_9 : Bool) (t : Slots) (h : Heap), t 5 = .fp [I x.Kind, I x.Number, I x.Value, B x.Not] 0 -> t 9 = B holds_9 -> b6w x holds_9 = some r -> K1 t h := by
  intro holds_9 t h s5 s9 hm0;refine hK1 _ _ ?_;unfold b6w at hm0;apply b0b;intro K hK;simp only [go_sem, s5, s9];apply hK;simp only [b0x, b0y];obtain rfl := sI9 hm0;exact b04 vb9 (b0e _)
 simp only [b0u];apply b0b;intro K hK;simp only [go_sem];apply hK;simp only [go_sem];refine b0k (fun hc3 => ?_) (fun hc3 => ?_)
 ·rw [b0r hc3] at hm0;obtain ⟨q5, h_q5, hm0⟩ := b0g hm0;apply b03;intro K hK;simp only [go_sem, s3, c7d h_q5];apply hK;simp only [b02, b0f];exact J2 (decide ((b6y q5 1) = 1)) _ _ va9 va9 hm0
 ·rw [b0q hc3] at hm0;apply b0b;intro K hK;simp only [go_sem];apply hK;simp only [go_sem];refine b0k (fun hc6 => ?_) (fun hc6 => ?_)
  ·rw [b0r hc6] at hm0;obtain ⟨x8, h_x8, hm0⟩ := b0g hm0;have ha_x8 : ∀ v : Int, List.take (1 + Int.toNat (x.Number)) [I p.State, I p.Values.1, I p.Values.2] ++ [I v] ++ List.drop (1 + Int.toNat (x.Number)) [I p.Values.1, I p.Values.2] = [I p.State, I (b1n (x.Number) 0 v p.Values.1), I (b1n (x.Number) 1 v p.Values.2)] := fun v => (c1e (cs := [I p.State, I p.Values.1, I p.Values.2]) (off := 1) (v := v) h_x8 rfl).trans (by rw [c1d h_x8]; rfl);have hb_x8 : 1 + Int.toNat (x.Number) + 1 <= 3 := Nat.le_trans (Nat.add_le_add_left (c0a h_x8) 1) (by simp);apply b03;intro K hK;simp only [go_sem, d94 (n := 2) (l := [p.Values.1, p.Values.2]) h_x8 rfl, c0c (cs := [I p.State, I p.Values.1, I p.Values.2]) (off := 1) h_x8 rfl];apply hK;simp only [b02, b0f];exact J2 (decide (x.Value <= x8)) _ _ va9 va9 hm0
  ·rw [b0q hc6] at hm0;apply b0b;intro K hK;simp only [go_sem];apply hK;simp only [go_sem];refine b0k (fun hc9 => ?_) (fun hc9 => ?_)
   ·rw [b0r hc9] at hm0;apply b03;intro K hK;simp only [go_sem];apply hK;simp only [b02, b0f];exact J2 (decide (p.State = x.Number)) _ _ va9 va9 hm0
   ·rw [b0q hc9] at hm0;apply b0b;intro K hK;simp only [go_sem];apply hK;simp only [go_sem];refine b0k (fun hc10 => ?_) (fun hc10 => ?_)
    ·rw [b0r hc10] at hm0;obtain ⟨x13, h_x13, hm0⟩ := b0g hm0;have h_x130 := b05 h_x13;have h_x131 := b06 h_x13;obtain ⟨q14, h_q14, hm0⟩ := b0g hm0;apply b03;intro K hK;simp only [go_sem, b08 h_x13, c7d h_q14];apply hK;simp only [b02, b0f];exact J2 (decide ((b6y q14 1) = 1)) _ _ va9 va9 hm0
    ·rw [b0q hc10] at hm0;simp only [b0s, b02, b0f];exact J2 false _ _ va9 va9 hm0
theorem d22 (hf : Has O "(newel/situation.Plant).set" x__situation_Plant__set) : c94 O := by
 intro m s p i_2 h0 ob_p2 lt_p2 r hm0;unfold r1b at hm0;refine d8g hf rfl ?_;refine b1c (fun t h => t 0 = .agg (vM m.Machine) /\ t 1 = .agg [I s.Kind, I s.Counter] /\ t 2 = .rp i_2 0 0 /\ h.ob i_2 = some (3, [[I p.State, I p.Values.1, I p.Values.2]]) /\ i_2 < h.nx /\ (∀ j, j < h0.nx -> ¬j = i_2 -> h.ob j = h0.ob j) /\ h0.nx <= h.nx) ⟨rfl, rfl, rfl, ob_p2, lt_p2, fun _ _ _ => rfl, Nat.le_refl _⟩ fun t h ⟨s0, s1, s2, ob_p2, lt_p2, fr, fx⟩ => ?_;simp only [x__situation_Plant__set];apply b0b;intro K hK;simp only [go_sem, s0, s1];apply hK;obtain ⟨x2, h_x2, hm0⟩ := b0g hm0;have ha_x2 : ∀ v : Int, List.take (1 + Int.toNat (s.Counter)) [I p.State, I p.Values.1, I p.Values.2] ++ [I v] ++ List.drop (1 + Int.toNat (s.Counter)) [I p.Values.1, I p.Values.2] = [I p.State, I (b1n (s.Counter) 0 v p.Values.1), I (b1n (s.Counter) 1 v p.Values.2)] := fun v => (c1e (cs := [I p.State, I p.Values.1, I p.Values.2]) (off := 1) (v := v) h_x2 rfl).trans (by rw [c1d h_x2]; rfl);have hb_x2 : 1 + Int.toNat (s.Counter) + 1 <= 3 := Nat.le_trans (Nat.add_le_add_left (c0a h_x2) 1) (by simp);apply b0b;intro K hK;simp only [go_sem, s2, ob_p2, c7f (n := 2) (l := [p.Values.1, p.Values.2]) h_x2 rfl];apply hK;apply b0b;intro K hK;simp only [go_sem];apply hK;simp only [b0u];apply b0b;intro K hK;simp only [go_sem];apply hK;simp only [go_sem];refine b0k (fun hc3 => ?_) (fun hc3 => ?_)
 ·rw [b0r hc3] at hm0;apply b03;intro K hK;simp only [go_sem, ob_p2, ha_x2, hb_x2];apply hK;simp only [b02];obtain rfl := sI9 hm0;exact c4o (Post := fun v h => v = .tup [] /\ h.ob i_2 = some (3, [[I ((Place.mk p.State (b1n s.Counter 0 0 p.Values.1, b1n s.Counter 1 0 p.Values.2)).State), I (((Place.mk p.State (b1n s.Counter 0 0 p.Values.1, b1n s.Counter 1 0 p.Values.2)).Values).1), I (((Place.mk p.State (b1n s.Counter 0 0 p.Values.1, b1n s.Counter 1 0 p.Values.2)).Values).2)]]) /\ (∀ j, j < h0.nx -> ¬j = i_2 -> h.ob j = h0.ob j) /\ h0.nx <= h.nx) ⟨rfl, vb9, (by intro j hj hx0; first | exact fr j hj hx0 | (refine Eq.trans ?_ (fr j hj hx0); first | rfl | simp only [go_sem, hx0])), (by first | exact fx | omega | (simp only [go_sem, nxs] <;> omega))⟩
 ·rw [b0q hc3] at hm0;apply b0b;intro K hK;simp only [go_sem];apply hK;simp only [go_sem];refine b0k (fun hc4 => ?_) (fun hc4 => ?_)
  ·rw [b0r hc4] at hm0;obtain ⟨x6, h_x6, hm0⟩ := b0g hm0;have h_x60 := b05 h_x6;have h_x61 := b06 h_x6;apply b03;intro K hK;simp only [go_sem, ob_p2, b08 h_x6, c0c (cs := [I p.State, I p.Values.1, I p.Values.2]) (off := 1) h_x2 rfl, ha_x2, hb_x2];apply hK;simp only [b02];obtain rfl := sI9 hm0;exact c4o (Post := fun v h => v = .tup [] /\ h.ob i_2 = some (3, [[I ((Place.mk p.State (b1n s.Counter 0 (mn (wr (x2 + 1)) x6.Max) p.Values.1, b1n s.Counter 1 (mn (wr (x2 + 1)) x6.Max) p.Values.2)).State), I (((Place.mk p.State (b1n s.Counter 0 (mn (wr (x2 + 1)) x6.Max) p.Values.1, b1n s.Counter 1 (mn (wr (x2 + 1)) x6.Max) p.Values.2)).Values).1), I (((Place.mk p.State (b1n s.Counter 0 (mn (wr (x2 + 1)) x6.Max) p.Values.1, b1n s.Counter 1 (mn (wr (x2 + 1)) x6.Max) p.Values.2)).Values).2)]]) /\ (∀ j, j < h0.nx -> ¬j = i_2 -> h.ob j = h0.ob j) /\ h0.nx <= h.nx) ⟨rfl, vb9, (by intro j hj hx0; first | exact fr j hj hx0 | (refine Eq.trans ?_ (fr j hj hx0); first | rfl | simp only [go_sem, hx0])), (by first | exact fx | omega | (simp only [go_sem, nxs] <;> omega))⟩
  ·rw [b0q hc4] at hm0;apply b0b;intro K hK;simp only [go_sem];apply hK;simp only [go_sem];refine b0k (fun hc7 => ?_) (fun hc7 => ?_)
   ·rw [b0r hc7] at hm0;apply b03;intro K hK;simp only [go_sem, ob_p2, c0c (cs := [I p.State, I p.Values.1, I p.Values.2]) (off := 1) h_x2 rfl, ha_x2, hb_x2];apply hK;simp only [b02];obtain rfl := sI9 hm0;exact c4o (Post := fun v h => v = .tup [] /\ h.ob i_2 = some (3, [[I ((Place.mk p.State (b1n s.Counter 0 (mx (wr (x2 - 1)) 0) p.Values.1, b1n s.Counter 1 (mx (wr (x2 - 1)) 0) p.Values.2)).State), I (((Place.mk p.State (b1n s.Counter 0 (mx (wr (x2 - 1)) 0) p.Values.1, b1n s.Counter 1 (mx (wr (x2 - 1)) 0) p.Values.2)).Values).1), I (((Place.mk p.State (b1n s.Counter 0 (mx (wr (x2 - 1)) 0) p.Values.1, b1n s.Counter 1 (mx (wr (x2 - 1)) 0) p.Values.2)).Values).2)]]) /\ (∀ j, j < h0.nx -> ¬j = i_2 -> h.ob j = h0.ob j) /\ h0.nx <= h.nx) ⟨rfl, vb9, (by intro j hj hx0; first | exact fr j hj hx0 | (refine Eq.trans ?_ (fr j hj hx0); first | rfl | simp only [go_sem, hx0])), (by first | exact fx | omega | (simp only [go_sem, nxs] <;> omega))⟩
   ·rw [b0q hc7] at hm0;simp only [b0s, b02];obtain rfl := sI9 hm0;exact c4o (Post := fun v h => v = .tup [] /\ h.ob i_2 = some (3, [[I ((Place.mk p.State (p.Values.1, p.Values.2)).State), I (((Place.mk p.State (p.Values.1, p.Values.2)).Values).1), I (((Place.mk p.State (p.Values.1, p.Values.2)).Values).2)]]) /\ (∀ j, j < h0.nx -> ¬j = i_2 -> h.ob j = h0.ob j) /\ h0.nx <= h.nx) ⟨rfl, ob_p2, fr, fx⟩
theorem x0i (hf : Has O "newel/faults.Refute" x_faults_Refute) (u0q : u1i O) (u0r : s97 O) (x0k : x0d O) (x0l : w97 O) (x0j : x0c O) : x0b O := by
 intro a t_ r hm0;unfold w9x at hm0;refine b1i hf rfl (b0a (fA _) (b0a (.agg _ (b0a (b0e _) (b0a (b0e _) (b0a (b0e _) b0j)))) b0j)) (.tup _ (b0a (b0c fun a _ => b1t a) (b0a (b0e _) b0j))) ?_;refine b1c (fun t h => t 0 = .agg (vA a) /\ t 1 = .agg [I t_.Input, I t_.Value, I t_.From]) ⟨rfl, rfl⟩ fun t h ⟨s0, s1⟩ => ?_;simp only [x_faults_Refute];apply b0b;intro K hK;simp only [go_sem, s0, s1];apply hK;refine b0v ?_;obtain ⟨y2, h_y2, hm0⟩ := b0g hm0;apply b0b;intro K hK;simp only [go_sem];refine b01 (u0q a t_ _ h_y2) ?_;simp only [go_sem];apply hK;refine b0v ?_;apply b0b;intro K hK;simp only [go_sem];apply hK;refine b0i fun K3 hK3 => ?_;simp only [go_sem];refine b0k (fun hc4 => ?_) (fun hc4 => ?_)
 ·rw [b0r hc4] at hm0;apply b0b;intro K hK;simp only [go_sem];apply hK;simp only [b0x, b1p, b0y];obtain rfl := sI9 hm0;exact d66 (v := .v (.slice none 0 0)) (u := I y2) vb9 vb9 (.nil _) (.refl _ (b0e _))
 ·rw [b0q hc4] at hm0;simp only [b0s, b0f];refine hK3 _ _ ?_;refine b0v ?_;obtain ⟨y6, h_y6, hm0⟩ := b0g hm0;apply b0b;intro K hK;simp only [go_sem];refine r2x ?_ (b0a (fA _) (b0a (.agg _ (b0a (b0e _) (b0a (b0e _) (b0a (b0e _) b0j)))) (b0a (b0e _) b0j))) (u0r a t_ _ h_y6) ?_
  ·exact .cons (.refl _ (fA _)) (.cons (.refl _ (.agg _ (b0a (b0e _) (b0a (b0e _) (b0a (b0e _) b0j))))) (.cons (.nil _) (.nil)))
  simp only [go_sem];apply hK;refine b0v ?_;apply b0b;intro K hK;simp only [go_sem];apply hK;refine b0i fun K7 hK7 => ?_;simp only [go_sem];refine b0k (fun hc8 => ?_) (fun hc8 => ?_)
  ·rw [b0r hc8] at hm0;apply b0b;intro K hK;simp only [go_sem];apply hK;simp only [b0x, b1p, b0y];obtain rfl := sI9 hm0;exact d66 (v := .v (.slice none 0 0)) (u := I 3) vb9 vb9 (.nil _) (.refl _ (b0e _))
  ·rw [b0q hc8] at hm0;simp only [b0s, b0f];refine hK7 _ _ ?_;obtain ⟨l10, h_l10, hm0⟩ := b0g hm0;apply b0b;intro K hK;simp only [go_sem];refine d2k (f := eB) (z := false) rfl h_l10 ?_;simp only [go_sem];apply hK;refine b0v ?_;apply b0b;intro K hK;simp only [go_sem];apply hK;refine b0i fun K11 hK11 => ?_
   have J12 : ∀ (left_9_0 : List Bool) (i9 i9_1 : Nat) (t : Slots) (h : Heap), t 2 = .fp (vA a) 0 -> t 3 = .fp [I t_.Input, I t_.Value, I t_.From] 0 -> t 9 = .rp i9 0 0 -> h.ob i9 = some (1, [[.rs i9_1 0 (List.length left_9_0)]]) -> i9 < h.nx -> h.ob i9_1 = some (1, List.map eB left_9_0) -> i9_1 < h.nx -> ¬i9 = i9_1 -> w94 a t_ left_9_0 = some r -> K11 t h := by
    intro left_9_0 i9 i9_1 t h s2 s3 s9 Q2 Q6 Ql Qh Qg hm0;refine hK11 _ _ ?_;unfold w94 at hm0;apply b0b;intro K hK;simp only [go_sem];apply hK;refine b0v ?_;apply b0b;intro K hK;simp only [go_sem, s9, Q2];apply hK;refine b0i fun K13 hK13 => ?_
    have J14 : ∀ (l_11 : List Int) (v11 : AV) (t : Slots) (h : Heap), t 11 = v11 -> b2a h v11 1 (List.map eI l_11) -> x0g l_11 = some r -> K13 t h := by
     intro l_11 v11 t h s11 Qm hm0;refine hK13 _ _ ?_;unfold x0g at hm0;apply b0b;intro K hK;simp only [go_sem, s11, b5r v11];apply hK;simp only [b0x, b0y];obtain rfl := sI9 hm0;exact d66 (v := v11) (u := I 0) vb9 vb9 (r8x (f := eI) (l := l_11) (b3x Qm (by intro j hj hl; first | rfl | simp only [go_sem, hl]) (by first | omega | exact Nat.le_refl _ | (simp only [go_sem, nxs] <;> omega))) b1t b8p) (.refl _ (b0e _))
    simp only [b0u];obtain ⟨b15, hl15, hm0⟩ := b0g hm0;refine b1j hl15 (fun | (left_9_0_1, l_11, x_43), t, h => ∃ v11 : AV, t 2 = .fp (vA a) 0 /\ t 3 = .fp [I t_.Input, I t_.Value, I t_.From] 0 /\ t 9 = .rp i9 0 0 /\ t 11 = v11 /\ t 42 = I ((List.length left_9_0 : Nat) : Int) /\ t 43 = I x_43 /\ h.ob i9 = some (1, [[.rs i9_1 0 (List.length left_9_0_1)]]) /\ i9 < h.nx /\ h.ob i9_1 = some (1, List.map eB left_9_0_1) /\ i9_1 < h.nx /\ b2a h v11 1 (List.map eI l_11) /\ ¬i9 = i9_1 /\ b07 v11 i9 /\ b07 v11 i9_1) ?_ ?_
    ·exact ⟨(.v (.slice none 0 0)), s2, s3, s9, va9, va9, va9, Q2, Q6, Ql, Qh, c0o, Qg, vc9, vc9⟩
    ·rintro ⟨left_9_0_1, l_11, x_43⟩ o t h ⟨v11, s2, s3, s9, s11, s42, s43, Q2, Q6, Ql, Qh, Qm, Qg, Qq, Qn⟩ hm1 hb15;simp only [w90] at hm1;rw [x0s];apply b0b;intro K hK;simp only [go_sem, s42, s43];apply hK;refine b0i fun K16 hK16 => ?_;simp only [go_sem];refine b0k (fun hc17 => ?_) (fun hc17 => ?_)
     ·rw [b0r hc17] at hm1;simp only [b0s, b0f];refine hK16 _ _ ?_;refine b0i fun K18 hK18 => ?_
      have J19 : ∀ (left_9_0_2 : List Bool) (l_11_1 : List Int) (v11_1 : AV) (t : Slots) (h : Heap), t 2 = .fp (vA a) 0 -> t 3 = .fp [I t_.Input, I t_.Value, I t_.From] 0 -> t 9 = .rp i9 0 0 -> t 11 = v11_1 -> t 42 = I ((List.length left_9_0 : Nat) : Int) -> t 43 = I x_43 -> h.ob i9 = some (1, [[.rs i9_1 0 (List.length left_9_0_2)]]) -> i9 < h.nx -> h.ob i9_1 = some (1, List.map eB left_9_0_2) -> i9_1 < h.nx -> b2a h v11_1 1 (List.map eI l_11_1) -> ¬i9 = i9_1 -> b07 v11_1 i9 -> b07 v11_1 i9_1 -> w95 x_43 left_9_0_2 l_11_1 = some o -> K18 t h := by
       try clear s2 s3 s9 s11 s42 s43 Q2 Q6 Ql Qh Qm Qg Qq Qn
       intro left_9_0_2 l_11_1 v11_1 t h s2 s3 s9 s11 s42 s43 Q2 Q6 Ql Qh Qm Qg Qq Qn hm1;refine hK18 _ _ ?_;unfold w95 at hm1;apply b03;intro K hK;simp only [go_sem, s43];apply hK;simp only [b0f];obtain rfl := sI9 hm1;refine ⟨_, rfl, ?_⟩;exact ⟨v11_1, s2, s3, s9, s11, s42, va9, Q2, Q6, Ql, Qh, Qm, Qg, Qq, Qn⟩
      simp only [b0u];apply b0b;intro K hK;simp only [go_sem, s43];apply hK;obtain ⟨x21, h_x21, hm1⟩ := b0g hm1;have h_x210 := b05 h_x21;have h_x211 := b06 h_x21;apply b0b;intro K hK;simp only [go_sem, s9, Q2, Ql, b3n h_x21, h_x210, h_x211];apply hK;obtain ⟨y25, h_y25, hm1⟩ := b0g hm1;apply b0b;intro K hK;simp only [go_sem, s2, s3, s9];refine d9m (x0k _ _ _ _) ?_;rintro _ _ ⟨rfl, rfl⟩;simp only [go_sem, s9];refine b8l ?_ (x0l a t_ "newel/faults.Refute$1" [] [.fp [.fs 1 (List.map eB (List.set left_9_0_1 (Int.toNat x_43) false))] 0] (fun z24 => w9y z24 (List.set left_9_0_1 (Int.toNat x_43) false)) (.fn _ _ _ b0j (b0a (.fp _ _ (b0a (b0c fun a _ => b8h a) b0j)) b0j)) (fun z0 y hz => x0j z0 (List.set left_9_0_1 (Int.toNat x_43) false) y hz) _ h_y25) (.tup _ (o8l .dead (o8l (.v _) o9n))) ?_
      ·exact .cons (.refl _ (fA _)) (.cons (.refl _ (.agg _ (b0a (b0e _) (b0a (b0e _) (b0a (b0e _) b0j))))) (.cons (x02 (id := (nxs h.nx)) (sz := 1) (rows := [[.fn "newel/faults.but$1" [] [.rp h.nx 0 0]]]) vb9 rfl (.cons (.cons (j1d (.nil) (.cons (y31 (id := h.nx) (sz := 1) (xs := [.fn "newel/faults.Refute$1" [] [.rp i9 0 0]]) vb9 (.cons (j1d (.nil) (.cons (y31 (id := i9) (sz := 1) (xs := [.rs i9_1 0 (List.length left_9_0_1)]) (by simp only [go_sem, Q2, Q6, Qg]) (.cons (b29 (f := eB) (l := (List.set left_9_0_1 (Int.toNat x_43) false)) (id := i9_1) (by simp only [go_sem, Qh]) vh9 b8h g1c) (.nil))) (.nil))) (.nil))) (.nil))) (.nil)) (.nil)) (by intro d hd; rw [List.mem_singleton.1 hd]; rfl)) (.nil)))
      simp only [go_sem, s9];apply hK;apply b0b;intro K hK;simp only [go_sem];apply hK;simp only [go_sem];refine b0k (fun hc26 => ?_) (fun hc26 => ?_)
      ·rw [b0r hc26] at hm1;obtain ⟨x28, h_x28, hm1⟩ := b0g hm1;have h_x280 := b05 h_x28;have h_x281 := b06 h_x28; (try simp only [List.length_set] at h_x281);apply b0b;intro K hK;simp only [go_sem, s9, Q2, Q6, Qh, Qg, b3n h_x28, h_x280, h_x281];apply hK;obtain ⟨l30, h_l30, hm1⟩ := b0g hm1;apply b03;intro K hK;simp only [go_sem, s11, b5r v11];refine b3a (f := eI) (l := l_11) (m := ([x_43])) ?_ ?_ ?_ ?_ h_l30 ?_
       ·exact (b3x Qm (by intro j hj hl; first | rfl | simp only [go_sem, hl, b4s hj Qn]) (by first | omega | exact Nat.le_refl _ | (simp only [go_sem, nxs] <;> omega)))
       ·exact (b4t vb9 vb9)
       ·exact (b4r vd9)
       ·exact (fun _ => by simp)
       simp only [go_sem];apply hK;simp only [b02, b0f];exact J19 (List.set (List.set left_9_0_1 (Int.toNat x_43) false) (Int.toNat x_43) true) l30 (.rs (nxs (nxs (nxs h.nx))) 0 (List.length l30)) _ _ s2 s3 s9 va9 s42 s43 (by simp only [go_sem, Q2, Q6, Qg, Qq]) (by simp only [go_sem, Q6]) (by simp only [go_sem, Qh, Qn]) (by simp only [go_sem, Qh]) (b2v (by simp only [go_sem, b8s Qm]) vh9 vb9) Qg vc9 vc9 hm1
      ·rw [b0q hc26] at hm1;simp only [b0s, b02, b0f];exact J19 (List.set left_9_0_1 (Int.toNat x_43) false) l_11 v11 _ _ s2 s3 s9 s11 s42 s43 (by simp only [go_sem, Q2, Q6, Qg]) (by simp only [go_sem, Q6]) (by simp only [go_sem, Qh]) (by simp only [go_sem, Qh]) (b3x Qm (by intro j hj hl; first | rfl | simp only [go_sem, hl, b4s hj Qn]) (by first | omega | exact Nat.le_refl _ | (simp only [go_sem, nxs] <;> omega))) Qg Qq Qn hm1
     ·rw [b0q hc17] at hm1;simp only [b09, b1b, b1a, b0f];obtain rfl := sI9 hm1;obtain rfl := hb15 _ rfl
      try dsimp only at hm0
      exact J14 l_11 v11 _ _ s11 Qm hm0
   simp only [b0u];obtain ⟨b32, hl32, hm0⟩ := b0g hm0;refine b1j hl32 (fun | (left_9_0, x_34), t, h => ∃ i9 i9_1 : Nat, t 2 = .fp (vA a) 0 /\ t 3 = .fp [I t_.Input, I t_.Value, I t_.From] 0 /\ t 9 = .rp i9 0 0 /\ t 33 = I ((List.length l10 : Nat) : Int) /\ t 34 = I x_34 /\ h.ob i9 = some (1, [[.rs i9_1 0 (List.length left_9_0)]]) /\ i9 < h.nx /\ h.ob i9_1 = some (1, List.map eB left_9_0) /\ i9_1 < h.nx /\ ¬i9 = i9_1) ?_ ?_
   ·exact ⟨(nxs h.nx), h.nx, va9, va9, va9, va9, va9, vb9, vb9, vb9, vb9, ve9⟩
   ·rintro ⟨left_9_0, x_34⟩ o t h ⟨i9, i9_1, s2, s3, s9, s33, s34, Q2, Q6, Ql, Qh, Qg⟩ hm1 hb32;simp only [w9z] at hm1;rw [x0r];apply b0b;intro K hK;simp only [go_sem, s33, s34];apply hK;refine b0i fun K33 hK33 => ?_;simp only [go_sem];refine b0k (fun hc34 => ?_) (fun hc34 => ?_)
    ·rw [b0r hc34] at hm1;simp only [b0s, b0f];refine hK33 _ _ ?_;refine b0i fun K35 hK35 => ?_;simp only [b0u];apply b0b;intro K hK;simp only [go_sem, s34];apply hK;obtain ⟨x37, h_x37, hm1⟩ := b0g hm1;have h_x370 := b05 h_x37;have h_x371 := b06 h_x37;apply b03;intro K hK;simp only [go_sem, s9, Q2, Ql, b3n h_x37, h_x370, h_x371];apply hK;simp only [b02, b0f];refine hK35 _ _ ?_;apply b03;intro K hK;simp only [go_sem, s34];apply hK;simp only [b0f];obtain rfl := sI9 hm1;refine ⟨_, rfl, ?_⟩;exact ⟨i9, i9_1, s2, s3, s9, s33, va9, (by simp only [go_sem, Q2, Qg]), (by simp only [go_sem, Q6]), vb9, (by simp only [go_sem, Qh]), Qg⟩
    ·rw [b0q hc34] at hm1;simp only [b09, b1b, b1a, b0f];obtain rfl := sI9 hm1;obtain rfl := hb32 _ rfl
     try dsimp only at hm0
     exact J12 left_9_0 i9 i9_1 _ _ s2 s3 s9 Q2 Q6 Ql Qh Qg hm0
theorem x0j (hf : Has O "newel/faults.Refute$1" x_faults_RefuteD1) : x0c O := by
 intro k c0 r hm0;unfold w9y at hm0;refine b1i hf rfl (b0a (b0e _) (b0a (.fp _ _ (b0a (b0c fun a _ => b8h a) b0j)) b0j)) (b0e _) ?_;refine b1c (fun t h => t 0 = I k /\ t 1 = .fp [.fs 1 (List.map eB c0)] 0) ⟨rfl, rfl⟩ fun t h ⟨s0, s1⟩ => ?_;simp only [x_faults_RefuteD1];apply b0b;intro K hK;simp only [go_sem];apply hK;obtain ⟨x2, h_x2, hm0⟩ := b0g hm0;have h_x20 := b05 h_x2;have h_x21 := b06 h_x2;apply b0b;intro K hK;simp only [go_sem, s0, s1, b08 h_x2];apply hK;simp only [b0x, b0y];obtain rfl := sI9 hm0;exact b04 vb9 (b0e _)
theorem u3k (hf : Has O "newel/faults.accident" x_faults_accident) (d3h : d0k O) (c3p : c5t O) (s84 : u1j O) : u2l O := by
 intro a r hm0;unfold u0h at hm0;refine b1i hf rfl (b0a (fA _) b0j) (b0e _) ?_;refine b1c (fun t h => t 0 = .agg (vA a)) rfl fun t h s0 => ?_;simp only [x_faults_accident];apply b0b;intro K hK;simp only [go_sem, s0];apply hK;refine b0v ?_;obtain ⟨y2, h_y2, hm0⟩ := b0g hm0;apply b0b;intro K hK;simp only [go_sem];refine b01 (d3h a.Machine _ h_y2) ?_;simp only [go_sem];apply hK;refine b0v ?_;apply b0b;intro K hK;simp only [go_sem];apply hK;refine b0i fun K3 hK3 => ?_;simp only [go_sem];refine b0k (fun hc4 => ?_) (fun hc4 => ?_)
 ·rw [b0r hc4] at hm0;apply b0b;intro K hK;simp only [go_sem];apply hK;simp only [b0x, b1p, b0y];obtain rfl := sI9 hm0;exact b04 vb9 (b0e _)
 ·rw [b0q hc4] at hm0;simp only [b0s, b0f];refine hK3 _ _ ?_;refine b0v ?_;obtain ⟨y6, h_y6, hm0⟩ := b0g hm0;apply b0b;intro K hK;simp only [go_sem];refine b01 (c3p a.Machine a.Assume _ h_y6) ?_;simp only [go_sem];apply hK;refine b0i fun K7 hK7 => ?_;simp only [go_sem];refine b0k (fun hc8 => ?_) (fun hc8 => ?_)
  ·rw [b0r hc8] at hm0;apply b0b;intro K hK;simp only [go_sem];apply hK;simp only [b0x, b1p, b0y];obtain rfl := sI9 hm0;exact b04 vb9 (b0e _)
  ·rw [b0q hc8] at hm0;simp only [b0s, b0f];refine hK7 _ _ ?_;refine b0v ?_;apply b0b;intro K hK;simp only [go_sem];apply hK;refine b0i fun K9 hK9 => ?_
   have J10 : ∀ (t : Slots) (h : Heap), t 1 = .fp (vA a) 0 -> u1w a = some r -> K9 t h := by
    intro t h s1 hm0;refine hK9 _ _ ?_;unfold u1w at hm0;refine b0v ?_;apply b0b;intro K hK;simp only [go_sem, s1];refine b01 (s84 a.Ticks 0 40) ?_;simp only [go_sem];apply hK;refine b0i fun K11 hK11 => ?_;simp only [go_sem];refine b0k (fun hc12 => ?_) (fun hc12 => ?_)
    ·rw [b0r hc12] at hm0;apply b0b;intro K hK;simp only [go_sem];apply hK;simp only [b0x, b1p, b0y];obtain rfl := sI9 hm0;exact b04 vb9 (b0e _)
    ·rw [b0q hc12] at hm0;simp only [b0s, b0f];refine hK11 _ _ ?_;refine b0v ?_;apply b0b;intro K hK;simp only [go_sem, s1];apply hK;refine b0i fun K13 hK13 => ?_;simp only [go_sem];refine b0k (fun hc14 => ?_) (fun hc14 => ?_)
     ·rw [b0r hc14] at hm0;apply b0b;intro K hK;simp only [go_sem];apply hK;simp only [b0x, b1p, b0y];obtain rfl := sI9 hm0;exact b04 vb9 (b0e _)
     ·rw [b0q hc14] at hm0;simp only [b0s, b0f];refine hK13 _ _ ?_;refine b0v ?_;apply b0b;intro K hK;simp only [go_sem, s1];apply hK;refine b0i fun K15 hK15 => ?_
      have J16 : ∀ (t : Slots) (h : Heap), u28 = some r -> K15 t h := by
       intro t h hm0;refine hK15 _ _ ?_;unfold u28 at hm0;apply b0b;intro K hK;simp only [go_sem];apply hK;simp only [b0x, b0y];obtain rfl := sI9 hm0;exact b04 vb9 (b0e _)
      simp only [b0u];obtain ⟨b17, hl17, hm0⟩ := b0g hm0;refine b1j hl17 (fun | x_45, t, h => t 1 = .fp (vA a) 0 /\ t 43 = .fs 4 (List.map b26 a.Records) /\ t 44 = I (List.length a.Records : Int) /\ t 45 = I x_45) ?_ ?_
      ·exact ⟨s1, va9, va9, va9⟩
      ·rintro x_45 o t h ⟨s1, s43, s44, s45⟩ hm1 hb17;simp only [u0j] at hm1;rw [u5r];apply b0b;intro K hK;simp only [go_sem, s44, s45];apply hK;refine b0i fun K18 hK18 => ?_;simp only [go_sem];refine b0k (fun hc19 => ?_) (fun hc19 => ?_)
       ·rw [b0r hc19] at hm1;simp only [b0s, b0f];refine hK18 _ _ ?_;refine b0i fun K20 hK20 => ?_;simp only [b0u];obtain ⟨x22, h_x22, hm1⟩ := b0g hm1;have h_x220 := b05 h_x22;have h_x221 := b06 h_x22;apply b0b;intro K hK;simp only [go_sem, s43, s45, b08 h_x22, h_x221];apply hK;refine b2p (fun t h => t 1 = .fp (vA a) 0 /\ t 43 = .fs 4 (List.map b26 a.Records) /\ t 44 = I (List.length a.Records : Int) /\ t 45 = I x_45 /\ t 65 = B (((decide (x22.From < 0)) || (decide (x22.To < x22.From))) || (decide (a.Ticks <= x22.To)))) (fun K hK => ?_) ?_
        ·simp only [go_sem];refine b0k (fun hg23 => ?_) (fun hg23 => ?_)
         ·simp only [go_sem, hg23];exact hK _ _ ⟨s1, s43, s44, s45, (by first | (simp only [go_sem, hg23]; done) | rfl)⟩
         ·simp only [go_sem, hg23];refine b0k (fun hg24 => ?_) (fun hg24 => ?_)
          ·simp only [go_sem, hg23, hg24];exact hK _ _ ⟨s1, s43, s44, s45, (by first | (simp only [go_sem, hg23, hg24]; done) | rfl)⟩
          ·simp only [go_sem, s1, hg23, hg24];exact hK _ _ ⟨s1, s43, s44, s45, (by first | (simp only [go_sem, hg23, hg24]; done) | rfl)⟩
        ·rintro t h ⟨s1, s43, s44, s45, s65⟩;simp only [go_sem, s65];refine b0k (fun hc25 => ?_) (fun hc25 => ?_)
         ·rw [b0r hc25] at hm1;apply b0b;intro K hK;simp only [go_sem];apply hK;simp only [b0x, b1p, b2e, b0y];obtain rfl := sI9 hm1;obtain rfl := hb17 _ rfl
          try dsimp only at hm0
          obtain rfl := sI9 hm0;exact b04 vb9 (b0e _)
         ·rw [b0q hc25] at hm1;simp only [b0s, b02, b0f];refine hK20 _ _ ?_;apply b03;intro K hK;simp only [go_sem, s45];apply hK;simp only [b0f];obtain rfl := sI9 hm1;refine ⟨_, rfl, ?_⟩;exact ⟨s1, s43, s44, va9⟩
       ·rw [b0q hc19] at hm1;simp only [b09, b1b, b1a, b0f];obtain rfl := sI9 hm1;obtain rfl := hb17 _ rfl
        try dsimp only at hm0
        exact J16  _ _  hm0
   simp only [b0u];obtain ⟨b27, hl27, hm0⟩ := b0g hm0;refine b1j hl27 (fun | x_23, t, h => t 1 = .fp (vA a) 0 /\ t 21 = .fs 4 (List.map b26 a.Records) /\ t 22 = I (List.length a.Records : Int) /\ t 23 = I x_23) ?_ ?_
   ·exact ⟨va9, va9, va9, va9⟩
   ·rintro x_23 o t h ⟨s1, s21, s22, s23⟩ hm1 hb27;simp only [u0i] at hm1;rw [u5q];apply b0b;intro K hK;simp only [go_sem, s22, s23];apply hK;refine b0i fun K28 hK28 => ?_;simp only [go_sem];refine b0k (fun hc29 => ?_) (fun hc29 => ?_)
    ·rw [b0r hc29] at hm1;simp only [b0s, b0f];refine hK28 _ _ ?_;refine b0i fun K30 hK30 => ?_;simp only [b0u];obtain ⟨x32, h_x32, hm1⟩ := b0g hm1;have h_x320 := b05 h_x32;have h_x321 := b06 h_x32;apply b0b;intro K hK;simp only [go_sem, s21, s23, b08 h_x32, h_x321];apply hK;obtain ⟨y34, h_y34, hm1⟩ := b0g hm1;apply b0b;intro K hK;simp only [go_sem, s1];refine b01 (c3p a.Machine x32.Cond _ h_y34) ?_;simp only [go_sem];apply hK;simp only [go_sem];refine b0k (fun hc35 => ?_) (fun hc35 => ?_)
     ·rw [b0r hc35] at hm1;apply b0b;intro K hK;simp only [go_sem];apply hK;simp only [b0x, b1p, b2e, b0y];obtain rfl := sI9 hm1;obtain rfl := hb27 _ rfl
      try dsimp only at hm0
      obtain rfl := sI9 hm0;exact b04 vb9 (b0e _)
     ·rw [b0q hc35] at hm1;simp only [b0s, b02, b0f];refine hK30 _ _ ?_;apply b03;intro K hK;simp only [go_sem, s23];apply hK;simp only [b0f];obtain rfl := sI9 hm1;refine ⟨_, rfl, ?_⟩;exact ⟨s1, s21, s22, va9⟩
    ·rw [b0q hc29] at hm1;simp only [b09, b1b, b1a, b0f];obtain rfl := sI9 hm1;obtain rfl := hb27 _ rfl
     try dsimp only at hm0
     exact J10  _ _ s1 hm0
theorem u0q (hf : Has O "newel/faults.both" x_faults_both) (u3k : u2l O) (u3n : u2m O) : u1i O := by
 intro a t_ r hm0;unfold s9j at hm0;refine b1i hf rfl (b0a (fA _) (b0a (.agg _ (b0a (b0e _) (b0a (b0e _) (b0a (b0e _) b0j)))) b0j)) (b0e _) ?_;refine b1c (fun t h => t 0 = .agg (vA a) /\ t 1 = .agg [I t_.Input, I t_.Value, I t_.From]) ⟨rfl, rfl⟩ fun t h ⟨s0, s1⟩ => ?_;simp only [x_faults_both];apply b0b;intro K hK;simp only [go_sem, s0, s1];apply hK;refine b0v ?_;obtain ⟨y2, h_y2, hm0⟩ := b0g hm0;apply b0b;intro K hK;simp only [go_sem];refine b01 (u3k a _ h_y2) ?_;simp only [go_sem];apply hK;refine b0v ?_;apply b0b;intro K hK;simp only [go_sem];apply hK;refine b0i fun K3 hK3 => ?_;simp only [go_sem];refine b0k (fun hc4 => ?_) (fun hc4 => ?_)
 ·rw [b0r hc4] at hm0;apply b0b;intro K hK;simp only [go_sem];apply hK;simp only [b0x, b1p, b0y];obtain rfl := sI9 hm0;exact b04 vb9 (b0e _)
 ·rw [b0q hc4] at hm0;simp only [b0s, b0f];refine hK3 _ _ ?_;refine b0v ?_;apply b0b;intro K hK;simp only [go_sem];refine b01 (u3n a t_) ?_;simp only [go_sem];apply hK;refine b0i fun K5 hK5 => ?_;simp only [go_sem];refine b0k (fun hc6 => ?_) (fun hc6 => ?_)
  ·rw [b0r hc6] at hm0;apply b0b;intro K hK;simp only [go_sem];apply hK;simp only [b0x, b1p, b0y];obtain rfl := sI9 hm0;exact b04 vb9 (b0e _)
  ·rw [b0q hc6] at hm0;simp only [b0s, b0f];refine hK5 _ _ ?_;apply b0b;intro K hK;simp only [go_sem];apply hK;simp only [b0x, b0y];obtain rfl := sI9 hm0;exact b04 vb9 (b0e _)
theorem u3n (hf : Has O "newel/faults.theory" x_faults_theory) (s84 : u1j O) : u2m O := by
 intro a t_;generalize hm0 : u0l a t_ = r;unfold u0l at hm0;refine b1i hf rfl (b0a (fA _) (b0a (.agg _ (b0a (b0e _) (b0a (b0e _) (b0a (b0e _) b0j)))) b0j)) (b0e _) ?_;refine b1c (fun t h => t 0 = .agg (vA a) /\ t 1 = .agg [I t_.Input, I t_.Value, I t_.From]) ⟨rfl, rfl⟩ fun t h ⟨s0, s1⟩ => ?_;simp only [x_faults_theory];apply b0b;intro K hK;simp only [go_sem, s0, s1];apply hK;refine b0v ?_;apply b0b;intro K hK;simp only [go_sem];apply hK;refine b0i fun K1 hK1 => ?_;simp only [go_sem];refine b0k (fun hc2 => ?_) (fun hc2 => ?_)
 ·rw [b0r hc2] at hm0;refine b2p (fun t h => t 4 = B ((decide (t_.Value = 0)) && (decide (t_.From = 0)))) (fun K hK => ?_) ?_
  ·simp only [go_sem];refine b0k (fun hg3 => ?_) (fun hg3 => ?_)
   ·simp only [go_sem, hg3];exact hK _ _ (by first | (simp only [go_sem, hg3]; done) | rfl)
   ·simp only [go_sem, hg3];exact hK _ _ (by first | (simp only [go_sem, hg3]; done) | rfl)
  ·rintro t h s4;simp only [b0x, b1p, b0y];obtain rfl := hm0;exact b04 (by simp only [go_sem, s4]) (b0e _)
 ·rw [b0q hc2] at hm0;simp only [b0s, b0f];refine hK1 _ _ ?_;refine b2p (fun t h => t 4 = B (((c19 t_.Input 0 (wr ((List.length a.Machine.Inputs : Int) - 1))) && (c19 t_.Value 0 1)) && (c19 t_.From 0 (wr (a.Ticks - 1))))) (fun K hK => ?_) ?_
  ·simp only [go_sem];refine b01 (s84 t_.Input 0 (wr ((List.length a.Machine.Inputs : Int) - 1))) ?_;simp only [go_sem];refine b0k (fun hg4 => ?_) (fun hg4 => ?_)
   ·simp only [go_sem, hg4];refine b01 (s84 t_.Value 0 1) ?_;simp only [go_sem, hg4];refine b0k (fun hg5 => ?_) (fun hg5 => ?_)
    ·simp only [go_sem, hg4, hg5];refine b01 (s84 t_.From 0 (wr (a.Ticks - 1))) ?_;simp only [go_sem, hg4, hg5];exact hK _ _ (by first | (simp only [go_sem, hg4, hg5]; done) | rfl)
    ·simp only [go_sem, hg4, hg5];exact hK _ _ (by first | (simp only [go_sem, hg4, hg5]; done) | rfl)
   ·simp only [go_sem, hg4];exact hK _ _ (by first | (simp only [go_sem, hg4]; done) | rfl)
  ·rintro t h s4;simp only [b0x, b0y];obtain rfl := hm0;exact b04 (by simp only [go_sem, s4]) (b0e _)
theorem s84 (hf : Has O "newel/faults.within" x_faults_within) : u1j O := by
 intro n low high;generalize hm0 : c19 n low high = r;unfold c19 at hm0;refine b1i hf rfl (b0a (b0e _) (b0a (b0e _) (b0a (b0e _) b0j))) (b0e _) ?_;refine b1c (fun t h => t 0 = I n /\ t 1 = I low /\ t 2 = I high) ⟨rfl, rfl, rfl⟩ fun t h ⟨s0, s1, s2⟩ => ?_;simp only [x_faults_within];apply b0b;intro K hK;simp only [go_sem];apply hK;refine b2p (fun t h => t 6 = B ((decide (low <= n)) && (decide (n <= high)))) (fun K hK => ?_) ?_
 ·simp only [go_sem, s0, s1];refine b0k (fun hg1 => ?_) (fun hg1 => ?_)
  ·simp only [go_sem, s0, s2, hg1];exact hK _ _ (by first | (simp only [go_sem, hg1]; done) | rfl)
  ·simp only [go_sem, hg1];exact hK _ _ (by first | (simp only [go_sem, hg1]; done) | rfl)
 ·rintro t h s6;simp only [b0x, b0y];obtain rfl := hm0;exact b04 (by simp only [go_sem, s6]) (b0e _)
theorem u3o (hf : Has O "newel/newellaw10.Deep" x_l10_Deep) (u0s : u1k O) : u2n O := by
 intro a r hm0;unfold s9o at hm0;refine b1i hf rfl (b0a (fA _) b0j) (b0e _) ?_;refine b1c (fun t h => t 0 = .agg (vA a)) rfl fun t h s0 => ?_;simp only [x_l10_Deep];apply b0b;intro K hK;simp only [go_sem, s0];apply hK;refine b0v ?_;apply b0b;intro K hK;simp only [go_sem];apply hK;refine b0i fun K1 hK1 => ?_;simp only [go_sem];refine b0k (fun hc2 => ?_) (fun hc2 => ?_)
 ·rw [b0r hc2] at hm0;apply b0b;intro K hK;simp only [go_sem];apply hK;simp only [b0x, b1p, b0y];obtain rfl := sI9 hm0;exact b04 vb9 (b0e _)
 ·rw [b0q hc2] at hm0;simp only [b0s, b0f];refine hK1 _ _ ?_;refine b0v ?_;obtain ⟨y4, h_y4, hm0⟩ := b0g hm0;apply b0b;intro K hK;simp only [go_sem];refine b01 (u0s a _ h_y4) ?_;simp only [go_sem];apply hK;refine b0i fun K5 hK5 => ?_;simp only [go_sem];refine b0k (fun hc6 => ?_) (fun hc6 => ?_)
  ·rw [b0r hc6] at hm0;apply b0b;intro K hK;simp only [go_sem];apply hK;simp only [b0x, b1p, b0y];obtain rfl := sI9 hm0;exact b04 vb9 (b0e _)
  ·rw [b0q hc6] at hm0;simp only [b0s, b0f];refine hK5 _ _ ?_;apply b0b;intro K hK;simp only [go_sem];apply hK;refine b0v ?_;apply b0b;intro K hK;simp only [go_sem];apply hK;refine b0i fun K7 hK7 => ?_
   have J8 : ∀ (places_3 : Int) (t : Slots) (h : Heap), t 1 = .fp (vA a) 0 -> t 3 = I places_3 -> u1y a places_3 = some r -> K7 t h := by
    intro places_3 t h s1 s3 hm0;refine hK7 _ _ ?_;unfold u1y at hm0;refine b2p (fun t h => t 2 = B ((((decide (2 < (List.length a.Machine.Inputs : Int))) || (decide (24 < places_3))) || (decide (6 < a.Ticks))) || (decide (5 < (List.length a.Records : Int))))) (fun K hK => ?_) ?_
    ·simp only [go_sem, s1];refine b0k (fun hg9 => ?_) (fun hg9 => ?_)
     ·simp only [go_sem, hg9];exact hK _ _ (by first | (simp only [go_sem, hg9]; done) | rfl)
     ·simp only [go_sem, s3, hg9];refine b0k (fun hg10 => ?_) (fun hg10 => ?_)
      ·simp only [go_sem, hg9, hg10];exact hK _ _ (by first | (simp only [go_sem, hg9, hg10]; done) | rfl)
      ·simp only [go_sem, s1, hg9, hg10];refine b0k (fun hg11 => ?_) (fun hg11 => ?_)
       ·simp only [go_sem, hg9, hg10, hg11];exact hK _ _ (by first | (simp only [go_sem, hg9, hg10, hg11]; done) | rfl)
       ·simp only [go_sem, s1, hg9, hg10, hg11];exact hK _ _ (by first | (simp only [go_sem, hg9, hg10, hg11]; done) | rfl)
    ·rintro t h s2;simp only [b0x, b0y];obtain rfl := sI9 hm0;exact b04 (by simp only [go_sem, s2]) (b0e _)
   simp only [b0u];obtain ⟨b12, hl12, hm0⟩ := b0g hm0;refine b1j hl12 (fun | (places_3, i_4), t, h => t 1 = .fp (vA a) 0 /\ t 3 = I places_3 /\ t 4 = I i_4) ?_ ?_
   ·exact ⟨va9, va9, va9⟩
   ·rintro ⟨places_3, i_4⟩ o t h ⟨s1, s3, s4⟩ hm1 hb12;simp only [u0v] at hm1;rw [u5w];refine b0v ?_;apply b0b;intro K hK;simp only [go_sem, s1, s4];apply hK;refine b0i fun K13 hK13 => ?_;simp only [go_sem];refine b0k (fun hc14 => ?_) (fun hc14 => ?_)
    ·rw [b0r hc14] at hm1;simp only [b0s, b0f];refine hK13 _ _ ?_;refine b0i fun K15 hK15 => ?_;simp only [b0u];obtain ⟨x17, h_x17, hm1⟩ := b0g hm1;have h_x170 := b05 h_x17;have h_x171 := b06 h_x17;apply b03;intro K hK;simp only [go_sem, s1, s3, s4, b08 h_x17, h_x171];apply hK;simp only [b02, b0f];refine hK15 _ _ ?_;apply b03;intro K hK;simp only [go_sem, s4];apply hK;simp only [b0f];obtain rfl := sI9 hm1;refine ⟨_, rfl, ?_⟩;exact ⟨s1, va9, va9⟩
    ·rw [b0q hc14] at hm1;simp only [b09, b1b, b1a, b0f];obtain rfl := sI9 hm1;obtain rfl := hb12 _ rfl
     try dsimp only at hm0
     exact J8 places_3 _ _ s1 s3 hm0
theorem x1c (hf : Has O "newel/newellaw10.FaultsRefutes" x_l10_FaultsRefutes) (u3o : u2n O) (k_l10_works : u4h O) (u3q : u2p O) (x0i : x0b O) (x0m : x0e O) (u3p : u2o O) : x0o O := by
 intro a t_ r hm0;unfold w96 at hm0;refine b1i hf rfl (b0a (fA _) (b0a (.agg _ (b0a (b0e _) (b0a (b0e _) (b0a (b0e _) b0j)))) b0j)) (b0e _) ?_;refine b1c (fun t h => t 0 = .agg (vA a) /\ t 1 = .agg [I t_.Input, I t_.Value, I t_.From]) ⟨rfl, rfl⟩ fun t h ⟨s0, s1⟩ => ?_;simp only [x_l10_FaultsRefutes];apply b0b;intro K hK;simp only [go_sem, s0, s1];apply hK;refine b0v ?_;obtain ⟨y2, h_y2, hm0⟩ := b0g hm0;apply b0b;intro K hK;simp only [go_sem];refine b01 (u3o a _ h_y2) ?_;simp only [go_sem];apply hK;refine b0i fun K3 hK3 => ?_;simp only [go_sem];refine b0k (fun hc4 => ?_) (fun hc4 => ?_)
 ·rw [b0r hc4] at hm0;obtain ⟨y6, h_y6, hm0⟩ := b0g hm0;apply b0b;intro K hK;simp only [go_sem];refine b01 (k_l10_works  _ h_y6) ?_;simp only [go_sem];apply hK;simp only [b0x, b1p, b0y];obtain rfl := sI9 hm0;exact b04 vb9 (b0e _)
 ·rw [b0q hc4] at hm0;simp only [b0s, b0f];refine hK3 _ _ ?_;obtain ⟨y9, h_y9, hm0⟩ := b0g hm0;obtain ⟨y10, h_y10, hm0⟩ := b0g hm0;apply b0b;intro K hK;simp only [go_sem];refine b01 (u3q a _ h_y9) ?_;simp only [go_sem];refine b01 (x0i y9 t_ _ h_y10) ?_;simp only [go_sem];apply hK;obtain ⟨y12, h_y12, hm0⟩ := b0g hm0;apply b0b;intro K hK;simp only [go_sem];refine b01 (x0m a t_ _ h_y12) ?_;simp only [go_sem];apply hK;obtain ⟨y16, h_y16, hm0⟩ := b0g hm0;obtain ⟨c18, h_c18, hm0⟩ := b0g hm0;refine b2p (fun t h => t 4 = B c18) (fun K hK => ?_) ?_
  ·simp only [go_sem];refine b01 (u3p y10.1 y12.1 _ h_y16) ?_;simp only [go_sem];refine b0k (fun hg19 => ?_) (fun hg19 => ?_)
   ·simp only [go_sem, hg19];refine b0k (fun hg20 => ?_) (fun hg20 => ?_)
    ·simp only [hg19, hg20, eq_self, if_true, Bool.and_true] at h_c18;obtain ⟨y17, h_y17, h_c18⟩ := b0g h_c18;obtain rfl := sI9 h_c18;simp only [go_sem, hg19, hg20];refine b01 (k_l10_works  _ h_y17) ?_;simp only [go_sem, hg19, hg20];exact hK _ _ va9
    ·simp only [hg19, hg20, if_false, Bool.and_false, fT9] at h_c18;obtain rfl := sI9 h_c18;simp only [go_sem, hg19, hg20];exact hK _ _ va9
   ·simp only [hg19, if_false, Bool.false_and, fT9] at h_c18;obtain rfl := sI9 h_c18;simp only [go_sem, hg19];exact hK _ _ va9
  ·rintro t h s4;simp only [b0x, b0y];obtain rfl := sI9 hm0;exact b04 (by simp only [go_sem, s4]) (b0e _)
theorem u3p (hf : Has O "newel/newellaw10.sameInts" x_l10_sameInts) : u2o O := by
 intro a b r hm0;unfold u0x at hm0;refine b1i hf rfl (b0a (b0c fun a _ => b1t a) (b0a (b0c fun a _ => b1t a) b0j)) (b0e _) ?_;refine b1c (fun t h => t 0 = .fs 1 (List.map eI a) /\ t 1 = .fs 1 (List.map eI b)) ⟨rfl, rfl⟩ fun t h ⟨s0, s1⟩ => ?_;simp only [x_l10_sameInts];apply b0b;intro K hK;simp only [go_sem];apply hK;refine b0v ?_;apply b0b;intro K hK;simp only [go_sem, s0, s1];apply hK;refine b0i fun K1 hK1 => ?_;simp only [go_sem];refine b0k (fun hc2 => ?_) (fun hc2 => ?_)
 ·rw [b0r hc2] at hm0;apply b0b;intro K hK;simp only [go_sem];apply hK;simp only [b0x, b1p, b0y];obtain rfl := sI9 hm0;exact b04 vb9 (b0e _)
 ·rw [b0q hc2] at hm0;simp only [b0s, b0f];refine hK1 _ _ ?_;refine b0v ?_;apply b0b;intro K hK;simp only [go_sem];apply hK;refine b0i fun K3 hK3 => ?_
  have J4 : ∀ (t : Slots) (h : Heap), u1z = some r -> K3 t h := by
   intro t h hm0;refine hK3 _ _ ?_;unfold u1z at hm0;apply b0b;intro K hK;simp only [go_sem];apply hK;simp only [b0x, b0y];obtain rfl := sI9 hm0;exact b04 vb9 (b0e _)
  simp only [b0u];obtain ⟨b5, hl5, hm0⟩ := b0g hm0;refine b1j hl5 (fun | i_5, t, h => t 0 = .fs 1 (List.map eI a) /\ t 1 = .fs 1 (List.map eI b) /\ t 5 = I i_5) ?_ ?_
  ·exact ⟨s0, s1, va9⟩
  ·rintro i_5 o t h ⟨s0, s1, s5⟩ hm1 hb5;simp only [u0y] at hm1;rw [u5x];refine b0v ?_;apply b0b;intro K hK;simp only [go_sem, s0, s5];apply hK;refine b0i fun K6 hK6 => ?_;simp only [go_sem];refine b0k (fun hc7 => ?_) (fun hc7 => ?_)
   ·rw [b0r hc7] at hm1;simp only [b0s, b0f];refine hK6 _ _ ?_;refine b0i fun K8 hK8 => ?_;simp only [b0u];obtain ⟨x11, h_x11, hm1⟩ := b0g hm1;have h_x110 := b05 h_x11;have h_x111 := b06 h_x11;obtain ⟨x12, h_x12, hm1⟩ := b0g hm1;have h_x120 := b05 h_x12;have h_x121 := b06 h_x12;apply b0b;intro K hK;simp only [go_sem, s0, s1, s5, b08 h_x11, h_x111, b08 h_x12];apply hK;simp only [go_sem];refine b0k (fun hc13 => ?_) (fun hc13 => ?_)
    ·rw [b0r hc13] at hm1;apply b0b;intro K hK;simp only [go_sem];apply hK;simp only [b0x, b1p, b2e, b0y];obtain rfl := sI9 hm1;obtain rfl := hb5 _ rfl
     try dsimp only at hm0
     obtain rfl := sI9 hm0;exact b04 vb9 (b0e _)
    ·rw [b0q hc13] at hm1;simp only [b0s, b02, b0f];refine hK8 _ _ ?_;apply b03;intro K hK;simp only [go_sem, s5];apply hK;simp only [b0f];obtain rfl := sI9 hm1;refine ⟨_, rfl, ?_⟩;exact ⟨s0, s1, va9⟩
   ·rw [b0q hc7] at hm1;simp only [b09, b1b, b1a, b0f];obtain rfl := sI9 hm1;obtain rfl := hb5 _ rfl
    try dsimp only at hm0
    exact J4  _ _  hm0
theorem c3h (hf : Has O "newel/newelref04.Allows" x_r04_Allows) (s3y : b9a O) : c5j O := by
 intro m p input assume r hm0;unfold c0t at hm0;refine b1i hf rfl (b0a (fM _) (b0a (.agg _ (b0a (b0e _) (b0a (b0e _) (b0a (b0e _) b0j)))) (b0a (b0e _) (b0a (b0c fun a _ => b2j a) b0j)))) (b0e _) ?_;refine b1c (fun t h => t 0 = .agg (vM m) /\ t 1 = .agg [I p.State, I p.Values.1, I p.Values.2] /\ t 2 = I input /\ t 3 = .fs 1 (List.map b0t assume)) ⟨rfl, rfl, rfl, rfl⟩ fun t h ⟨s0, s1, s2, s3⟩ => ?_;simp only [x_r04_Allows];apply b0b;intro K hK;simp only [go_sem, s0, s1];apply hK;obtain ⟨c4, h_c4, hm0⟩ := b0g hm0;refine b2p (fun t h => t 8 = B c4) (fun K hK => ?_) ?_
 ·simp only [go_sem, s3];refine b0k (fun hg5 => ?_) (fun hg5 => ?_)
  ·simp only [hg5, eq_self, if_true] at h_c4;obtain rfl := sI9 h_c4;simp only [go_sem, hg5];exact hK _ _ va9
  ·simp only [hg5, if_false, fT9] at h_c4;obtain ⟨y3, h_y3, h_c4⟩ := b0g h_c4;obtain rfl := sI9 h_c4;simp only [go_sem, s2, s3, hg5];refine b01 (s3y m p input assume _ h_y3) ?_;simp only [go_sem, hg5];exact hK _ _ va9
 ·rintro t h s8;simp only [b0x, b0y];obtain rfl := sI9 hm0;exact b04 (by simp only [go_sem, s8]) (b0e _)
theorem c3i (hf : Has O "newel/newelref04.Check" x_r04_Check) (b4p : c5r O) (d3f : d0i O) (d3d : d0g O) (c3m : c5p O) : c5k O := by
 intro m r hm0;unfold c0u at hm0;refine b1i hf rfl (b0a (fM _) b0j) (b0e _) ?_;refine b1c (fun t h => t 0 = .agg (vM m)) rfl fun t h s0 => ?_;simp only [x_r04_Check];apply b0b;intro K hK;simp only [go_sem, s0];apply hK;refine b0v ?_;refine b2p (fun t h => t 1 = .fp (vM m) 0 /\ t 39 = B (((((decide (4 < (List.length m.Inputs : Int))) || (decide (6 < (List.length m.Outputs : Int)))) || (decide (2 < (List.length m.Counters : Int)))) || (!(b2b (List.length m.States : Int) 1 12))) || (decide (40 < (List.length m.Rules : Int))))) (fun K hK => ?_) ?_
 ·simp only [go_sem];refine b0k (fun hg1 => ?_) (fun hg1 => ?_)
  ·simp only [go_sem, hg1];exact hK _ _ ⟨va9, (by first | (simp only [go_sem, hg1]; done) | rfl)⟩
  ·simp only [go_sem, hg1];refine b0k (fun hg2 => ?_) (fun hg2 => ?_)
   ·simp only [go_sem, hg1, hg2];exact hK _ _ ⟨va9, (by first | (simp only [go_sem, hg1, hg2]; done) | rfl)⟩
   ·simp only [go_sem, hg1, hg2];refine b0k (fun hg3 => ?_) (fun hg3 => ?_)
    ·simp only [go_sem, hg1, hg2, hg3];exact hK _ _ ⟨va9, (by first | (simp only [go_sem, hg1, hg2, hg3]; done) | rfl)⟩
    ·simp only [go_sem, hg1, hg2, hg3];refine b01 (b4p (List.length m.States : Int) 1 12) ?_;simp only [go_sem, hg1, hg2, hg3];refine b0k (fun hg4 => ?_) (fun hg4 => ?_)
     ·simp only [go_sem, hg1, hg2, hg3, hg4];exact hK _ _ ⟨va9, (by first | (simp only [go_sem, hg1, hg2, hg3, hg4]; done) | rfl)⟩
     ·simp only [go_sem, hg1, hg2, hg3, hg4];exact hK _ _ ⟨va9, (by first | (simp only [go_sem, hg1, hg2, hg3, hg4]; done) | rfl)⟩
 ·rintro t h ⟨s1, s39⟩;refine b0i fun K5 hK5 => ?_;simp only [go_sem, s39];refine b0k (fun hc6 => ?_) (fun hc6 => ?_)
  ·rw [b0r hc6] at hm0;apply b0b;intro K hK;simp only [go_sem];apply hK;simp only [b0x, b1p, b0y];obtain rfl := sI9 hm0;exact b04 vb9 (b0e _)
  ·rw [b0q hc6] at hm0;simp only [b0s, b0f];refine hK5 _ _ ?_;obtain ⟨y8, h_y8, hm0⟩ := b0g hm0;apply b0b;intro K hK;simp only [go_sem, s1];refine b01 (d3f m _ h_y8) ?_;simp only [go_sem];apply hK;refine b0v ?_;apply b0b;intro K hK;simp only [go_sem];apply hK;refine b0i fun K9 hK9 => ?_
   have J10 : ∀ (t : Slots) (h : Heap), t 1 = .fp (vM m) 0 -> c77 m = some r -> K9 t h := by
    intro t h s1 hm0;refine hK9 _ _ ?_;unfold c77 at hm0;refine b0v ?_;apply b0b;intro K hK;simp only [go_sem];apply hK;refine b0i fun K11 hK11 => ?_
    have J12 : ∀ (t : Slots) (h : Heap), t 1 = .fp (vM m) 0 -> c78 m = some r -> K11 t h := by
     intro t h s1 hm0;refine hK11 _ _ ?_;unfold c78 at hm0;refine b0v ?_;apply b0b;intro K hK;simp only [go_sem];apply hK;refine b0i fun K13 hK13 => ?_
     have J14 : ∀ (t : Slots) (h : Heap), t 1 = .fp (vM m) 0 -> c79 m = some r -> K13 t h := by
      intro t h s1 hm0;refine hK13 _ _ ?_;unfold c79 at hm0;refine b0v ?_;apply b0b;intro K hK;simp only [go_sem];apply hK;refine b0i fun K15 hK15 => ?_
      have J16 : ∀ (t : Slots) (h : Heap), d4p = some r -> K15 t h := by
       intro t h hm0;refine hK15 _ _ ?_;unfold d4p at hm0;apply b0b;intro K hK;simp only [go_sem];apply hK;simp only [b0x, b0y];obtain rfl := sI9 hm0;exact b04 vb9 (b0e _)
      simp only [b0u];obtain ⟨b17, hl17, hm0⟩ := b0g hm0;refine b1j hl17 (fun | i_8, t, h => t 1 = .fp (vM m) 0 /\ t 8 = I i_8) ?_ ?_
      ·exact ⟨s1, va9⟩
      ·rintro i_8 o t h ⟨s1, s8⟩ hm1 hb17;simp only [b8v] at hm1;rw [g4k];refine b0v ?_;apply b0b;intro K hK;simp only [go_sem, s1, s8];apply hK;refine b0i fun K18 hK18 => ?_;simp only [go_sem];refine b0k (fun hc19 => ?_) (fun hc19 => ?_)
       ·rw [b0r hc19] at hm1;simp only [b0s, b0f];refine hK18 _ _ ?_;refine b0i fun K20 hK20 => ?_
        have J21 : ∀ (t : Slots) (h : Heap), t 1 = .fp (vM m) 0 -> t 8 = I i_8 -> c8a i_8 = some o -> K20 t h := by
         intro t h s1 s8 hm1;refine hK20 _ _ ?_;unfold c8a at hm1;apply b03;intro K hK;simp only [go_sem, s8];apply hK;simp only [b0f];obtain rfl := sI9 hm1;refine ⟨_, rfl, ?_⟩;exact ⟨s1, va9⟩
        simp only [b0u];obtain ⟨x23, h_x23, hm1⟩ := b0g hm1;have h_x230 := b05 h_x23;have h_x231 := b06 h_x23;apply b0b;intro K hK;simp only [go_sem, s1, s8, b08 h_x23, h_x231];apply hK;refine b0v ?_;obtain ⟨c27, h_c27, hm1⟩ := b0g hm1;refine b2p (fun t h => ∃ i9 : Nat, t 1 = .fp (vM m) 0 /\ t 8 = I i_8 /\ t 9 = .rp i9 0 0 /\ t 154 = B (c27 || (decide (4 < (List.length x23.Sets : Int)))) /\ h.ob i9 = some (4, [[I x23.From, I x23.To, .fs 1 (List.map b0t x23.When), .fs 2 (List.map b2o x23.Sets)]]) /\ i9 < h.nx) (fun K hK => ?_) ?_
        ·simp only [go_sem, s1];refine b01 (b4p x23.From (-1) (wr ((List.length m.States : Int) - 1))) ?_;simp only [go_sem];refine b0k (fun hg28 => ?_) (fun hg28 => ?_)
         ·simp only [hg28, eq_self, if_true, Bool.true_or] at h_c27;obtain rfl := sI9 h_c27;simp only [go_sem, hg28];exact hK _ _ ⟨h.nx, s1, s8, va9, va9, vb9, vb9⟩
         ·simp only [go_sem, s1, hg28];refine b01 (b4p x23.To 0 (wr ((List.length m.States : Int) - 1))) ?_;simp only [go_sem, hg28];refine b0k (fun hg29 => ?_) (fun hg29 => ?_)
          ·simp only [hg28, hg29, eq_self, if_true, Bool.or_true] at h_c27;obtain rfl := sI9 h_c27;simp only [go_sem, hg28, hg29];exact hK _ _ ⟨h.nx, s1, s8, va9, va9, vb9, vb9⟩
          ·simp only [hg28, hg29, if_false, Bool.or_false, fT9] at h_c27;obtain ⟨y26, h_y26, h_c27⟩ := b0g h_c27;obtain rfl := sI9 h_c27;simp only [go_sem, s1, hg28, hg29];refine b01 (c3m m x23.When false _ h_y26) ?_;simp only [go_sem, hg28, hg29];refine b0k (fun hg30 => ?_) (fun hg30 => ?_)
           ·simp only [go_sem, hg28, hg29, hg30];exact hK _ _ ⟨h.nx, s1, s8, va9, (by first | (simp only [go_sem, hg30]; done) | rfl), vb9, vb9⟩
           ·simp only [go_sem, hg28, hg29, hg30];exact hK _ _ ⟨h.nx, s1, s8, va9, (by first | (simp only [go_sem, hg30]; done) | rfl), vb9, vb9⟩
        ·rintro t h ⟨i9, s1, s8, s9, s154, Q2, Q6⟩;refine b0i fun K31 hK31 => ?_;simp only [go_sem, s154];refine b0k (fun hc32 => ?_) (fun hc32 => ?_)
         ·rw [b0r hc32] at hm1;apply b0b;intro K hK;simp only [go_sem];apply hK;simp only [b0x, b1p, b2e, b0y];obtain rfl := sI9 hm1;obtain rfl := hb17 _ rfl
          try dsimp only at hm0
          obtain rfl := sI9 hm0;exact b04 vb9 (b0e _)
         ·rw [b0q hc32] at hm1;simp only [b0s, b0f];refine hK31 _ _ ?_;apply b0b;intro K hK;simp only [go_sem];apply hK;simp only [b0u];obtain ⟨b33, hl33, hm1⟩ := b0g hm1;refine b1j hl33 (fun | k_10, t, h => t 1 = .fp (vM m) 0 /\ t 8 = I i_8 /\ t 9 = .rp i9 0 0 /\ t 10 = I k_10 /\ h.ob i9 = some (4, [[I x23.From, I x23.To, .fs 1 (List.map b0t x23.When), .fs 2 (List.map b2o x23.Sets)]]) /\ i9 < h.nx) ?_ ?_
          ·exact ⟨s1, s8, s9, va9, Q2, Q6⟩
          ·rintro k_10 o t h ⟨s1, s8, s9, s10, Q2, Q6⟩ hm2 hb33;simp only [c39] at hm2;rw [g4j];refine b0v ?_;apply b0b;intro K hK;simp only [go_sem, s9, s10, Q2];apply hK;refine b0i fun K34 hK34 => ?_;simp only [go_sem];refine b0k (fun hc35 => ?_) (fun hc35 => ?_)
           ·rw [b0r hc35] at hm2;simp only [b0s, b0f];refine hK34 _ _ ?_;refine b0i fun K36 hK36 => ?_;simp only [b0u];obtain ⟨x38, h_x38, hm2⟩ := b0g hm2;have h_x380 := b05 h_x38;have h_x381 := b06 h_x38;refine b2p (fun t h => t 1 = .fp (vM m) 0 /\ t 8 = I i_8 /\ t 9 = .rp i9 0 0 /\ t 10 = I k_10 /\ t 183 = B ((!(b2b x38.Kind 1 3)) || (!(b2b x38.Counter 0 (wr ((List.length m.Counters : Int) - 1))))) /\ h.ob i9 = some (4, [[I x23.From, I x23.To, .fs 1 (List.map b0t x23.When), .fs 2 (List.map b2o x23.Sets)]]) /\ i9 < h.nx) (fun K hK => ?_) ?_
            ·simp only [go_sem, s9, s10, Q2, b08 h_x38, h_x381];refine b01 (b4p x38.Kind 1 3) ?_;simp only [go_sem];refine b0k (fun hg39 => ?_) (fun hg39 => ?_)
             ·simp only [go_sem, hg39];exact hK _ _ ⟨s1, s8, s9, s10, (by first | (simp only [go_sem, hg39]; done) | rfl), Q2, Q6⟩
             ·simp only [go_sem, s1, s9, s10, Q2, b08 h_x38, hg39];refine b01 (b4p x38.Counter 0 (wr ((List.length m.Counters : Int) - 1))) ?_;simp only [go_sem, hg39];exact hK _ _ ⟨s1, s8, s9, s10, (by first | (simp only [go_sem, hg39]; done) | rfl), Q2, Q6⟩
            ·rintro t h ⟨s1, s8, s9, s10, s183, Q2, Q6⟩;simp only [go_sem, s183];refine b0k (fun hc40 => ?_) (fun hc40 => ?_)
             ·rw [b0r hc40] at hm2;apply b0b;intro K hK;simp only [go_sem];apply hK;simp only [b0x, b1p, b2e, b0y];obtain rfl := sI9 hm2;obtain rfl := hb33 _ rfl
              try dsimp only at hm1
              obtain rfl := sI9 hm1;obtain rfl := hb17 _ rfl
              try dsimp only at hm0
              obtain rfl := sI9 hm0;exact b04 vb9 (b0e _)
             ·rw [b0q hc40] at hm2;simp only [b0s, b02, b0f];refine hK36 _ _ ?_;apply b03;intro K hK;simp only [go_sem, s10];apply hK;simp only [b0f];obtain rfl := sI9 hm2;refine ⟨_, rfl, ?_⟩;exact ⟨s1, s8, s9, va9, Q2, Q6⟩
           ·rw [b0q hc35] at hm2;simp only [b09, b1b, b1a, b02, b0f];obtain rfl := sI9 hm2;obtain rfl := hb33 _ rfl
            try dsimp only at hm1
            exact J21  _ _ s1 s8 hm1
       ·rw [b0q hc19] at hm1;simp only [b09, b1b, b1a, b0f];obtain rfl := sI9 hm1;obtain rfl := hb17 _ rfl
        try dsimp only at hm0
        exact J16  _ _  hm0
     simp only [b0u];obtain ⟨b43, hl43, hm0⟩ := b0g hm0;refine b1j hl43 (fun | i_7, t, h => t 1 = .fp (vM m) 0 /\ t 7 = I i_7) ?_ ?_
     ·exact ⟨s1, va9⟩
     ·rintro i_7 o t h ⟨s1, s7⟩ hm1 hb43;simp only [r8g] at hm1;rw [g4i];refine b0v ?_;apply b0b;intro K hK;simp only [go_sem, s1, s7];apply hK;refine b0i fun K44 hK44 => ?_;simp only [go_sem];refine b0k (fun hc45 => ?_) (fun hc45 => ?_)
      ·rw [b0r hc45] at hm1;simp only [b0s, b0f];refine hK44 _ _ ?_;refine b0i fun K46 hK46 => ?_;simp only [b0u];obtain ⟨x49, h_x49, hm1⟩ := b0g hm1;have h_x490 := b05 h_x49;have h_x491 := b06 h_x49;obtain ⟨q50, h_q50, hm1⟩ := b0g hm1;apply b0b;intro K hK;simp only [go_sem, s1, s7, b08 h_x49, h_x491, c23 h_q50];refine b01 (b4p x49.Shows 0 (wr (q50 - 1))) ?_;simp only [go_sem];apply hK;simp only [go_sem];refine b0k (fun hc51 => ?_) (fun hc51 => ?_)
       ·rw [b0r hc51] at hm1;apply b0b;intro K hK;simp only [go_sem];apply hK;simp only [b0x, b1p, b2e, b0y];obtain rfl := sI9 hm1;obtain rfl := hb43 _ rfl
        try dsimp only at hm0
        obtain rfl := sI9 hm0;exact b04 vb9 (b0e _)
       ·rw [b0q hc51] at hm1;simp only [b0s, b02, b0f];refine hK46 _ _ ?_;apply b03;intro K hK;simp only [go_sem, s7];apply hK;simp only [b0f];obtain rfl := sI9 hm1;refine ⟨_, rfl, ?_⟩;exact ⟨s1, va9⟩
      ·rw [b0q hc45] at hm1;simp only [b09, b1b, b1a, b0f];obtain rfl := sI9 hm1;obtain rfl := hb43 _ rfl
       try dsimp only at hm0
       exact J14  _ _ s1 hm0
    simp only [b0u];obtain ⟨b53, hl53, hm0⟩ := b0g hm0;refine b1j hl53 (fun | i_6, t, h => t 1 = .fp (vM m) 0 /\ t 6 = I i_6) ?_ ?_
    ·exact ⟨s1, va9⟩
    ·rintro i_6 o t h ⟨s1, s6⟩ hm1 hb53;simp only [p6x] at hm1;rw [g4h];refine b0v ?_;apply b0b;intro K hK;simp only [go_sem, s1, s6];apply hK;refine b0i fun K54 hK54 => ?_;simp only [go_sem];refine b0k (fun hc55 => ?_) (fun hc55 => ?_)
     ·rw [b0r hc55] at hm1;simp only [b0s, b0f];refine hK54 _ _ ?_;refine b0i fun K56 hK56 => ?_;simp only [b0u];obtain ⟨x58, h_x58, hm1⟩ := b0g hm1;have h_x580 := b05 h_x58;have h_x581 := b06 h_x58;apply b0b;intro K hK;simp only [go_sem, s1, s6, b08 h_x58, h_x581];refine b01 (b4p x58.Max 1 7) ?_;simp only [go_sem];apply hK;simp only [go_sem];refine b0k (fun hc59 => ?_) (fun hc59 => ?_)
      ·rw [b0r hc59] at hm1;apply b0b;intro K hK;simp only [go_sem];apply hK;simp only [b0x, b1p, b2e, b0y];obtain rfl := sI9 hm1;obtain rfl := hb53 _ rfl
       try dsimp only at hm0
       obtain rfl := sI9 hm0;exact b04 vb9 (b0e _)
      ·rw [b0q hc59] at hm1;simp only [b0s, b02, b0f];refine hK56 _ _ ?_;apply b03;intro K hK;simp only [go_sem, s6];apply hK;simp only [b0f];obtain rfl := sI9 hm1;refine ⟨_, rfl, ?_⟩;exact ⟨s1, va9⟩
     ·rw [b0q hc55] at hm1;simp only [b09, b1b, b1a, b0f];obtain rfl := sI9 hm1;obtain rfl := hb53 _ rfl
      try dsimp only at hm0
      exact J12  _ _ s1 hm0
   simp only [b0u];obtain ⟨b61, hl61, hm0⟩ := b0g hm0;refine b1j hl61 (fun | i_4, t, h => t 1 = .fp (vM m) 0 /\ t 3 = .fs 1 (List.map eS y8) /\ t 4 = I i_4) ?_ ?_
   ·exact ⟨s1, va9, va9⟩
   ·rintro i_4 o t h ⟨s1, s3, s4⟩ hm1 hb61;simp only [b7n] at hm1;rw [g4g];refine b0v ?_;apply b0b;intro K hK;simp only [go_sem, s3, s4];apply hK;refine b0i fun K62 hK62 => ?_;simp only [go_sem];refine b0k (fun hc63 => ?_) (fun hc63 => ?_)
    ·rw [b0r hc63] at hm1;simp only [b0s, b0f];refine hK62 _ _ ?_;refine b0i fun K64 hK64 => ?_
     have J65 : ∀ (t : Slots) (h : Heap), t 1 = .fp (vM m) 0 -> t 3 = .fs 1 (List.map eS y8) -> t 4 = I i_4 -> c8b i_4 = some o -> K64 t h := by
      intro t h s1 s3 s4 hm1;refine hK64 _ _ ?_;unfold c8b at hm1;apply b03;intro K hK;simp only [go_sem, s4];apply hK;simp only [b0f];obtain rfl := sI9 hm1;refine ⟨_, rfl, ?_⟩;exact ⟨s1, s3, va9⟩
     simp only [b0u];refine b0v ?_;obtain ⟨x69, h_x69, hm1⟩ := b0g hm1;have h_x690 := b05 h_x69;have h_x691 := b06 h_x69;obtain ⟨c71, h_c71, hm1⟩ := b0g hm1;refine b2p (fun t h => t 1 = .fp (vM m) 0 /\ t 3 = .fs 1 (List.map eS y8) /\ t 4 = I i_4 /\ t 61 = B c71) (fun K hK => ?_) ?_
     ·simp only [go_sem, s3, s4, b08 h_x69, h_x691];refine b0k (fun hg72 => ?_) (fun hg72 => ?_)
      ·simp only [hg72, eq_self, if_true] at h_c71;obtain rfl := sI9 h_c71;simp only [go_sem, hg72];exact hK _ _ ⟨s1, s3, s4, va9⟩
      ·simp only [hg72, if_false, fT9] at h_c71;obtain ⟨y70, h_y70, h_c71⟩ := b0g h_c71;obtain rfl := sI9 h_c71;simp only [go_sem, s3, s4, b08 h_x69, hg72];refine b01 (d3d x69 _ h_y70) ?_;simp only [go_sem, hg72];exact hK _ _ ⟨s1, s3, s4, va9⟩
     ·rintro t h ⟨s1, s3, s4, s61⟩;refine b0i fun K73 hK73 => ?_;simp only [go_sem, s61];refine b0k (fun hc74 => ?_) (fun hc74 => ?_)
      ·rw [b0r hc74] at hm1;apply b0b;intro K hK;simp only [go_sem];apply hK;simp only [b0x, b1p, b2e, b0y];obtain rfl := sI9 hm1;obtain rfl := hb61 _ rfl
       try dsimp only at hm0
       obtain rfl := sI9 hm0;exact b04 vb9 (b0e _)
      ·rw [b0q hc74] at hm1;simp only [b0s, b0f];refine hK73 _ _ ?_;apply b0b;intro K hK;simp only [go_sem];apply hK;simp only [b0u];obtain ⟨b75, hl75, hm1⟩ := b0g hm1;refine b1j hl75 (fun | k_5, t, h => t 1 = .fp (vM m) 0 /\ t 3 = .fs 1 (List.map eS y8) /\ t 4 = I i_4 /\ t 5 = I k_5) ?_ ?_
       ·exact ⟨s1, s3, s4, va9⟩
       ·rintro k_5 o t h ⟨s1, s3, s4, s5⟩ hm2 hb75;simp only [b8u] at hm2;rw [g4f];refine b0v ?_;apply b0b;intro K hK;simp only [go_sem, s4, s5];apply hK;refine b0i fun K76 hK76 => ?_;simp only [go_sem];refine b0k (fun hc77 => ?_) (fun hc77 => ?_)
        ·rw [b0r hc77] at hm2;simp only [b0s, b0f];refine hK76 _ _ ?_;refine b0i fun K78 hK78 => ?_;simp only [b0u];obtain ⟨x81, h_x81, hm2⟩ := b0g hm2;have h_x810 := b05 h_x81;have h_x811 := b06 h_x81;obtain ⟨x82, h_x82, hm2⟩ := b0g hm2;have h_x820 := b05 h_x82;have h_x821 := b06 h_x82;apply b0b;intro K hK;simp only [go_sem, s3, s4, s5, b08 h_x81, b08 h_x82];apply hK;simp only [go_sem];refine b0k (fun hc83 => ?_) (fun hc83 => ?_)
         ·rw [b0r hc83] at hm2;apply b0b;intro K hK;simp only [go_sem];apply hK;simp only [b0x, b1p, b2e, b0y];obtain rfl := sI9 hm2;obtain rfl := hb75 _ rfl
          try dsimp only at hm1
          obtain rfl := sI9 hm1;obtain rfl := hb61 _ rfl
          try dsimp only at hm0
          obtain rfl := sI9 hm0;exact b04 vb9 (b0e _)
         ·rw [b0q hc83] at hm2;simp only [b0s, b02, b0f];refine hK78 _ _ ?_;apply b03;intro K hK;simp only [go_sem, s5];apply hK;simp only [b0f];obtain rfl := sI9 hm2;refine ⟨_, rfl, ?_⟩;exact ⟨s1, s3, s4, va9⟩
        ·rw [b0q hc77] at hm2;simp only [b09, b1b, b1a, b02, b0f];obtain rfl := sI9 hm2;obtain rfl := hb75 _ rfl
         try dsimp only at hm1
         exact J65  _ _ s1 s3 s4 hm1
    ·rw [b0q hc63] at hm1;simp only [b09, b1b, b1a, b0f];obtain rfl := sI9 hm1;obtain rfl := hb61 _ rfl
     try dsimp only at hm0
     exact J10  _ _ s1 hm0
theorem c3j (hf : Has O "newel/newelref04.CheckConds" x_r04_CheckConds) (c3i : c5k O) (c3m : c5p O) : c5l O := by
 intro m l r hm0;unfold c0v at hm0;refine b1i hf rfl (b0a (fM _) (b0a (b0c fun a _ => b97 a) b0j)) (b0e _) ?_;refine b1c (fun t h => t 0 = .agg (vM m) /\ t 1 = .fs 1 (List.map b4v l)) ⟨rfl, rfl⟩ fun t h ⟨s0, s1⟩ => ?_;simp only [x_r04_CheckConds];apply b0b;intro K hK;simp only [go_sem, s0];apply hK;obtain ⟨y2, h_y2, hm0⟩ := b0g hm0;apply b0b;intro K hK;simp only [go_sem];refine b01 (c3i m _ h_y2) ?_;simp only [go_sem];apply hK;refine b0v ?_;apply b0b;intro K hK;simp only [go_sem];apply hK;refine b0i fun K3 hK3 => ?_;simp only [go_sem];refine b0k (fun hc4 => ?_) (fun hc4 => ?_)
 ·rw [b0r hc4] at hm0;apply b0b;intro K hK;simp only [go_sem];apply hK;simp only [b0x, b1p, b0y];obtain rfl := sI9 hm0;exact b04 vb9 (b0e _)
 ·rw [b0q hc4] at hm0;simp only [b0s, b0f];refine hK3 _ _ ?_;refine b0v ?_;apply b0b;intro K hK;simp only [go_sem];apply hK;refine b0i fun K5 hK5 => ?_
  have J6 : ∀ (t : Slots) (h : Heap), d4o = some r -> K5 t h := by
   intro t h hm0;refine hK5 _ _ ?_;unfold d4o at hm0;apply b0b;intro K hK;simp only [go_sem];apply hK;simp only [b0x, b0y];obtain rfl := sI9 hm0;exact b04 vb9 (b0e _)
  simp only [b0u];obtain ⟨b7, hl7, hm0⟩ := b0g hm0;refine b1j hl7 (fun | i_6, t, h => t 1 = .fs 1 (List.map b4v l) /\ t 2 = .fp (vM m) 0 /\ t 6 = I i_6) ?_ ?_
  ·exact ⟨s1, va9, va9⟩
  ·rintro i_6 o t h ⟨s1, s2, s6⟩ hm1 hb7;simp only [p5t] at hm1;rw [g4e];refine b0v ?_;apply b0b;intro K hK;simp only [go_sem, s1, s6];apply hK;refine b0i fun K8 hK8 => ?_;simp only [go_sem];refine b0k (fun hc9 => ?_) (fun hc9 => ?_)
   ·rw [b0r hc9] at hm1;simp only [b0s, b0f];refine hK8 _ _ ?_;refine b0i fun K10 hK10 => ?_;simp only [b0u];obtain ⟨x13, h_x13, hm1⟩ := b0g hm1;have h_x130 := b05 h_x13;have h_x131 := b06 h_x13;obtain ⟨y14, h_y14, hm1⟩ := b0g hm1;apply b0b;intro K hK;simp only [go_sem, s1, s2, s6, b08 h_x13, h_x131];refine b01 (c3m m x13 true _ h_y14) ?_;simp only [go_sem];apply hK;simp only [go_sem];refine b0k (fun hc15 => ?_) (fun hc15 => ?_)
    ·rw [b0r hc15] at hm1;apply b0b;intro K hK;simp only [go_sem];apply hK;simp only [b0x, b1p, b2e, b0y];obtain rfl := sI9 hm1;obtain rfl := hb7 _ rfl
     try dsimp only at hm0
     obtain rfl := sI9 hm0;exact b04 vb9 (b0e _)
    ·rw [b0q hc15] at hm1;simp only [b0s, b02, b0f];refine hK10 _ _ ?_;apply b03;intro K hK;simp only [go_sem, s6];apply hK;simp only [b0f];obtain rfl := sI9 hm1;refine ⟨_, rfl, ?_⟩;exact ⟨s1, s2, va9⟩
   ·rw [b0q hc9] at hm1;simp only [b09, b1b, b1a, b0f];obtain rfl := sI9 hm1;obtain rfl := hb7 _ rfl
    try dsimp only at hm0
    exact J6  _ _  hm0
theorem d3a (hf : Has O "newel/newelref04.Copy" x_r04_Copy) (c0i : c5m O) : d0d O := by
 intro m r hm0;unfold c4a at hm0;refine b1i hf rfl (b0a (fM _) b0j) (fM _) ?_;refine b1c (fun t h => t 0 = .agg (vM m)) rfl fun t h s0 => ?_;simp only [x_r04_Copy];apply b0b;intro K hK;simp only [go_sem, s0];apply hK;obtain ⟨l5, h_l5, hm0⟩ := b0g hm0;obtain ⟨l6, h_l6, hm0⟩ := b0g hm0;obtain ⟨l7, h_l7, hm0⟩ := b0g hm0;obtain ⟨l8, h_l8, hm0⟩ := b0g hm0;apply b0b;intro K hK;simp only [go_sem];refine b3a (f := eS) (l := ([])) (m := m.Inputs) ?_ ?_ ?_ ?_ h_l5 ?_
 ·exact (b2v vb9 vb9 vb9)
 ·exact b7j
 ·exact b7i
 ·exact (fun e => by cases e)
 simp only [go_sem];refine b3a (f := eS) (l := ([])) (m := m.Outputs) ?_ ?_ ?_ ?_ h_l6 ?_
 ·exact (b2v vb9 vb9 vb9)
 ·exact b7j
 ·exact b7i
 ·exact (fun e => by cases e)
 simp only [go_sem];refine b3a (f := b0o) (l := ([])) (m := m.Counters) ?_ ?_ ?_ ?_ h_l7 ?_
 ·exact (b2v vb9 vb9 vb9)
 ·exact b7j
 ·exact b7i
 ·exact (fun e => by cases e)
 simp only [go_sem];refine b3a (f := b0p) (l := ([])) (m := m.States) ?_ ?_ ?_ ?_ h_l8 ?_
 ·exact (b2v vb9 vb9 vb9)
 ·exact b7j
 ·exact b7i
 ·exact (fun e => by cases e)
 simp only [go_sem];apply hK;refine b0v ?_;apply b0b;intro K hK;simp only [go_sem];apply hK;refine b0i fun K9 hK9 => ?_
 have J10 : ∀ (o_3_4 : List Rule) (i2 i3 : Nat) (i3_1 i3_2 : Nat) (i3_3 i3_4 : Nat) (v3 : AV) (t : Slots) (h : Heap), t 2 = .rp i2 0 0 -> t 3 = .rp i3 0 0 -> h.ob i2 = some (5, [[.v (.slice none 0 0), .v (.slice none 0 0), .v (.slice none 0 0), .v (.slice none 0 0), .v (.slice none 0 0)]]) -> i2 < h.nx -> h.ob i3 = some (5, [[.rs i3_1 0 (List.length l5), .rs i3_2 0 (List.length l6), .rs i3_3 0 (List.length l7), .rs i3_4 0 (List.length l8), v3]]) -> i3 < h.nx -> h.ob i3_1 = some (1, List.map eS l5) -> i3_1 < h.nx -> h.ob i3_2 = some (1, List.map eS l6) -> i3_2 < h.nx -> h.ob i3_3 = some (2, List.map b0o l7) -> i3_3 < h.nx -> h.ob i3_4 = some (2, List.map b0p l8) -> i3_4 < h.nx -> b2a h v3 4 (List.map b0m o_3_4) -> ¬i2 = i3 -> ¬i2 = i3_1 -> ¬i2 = i3_2 -> ¬i2 = i3_3 -> ¬i2 = i3_4 -> b07 v3 i2 -> ¬i3 = i3_1 -> ¬i3 = i3_2 -> ¬i3 = i3_3 -> ¬i3 = i3_4 -> b07 v3 i3 -> ¬i3_1 = i3_2 -> ¬i3_1 = i3_3 -> ¬i3_1 = i3_4 -> b07 v3 i3_1 -> ¬i3_2 = i3_3 -> ¬i3_2 = i3_4 -> b07 v3 i3_2 -> ¬i3_3 = i3_4 -> b07 v3 i3_3 -> b07 v3 i3_4 -> c8d l5 l6 l7 l8 o_3_4 = some r -> K9 t h := by
  intro o_3_4 i2 i3 i3_1 i3_2 i3_3 i3_4 v3 t h s2 s3 Qt Qu Qr Qo Qv Qw Qx Qy Qz Q10 Q11 Q12 Qs Q13 Q14 Q15 Q16 Q17 Q18 Q19 Q1a Q1b Q1c Q1d Q1e Q1f Q1g Q1h Q1i Q1j Q1k Q1l Q1m Q1n hm0;refine hK9 _ _ ?_;unfold c8d at hm0;apply b0b;intro K hK;simp only [go_sem, s2, s3, Qt, Qr];apply hK;simp only [b0x, b0y];obtain rfl := sI9 hm0;exact b90 (id := i2) (m := 5) (cs := [.rs i3_1 0 (List.length l5), .rs i3_2 0 (List.length l6), .rs i3_3 0 (List.length l7), .rs i3_4 0 (List.length l8), v3]) (by simp only [go_sem, s2]) vb9 rfl (d79 (.cons (b29 (f := eS) (l := l5) (id := i3_1) (by simp only [go_sem, Qv, b1z Q14]) vf9 b0z c3u) (.cons (b29 (f := eS) (l := l6) (id := i3_2) (by simp only [go_sem, Qx, b1z Q15]) vf9 b0z c3u) (.cons (b29 (f := b0o) (l := l7) (id := i3_3) (by simp only [go_sem, Qz, b1z Q16]) vf9 b1q j7m) (.cons (b29 (f := b0p) (l := l8) (id := i3_4) (by simp only [go_sem, Q11, b1z Q17]) vf9 b1s j7r) (.cons (r8x (f := b0m) (l := o_3_4) (b3x Qs (by intro j hj hl; first | rfl | simp only [go_sem, b4s hj Q18]) (by first | omega | exact Nat.le_refl _ | (simp only [go_sem, nxs] <;> omega))) b1r j7p) (.nil)))))))
 simp only [b0u];obtain ⟨b11, hl11, hm0⟩ := b0g hm0;refine b1j hl11 (fun | (o_3_4, i_4), t, h => ∃ i2 i3 : Nat, ∃ i3_1 i3_2 : Nat, ∃ i3_3 i3_4 : Nat, ∃ v3 : AV, t 1 = .fp (vM m) 0 /\ t 2 = .rp i2 0 0 /\ t 3 = .rp i3 0 0 /\ t 4 = I i_4 /\ h.ob i2 = some (5, [[.v (.slice none 0 0), .v (.slice none 0 0), .v (.slice none 0 0), .v (.slice none 0 0), .v (.slice none 0 0)]]) /\ i2 < h.nx /\ h.ob i3 = some (5, [[.rs i3_1 0 (List.length l5), .rs i3_2 0 (List.length l6), .rs i3_3 0 (List.length l7), .rs i3_4 0 (List.length l8), v3]]) /\ i3 < h.nx /\ h.ob i3_1 = some (1, List.map eS l5) /\ i3_1 < h.nx /\ h.ob i3_2 = some (1, List.map eS l6) /\ i3_2 < h.nx /\ h.ob i3_3 = some (2, List.map b0o l7) /\ i3_3 < h.nx /\ h.ob i3_4 = some (2, List.map b0p l8) /\ i3_4 < h.nx /\ b2a h v3 4 (List.map b0m o_3_4) /\ ¬i2 = i3 /\ ¬i2 = i3_1 /\ ¬i2 = i3_2 /\ ¬i2 = i3_3 /\ ¬i2 = i3_4 /\ b07 v3 i2 /\ ¬i3 = i3_1 /\ ¬i3 = i3_2 /\ ¬i3 = i3_3 /\ ¬i3 = i3_4 /\ b07 v3 i3 /\ ¬i3_1 = i3_2 /\ ¬i3_1 = i3_3 /\ ¬i3_1 = i3_4 /\ b07 v3 i3_1 /\ ¬i3_2 = i3_3 /\ ¬i3_2 = i3_4 /\ b07 v3 i3_2 /\ ¬i3_3 = i3_4 /\ b07 v3 i3_3 /\ b07 v3 i3_4) ?_ ?_
 ·exact ⟨h.nx, (nxs (nxs (nxs (nxs (nxs (nxs (nxs (nxs (nxs h.nx))))))))), (nxs (nxs h.nx)), (nxs (nxs (nxs (nxs h.nx)))), (nxs (nxs (nxs (nxs (nxs (nxs h.nx)))))), (nxs (nxs (nxs (nxs (nxs (nxs (nxs (nxs h.nx)))))))), (.v (.slice none 0 0)), va9, va9, va9, va9, vb9, vb9, vb9, vb9, vb9, vb9, vb9, vb9, vb9, vb9, vb9, vb9, c0o, ve9, ve9, ve9, ve9, ve9, vc9, ve9, ve9, ve9, ve9, vc9, ve9, ve9, ve9, vc9, ve9, ve9, vc9, ve9, vc9, vc9⟩
 ·rintro ⟨o_3_4, i_4⟩ o t h ⟨i2, i3, i3_1, i3_2, i3_3, i3_4, v3, s1, s2, s3, s4, Qt, Qu, Qr, Qo, Qv, Qw, Qx, Qy, Qz, Q10, Q11, Q12, Qs, Q13, Q14, Q15, Q16, Q17, Q18, Q19, Q1a, Q1b, Q1c, Q1d, Q1e, Q1f, Q1g, Q1h, Q1i, Q1j, Q1k, Q1l, Q1m, Q1n⟩ hm1 hb11;simp only [c4c] at hm1;rw [g4m];refine b0v ?_;apply b0b;intro K hK;simp only [go_sem, s1, s4];apply hK;refine b0i fun K12 hK12 => ?_;simp only [go_sem];refine b0k (fun hc13 => ?_) (fun hc13 => ?_)
  ·rw [b0r hc13] at hm1;simp only [b0s, b0f];refine hK12 _ _ ?_;refine b0i fun K14 hK14 => ?_;simp only [b0u];obtain ⟨x16, h_x16, hm1⟩ := b0g hm1;have h_x160 := b05 h_x16;have h_x161 := b06 h_x16;apply b0b;intro K hK;simp only [go_sem, s1, s4, b08 h_x16, h_x161];apply hK;obtain ⟨y18, h_y18, hm1⟩ := b0g hm1;apply b0b;intro K hK;simp only [go_sem];refine b01 (c0i x16.When _ h_y18) ?_;simp only [go_sem];apply hK;obtain ⟨l20, h_l20, hm1⟩ := b0g hm1;apply b0b;intro K hK;simp only [go_sem];refine b3a (f := b2o) (l := ([])) (m := x16.Sets) ?_ ?_ ?_ ?_ h_l20 ?_
   ·exact (b2v vb9 vb9 vb9)
   ·exact b7j
   ·exact b7i
   ·exact (fun e => by cases e)
   simp only [go_sem];apply hK;refine d63 (s := 5) (v := .rp h.nx 0 0) (y := .fp [I x16.From, I x16.To, .fs 1 (List.map b0t y18), .fs 2 (List.map b2o l20)] 0) (fun j => j == h.nx || j == (nxs (nxs h.nx))) vb9 (y31 (id := h.nx) (sz := 4) (xs := [I x16.From, I x16.To, .fs 1 (List.map b0t y18), .rs (nxs (nxs h.nx)) 0 (List.length l20)]) (by rw [c3x (by simp)]; simp only [go_sem]) (.cons (.refl _ (b0e _)) (.cons (.refl _ (b0e _)) (.cons (.refl _ (b0c fun a _ => b2j a)) (.cons (b29 (f := b2o) (l := l20) (id := (nxs (nxs h.nx))) (by rw [c3x (by simp)]; simp only [go_sem]) vf9 d14 j7q) (.nil)))))) (.fp _ _ (b0a (b0e _) (b0a (b0e _) (b0a (b0c fun a _ => b2j a) (b0a (b0c fun a _ => d14 a) b0j))))) ?_;obtain ⟨l22, h_l22, hm1⟩ := b0g hm1;apply b03;intro K hK;simp only [go_sem, s3, Qr, Qo, oF9, bF9, ne_eq, nF9, and_self];refine b3a (f := b0m) (l := o_3_4) (m := ([(Rule.mk x16.From x16.To y18 l20)])) ?_ ?_ ?_ ?_ h_l22 ?_
   ·exact (b3x Qs (by intro j hj hl; first | rfl | simp only [go_sem, hl, oF9, bF9, ne_eq, nF9, and_self]) (by first | omega | exact Nat.le_refl _ | (simp only [go_sem, nxs] <;> omega)))
   ·exact (b4t vb9 vb9)
   ·exact (b4r vd9)
   ·exact (fun _ => by simp)
   simp only [go_sem, s3, Qr, Qo, Q1d, oF9, bF9, ne_eq, nF9, and_self];apply hK;simp only [b02, b0f];refine hK14 _ _ ?_;apply b03;intro K hK;simp only [go_sem, s4, nF9];apply hK;simp only [b0f];obtain rfl := sI9 hm1;refine ⟨_, rfl, ?_⟩;exact ⟨i2, i3, i3_1, i3_2, i3_3, i3_4, (.rs (nxs (nxs (nxs (nxs h.nx)))) 0 (List.length l22)), s1, s2, s3, va9, (by simp only [go_sem, oF9, bF9, ne_eq, nF9, and_self, Qt, Qu, Q13, Q18]), (by simp only [go_sem, Qu]), vb9, (by simp only [go_sem, Qo]), (by simp only [go_sem, oF9, bF9, ne_eq, nF9, and_self, Qv, Qw, b1z Q19, Q1h]), (by simp only [go_sem, Qw]), (by simp only [go_sem, oF9, bF9, ne_eq, nF9, and_self, Qx, Qy, b1z Q1a, Q1k]), (by simp only [go_sem, Qy]), (by simp only [go_sem, oF9, bF9, ne_eq, nF9, and_self, Qz, Q10, b1z Q1b, Q1m]), (by simp only [go_sem, Q10]), (by simp only [go_sem, oF9, bF9, ne_eq, nF9, and_self, Q11, Q12, b1z Q1c, Q1n]), (by simp only [go_sem, Q12]), (b2v (by simp only [go_sem, nF9, Qo, b8s Qs]) vh9 vb9), Q13, Q14, Q15, Q16, Q17, vc9, Q19, Q1a, Q1b, Q1c, vc9, Q1e, Q1f, Q1g, vc9, Q1i, Q1j, vc9, Q1l, vc9, vc9⟩
  ·rw [b0q hc13] at hm1;simp only [b09, b1b, b1a, b0f];obtain rfl := sI9 hm1;obtain rfl := hb11 _ rfl
   try dsimp only at hm0
   exact J10 o_3_4 i2 i3 i3_1 i3_2 i3_3 i3_4 v3 _ _ s2 s3 Qt Qu Qr Qo Qv Qw Qx Qy Qz Q10 Q11 Q12 Qs Q13 Q14 Q15 Q16 Q17 Q18 Q19 Q1a Q1b Q1c Q1d Q1e Q1f Q1g Q1h Q1i Q1j Q1k Q1l Q1m Q1n hm0
theorem c0i (hf : Has O "newel/newelref04.CopyCond" x_r04_CopyCond) : c5m O := by
 intro c r hm0;unfold b8w at hm0;refine b1i hf rfl (b0a (b0c fun a _ => b2j a) b0j) (b0c fun a _ => b2j a) ?_;refine b1c (fun t h => t 0 = .fs 1 (List.map b0t c)) rfl fun t h s0 => ?_;simp only [x_r04_CopyCond];apply b0b;intro K hK;simp only [go_sem];apply hK;apply b0b;intro K hK;simp only [go_sem];apply hK;refine b0v ?_;apply b0b;intro K hK;simp only [go_sem];apply hK;refine b0i fun K1 hK1 => ?_
 have J2 : ∀ (o_3 : List (List Literal)) (v3 : AV) (t : Slots) (h : Heap), t 3 = v3 -> b2a h v3 1 (List.map b0t o_3) -> c8c o_3 = some r -> K1 t h := by
  intro o_3 v3 t h s3 Qp hm0;refine hK1 _ _ ?_;unfold c8c at hm0;apply b0b;intro K hK;simp only [go_sem, s3, b5r v3];apply hK;simp only [b0x, b0y];obtain rfl := sI9 hm0;exact b8e (v := v3) vb9 (r8x (f := b0t) (l := o_3) (b3x Qp (by intro j hj hl; first | rfl | simp only [go_sem, hl]) (by first | omega | exact Nat.le_refl _ | (simp only [go_sem, nxs] <;> omega))) b2j g1d)
 simp only [b0u];obtain ⟨b3, hl3, hm0⟩ := b0g hm0;refine b1j hl3 (fun | (o_3, i_4), t, h => ∃ v3 : AV, t 0 = .fs 1 (List.map b0t c) /\ t 3 = v3 /\ t 4 = I i_4 /\ b2a h v3 1 (List.map b0t o_3)) ?_ ?_
 ·exact ⟨(.v (.slice none 0 0)), s0, va9, va9, c0o⟩
 ·rintro ⟨o_3, i_4⟩ o t h ⟨v3, s0, s3, s4, Qp⟩ hm1 hb3;simp only [c4b] at hm1;rw [g4l];refine b0v ?_;apply b0b;intro K hK;simp only [go_sem, s0, s4];apply hK;refine b0i fun K4 hK4 => ?_;simp only [go_sem];refine b0k (fun hc5 => ?_) (fun hc5 => ?_)
  ·rw [b0r hc5] at hm1;simp only [b0s, b0f];refine hK4 _ _ ?_;refine b0i fun K6 hK6 => ?_;simp only [b0u];obtain ⟨x10, h_x10, hm1⟩ := b0g hm1;have h_x100 := b05 h_x10;have h_x101 := b06 h_x10;obtain ⟨l11, h_l11, hm1⟩ := b0g hm1;obtain ⟨l12, h_l12, hm1⟩ := b0g hm1;apply b0b;intro K hK;simp only [go_sem, s0, s3, s4, b08 h_x10, h_x101, b5r v3];refine b3a (f := b3k) (l := ([])) (m := x10) ?_ ?_ ?_ ?_ h_l11 ?_
   ·exact (b2v vb9 vb9 vb9)
   ·exact b7j
   ·exact b7i
   ·exact (fun e => by cases e)
   simp only [go_sem];refine j3y (f := b0t) (l := o_3) (a := l11) (raw := [.rs (nxs h.nx) 0 (List.length l11)]) ?_ ?_ ?_ h_l12 ?_
   ·exact (b3x Qp (by intro j hj hl; first | rfl | simp only [go_sem, hl]) (by first | omega | exact Nat.le_refl _ | (simp only [go_sem, nxs] <;> omega)))
   ·exact vb9
   ·exact vd9
   simp only [go_sem];apply hK;refine g9m ?_;refine g9k (id := (nxs (nxs (nxs h.nx)))) (sz := 1) (f := b0t) (l := o_3) (a := l11) (raw := [.rs (nxs h.nx) 0 (List.length l11)]) (fun j => j == (nxs h.nx)) (by simp only [go_sem, b8s Qp]) (by first | (simp; done) | (simp [nxs] <;> omega)) (.cons (b29 (f := b3k) (l := l11) (id := (nxs h.nx)) (by rw [c3x (by simp)]; simp only [go_sem, b8s Qp]) vf9 c2w j7o) (.nil)) b2j g1d ?_;rw [<- (r9o h_l12).2];simp only [b0s, b02, b0f];refine hK6 _ _ ?_;apply b03;intro K hK;simp only [go_sem, s4, nF9];apply hK;simp only [b0f];obtain rfl := sI9 hm1;refine ⟨_, rfl, ?_⟩;exact ⟨(.rs (nxs (nxs (nxs h.nx))) 0 (List.length l12)), s0, va9, va9, (b2v vb9 vh9 vb9)⟩
  ·rw [b0q hc5] at hm1;simp only [b09, b1b, b1a, b0f];obtain rfl := sI9 hm1;obtain rfl := hb3 _ rfl
   try dsimp only at hm0
   exact J2 o_3 v3 _ _ s3 Qp hm0
theorem d3b (hf : Has O "newel/newelref04.Heard" x_r04_Heard) : d0e O := by
 intro x input value r hm0;unfold b6a at hm0;refine b1i hf rfl (b0a (b0e _) (b0a (b0e _) (b0a (b0e _) b0j))) (b0e _) ?_;refine b1c (fun t h => t 0 = I x /\ t 1 = I input /\ t 2 = I value) ⟨rfl, rfl, rfl⟩ fun t h ⟨s0, s1, s2⟩ => ?_;simp only [x_r04_Heard];apply b0b;intro K hK;simp only [go_sem];apply hK;refine b0v ?_;apply b0b;intro K hK;simp only [go_sem, s1];apply hK;refine b0i fun K1 hK1 => ?_;simp only [go_sem];refine b0k (fun hc2 => ?_) (fun hc2 => ?_)
 ·rw [b0r hc2] at hm0;apply b0b;intro K hK;simp only [go_sem, s0];apply hK;simp only [b0x, b1p, b0y];obtain rfl := sI9 hm0;exact b04 vb9 (b0e _)
 ·rw [b0q hc2] at hm0;simp only [b0s, b0f];refine hK1 _ _ ?_;obtain ⟨q4, h_q4, hm0⟩ := b0g hm0;apply b0b;intro K hK;simp only [go_sem, s1, c23 h_q4];apply hK;refine b0v ?_;apply b0b;intro K hK;simp only [go_sem, s2];apply hK;refine b0i fun K5 hK5 => ?_;simp only [go_sem];refine b0k (fun hc6 => ?_) (fun hc6 => ?_)
  ·rw [b0r hc6] at hm0;apply b0b;intro K hK;simp only [go_sem, s0];apply hK;simp only [b0x, b1p, b0y];obtain rfl := sI9 hm0;exact b04 vb9 (b0e _)
  ·rw [b0q hc6] at hm0;simp only [b0s, b0f];refine hK5 _ _ ?_;apply b0b;intro K hK;simp only [go_sem, s0];apply hK;simp only [b0x, b0y];obtain rfl := sI9 hm0;exact b04 vb9 (b0e _)
theorem s3y (hf : Has O "newel/newelref04.Holds" x_r04_Holds) (d3e : d0h O) : b9a O := by
 intro m p input c r hm0;unfold b7o at hm0;refine b1i hf rfl (b0a (fM _) (b0a (.agg _ (b0a (b0e _) (b0a (b0e _) (b0a (b0e _) b0j)))) (b0a (b0e _) (b0a (b0c fun a _ => b2j a) b0j)))) (b0e _) ?_;refine b1c (fun t h => t 0 = .agg (vM m) /\ t 1 = .agg [I p.State, I p.Values.1, I p.Values.2] /\ t 2 = I input /\ t 3 = .fs 1 (List.map b0t c)) ⟨rfl, rfl, rfl, rfl⟩ fun t h ⟨s0, s1, s2, s3⟩ => ?_;simp only [x_r04_Holds];apply b0b;intro K hK;simp only [go_sem, s0, s1];apply hK;refine b0v ?_;apply b0b;intro K hK;simp only [go_sem];apply hK;refine b0i fun K1 hK1 => ?_
 have J2 : ∀ (t : Slots) (h : Heap), d4q = some r -> K1 t h := by
  intro t h hm0;refine hK1 _ _ ?_;unfold d4q at hm0;apply b0b;intro K hK;simp only [go_sem];apply hK;simp only [b0x, b0y];obtain rfl := sI9 hm0;exact b04 vb9 (b0e _)
 simp only [b0u];obtain ⟨b3, hl3, hm0⟩ := b0g hm0;refine b1j hl3 (fun | i_9, t, h => t 2 = I input /\ t 3 = .fs 1 (List.map b0t c) /\ t 4 = .fp (vM m) 0 /\ t 5 = .fp [I p.State, I p.Values.1, I p.Values.2] 0 /\ t 9 = I i_9) ?_ ?_
 ·exact ⟨s2, s3, va9, va9, va9⟩
 ·rintro i_9 o t h ⟨s2, s3, s4, s5, s9⟩ hm1 hb3;simp only [c4d] at hm1;rw [g4n];refine b0v ?_;apply b0b;intro K hK;simp only [go_sem, s3, s9];apply hK;refine b0i fun K4 hK4 => ?_;simp only [go_sem];refine b0k (fun hc5 => ?_) (fun hc5 => ?_)
  ·rw [b0r hc5] at hm1;simp only [b0s, b0f];refine hK4 _ _ ?_;refine b0i fun K6 hK6 => ?_
   have J7 : ∀ (t : Slots) (h : Heap), t 2 = I input -> t 3 = .fs 1 (List.map b0t c) -> t 4 = .fp (vM m) 0 -> t 5 = .fp [I p.State, I p.Values.1, I p.Values.2] 0 -> t 9 = I i_9 -> c8e i_9 = some o -> K6 t h := by
    intro t h s2 s3 s4 s5 s9 hm1;refine hK6 _ _ ?_;unfold c8e at hm1;apply b03;intro K hK;simp only [go_sem, s9];apply hK;simp only [b0f];obtain rfl := sI9 hm1;refine ⟨_, rfl, ?_⟩;exact ⟨s2, s3, s4, s5, va9⟩
   simp only [b0u];apply b0b;intro K hK;simp only [go_sem];apply hK;refine b0v ?_;apply b0b;intro K hK;simp only [go_sem];apply hK;refine b0i fun K8 hK8 => ?_
   have J9 : ∀ (all_10 : Bool) (t : Slots) (h : Heap), t 2 = I input -> t 3 = .fs 1 (List.map b0t c) -> t 4 = .fp (vM m) 0 -> t 5 = .fp [I p.State, I p.Values.1, I p.Values.2] 0 -> t 9 = I i_9 -> t 10 = B all_10 -> c8f i_9 all_10 = some o -> K8 t h := by
    intro all_10 t h s2 s3 s4 s5 s9 s10 hm1;refine hK8 _ _ ?_;unfold c8f at hm1;apply b0b;intro K hK;simp only [go_sem, s10];apply hK;simp only [go_sem];refine b0k (fun hc10 => ?_) (fun hc10 => ?_)
    ·rw [b0r hc10] at hm1;apply b0b;intro K hK;simp only [go_sem];apply hK;simp only [b0x, b1p, b2e, b0y];obtain rfl := sI9 hm1;obtain rfl := hb3 _ rfl
     try dsimp only at hm0
     obtain rfl := sI9 hm0;exact b04 vb9 (b0e _)
    ·rw [b0q hc10] at hm1;simp only [b0s, b02, b0f];exact J7  _ _ s2 s3 s4 s5 s9 hm1
   simp only [b0u];obtain ⟨b11, hl11, hm1⟩ := b0g hm1;refine b1j hl11 (fun | (all_10, k_11), t, h => t 2 = I input /\ t 3 = .fs 1 (List.map b0t c) /\ t 4 = .fp (vM m) 0 /\ t 5 = .fp [I p.State, I p.Values.1, I p.Values.2] 0 /\ t 9 = I i_9 /\ t 10 = B all_10 /\ t 11 = I k_11) ?_ ?_
   ·exact ⟨s2, s3, s4, s5, s9, va9, va9⟩
   ·rintro ⟨all_10, k_11⟩ o t h ⟨s2, s3, s4, s5, s9, s10, s11⟩ hm2 hb11;simp only [c4e] at hm2;rw [g4o];refine b0v ?_;obtain ⟨x13, h_x13, hm2⟩ := b0g hm2;have h_x130 := b05 h_x13;have h_x131 := b06 h_x13;apply b0b;intro K hK;simp only [go_sem, s3, s9, s11, b08 h_x13];apply hK;refine b0i fun K14 hK14 => ?_;simp only [go_sem];refine b0k (fun hc15 => ?_) (fun hc15 => ?_)
    ·rw [b0r hc15] at hm2;simp only [b0s, b0f];refine hK14 _ _ ?_;refine b0i fun K16 hK16 => ?_;simp only [b0u];obtain ⟨c22, h_c22, hm2⟩ := b0g hm2;refine b9y (fun t h => t 2 = I input /\ t 3 = .fs 1 (List.map b0t c) /\ t 4 = .fp (vM m) 0 /\ t 5 = .fp [I p.State, I p.Values.1, I p.Values.2] 0 /\ t 9 = I i_9 /\ t 10 = B c22 /\ t 11 = I k_11) (fun K hK => ?_) ?_
     ·simp only [go_sem, s10];refine b0k (fun hg23 => ?_) (fun hg23 => ?_)
      ·simp only [hg23, eq_self, if_true] at h_c22;obtain ⟨x20, h_x20, h_c22⟩ := b0g h_c22;have h_x200 := b05 h_x20;have h_x201 := b06 h_x20;obtain ⟨y21, h_y21, h_c22⟩ := b0g h_c22;obtain rfl := sI9 h_c22;simp only [go_sem, s2, s3, s4, s5, s9, s11, b08 h_x20, h_x201, b08 h_x13, hg23];refine b01 (d3e m p input x20 _ h_y21) ?_;simp only [go_sem, h_x201, hg23];exact hK _ _ ⟨s2, s3, s4, s5, s9, va9, s11⟩
      ·simp only [hg23, if_false, fT9] at h_c22;obtain rfl := sI9 h_c22;simp only [go_sem, hg23];exact hK _ _ ⟨s2, s3, s4, s5, s9, va9, s11⟩
     ·rintro t h ⟨s2, s3, s4, s5, s9, s10, s11⟩;simp only [b02, b0f];refine hK16 _ _ ?_;apply b03;intro K hK;simp only [go_sem, s11];apply hK;simp only [b0f];obtain rfl := sI9 hm2;refine ⟨_, rfl, ?_⟩;exact ⟨s2, s3, s4, s5, s9, s10, va9⟩
    ·rw [b0q hc15] at hm2;simp only [b09, b1b, b1a, b0f];obtain rfl := sI9 hm2;obtain rfl := hb11 _ rfl
     try dsimp only at hm1
     exact J9 all_10 _ _ s2 s3 s4 s5 s9 s10 hm1
  ·rw [b0q hc5] at hm1;simp only [b09, b1b, b1a, b0f];obtain rfl := sI9 hm1;obtain rfl := hb3 _ rfl
   try dsimp only at hm0
   exact J2  _ _  hm0
theorem c3k (hf : Has O "newel/newelref04.Next" x_r04_Next) (s3y : b9a O) : c5n O := by
 intro m p input r hm0;unfold c0w at hm0;refine b1i hf rfl (b0a (fM _) (b0a (.agg _ (b0a (b0e _) (b0a (b0e _) (b0a (b0e _) b0j)))) (b0a (b0e _) b0j))) (.agg _ (b0a (b0e _) (b0a (b0e _) (b0a (b0e _) b0j)))) ?_;refine b1c (fun t h => t 0 = .agg (vM m) /\ t 1 = .agg [I p.State, I p.Values.1, I p.Values.2] /\ t 2 = I input) ⟨rfl, rfl, rfl⟩ fun t h ⟨s0, s1, s2⟩ => ?_;simp only [x_r04_Next];apply b0b;intro K hK;simp only [go_sem, s0, s1];apply hK;refine b0v ?_;apply b0b;intro K hK;simp only [go_sem];apply hK;refine b0i fun K1 hK1 => ?_
 have J2 : ∀ (i6 : Nat) (t : Slots) (h : Heap), t 4 = .fp [I p.State, I p.Values.1, I p.Values.2] 0 -> t 6 = .rp i6 0 0 -> h.ob i6 = some (3, [[I 0, I 0, I 0]]) -> i6 < h.nx -> c8i p = some r -> K1 t h := by
  intro i6 t h s4 s6 Q1 Q0 hm0;refine hK1 _ _ ?_;unfold c8i at hm0;apply b0b;intro K hK;simp only [go_sem, s4, s6, Q1];apply hK;simp only [b0x, b0y];obtain rfl := sI9 hm0;exact b90 (id := i6) (m := 3) (cs := [I p.State, I p.Values.1, I p.Values.2]) (by simp only [go_sem, s6]) vb9 rfl (.refl _ (.agg _ (b0a (b0e _) (b0a (b0e _) (b0a (b0e _) b0j)))))
 simp only [b0u];obtain ⟨b3, hl3, hm0⟩ := b0g hm0;refine b1j hl3 (fun | i_7, t, h => ∃ i6 : Nat, t 2 = I input /\ t 3 = .fp (vM m) 0 /\ t 4 = .fp [I p.State, I p.Values.1, I p.Values.2] 0 /\ t 6 = .rp i6 0 0 /\ t 7 = I i_7 /\ h.ob i6 = some (3, [[I 0, I 0, I 0]]) /\ i6 < h.nx) ?_ ?_
 ·exact ⟨h.nx, s2, va9, va9, va9, va9, vb9, vb9⟩
 ·rintro i_7 o t h ⟨i6, s2, s3, s4, s6, s7, Q1, Q0⟩ hm1 hb3;simp only [c8g] at hm1;rw [g4q];refine b0v ?_;apply b0b;intro K hK;simp only [go_sem, s3, s7];apply hK;refine b0i fun K4 hK4 => ?_;simp only [go_sem];refine b0k (fun hc5 => ?_) (fun hc5 => ?_)
  ·rw [b0r hc5] at hm1;simp only [b0s, b0f];refine hK4 _ _ ?_;refine b0i fun K6 hK6 => ?_
   have J7 : ∀ (t : Slots) (h : Heap), t 2 = I input -> t 3 = .fp (vM m) 0 -> t 4 = .fp [I p.State, I p.Values.1, I p.Values.2] 0 -> t 6 = .rp i6 0 0 -> t 7 = I i_7 -> h.ob i6 = some (3, [[I 0, I 0, I 0]]) -> i6 < h.nx -> c8j i_7 = some o -> K6 t h := by
    intro t h s2 s3 s4 s6 s7 Q1 Q0 hm1;refine hK6 _ _ ?_;unfold c8j at hm1;apply b03;intro K hK;simp only [go_sem, s7];apply hK;simp only [b0f];obtain rfl := sI9 hm1;refine ⟨_, rfl, ?_⟩;exact ⟨i6, s2, s3, s4, s6, va9, Q1, Q0⟩
   simp only [b0u];obtain ⟨x9, h_x9, hm1⟩ := b0g hm1;have h_x90 := b05 h_x9;have h_x91 := b06 h_x9;apply b0b;intro K hK;simp only [go_sem, s3, s7, b08 h_x9, h_x91];apply hK;refine b0v ?_;obtain ⟨c13, h_c13, hm1⟩ := b0g hm1;refine b2p (fun t h => ∃ i8 : Nat, t 2 = I input /\ t 3 = .fp (vM m) 0 /\ t 4 = .fp [I p.State, I p.Values.1, I p.Values.2] 0 /\ t 6 = .rp i6 0 0 /\ t 7 = I i_7 /\ t 8 = .rp i8 0 0 /\ t 42 = B c13 /\ h.ob i6 = some (3, [[I 0, I 0, I 0]]) /\ i6 < h.nx /\ h.ob i8 = some (4, [[I x9.From, I x9.To, .fs 1 (List.map b0t x9.When), .fs 2 (List.map b2o x9.Sets)]]) /\ i8 < h.nx /\ ¬i6 = i8) (fun K hK => ?_) ?_
   ·simp only [go_sem];refine b0k (fun hg14 => ?_) (fun hg14 => ?_)
    ·simp only [go_sem, s4, hg14];refine b0k (fun hg15 => ?_) (fun hg15 => ?_)
     ·simp only [hg14, hg15, eq_self, if_true, Bool.and_true] at h_c13;obtain rfl := sI9 h_c13;simp only [go_sem, hg14, hg15];exact hK _ _ ⟨h.nx, s2, s3, s4, s6, s7, va9, va9, (by simp only [go_sem, Q1, Q0]), (by simp only [go_sem, Q0]), vb9, vb9, ve9⟩
     ·simp only [hg14, hg15, if_false, Bool.and_false, fT9] at h_c13;obtain ⟨y12, h_y12, h_c13⟩ := b0g h_c13;obtain rfl := sI9 h_c13;simp only [go_sem, s2, s3, s4, hg14, hg15];refine b01 (s3y m p input x9.When _ h_y12) ?_;simp only [go_sem, hg14, hg15];exact hK _ _ ⟨h.nx, s2, s3, s4, s6, s7, va9, va9, (by simp only [go_sem, Q1, Q0]), (by simp only [go_sem, Q0]), vb9, vb9, ve9⟩
    ·simp only [hg14, if_false, Bool.false_and, fT9] at h_c13;obtain ⟨y12, h_y12, h_c13⟩ := b0g h_c13;obtain rfl := sI9 h_c13;simp only [go_sem, s2, s3, s4, hg14];refine b01 (s3y m p input x9.When _ h_y12) ?_;simp only [go_sem, hg14];exact hK _ _ ⟨h.nx, s2, s3, s4, s6, s7, va9, va9, (by simp only [go_sem, Q1, Q0]), (by simp only [go_sem, Q0]), vb9, vb9, ve9⟩
   ·rintro t h ⟨i8, s2, s3, s4, s6, s7, s8, s42, Q1, Q0, Q7, Q8, Qc⟩;refine b0i fun K16 hK16 => ?_;simp only [go_sem, s42];refine b0k (fun hc17 => ?_) (fun hc17 => ?_)
    ·rw [b0r hc17] at hm1;simp only [b09, b1b, b1a, b0f];exact J7  _ _ s2 s3 s4 s6 s7 Q1 Q0 hm1
    ·rw [b0q hc17] at hm1;simp only [b0s, b0f];refine hK16 _ _ ?_;apply b0b;intro K hK;simp only [go_sem, s4];apply hK;refine b0v ?_;apply b0b;intro K hK;simp only [go_sem];apply hK;refine b0i fun K18 hK18 => ?_
     have J19 : ∀ (q_9_1 q_9_2 : Int) (i9 : Nat) (t : Slots) (h : Heap), t 6 = .rp i6 0 0 -> t 8 = .rp i8 0 0 -> t 9 = .rp i9 0 0 -> h.ob i6 = some (3, [[I 0, I 0, I 0]]) -> i6 < h.nx -> h.ob i8 = some (4, [[I x9.From, I x9.To, .fs 1 (List.map b0t x9.When), .fs 2 (List.map b2o x9.Sets)]]) -> i8 < h.nx -> h.ob i9 = some (3, [[I p.State, I q_9_1, I q_9_2]]) -> i9 < h.nx -> ¬i6 = i8 -> ¬i6 = i9 -> ¬i8 = i9 -> c8h x9 q_9_1 q_9_2 = some o -> K18 t h := by
      try clear s2 s3 s4 s6 s7 s8 s42 Q1 Q0 Q7 Q8 Qc
      intro q_9_1 q_9_2 i9 t h s6 s8 s9 Q1 Q0 Q7 Q8 Q2 Q6 Qc Qi Qj hm1;refine hK18 _ _ ?_;unfold c8h at hm1;apply b0b;intro K hK;simp only [go_sem, s8, s9, Q7, Q2];apply hK;apply b0b;intro K hK;simp only [go_sem, s6, s9, Q1, Qi];apply hK;simp only [b0x, b1p, b2e, b0y];obtain rfl := sI9 hm1;obtain rfl := hb3 _ rfl
      try dsimp only at hm0
      obtain rfl := sI9 hm0;exact b90 (id := i6) (m := 3) (cs := [I x9.To, I q_9_1, I q_9_2]) (by simp only [go_sem, s6]) vb9 rfl (.refl _ (.agg _ (b0a (b0e _) (b0a (b0e _) (b0a (b0e _) b0j)))))
     simp only [b0u];obtain ⟨b20, hl20, hm1⟩ := b0g hm1;refine b1j hl20 (fun | (q_9_1, q_9_2, k_10), t, h => ∃ i9 : Nat, t 3 = .fp (vM m) 0 /\ t 6 = .rp i6 0 0 /\ t 8 = .rp i8 0 0 /\ t 9 = .rp i9 0 0 /\ t 10 = I k_10 /\ h.ob i6 = some (3, [[I 0, I 0, I 0]]) /\ i6 < h.nx /\ h.ob i8 = some (4, [[I x9.From, I x9.To, .fs 1 (List.map b0t x9.When), .fs 2 (List.map b2o x9.Sets)]]) /\ i8 < h.nx /\ h.ob i9 = some (3, [[I p.State, I q_9_1, I q_9_2]]) /\ i9 < h.nx /\ ¬i6 = i8 /\ ¬i6 = i9 /\ ¬i8 = i9) ?_ ?_
     ·exact ⟨h.nx, s3, s6, s8, va9, va9, (by simp only [go_sem, Q1, Q0]), (by simp only [go_sem, Q0]), (by simp only [go_sem, Q7, Q8]), (by simp only [go_sem, Q8]), vb9, vb9, Qc, ve9, ve9⟩
     ·try clear s2 s3 s4 s6 s7 s8 s42 Q1 Q0 Q7 Q8 Qc
      rintro ⟨q_9_1, q_9_2, k_10⟩ o t h ⟨i9, s3, s6, s8, s9, s10, Q1, Q0, Q7, Q8, Q2, Q6, Qc, Qi, Qj⟩ hm2 hb20;simp only [c4f] at hm2;rw [g4p];refine b0v ?_;apply b0b;intro K hK;simp only [go_sem, s8, s10, Q7];apply hK;refine b0i fun K21 hK21 => ?_;simp only [go_sem];refine b0k (fun hc22 => ?_) (fun hc22 => ?_)
      ·rw [b0r hc22] at hm2;simp only [b0s, b0f];refine hK21 _ _ ?_;refine b0i fun K23 hK23 => ?_
       have J24 : ∀ (q_9_1_1 q_9_2_1 : Int) (t : Slots) (h : Heap), t 3 = .fp (vM m) 0 -> t 6 = .rp i6 0 0 -> t 8 = .rp i8 0 0 -> t 9 = .rp i9 0 0 -> t 10 = I k_10 -> h.ob i6 = some (3, [[I 0, I 0, I 0]]) -> i6 < h.nx -> h.ob i8 = some (4, [[I x9.From, I x9.To, .fs 1 (List.map b0t x9.When), .fs 2 (List.map b2o x9.Sets)]]) -> i8 < h.nx -> h.ob i9 = some (3, [[I p.State, I q_9_1_1, I q_9_2_1]]) -> i9 < h.nx -> ¬i6 = i8 -> ¬i6 = i9 -> ¬i8 = i9 -> b8x k_10 q_9_1_1 q_9_2_1 = some o -> K23 t h := by
        try clear s3 s6 s8 s9 s10 Q1 Q0 Q7 Q8 Q2 Q6 Qc Qi Qj
        intro q_9_1_1 q_9_2_1 t h s3 s6 s8 s9 s10 Q1 Q0 Q7 Q8 Q2 Q6 Qc Qi Qj hm2;refine hK23 _ _ ?_;unfold b8x at hm2;apply b03;intro K hK;simp only [go_sem, s10];apply hK;simp only [b0f];obtain rfl := sI9 hm2;refine ⟨_, rfl, ?_⟩;exact ⟨i9, s3, s6, s8, s9, va9, Q1, Q0, Q7, Q8, Q2, Q6, Qc, Qi, Qj⟩
       simp only [b0u];obtain ⟨x26, h_x26, hm2⟩ := b0g hm2;have h_x260 := b05 h_x26;have h_x261 := b06 h_x26;apply b0b;intro K hK;simp only [go_sem, s8, s10, Q7, b08 h_x26, h_x261];apply hK;apply b0b;intro K hK;simp only [go_sem, s8, s10, Q7, b08 h_x26];apply hK;simp only [b0u];apply b0b;intro K hK;simp only [go_sem];apply hK;simp only [go_sem];refine b0k (fun hc27 => ?_) (fun hc27 => ?_)
       ·rw [b0r hc27] at hm2;obtain ⟨x29, h_x29, hm2⟩ := b0g hm2;have ha_x29 : ∀ v : Int, List.take (1 + Int.toNat (x26.Counter)) [I p.State, I q_9_1, I q_9_2] ++ [I v] ++ List.drop (1 + Int.toNat (x26.Counter)) [I q_9_1, I q_9_2] = [I p.State, I (b1n (x26.Counter) 0 v q_9_1), I (b1n (x26.Counter) 1 v q_9_2)] := fun v => (c1e (cs := [I p.State, I q_9_1, I q_9_2]) (off := 1) (v := v) h_x29 rfl).trans (by rw [c1d h_x29]; rfl);have hb_x29 : 1 + Int.toNat (x26.Counter) + 1 <= 3 := Nat.le_trans (Nat.add_le_add_left (c0a h_x29) 1) (by simp);apply b03;intro K hK;simp only [go_sem, s9, Q2, c7f (n := 2) (l := [q_9_1, q_9_2]) h_x29 rfl, ha_x29, hb_x29];apply hK;simp only [b02, b0f];exact J24 (b1n x26.Counter 0 0 q_9_1) (b1n x26.Counter 1 0 q_9_2) _ _ s3 s6 s8 s9 s10 (by simp only [go_sem, Q1, Qi]) (by simp only [go_sem, Q0]) (by simp only [go_sem, Q7, Qj]) (by simp only [go_sem, Q8]) vb9 (by simp only [go_sem, Q6]) Qc Qi Qj hm2
       ·rw [b0q hc27] at hm2;apply b0b;intro K hK;simp only [go_sem];apply hK;simp only [go_sem];refine b0k (fun hc30 => ?_) (fun hc30 => ?_)
        ·rw [b0r hc30] at hm2;obtain ⟨x33, h_x33, hm2⟩ := b0g hm2;have ha_x33 : ∀ v : Int, List.take (1 + Int.toNat (x26.Counter)) [I p.State, I q_9_1, I q_9_2] ++ [I v] ++ List.drop (1 + Int.toNat (x26.Counter)) [I q_9_1, I q_9_2] = [I p.State, I (b1n (x26.Counter) 0 v q_9_1), I (b1n (x26.Counter) 1 v q_9_2)] := fun v => (c1e (cs := [I p.State, I q_9_1, I q_9_2]) (off := 1) (v := v) h_x33 rfl).trans (by rw [c1d h_x33]; rfl);have hb_x33 : 1 + Int.toNat (x26.Counter) + 1 <= 3 := Nat.le_trans (Nat.add_le_add_left (c0a h_x33) 1) (by simp);obtain ⟨x34, h_x34, hm2⟩ := b0g hm2;have h_x340 := b05 h_x34;have h_x341 := b06 h_x34;apply b03;intro K hK;simp only [go_sem, s3, s9, Q2, c7f (n := 2) (l := [q_9_1, q_9_2]) h_x33 rfl, c0c (cs := [I p.State, I q_9_1, I q_9_2]) (off := 1) h_x33 rfl, ha_x33, hb_x33, b08 h_x34];apply hK;simp only [b02, b0f];exact J24 (b1n x26.Counter 0 (mn (wr (x33 + 1)) x34.Max) q_9_1) (b1n x26.Counter 1 (mn (wr (x33 + 1)) x34.Max) q_9_2) _ _ s3 s6 s8 s9 s10 (by simp only [go_sem, Q1, Qi]) (by simp only [go_sem, Q0]) (by simp only [go_sem, Q7, Qj]) (by simp only [go_sem, Q8]) vb9 (by simp only [go_sem, Q6]) Qc Qi Qj hm2
        ·rw [b0q hc30] at hm2;apply b0b;intro K hK;simp only [go_sem];apply hK;simp only [go_sem];refine b0k (fun hc35 => ?_) (fun hc35 => ?_)
         ·rw [b0r hc35] at hm2;obtain ⟨x37, h_x37, hm2⟩ := b0g hm2;have ha_x37 : ∀ v : Int, List.take (1 + Int.toNat (x26.Counter)) [I p.State, I q_9_1, I q_9_2] ++ [I v] ++ List.drop (1 + Int.toNat (x26.Counter)) [I q_9_1, I q_9_2] = [I p.State, I (b1n (x26.Counter) 0 v q_9_1), I (b1n (x26.Counter) 1 v q_9_2)] := fun v => (c1e (cs := [I p.State, I q_9_1, I q_9_2]) (off := 1) (v := v) h_x37 rfl).trans (by rw [c1d h_x37]; rfl);have hb_x37 : 1 + Int.toNat (x26.Counter) + 1 <= 3 := Nat.le_trans (Nat.add_le_add_left (c0a h_x37) 1) (by simp);apply b03;intro K hK;simp only [go_sem, s9, Q2, c7f (n := 2) (l := [q_9_1, q_9_2]) h_x37 rfl, c0c (cs := [I p.State, I q_9_1, I q_9_2]) (off := 1) h_x37 rfl, ha_x37, hb_x37];apply hK;simp only [b02, b0f];exact J24 (b1n x26.Counter 0 (mx (wr (x37 - 1)) 0) q_9_1) (b1n x26.Counter 1 (mx (wr (x37 - 1)) 0) q_9_2) _ _ s3 s6 s8 s9 s10 (by simp only [go_sem, Q1, Qi]) (by simp only [go_sem, Q0]) (by simp only [go_sem, Q7, Qj]) (by simp only [go_sem, Q8]) vb9 (by simp only [go_sem, Q6]) Qc Qi Qj hm2
         ·rw [b0q hc35] at hm2;simp only [b0s, b02, b0f];exact J24 q_9_1 q_9_2 _ _ s3 s6 s8 s9 s10 Q1 Q0 Q7 Q8 Q2 Q6 Qc Qi Qj hm2
      ·rw [b0q hc22] at hm2;simp only [b09, b1b, b1a, b0f];obtain rfl := sI9 hm2;obtain rfl := hb20 _ rfl
       try dsimp only at hm1
       exact J19 q_9_1 q_9_2 i9 _ _ s6 s8 s9 Q1 Q0 Q7 Q8 Q2 Q6 Qc Qi Qj hm1
  ·rw [b0q hc5] at hm1;simp only [b09, b1b, b1a, b0f];obtain rfl := sI9 hm1;obtain rfl := hb3 _ rfl
   try dsimp only at hm0
   exact J2 i6 _ _ s4 s6 Q1 Q0 hm0
theorem d3d (hf : Has O "newel/newelref04.Word" x_r04_Word) : d0g O := by
 intro s r hm0;unfold c02 at hm0;refine b1i hf rfl (b0a (b0e _) b0j) (b0e _) ?_;refine b1c (fun t h => t 0 = .v (.string s)) rfl fun t h s0 => ?_;simp only [x_r04_Word];apply b0b;intro K hK;simp only [go_sem];apply hK;refine b0v ?_;apply b0b;intro K hK;simp only [go_sem];apply hK;refine b0i fun K1 hK1 => ?_
 have J2 : ∀ (t : Slots) (h : Heap), t 0 = .v (.string s) -> c8o s = some r -> K1 t h := by
  intro t h s0 hm0;refine hK1 _ _ ?_;unfold c8o at hm0;refine b0v ?_;apply b0b;intro K hK;simp only [go_sem];apply hK;refine b0i fun K3 hK3 => ?_
  have J4 : ∀ (t : Slots) (h : Heap), t 0 = .v (.string s) -> d4r s = some r -> K3 t h := by
   intro t h s0 hm0;refine hK3 _ _ ?_;unfold d4r at hm0;apply b0b;intro K hK;simp only [go_sem, s0];apply hK;simp only [b0x, b0y];obtain rfl := sI9 hm0;exact b04 vb9 (b0e _)
  simp only [b0u];obtain ⟨b5, hl5, hm0⟩ := b0g hm0;refine b1j hl5 (fun | i_4, t, h => t 0 = .v (.string s) /\ t 4 = I i_4) ?_ ?_
  ·exact ⟨s0, va9⟩
  ·rintro i_4 o t h ⟨s0, s4⟩ hm1 hb5;simp only [c4i] at hm1;rw [g4w];refine b0v ?_;apply b0b;intro K hK;simp only [go_sem, s0, s4];apply hK;refine b0i fun K6 hK6 => ?_;simp only [go_sem];refine b0k (fun hc7 => ?_) (fun hc7 => ?_)
   ·rw [b0r hc7] at hm1;simp only [b0s, b0f];refine hK6 _ _ ?_;refine b0i fun K8 hK8 => ?_;simp only [b0u];obtain ⟨x10, h_x10, hm1⟩ := b0g hm1;refine b2p (fun t h => t 0 = .v (.string s) /\ t 4 = I i_4 /\ t 32 = B ((decide (x10 < 97)) || (decide (122 < x10)))) (fun K hK => ?_) ?_
    ·simp only [go_sem, s0, s4, d95 h_x10];refine b0k (fun hg11 => ?_) (fun hg11 => ?_)
     ·simp only [go_sem, hg11];exact hK _ _ ⟨s0, s4, (by first | (simp only [go_sem, hg11]; done) | rfl)⟩
     ·simp only [go_sem, s0, s4, d95 h_x10, hg11];exact hK _ _ ⟨s0, s4, (by first | (simp only [go_sem, hg11]; done) | rfl)⟩
    ·rintro t h ⟨s0, s4, s32⟩;simp only [go_sem, s32];refine b0k (fun hc12 => ?_) (fun hc12 => ?_)
     ·rw [b0r hc12] at hm1;apply b0b;intro K hK;simp only [go_sem];apply hK;simp only [b0x, b1p, b2e, b0y];obtain rfl := sI9 hm1;obtain rfl := hb5 _ rfl
      try dsimp only at hm0
      obtain rfl := sI9 hm0;exact b04 vb9 (b0e _)
     ·rw [b0q hc12] at hm1;simp only [b0s, b02, b0f];refine hK8 _ _ ?_;apply b03;intro K hK;simp only [go_sem, s4];apply hK;simp only [b0f];obtain rfl := sI9 hm1;refine ⟨_, rfl, ?_⟩;exact ⟨s0, va9⟩
   ·rw [b0q hc7] at hm1;simp only [b09, b1b, b1a, b0f];obtain rfl := sI9 hm1;obtain rfl := hb5 _ rfl
    try dsimp only at hm0
    exact J4  _ _ s0 hm0
 simp only [b0u];obtain ⟨b14, hl14, hm0⟩ := b0g hm0;refine b1j hl14 (fun | i_3, t, h => t 0 = .v (.string s) /\ t 3 = I i_3) ?_ ?_
 ·exact ⟨s0, va9⟩
 ·rintro i_3 o t h ⟨s0, s3⟩ hm1 hb14;simp only [c4j] at hm1;rw [g4x];refine b0v ?_;apply b0b;intro K hK;simp only [go_sem, s3];apply hK;refine b0i fun K15 hK15 => ?_;simp only [go_sem];refine b0k (fun hc16 => ?_) (fun hc16 => ?_)
  ·rw [b0r hc16] at hm1;simp only [b0s, b0f];refine hK15 _ _ ?_;refine b0i fun K17 hK17 => ?_;simp only [b0u];obtain ⟨x19, h_x19, hm1⟩ := b0g hm1;have h_x190 := b05 h_x19;have h_x191 := b06 h_x19;apply b0b;intro K hK;simp only [go_sem, s0, s3, b08 h_x19, h_x191];apply hK;simp only [go_sem];refine b0k (fun hc20 => ?_) (fun hc20 => ?_)
   ·rw [b0r hc20] at hm1;apply b0b;intro K hK;simp only [go_sem];apply hK;simp only [b0x, b1p, b2e, b0y];obtain rfl := sI9 hm1;obtain rfl := hb14 _ rfl
    try dsimp only at hm0
    obtain rfl := sI9 hm0;exact b04 vb9 (b0e _)
   ·rw [b0q hc20] at hm1;simp only [b0s, b02, b0f];refine hK17 _ _ ?_;apply b03;intro K hK;simp only [go_sem, s3];apply hK;simp only [b0f];obtain rfl := sI9 hm1;refine ⟨_, rfl, ?_⟩;exact ⟨s0, va9⟩
  ·rw [b0q hc16] at hm1;simp only [b09, b1b, b1a, b0f];obtain rfl := sI9 hm1;obtain rfl := hb14 _ rfl
   try dsimp only at hm0
   exact J2  _ _ s0 hm0
theorem c3m (hf : Has O "newel/newelref04.condition" x_r04_condition) (b4p : c5r O) : c5p O := by
 intro m c inside r hm0;unfold c04 at hm0;refine b1i hf rfl (b0a (fM _) (b0a (b0c fun a _ => b2j a) (b0a (b0e _) b0j))) (b0e _) ?_;refine b1c (fun t h => t 0 = .agg (vM m) /\ t 1 = .fs 1 (List.map b0t c) /\ t 2 = B inside) ⟨rfl, rfl, rfl⟩ fun t h ⟨s0, s1, s2⟩ => ?_;simp only [x_r04_condition];apply b0b;intro K hK;simp only [go_sem, s0];apply hK;refine b0v ?_;apply b0b;intro K hK;simp only [go_sem, s1];apply hK;refine b0i fun K1 hK1 => ?_;simp only [go_sem];refine b0k (fun hc2 => ?_) (fun hc2 => ?_)
 ·rw [b0r hc2] at hm0;apply b0b;intro K hK;simp only [go_sem];apply hK;simp only [b0x, b1p, b0y];obtain rfl := sI9 hm0;exact b04 vb9 (b0e _)
 ·rw [b0q hc2] at hm0;simp only [b0s, b0f];refine hK1 _ _ ?_;refine b0v ?_;apply b0b;intro K hK;simp only [go_sem];apply hK;refine b0i fun K3 hK3 => ?_
  have J4 : ∀ (t : Slots) (h : Heap), d4s = some r -> K3 t h := by
   intro t h hm0;refine hK3 _ _ ?_;unfold d4s at hm0;apply b0b;intro K hK;simp only [go_sem];apply hK;simp only [b0x, b0y];obtain rfl := sI9 hm0;exact b04 vb9 (b0e _)
  simp only [b0u];obtain ⟨b5, hl5, hm0⟩ := b0g hm0;refine b1j hl5 (fun | i_7, t, h => t 1 = .fs 1 (List.map b0t c) /\ t 2 = B inside /\ t 3 = .fp (vM m) 0 /\ t 7 = I i_7) ?_ ?_
  ·exact ⟨s1, s2, va9, va9⟩
  ·rintro i_7 o t h ⟨s1, s2, s3, s7⟩ hm1 hb5;simp only [c05] at hm1;rw [g4z];refine b0v ?_;apply b0b;intro K hK;simp only [go_sem, s1, s7];apply hK;refine b0i fun K6 hK6 => ?_;simp only [go_sem];refine b0k (fun hc7 => ?_) (fun hc7 => ?_)
   ·rw [b0r hc7] at hm1;simp only [b0s, b0f];refine hK6 _ _ ?_;refine b0i fun K8 hK8 => ?_
    have J9 : ∀ (t : Slots) (h : Heap), t 1 = .fs 1 (List.map b0t c) -> t 2 = B inside -> t 3 = .fp (vM m) 0 -> t 7 = I i_7 -> c8p i_7 = some o -> K8 t h := by
     intro t h s1 s2 s3 s7 hm1;refine hK8 _ _ ?_;unfold c8p at hm1;apply b03;intro K hK;simp only [go_sem, s7];apply hK;simp only [b0f];obtain rfl := sI9 hm1;refine ⟨_, rfl, ?_⟩;exact ⟨s1, s2, s3, va9⟩
    simp only [b0u];refine b0v ?_;obtain ⟨x11, h_x11, hm1⟩ := b0g hm1;have h_x110 := b05 h_x11;have h_x111 := b06 h_x11;apply b0b;intro K hK;simp only [go_sem, s1, s7, b08 h_x11, h_x111];apply hK;refine b0i fun K12 hK12 => ?_;simp only [go_sem];refine b0k (fun hc13 => ?_) (fun hc13 => ?_)
    ·rw [b0r hc13] at hm1;apply b0b;intro K hK;simp only [go_sem];apply hK;simp only [b0x, b1p, b2e, b0y];obtain rfl := sI9 hm1;obtain rfl := hb5 _ rfl
     try dsimp only at hm0
     obtain rfl := sI9 hm0;exact b04 vb9 (b0e _)
    ·rw [b0q hc13] at hm1;simp only [b0s, b0f];refine hK12 _ _ ?_;apply b0b;intro K hK;simp only [go_sem];apply hK;simp only [b0u];obtain ⟨b14, hl14, hm1⟩ := b0g hm1;refine b1j hl14 (fun | k_8, t, h => t 1 = .fs 1 (List.map b0t c) /\ t 2 = B inside /\ t 3 = .fp (vM m) 0 /\ t 7 = I i_7 /\ t 8 = I k_8) ?_ ?_
     ·exact ⟨s1, s2, s3, s7, va9⟩
     ·rintro k_8 o t h ⟨s1, s2, s3, s7, s8⟩ hm2 hb14;simp only [b8y] at hm2;rw [g4y];refine b0v ?_;obtain ⟨x16, h_x16, hm2⟩ := b0g hm2;have h_x160 := b05 h_x16;have h_x161 := b06 h_x16;apply b0b;intro K hK;simp only [go_sem, s1, s7, s8, b08 h_x16];apply hK;refine b0i fun K17 hK17 => ?_;simp only [go_sem];refine b0k (fun hc18 => ?_) (fun hc18 => ?_)
      ·rw [b0r hc18] at hm2;simp only [b0s, b0f];refine hK17 _ _ ?_;refine b0i fun K19 hK19 => ?_;simp only [b0u];obtain ⟨x21, h_x21, hm2⟩ := b0g hm2;have h_x210 := b05 h_x21;have h_x211 := b06 h_x21;apply b0b;intro K hK;simp only [go_sem, s1, s7, s8, b08 h_x21, h_x211, b08 h_x16];apply hK;apply b0b;intro K hK;simp only [go_sem];apply hK;refine b0v ?_;apply b0b;intro K hK;simp only [go_sem];apply hK;refine b0i fun K22 hK22 => ?_
       have J23 : ∀ (is_10 : Bool) (t : Slots) (h : Heap), t 1 = .fs 1 (List.map b0t c) -> t 2 = B inside -> t 3 = .fp (vM m) 0 -> t 7 = I i_7 -> t 8 = I k_8 -> t 10 = B is_10 -> b7p k_8 is_10 = some o -> K22 t h := by
        intro is_10 t h s1 s2 s3 s7 s8 s10 hm2;refine hK22 _ _ ?_;unfold b7p at hm2;apply b0b;intro K hK;simp only [go_sem, s10];apply hK;simp only [go_sem];refine b0k (fun hc24 => ?_) (fun hc24 => ?_)
        ·rw [b0r hc24] at hm2;apply b0b;intro K hK;simp only [go_sem];apply hK;simp only [b0x, b1p, b2e, b0y];obtain rfl := sI9 hm2;obtain rfl := hb14 _ rfl
         try dsimp only at hm1
         obtain rfl := sI9 hm1;obtain rfl := hb5 _ rfl
         try dsimp only at hm0
         obtain rfl := sI9 hm0;exact b04 vb9 (b0e _)
        ·rw [b0q hc24] at hm2;simp only [b0s, b02, b0f];refine hK19 _ _ ?_;apply b03;intro K hK;simp only [go_sem, s8];apply hK;simp only [b0f];obtain rfl := sI9 hm2;refine ⟨_, rfl, ?_⟩;exact ⟨s1, s2, s3, s7, va9⟩
       simp only [b0u];apply b0b;intro K hK;simp only [go_sem];apply hK;simp only [go_sem];refine b0k (fun hc25 => ?_) (fun hc25 => ?_)
       ·rw [b0r hc25] at hm2;refine b9y (fun t h => t 1 = .fs 1 (List.map b0t c) /\ t 2 = B inside /\ t 3 = .fp (vM m) 0 /\ t 7 = I i_7 /\ t 8 = I k_8 /\ t 10 = B ((b2b x21.Number 0 (wr ((List.length m.Inputs : Int) - 1))) && (decide (x21.Value = 0)))) (fun K hK => ?_) ?_
        ·simp only [go_sem, s3];refine b01 (b4p x21.Number 0 (wr ((List.length m.Inputs : Int) - 1))) ?_;simp only [go_sem];refine b0k (fun hg26 => ?_) (fun hg26 => ?_)
         ·simp only [go_sem, hg26];exact hK _ _ ⟨s1, s2, s3, s7, s8, (by first | (simp only [go_sem, hg26]; done) | rfl)⟩
         ·simp only [go_sem, hg26];exact hK _ _ ⟨s1, s2, s3, s7, s8, (by first | (simp only [go_sem, hg26]; done) | rfl)⟩
        ·rintro t h ⟨s1, s2, s3, s7, s8, s10⟩;simp only [b02, b0f];exact J23 ((b2b x21.Number 0 (wr ((List.length m.Inputs : Int) - 1))) && (decide (x21.Value = 0))) _ _ s1 s2 s3 s7 s8 s10 hm2
       ·rw [b0q hc25] at hm2;apply b0b;intro K hK;simp only [go_sem];apply hK;simp only [go_sem];refine b0k (fun hc27 => ?_) (fun hc27 => ?_)
        ·rw [b0r hc27] at hm2;obtain ⟨c31, h_c31, hm2⟩ := b0g hm2;refine b9y (fun t h => t 1 = .fs 1 (List.map b0t c) /\ t 2 = B inside /\ t 3 = .fp (vM m) 0 /\ t 7 = I i_7 /\ t 8 = I k_8 /\ t 10 = B c31) (fun K hK => ?_) ?_
         ·simp only [go_sem, s3];refine b01 (b4p x21.Number 0 (wr ((List.length m.Counters : Int) - 1))) ?_;simp only [go_sem];refine b0k (fun hg32 => ?_) (fun hg32 => ?_)
          ·simp only [hg32, eq_self, if_true] at h_c31;obtain ⟨x30, h_x30, h_c31⟩ := b0g h_c31;have h_x300 := b05 h_x30;have h_x301 := b06 h_x30;obtain rfl := sI9 h_c31;simp only [go_sem, s3, b08 h_x30, hg32];refine b01 (b4p x21.Value 0 x30.Max) ?_;simp only [go_sem, hg32];exact hK _ _ ⟨s1, s2, s3, s7, s8, va9⟩
          ·simp only [hg32, if_false, fT9] at h_c31;obtain rfl := sI9 h_c31;simp only [go_sem, hg32];exact hK _ _ ⟨s1, s2, s3, s7, s8, va9⟩
         ·rintro t h ⟨s1, s2, s3, s7, s8, s10⟩;simp only [b02, b0f];exact J23 c31 _ _ s1 s2 s3 s7 s8 s10 hm2
        ·rw [b0q hc27] at hm2;apply b0b;intro K hK;simp only [go_sem];apply hK;simp only [go_sem];refine b0k (fun hc33 => ?_) (fun hc33 => ?_)
         ·rw [b0r hc33] at hm2;refine b9y (fun t h => t 1 = .fs 1 (List.map b0t c) /\ t 2 = B inside /\ t 3 = .fp (vM m) 0 /\ t 7 = I i_7 /\ t 8 = I k_8 /\ t 10 = B ((inside && (b2b x21.Number 0 (wr ((List.length m.States : Int) - 1)))) && (decide (x21.Value = 0)))) (fun K hK => ?_) ?_
          ·simp only [go_sem, s2];refine b0k (fun hg34 => ?_) (fun hg34 => ?_)
           ·simp only [go_sem, s3, hg34];refine b01 (b4p x21.Number 0 (wr ((List.length m.States : Int) - 1))) ?_;simp only [go_sem, hg34];refine b0k (fun hg35 => ?_) (fun hg35 => ?_)
            ·simp only [go_sem, hg34, hg35];exact hK _ _ ⟨s1, s2, s3, s7, s8, (by first | (simp only [go_sem, hg34, hg35]; done) | rfl)⟩
            ·simp only [go_sem, hg34, hg35];exact hK _ _ ⟨s1, s2, s3, s7, s8, (by first | (simp only [go_sem, hg34, hg35]; done) | rfl)⟩
           ·simp only [go_sem, hg34];exact hK _ _ ⟨s1, s2, s3, s7, s8, (by first | (simp only [go_sem, hg34]; done) | rfl)⟩
          ·rintro t h ⟨s1, s2, s3, s7, s8, s10⟩;simp only [b02, b0f];exact J23 ((inside && (b2b x21.Number 0 (wr ((List.length m.States : Int) - 1)))) && (decide (x21.Value = 0))) _ _ s1 s2 s3 s7 s8 s10 hm2
         ·rw [b0q hc33] at hm2;apply b0b;intro K hK;simp only [go_sem];apply hK;simp only [go_sem];refine b0k (fun hc36 => ?_) (fun hc36 => ?_)
          ·rw [b0r hc36] at hm2;refine b9y (fun t h => t 1 = .fs 1 (List.map b0t c) /\ t 2 = B inside /\ t 3 = .fp (vM m) 0 /\ t 7 = I i_7 /\ t 8 = I k_8 /\ t 10 = B ((b2b x21.Number 0 (wr ((List.length m.Outputs : Int) - 1))) && (decide (x21.Value = 0)))) (fun K hK => ?_) ?_
           ·simp only [go_sem, s3];refine b01 (b4p x21.Number 0 (wr ((List.length m.Outputs : Int) - 1))) ?_;simp only [go_sem];refine b0k (fun hg37 => ?_) (fun hg37 => ?_)
            ·simp only [go_sem, hg37];exact hK _ _ ⟨s1, s2, s3, s7, s8, (by first | (simp only [go_sem, hg37]; done) | rfl)⟩
            ·simp only [go_sem, hg37];exact hK _ _ ⟨s1, s2, s3, s7, s8, (by first | (simp only [go_sem, hg37]; done) | rfl)⟩
           ·rintro t h ⟨s1, s2, s3, s7, s8, s10⟩;simp only [b02, b0f];exact J23 ((b2b x21.Number 0 (wr ((List.length m.Outputs : Int) - 1))) && (decide (x21.Value = 0))) _ _ s1 s2 s3 s7 s8 s10 hm2
          ·rw [b0q hc36] at hm2;simp only [b0s, b02, b0f];exact J23 false _ _ s1 s2 s3 s7 s8 va9 hm2
      ·rw [b0q hc18] at hm2;simp only [b09, b1b, b1a, b02, b0f];obtain rfl := sI9 hm2;obtain rfl := hb14 _ rfl
       try dsimp only at hm1
       exact J9  _ _ s1 s2 s3 s7 hm1
   ·rw [b0q hc7] at hm1;simp only [b09, b1b, b1a, b0f];obtain rfl := sI9 hm1;obtain rfl := hb5 _ rfl
    try dsimp only at hm0
    exact J4  _ _  hm0
theorem b4p (hf : Has O "newel/newelref04.from" x_r04_from) : c5r O := by
 intro n low high;generalize hm0 : b2b n low high = r;unfold b2b at hm0;refine b1i hf rfl (b0a (b0e _) (b0a (b0e _) (b0a (b0e _) b0j))) (b0e _) ?_;refine b1c (fun t h => t 0 = I n /\ t 1 = I low /\ t 2 = I high) ⟨rfl, rfl, rfl⟩ fun t h ⟨s0, s1, s2⟩ => ?_;simp only [x_r04_from];apply b0b;intro K hK;simp only [go_sem];apply hK;refine b2p (fun t h => t 6 = B ((decide (low <= n)) && (decide (n <= high)))) (fun K hK => ?_) ?_
 ·simp only [go_sem, s0, s1];refine b0k (fun hg1 => ?_) (fun hg1 => ?_)
  ·simp only [go_sem, s0, s2, hg1];exact hK _ _ (by first | (simp only [go_sem, hg1]; done) | rfl)
  ·simp only [go_sem, hg1];exact hK _ _ (by first | (simp only [go_sem, hg1]; done) | rfl)
 ·rintro t h s6;simp only [b0x, b0y];obtain rfl := hm0;exact b04 (by simp only [go_sem, s6]) (b0e _)
theorem u3s (hf : Has O "newel/newelref10.Heard" x_r10_Heard) (d3b : d0e O) : u2r O := by
 intro t_ tick x r hm0;unfold s86 at hm0;refine b1i hf rfl (b0a (.agg _ (b0a (b0e _) (b0a (b0e _) (b0a (b0e _) b0j)))) (b0a (b0e _) (b0a (b0e _) b0j))) (b0e _) ?_;refine b1c (fun t h => t 0 = .agg [I t_.Input, I t_.Value, I t_.From] /\ t 1 = I tick /\ t 2 = I x) ⟨rfl, rfl, rfl⟩ fun t h ⟨s0, s1, s2⟩ => ?_;simp only [x_r10_Heard];apply b0b;intro K hK;simp only [go_sem, s0];apply hK;refine b0v ?_;refine b2p (fun t h => t 2 = I x /\ t 3 = .fp [I t_.Input, I t_.Value, I t_.From] 0 /\ t 15 = B ((decide (t_.Input < 0)) || (decide (tick < t_.From)))) (fun K hK => ?_) ?_
 ·simp only [go_sem];refine b0k (fun hg1 => ?_) (fun hg1 => ?_)
  ·simp only [go_sem, hg1];exact hK _ _ ⟨s2, va9, (by first | (simp only [go_sem, hg1]; done) | rfl)⟩
  ·simp only [go_sem, s1, hg1];exact hK _ _ ⟨s2, va9, (by first | (simp only [go_sem, hg1]; done) | rfl)⟩
 ·rintro t h ⟨s2, s3, s15⟩;refine b0i fun K2 hK2 => ?_;simp only [go_sem, s15];refine b0k (fun hc3 => ?_) (fun hc3 => ?_)
  ·rw [b0r hc3] at hm0;apply b0b;intro K hK;simp only [go_sem, s2];apply hK;simp only [b0x, b1p, b0y];obtain rfl := sI9 hm0;exact b04 vb9 (b0e _)
  ·rw [b0q hc3] at hm0;simp only [b0s, b0f];refine hK2 _ _ ?_;obtain ⟨y5, h_y5, hm0⟩ := b0g hm0;apply b0b;intro K hK;simp only [go_sem, s2, s3];refine b01 (d3b x t_.Input t_.Value _ h_y5) ?_;simp only [go_sem];apply hK;simp only [b0x, b0y];obtain rfl := sI9 hm0;exact b04 vb9 (b0e _)
theorem s8v (hf : Has O "newel/newelref10.from" x_r10_from) : u1m O := by
 intro n low high;generalize hm0 : b98 n low high = r;unfold b98 at hm0;refine b1i hf rfl (b0a (b0e _) (b0a (b0e _) (b0a (b0e _) b0j))) (b0e _) ?_;refine b1c (fun t h => t 0 = I n /\ t 1 = I low /\ t 2 = I high) ⟨rfl, rfl, rfl⟩ fun t h ⟨s0, s1, s2⟩ => ?_;simp only [x_r10_from];apply b0b;intro K hK;simp only [go_sem];apply hK;refine b2p (fun t h => t 6 = B ((decide (low <= n)) && (decide (n <= high)))) (fun K hK => ?_) ?_
 ·simp only [go_sem, s0, s1];refine b0k (fun hg1 => ?_) (fun hg1 => ?_)
  ·simp only [go_sem, s0, s2, hg1];exact hK _ _ (by first | (simp only [go_sem, hg1]; done) | rfl)
  ·simp only [go_sem, hg1];exact hK _ _ (by first | (simp only [go_sem, hg1]; done) | rfl)
 ·rintro t h s6;simp only [b0x, b0y];obtain rfl := hm0;exact b04 (by simp only [go_sem, s6]) (b0e _)
theorem d3i (hf : Has O "newel/situation.Check$1" x_situation_CheckD1) : d0l O := by
 intro x;generalize hm0 : b7s x = r;unfold b7s at hm0;refine b1i hf rfl (b0a (.agg _ (b0a (b0e _) (b0a (b0e _) (b0a (b0e _) (b0a (b0e _) b0j))))) b0j) (b0e _) ?_;refine b1c (fun t h => t 0 = .agg [I x.Kind, I x.Number, I x.Value, B x.Not]) rfl fun t h s0 => ?_;simp only [x_situation_CheckD1];apply b0b;intro K hK;simp only [go_sem, s0];apply hK;apply b0b;intro K hK;simp only [go_sem];apply hK;simp only [b0x, b0y];obtain rfl := hm0;exact b04 vb9 (b0e _)
end Go.Nw.AM
