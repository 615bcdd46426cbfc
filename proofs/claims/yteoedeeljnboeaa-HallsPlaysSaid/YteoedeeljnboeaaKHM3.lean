/- That the texts make what their models say: printed by a program. -/
import Derived.Test.YteoedeeljnboeaaHM
set_option linter.all false
set_option linter.unusedVariables false
set_option linter.unusedSimpArgs false
set_option linter.unusedSectionVars false
namespace Go.Nw.HM
open Go.Nw.Halls
set_option linter.unusedSimpArgs false
set_option linter.unusedVariables false
set_option maxHeartbeats 4000000
variable {O : Orac}
theorem d0l (hf : Has O "newel/newelref06.Play" x_r06_Play) (b8c : c0m O) (d0k : c7c O) (d0n : c7f O) : c7d O := by
 intro h_ d r hm0
 unfold b8h at hm0
 refine b2k hf rfl (b0e (.agg _ (b0e (b0s fun a _ => b2m a) (b0e (b0s fun a _ => b2l a) (b0e (b0s fun a _ => b2o a) (b0e (b0l _) b0y))))) (b0e (.agg _ (b0e (b0s fun a _ => b2b a) (b0e (b0s fun a _ => b2v a) (b0e (b0s fun a _ => b2v a) b0y)))) b0y)) (.tup _ (b0e (b0s fun a _ => b2v a) (b0e (b0l _) b0y))) ?_
 refine b2h (fun t h => t 0 = .agg [.fs 5 (List.map b0p h_.Combs), .fs 3 (List.map b0o h_.Trains), .fs 3 (List.map b0q h_.Shifts), I h_.Until] ∧ t 1 = .agg [.fs 1 (List.map eI d.At), .fs 1 (List.map b0k d.People), .fs 1 (List.map b0k d.Walks)]) ⟨rfl, rfl⟩ fun t h ⟨s0, s1⟩ => ?_
 simp only [x_r06_Play]
 refine b0d fun K hK => ?_
 simp only [go_sem, s0, s1]
 refine hK _ _ ?_
 clear hK K
 refine b03 ?_
 obtain ⟨y2, h_y2, hm0⟩ := b0h hm0
 refine b0d fun K hK => ?_
 simp only [go_sem]
 refine b1j (b8c h_ _ h_y2) ?_
 simp only [go_sem]
 refine hK _ _ ?_
 clear hK K
 refine b0r fun K3 hK3 => ?_
 simp only [go_sem]
 refine b0u (fun hc4 => ?_) (fun hc4 => ?_)
 ·rw [b02 hc4] at hm0
  refine b0d fun K hK => ?_
  simp only [go_sem]
  refine hK _ _ ?_
  clear hK K
  simp only [b1a, b1c, b1b, b1d]
  obtain rfl := Option.some.inj hm0
  exact b5u (v := .v (.slice none 0 0)) (u := I 60) (by simp only [go_sem, List.length_append, List.map_append]) (by simp only [go_sem, List.length_append, List.map_append]) (.nil _) (.refl _ (b0l _))
 ·rw [b01 hc4] at hm0
  simp only [b0z, b0i, b0j]
  refine hK3 _ _ ?_
  refine b03 ?_
  obtain ⟨y6, h_y6, hm0⟩ := b0h hm0
  refine b0d fun K hK => ?_
  simp only [go_sem]
  refine b1j (d0k h_ d _ h_y6) ?_
  simp only [go_sem]
  refine hK _ _ ?_
  clear hK K
  refine b0r fun K7 hK7 => ?_
  simp only [go_sem]
  refine b0u (fun hc8 => ?_) (fun hc8 => ?_)
  ·rw [b02 hc8] at hm0
   refine b0d fun K hK => ?_
   simp only [go_sem]
   refine hK _ _ ?_
   clear hK K
   simp only [b1a, b1c, b1b, b1d]
   obtain rfl := Option.some.inj hm0
   exact b5u (v := .v (.slice none 0 0)) (u := I 61) (by simp only [go_sem, List.length_append, List.map_append]) (by simp only [go_sem, List.length_append, List.map_append]) (.nil _) (.refl _ (b0l _))
  ·rw [b01 hc8] at hm0
   simp only [b0z, b0i, b0j]
   refine hK7 _ _ ?_
   obtain ⟨y10, h_y10, hm0⟩ := b0h hm0
   refine b0d fun K hK => ?_
   simp only [go_sem]
   refine b1j (d0n h_ d _ h_y10) ?_
   simp only [go_sem]
   refine hK _ _ ?_
   clear hK K
   refine b0d fun K hK => ?_
   simp only [go_sem]
   refine hK _ _ ?_
   clear hK K
   simp only [b1a, b1c, b1b, b1d]
   obtain rfl := Option.some.inj hm0
   exact b88 (by simp only [go_sem, List.length_append, List.map_append]) (by simp only [go_sem, List.length_append, List.map_append]) (b0s fun a _ => b2v a) (b0l _)
theorem d0m (hf : Has O "newel/newelref06.Rates" x_r06_Rates) (b8c : c0m O) (d0o : c7g O) (c2a : c3n O) : c7e O := by
 intro h_ c r hm0
 unfold b7c at hm0
 refine b2k hf rfl (b0e (.agg _ (b0e (b0s fun a _ => b2m a) (b0e (b0s fun a _ => b2l a) (b0e (b0s fun a _ => b2o a) (b0e (b0l _) b0y))))) (b0e (b0l _) b0y)) (.tup _ (b0e (b0s fun a _ => b2b a) (b0e (b0l _) b0y))) ?_
 refine b2h (fun t h => t 0 = .agg [.fs 5 (List.map b0p h_.Combs), .fs 3 (List.map b0o h_.Trains), .fs 3 (List.map b0q h_.Shifts), I h_.Until] ∧ t 1 = I c) ⟨rfl, rfl⟩ fun t h ⟨s0, s1⟩ => ?_
 simp only [x_r06_Rates]
 refine b0d fun K hK => ?_
 simp only [go_sem, s0]
 refine hK _ _ ?_
 clear hK K
 refine b03 ?_
 obtain ⟨y2, h_y2, hm0⟩ := b0h hm0
 refine b0d fun K hK => ?_
 simp only [go_sem]
 refine b1j (b8c h_ _ h_y2) ?_
 simp only [go_sem]
 refine hK _ _ ?_
 clear hK K
 refine b0r fun K3 hK3 => ?_
 simp only [go_sem]
 refine b0u (fun hc4 => ?_) (fun hc4 => ?_)
 ·rw [b02 hc4] at hm0
  refine b0d fun K hK => ?_
  simp only [go_sem]
  refine hK _ _ ?_
  clear hK K
  simp only [b1a, b1c, b1b, b1d]
  obtain rfl := Option.some.inj hm0
  exact b5u (v := .v (.slice none 0 0)) (u := I 60) (by simp only [go_sem, List.length_append, List.map_append]) (by simp only [go_sem, List.length_append, List.map_append]) (.nil _) (.refl _ (b0l _))
 ·rw [b01 hc4] at hm0
  simp only [b0z, b0i, b0j]
  refine hK3 _ _ ?_
  refine b03 ?_
  refine b0d fun K hK => ?_
  simp only [go_sem, s1]
  refine b1j (d0o h_ c) ?_
  simp only [go_sem, s1]
  refine hK _ _ ?_
  clear hK K
  refine b0r fun K5 hK5 => ?_
  simp only [go_sem]
  refine b0u (fun hc6 => ?_) (fun hc6 => ?_)
  ·rw [b02 hc6] at hm0
   refine b0d fun K hK => ?_
   simp only [go_sem]
   refine hK _ _ ?_
   clear hK K
   simp only [b1a, b1c, b1b, b1d]
   obtain rfl := Option.some.inj hm0
   exact b5u (v := .v (.slice none 0 0)) (u := I 1) (by simp only [go_sem, List.length_append, List.map_append]) (by simp only [go_sem, List.length_append, List.map_append]) (.nil _) (.refl _ (b0l _))
  ·rw [b01 hc6] at hm0
   simp only [b0z, b0i, b0j]
   refine hK5 _ _ ?_
   obtain ⟨y8, h_y8, hm0⟩ := b0h hm0
   refine b0d fun K hK => ?_
   simp only [go_sem, s1]
   refine b1j (c2a h_ c _ h_y8) ?_
   simp only [go_sem, s1]
   refine hK _ _ ?_
   clear hK K
   simp only [b1a, b1c, b1b, b1d]
   obtain rfl := Option.some.inj hm0
   exact b88 (by simp only [go_sem, List.length_append, List.map_append]) (by simp only [go_sem, List.length_append, List.map_append]) (b0s fun a _ => b2b a) (b0l _)
theorem d0n (hf : Has O "newel/newelref06.Run" x_r06_Run) (c2a : c3n O) : c7f O := by
 intro h_ d r hm0
 unfold c2n at hm0
 refine b2k hf rfl (b0e (.agg _ (b0e (b0s fun a _ => b2m a) (b0e (b0s fun a _ => b2l a) (b0e (b0s fun a _ => b2o a) (b0e (b0l _) b0y))))) (b0e (.agg _ (b0e (b0s fun a _ => b2b a) (b0e (b0s fun a _ => b2v a) (b0e (b0s fun a _ => b2v a) b0y)))) b0y)) (.tup _ (b0e (b0s fun a _ => b2v a) (b0e (b0s fun a _ => b2v a) (b0e (b0s fun a _ => b2v a) b0y)))) ?_
 refine b2h (fun t h => t 0 = .agg [.fs 5 (List.map b0p h_.Combs), .fs 3 (List.map b0o h_.Trains), .fs 3 (List.map b0q h_.Shifts), I h_.Until] ∧ t 1 = .agg [.fs 1 (List.map eI d.At), .fs 1 (List.map b0k d.People), .fs 1 (List.map b0k d.Walks)]) ⟨rfl, rfl⟩ fun t h ⟨s0, s1⟩ => ?_
 simp only [x_r06_Run]
 refine b0d fun K hK => ?_
 simp only [go_sem, s0, s1]
 refine hK _ _ ?_
 clear hK K
 refine b0d fun K hK => ?_
 simp only [go_sem]
 refine hK _ _ ?_
 clear hK K
 refine b03 ?_
 refine b0d fun K hK => ?_
 simp only [go_sem]
 refine hK _ _ ?_
 clear hK K
 refine b0r fun K1 hK1 => ?_
 have J2 : ∀ (come_4 : List (List Int)) (before_5 : List (List Int)) (pass_6 : List (List Int)) (v4 : AV) (hs4 : List AV) (v5 : AV) (hs5 : List AV) (v6 : AV) (hs6 : List AV) (t : Slots) (h : Heap), t 2 = .fp [.fs 5 (List.map b0p h_.Combs), .fs 3 (List.map b0o h_.Trains), .fs 3 (List.map b0q h_.Shifts), I h_.Until] 0 → t 3 = .fp [.fs 1 (List.map eI d.At), .fs 1 (List.map b0k d.People), .fs 1 (List.map b0k d.Walks)] 0 → t 4 = v4 → t 5 = v5 → t 6 = v6 → t 7 = I (List.length h_.Combs : Int) → RR h v4 hs4 1 eI come_4 → RR h v5 hs5 1 eI before_5 → RR h v6 hs6 1 eI pass_6 → (∀ j, ¬b0f v5 hs5 j → b0f v4 hs4 j) → (∀ j, ¬b0f v6 hs6 j → b0f v4 hs4 j) → (∀ j, ¬b0f v6 hs6 j → b0f v5 hs5 j) → c56 h_ d come_4 before_5 pass_6 = some r → K1 t h := by
  intro come_4 before_5 pass_6 v4 hs4 v5 hs5 v6 hs6 t h s2 s3 s4 s5 s6 s7 q0 q1 q2 rs_o4_o5 rs_o4_o6 rs_o5_o6 hm0
  refine hK1 _ _ ?_
  unfold c56 at hm0
  refine b03 ?_
  refine b0d fun K hK => ?_
  simp only [go_sem, b0a v4, b0a v5, b0a v6]
  refine hK _ _ ?_
  clear hK K
  refine b0r fun K3 hK3 => ?_
  have J4 : ∀ (come_4_1 : List (List Int)) (v4_1 : AV) (t : Slots) (h : Heap), t 2 = .fp [.fs 5 (List.map b0p h_.Combs), .fs 3 (List.map b0o h_.Trains), .fs 3 (List.map b0q h_.Shifts), I h_.Until] 0 → t 3 = .fp [.fs 1 (List.map eI d.At), .fs 1 (List.map b0k d.People), .fs 1 (List.map b0k d.Walks)] 0 → t 4 = v4_1 → t 5 = v5 → t 6 = v6 → t 7 = I (List.length h_.Combs : Int) → RR h v4_1 hs4 1 eI come_4_1 → RR h v5 hs5 1 eI before_5 → RR h v6 hs6 1 eI pass_6 → (∀ j, ¬b0f v5 hs5 j → b0f v4_1 hs4 j) → (∀ j, ¬b0f v6 hs6 j → b0f v4_1 hs4 j) → (∀ j, ¬b0f v6 hs6 j → b0f v5 hs5 j) → c57 h_ d before_5 pass_6 come_4_1 = some r → K3 t h := by
   try clear s2 s3 s4 s5 s6 s7 q0 q1 q2 rs_o4_o5 rs_o4_o6 rs_o5_o6
   intro come_4_1 v4_1 t h s2 s3 s4 s5 s6 s7 q0 q1 q2 rs_o4_o5 rs_o4_o6 rs_o5_o6 hm0
   refine hK3 _ _ ?_
   unfold c57 at hm0
   refine b03 ?_
   refine b0d fun K hK => ?_
   simp only [go_sem, b0a v4, b0a v5, b0a v6, b0a v4_1]
   refine hK _ _ ?_
   clear hK K
   refine b0r fun K5 hK5 => ?_
   have J6 : ∀ (come_4_2 : List (List Int)) (before_5_1 : List (List Int)) (pass_6_1 : List (List Int)) (v4_2 : AV) (v5_1 : AV) (v6_1 : AV) (t : Slots) (h : Heap), t 4 = v4_2 → t 5 = v5_1 → t 6 = v6_1 → RR h v4_2 hs4 1 eI come_4_2 → RR h v5_1 hs5 1 eI before_5_1 → RR h v6_1 hs6 1 eI pass_6_1 → (∀ j, ¬b0f v5_1 hs5 j → b0f v4_2 hs4 j) → (∀ j, ¬b0f v6_1 hs6 j → b0f v4_2 hs4 j) → (∀ j, ¬b0f v6_1 hs6 j → b0f v5_1 hs5 j) → d1g come_4_2 before_5_1 pass_6_1 = some r → K5 t h := by
    try clear s2 s3 s4 s5 s6 s7 q0 q1 q2 rs_o4_o5 rs_o4_o6 rs_o5_o6
    intro come_4_2 before_5_1 pass_6_1 v4_2 v5_1 v6_1 t h s4 s5 s6 q0 q1 q2 rs_o4_o5 rs_o4_o6 rs_o5_o6 hm0
    refine hK5 _ _ ?_
    unfold d1g at hm0
    refine b0d fun K hK => ?_
    simp only [go_sem, s4, b2c q0, s5, b2c q1, s6, b2c q2, b0a v4, b0a v5, b0a v6, b0a v4_1, b0a v4_2, b0a v5_1, b0a v6_1]
    refine hK _ _ ?_
    clear hK K
    simp only [b1a, b1c, b1b, b1d]
    obtain rfl := Option.some.inj hm0
    exact g4j (v := v4_2) (u := v5_1) (x := v6_1) (by simp only [go_sem, s4, s5, s6, b1h q0, b1h q1, b1h q2, List.length_append, List.map_append]) (by simp only [go_sem, s4, s5, s6, b1h q0, b1h q1, b1h q2, List.length_append, List.map_append]) (by simp only [go_sem, s4, s5, s6, b1h q0, b1h q1, b1h q2, List.length_append, List.map_append]) (c6d (e := b0k) (b2f q0 (by intro j hj  hl; first | rfl | simp only [go_sem, hl]) (by first | omega | exact Nat.le_refl _ | (simp only [go_sem, nxs] <;> omega))) (fun _ => rfl) b2b b38) (c6d (e := b0k) (b2f q1 (by intro j hj  hl; first | rfl | simp only [go_sem, hl]) (by first | omega | exact Nat.le_refl _ | (simp only [go_sem, nxs] <;> omega))) (fun _ => rfl) b2b b38) (c6d (e := b0k) (b2f q2 (by intro j hj  hl; first | rfl | simp only [go_sem, hl]) (by first | omega | exact Nat.le_refl _ | (simp only [go_sem, nxs] <;> omega))) (fun _ => rfl) b2b b38)
   simp only [b00]
   obtain ⟨b7, hl7, hm0⟩ := b0h hm0
   refine b1x hl7 (fun | (come_4_2, before_5_1, pass_6_1, c_11), t, h => ∃ v4_2 : AV, ∃ v5_1 : AV, ∃ v6_1 : AV, t 2 = .fp [.fs 5 (List.map b0p h_.Combs), .fs 3 (List.map b0o h_.Trains), .fs 3 (List.map b0q h_.Shifts), I h_.Until] 0 ∧ t 3 = .fp [.fs 1 (List.map eI d.At), .fs 1 (List.map b0k d.People), .fs 1 (List.map b0k d.Walks)] 0 ∧ t 4 = v4_2 ∧ t 5 = v5_1 ∧ t 6 = v6_1 ∧ t 7 = I (List.length h_.Combs : Int) ∧ t 11 = I c_11 ∧ RR h v4_2 hs4 1 eI come_4_2 ∧ RR h v5_1 hs5 1 eI before_5_1 ∧ RR h v6_1 hs6 1 eI pass_6_1 ∧ (∀ j, ¬b0f v5_1 hs5 j → b0f v4_2 hs4 j) ∧ (∀ j, ¬b0f v6_1 hs6 j → b0f v4_2 hs4 j) ∧ (∀ j, ¬b0f v6_1 hs6 j → b0f v5_1 hs5 j)) ?_ ?_
   ·exact ⟨v4_1, v5, v6, s2, s3, s4, s5, s6, s7, (by first | (simp only [go_sem, List.length_append, List.map_append]; done) | rfl), q0, q1, q2, (fun j hj => (rs_o4_o5 j hj)), (fun j hj => (rs_o4_o6 j hj)), (fun j hj => (rs_o5_o6 j hj))⟩
   ·try clear s2 s3 s4 s5 s6 s7 q0 q1 q2 rs_o4_o5 rs_o4_o6 rs_o5_o6
    rintro ⟨come_4_2, before_5_1, pass_6_1, c_11⟩ o t h ⟨v4_2, v5_1, v6_1, s2, s3, s4, s5, s6, s7, s11, q0, q1, q2, rs_o4_o5, rs_o4_o6, rs_o5_o6⟩ hm1 hb7
    simp only [c2p] at hm1
    rw [g0u]
    refine b03 ?_
    refine b0d fun K hK => ?_
    simp only [go_sem, s7, s11, b0a v4, b0a v5, b0a v6, b0a v4_1, b0a v4_2, b0a v5_1, b0a v6_1]
    refine hK _ _ ?_
    clear hK K
    refine b0r fun K8 hK8 => ?_
    simp only [go_sem]
    refine b0u (fun hc9 => ?_) (fun hc9 => ?_)
    ·rw [b02 hc9] at hm1
     simp only [b0z, b0i, b0j]
     refine hK8 _ _ ?_
     refine b0r fun K10 hK10 => ?_
     have J11 : ∀ (come_4_3 : List (List Int)) (before_5_2 : List (List Int)) (pass_6_2 : List (List Int)) (v4_3 : AV) (v5_2 : AV) (v6_2 : AV) (t : Slots) (h : Heap), t 2 = .fp [.fs 5 (List.map b0p h_.Combs), .fs 3 (List.map b0o h_.Trains), .fs 3 (List.map b0q h_.Shifts), I h_.Until] 0 → t 3 = .fp [.fs 1 (List.map eI d.At), .fs 1 (List.map b0k d.People), .fs 1 (List.map b0k d.Walks)] 0 → t 4 = v4_3 → t 5 = v5_2 → t 6 = v6_2 → t 7 = I (List.length h_.Combs : Int) → t 11 = I c_11 → RR h v4_3 hs4 1 eI come_4_3 → RR h v5_2 hs5 1 eI before_5_2 → RR h v6_2 hs6 1 eI pass_6_2 → (∀ j, ¬b0f v5_2 hs5 j → b0f v4_3 hs4 j) → (∀ j, ¬b0f v6_2 hs6 j → b0f v4_3 hs4 j) → (∀ j, ¬b0f v6_2 hs6 j → b0f v5_2 hs5 j) → c55 c_11 come_4_3 before_5_2 pass_6_2 = some o → K10 t h := by
      try clear s2 s3 s4 s5 s6 s7 s11 q0 q1 q2 rs_o4_o5 rs_o4_o6 rs_o5_o6
      intro come_4_3 before_5_2 pass_6_2 v4_3 v5_2 v6_2 t h s2 s3 s4 s5 s6 s7 s11 q0 q1 q2 rs_o4_o5 rs_o4_o6 rs_o5_o6 hm1
      refine hK10 _ _ ?_
      unfold c55 at hm1
      refine b1i fun K hK => ?_
      simp only [go_sem, s11, b0a v4, b0a v5, b0a v6, b0a v4_1, b0a v4_2, b0a v5_1, b0a v6_1, b0a v4_3, b0a v5_2, b0a v6_2]
      refine hK _ _ ?_
      clear hK K
      simp only [b0i, b0j]
      obtain rfl := Option.some.inj hm1
      refine ⟨_, rfl, ?_⟩
      exact ⟨v4_3, v5_2, v6_2, s2, s3, s4, s5, s6, s7, (by first | (simp only [go_sem, s11, List.length_append, List.map_append]; done) | rfl), q0, q1, q2, (fun j hj => (rs_o4_o5 j hj)), (fun j hj => (rs_o4_o6 j hj)), (fun j hj => (rs_o5_o6 j hj))⟩
     simp only [b00]
     obtain ⟨y13, h_y13, hm1⟩ := b0h hm1
     refine b0d fun K hK => ?_
     simp only [go_sem, s2, s11, b0a v4, b0a v5, b0a v6, b0a v4_1, b0a v4_2, b0a v5_1, b0a v6_1]
     refine b1j (c2a h_ c_11 _ h_y13) ?_
     simp only [go_sem, s2, s11, b0a v4, b0a v5, b0a v6, b0a v4_1, b0a v4_2, b0a v5_1, b0a v6_1]
     refine hK _ _ ?_
     clear hK K
     refine b0d fun K hK => ?_
     simp only [go_sem, b0a v4, b0a v5, b0a v6, b0a v4_1, b0a v4_2, b0a v5_1, b0a v6_1]
     refine hK _ _ ?_
     clear hK K
     refine b0d fun K hK => ?_
     simp only [go_sem, b0a v4, b0a v5, b0a v6, b0a v4_1, b0a v4_2, b0a v5_1, b0a v6_1]
     refine hK _ _ ?_
     clear hK K
     simp only [b00]
     obtain ⟨b14, hl14, hm1⟩ := b0h hm1
     refine b1x hl14 (fun | (come_4_3, before_5_2, pass_6_2, left_13, t_14), t, h => ∃ v4_3 : AV, ∃ v5_2 : AV, ∃ v6_2 : AV, t 2 = .fp [.fs 5 (List.map b0p h_.Combs), .fs 3 (List.map b0o h_.Trains), .fs 3 (List.map b0q h_.Shifts), I h_.Until] 0 ∧ t 3 = .fp [.fs 1 (List.map eI d.At), .fs 1 (List.map b0k d.People), .fs 1 (List.map b0k d.Walks)] 0 ∧ t 4 = v4_3 ∧ t 5 = v5_2 ∧ t 6 = v6_2 ∧ t 7 = I (List.length h_.Combs : Int) ∧ t 11 = I c_11 ∧ t 12 = .fs 1 (List.map eI y13) ∧ t 13 = I left_13 ∧ t 14 = I t_14 ∧ RR h v4_3 hs4 1 eI come_4_3 ∧ RR h v5_2 hs5 1 eI before_5_2 ∧ RR h v6_2 hs6 1 eI pass_6_2 ∧ (∀ j, ¬b0f v5_2 hs5 j → b0f v4_3 hs4 j) ∧ (∀ j, ¬b0f v6_2 hs6 j → b0f v4_3 hs4 j) ∧ (∀ j, ¬b0f v6_2 hs6 j → b0f v5_2 hs5 j)) ?_ ?_
     ·exact ⟨v4_2, v5_1, v6_1, s2, s3, s4, s5, s6, s7, s11, (by first | (simp only [go_sem, List.length_append, List.map_append]; done) | rfl), (by first | (simp only [go_sem, List.length_append, List.map_append]; done) | rfl), (by first | (simp only [go_sem, List.length_append, List.map_append]; done) | rfl), q0, q1, q2, (fun j hj => (rs_o4_o5 j hj)), (fun j hj => (rs_o4_o6 j hj)), (fun j hj => (rs_o5_o6 j hj))⟩
     ·try clear s2 s3 s4 s5 s6 s7 s11 q0 q1 q2 rs_o4_o5 rs_o4_o6 rs_o5_o6
      rintro ⟨come_4_3, before_5_2, pass_6_2, left_13, t_14⟩ o t h ⟨v4_3, v5_2, v6_2, s2, s3, s4, s5, s6, s7, s11, s12, s13, s14, q0, q1, q2, rs_o4_o5, rs_o4_o6, rs_o5_o6⟩ hm2 hb14
      simp only [c0a] at hm2
      rw [g0t]
      refine b03 ?_
      refine b0d fun K hK => ?_
      simp only [go_sem, s2, s14, b0a v4, b0a v5, b0a v6, b0a v4_1, b0a v4_2, b0a v5_1, b0a v6_1, b0a v4_3, b0a v5_2, b0a v6_2]
      refine hK _ _ ?_
      clear hK K
      refine b0r fun K15 hK15 => ?_
      simp only [go_sem]
      refine b0u (fun hc16 => ?_) (fun hc16 => ?_)
      ·rw [b02 hc16] at hm2
       simp only [b0z, b0i, b0j]
       refine hK15 _ _ ?_
       refine b0r fun K17 hK17 => ?_
       have J18 : ∀ (come_4_4 : List (List Int)) (before_5_3 : List (List Int)) (pass_6_3 : List (List Int)) (left_13_1 : Int) (v4_4 : AV) (v5_3 : AV) (v6_3 : AV) (t : Slots) (h : Heap), t 2 = .fp [.fs 5 (List.map b0p h_.Combs), .fs 3 (List.map b0o h_.Trains), .fs 3 (List.map b0q h_.Shifts), I h_.Until] 0 → t 3 = .fp [.fs 1 (List.map eI d.At), .fs 1 (List.map b0k d.People), .fs 1 (List.map b0k d.Walks)] 0 → t 4 = v4_4 → t 5 = v5_3 → t 6 = v6_3 → t 7 = I (List.length h_.Combs : Int) → t 11 = I c_11 → t 12 = .fs 1 (List.map eI y13) → t 13 = I left_13_1 → t 14 = I t_14 → RR h v4_4 hs4 1 eI come_4_4 → RR h v5_3 hs5 1 eI before_5_3 → RR h v6_3 hs6 1 eI pass_6_3 → (∀ j, ¬b0f v5_3 hs5 j → b0f v4_4 hs4 j) → (∀ j, ¬b0f v6_3 hs6 j → b0f v4_4 hs4 j) → (∀ j, ¬b0f v6_3 hs6 j → b0f v5_3 hs5 j) → c0b t_14 come_4_4 before_5_3 pass_6_3 left_13_1 = some o → K17 t h := by
        try clear s2 s3 s4 s5 s6 s7 s11 s12 s13 s14 q0 q1 q2 rs_o4_o5 rs_o4_o6 rs_o5_o6
        intro come_4_4 before_5_3 pass_6_3 left_13_1 v4_4 v5_3 v6_3 t h s2 s3 s4 s5 s6 s7 s11 s12 s13 s14 q0 q1 q2 rs_o4_o5 rs_o4_o6 rs_o5_o6 hm2
        refine hK17 _ _ ?_
        unfold c0b at hm2
        refine b1i fun K hK => ?_
        simp only [go_sem, s14, b0a v4, b0a v5, b0a v6, b0a v4_1, b0a v4_2, b0a v5_1, b0a v6_1, b0a v4_3, b0a v5_2, b0a v6_2, b0a v4_4, b0a v5_3, b0a v6_3]
        refine hK _ _ ?_
        clear hK K
        simp only [b0i, b0j]
        obtain rfl := Option.some.inj hm2
        refine ⟨_, rfl, ?_⟩
        exact ⟨v4_4, v5_3, v6_3, s2, s3, s4, s5, s6, s7, s11, s12, s13, (by first | (simp only [go_sem, s14, List.length_append, List.map_append]; done) | rfl), q0, q1, q2, (fun j hj => (rs_o4_o5 j hj)), (fun j hj => (rs_o4_o6 j hj)), (fun j hj => (rs_o5_o6 j hj))⟩
       simp only [b00]
       obtain ⟨x23, h_x23, hm2⟩ := b0h hm2
       have h_x230 := b0w h_x23
       have h_x231 := b0x h_x23
       obtain ⟨iqp2071, rfl, q4, q3⟩ := b3w q1 h_x23
       obtain ⟨wp2072, hw_wp2072, os_wp2072⟩ := b3v q1 h_x23
       obtain ⟨x24, h_x24, hm2⟩ := b0h hm2
       have h_x240 := b0w h_x24
       have h_x241 := b0x h_x24
       obtain ⟨iqp2073, rfl, q7, q5⟩ := b3w q0 h_x24
       obtain ⟨wp2074, hw_wp2074, os_wp2074⟩ := b3v q0 h_x24
       obtain ⟨x25, h_x25, hm2⟩ := b0h hm2
       have h_x250 := b0w h_x25
       have h_x251 := b0x h_x25
       obtain ⟨irp2075, rfl, obr_irp2075, ltr_irp2075⟩ := b3m os_wp2074 h_x25
       obtain ⟨x26, h_x26, hm2⟩ := b0h hm2
       have h_x260 := b0w h_x26
       have h_x261 := b0x h_x26
       obtain ⟨irp2076, rfl, obr_irp2076, ltr_irp2076⟩ := b3m os_wp2072 h_x26
       refine b2d (fun t h => ∃ v4_4 : AV, ∃ v5_3 : AV, t 2 = .fp [.fs 5 (List.map b0p h_.Combs), .fs 3 (List.map b0o h_.Trains), .fs 3 (List.map b0q h_.Shifts), I h_.Until] 0 ∧ t 3 = .fp [.fs 1 (List.map eI d.At), .fs 1 (List.map b0k d.People), .fs 1 (List.map b0k d.Walks)] 0 ∧ t 4 = v4_4 ∧ t 5 = v5_3 ∧ t 6 = v6_2 ∧ t 7 = I (List.length h_.Combs : Int) ∧ t 11 = I c_11 ∧ t 12 = .fs 1 (List.map eI y13) ∧ t 14 = I t_14 ∧ RR h v4_4 hs4 1 eI come_4_3 ∧ RR h v5_3 hs5 1 eI (List.set before_5_2 (Int.toNat t_14) (List.set x23 (Int.toNat c_11) (wr (left_13 + x25)))) ∧ RR h v6_2 hs6 1 eI pass_6_2 ∧ (∀ j, ¬b0f v5_3 hs5 j → b0f v4_4 hs4 j) ∧ (∀ j, ¬b0f v6_2 hs6 j → b0f v4_4 hs4 j) ∧ (∀ j, ¬b0f v6_2 hs6 j → b0f v5_3 hs5 j)) (fun K hK => ?_) ?_
       ·simp only [go_sem, s4, b2c q0, s5, b2c q1, s11, s13, s14, q7, q5, q4, q3, b0m h_x23, b0n h_x23, h_x230, h_x231, b0m hw_wp2072, b0n hw_wp2072, b3i os_wp2072, b0m h_x24, b0n h_x24, h_x240, h_x241, b0m hw_wp2074, b0n hw_wp2074, b3i os_wp2074, b0m h_x25, b0n h_x25, h_x250, h_x251, obr_irp2075, ltr_irp2075, b0m h_x26, b0n h_x26, h_x260, h_x261, obr_irp2076, ltr_irp2076, b0a v4, b0a v5, b0a v6, b0a v4_1, b0a v4_2, b0a v5_1, b0a v6_1, b0a v6_2]
        exact hK _ _ ⟨(.rs iqp2073 0 (List.length come_4_3)), (.rs iqp2071 0 (List.length before_5_2)), s2, s3, (by first | (simp only [go_sem, s4, List.length_append, List.map_append]; done) | rfl), (by first | (simp only [go_sem, s5, List.length_append, List.map_append]; done) | rfl), s6, s7, s11, s12, s14, (b2f q0 (by intro j hj  hl; first | rfl | simp only [go_sem, hl, b08 (b2q rs_o4_o5 j hj), b04 (b2q rs_o4_o5 j hj), b0b (b04 (b2q rs_o4_o5 j hj)), b05 (b2q rs_o4_o5 j hj) hw_wp2072, b0b (b05 (b2q rs_o4_o5 j hj) hw_wp2072), q3]) (by first | omega | exact Nat.le_refl _ | (simp only [go_sem, nxs] <;> omega))), (b7e q1 h_x23 hw_wp2072 (by simp only [go_sem, b1h q1, q4, q3, b2w q1 hw_wp2072, b0b (b2w q1 hw_wp2072), List.length_append, List.map_append]) (by simp only [List.length_set]) (by intro j hj hne hl; first | rfl | simp only [go_sem, hne, hl, q3]) (by first | omega | exact Nat.le_refl _ | (simp only [go_sem, nxs] <;> omega))), (b2f q2 (by intro j hj  hl; first | rfl | simp only [go_sem, hl, b08 (rs_o5_o6 j hj), b04 (rs_o5_o6 j hj), b0b (b04 (rs_o5_o6 j hj)), b05 (rs_o5_o6 j hj) hw_wp2072, b0b (b05 (rs_o5_o6 j hj) hw_wp2072), q3]) (by first | omega | exact Nat.le_refl _ | (simp only [go_sem, nxs] <;> omega))), (b2q (fun j hj => (b2q rs_o4_o5 j hj))), (fun j hj => (rs_o4_o6 j hj)), (fun j hj => (rs_o5_o6 j hj))⟩
       ·try clear s2 s3 s4 s5 s6 s7 s11 s12 s13 s14 q0 q1 q2 rs_o4_o5 rs_o4_o6 rs_o5_o6 q4 q3 q7 q5
        rintro t h ⟨v4_4, v5_3, s2, s3, s4, s5, s6, s7, s11, s12, s14, q0, q1, q2, rs_o4_o5, rs_o4_o6, rs_o5_o6⟩
        obtain ⟨x32, h_x32, hm2⟩ := b0h hm2
        have h_x320 := b0w h_x32
        have h_x321 := b0x h_x32
        obtain ⟨iqp2083, rfl, q8, q6⟩ := b3w q2 h_x32
        obtain ⟨wp2084, hw_wp2084, os_wp2084⟩ := b3v q2 h_x32
        obtain ⟨x33, h_x33, hm2⟩ := b0h hm2
        have h_x330 := b0w h_x33
        have h_x331 := b0x h_x33; (try simp only [List.length_set] at h_x331)
        obtain ⟨iqp2085, rfl, q4, q3⟩ := b3w q1 h_x33
        obtain ⟨wp2086, hw_wp2086, os_wp2086⟩ := b3v q1 h_x33
        obtain ⟨x34, h_x34, hm2⟩ := b0h hm2
        have h_x340 := b0w h_x34
        have h_x341 := b0x h_x34
        obtain ⟨irp2087, rfl, obr_irp2087, ltr_irp2087⟩ := b3m os_wp2086 h_x34
        obtain ⟨x35, h_x35, hm2⟩ := b0h hm2
        have h_x350 := b0w h_x35
        have h_x351 := b0x h_x35
        obtain ⟨x36, h_x36, hm2⟩ := b0h hm2
        have h_x360 := b0w h_x36
        have h_x361 := b0x h_x36
        obtain ⟨irp2088, rfl, obr_irp2088, ltr_irp2088⟩ := b3m os_wp2084 h_x36
        refine b2d (fun t h => ∃ v5_4 : AV, ∃ v6_3 : AV, t 2 = .fp [.fs 5 (List.map b0p h_.Combs), .fs 3 (List.map b0o h_.Trains), .fs 3 (List.map b0q h_.Shifts), I h_.Until] 0 ∧ t 3 = .fp [.fs 1 (List.map eI d.At), .fs 1 (List.map b0k d.People), .fs 1 (List.map b0k d.Walks)] 0 ∧ t 4 = v4_4 ∧ t 5 = v5_4 ∧ t 6 = v6_3 ∧ t 7 = I (List.length h_.Combs : Int) ∧ t 11 = I c_11 ∧ t 12 = .fs 1 (List.map eI y13) ∧ t 14 = I t_14 ∧ RR h v4_4 hs4 1 eI come_4_3 ∧ RR h v5_4 hs5 1 eI (List.set before_5_2 (Int.toNat t_14) (List.set x23 (Int.toNat c_11) (wr (left_13 + x25)))) ∧ RR h v6_3 hs6 1 eI (List.set pass_6_2 (Int.toNat t_14) (List.set x32 (Int.toNat c_11) (mn x34 x35))) ∧ (∀ j, ¬b0f v5_4 hs5 j → b0f v4_4 hs4 j) ∧ (∀ j, ¬b0f v6_3 hs6 j → b0f v4_4 hs4 j) ∧ (∀ j, ¬b0f v6_3 hs6 j → b0f v5_4 hs5 j)) (fun K hK => ?_) ?_
        ·simp only [go_sem, s5, b2c q1, s6, b2c q2, s11, s12, s14, q4, q3, q8, q6, b0m h_x32, b0n h_x32, h_x320, h_x321, b0m hw_wp2084, b0n hw_wp2084, b3i os_wp2084, b0m h_x33, b0n h_x33, h_x330, h_x331, b0m hw_wp2086, b0n hw_wp2086, b3i os_wp2086, b0m h_x34, b0n h_x34, h_x340, h_x341, obr_irp2087, ltr_irp2087, b0m h_x35, b0n h_x35, h_x350, h_x351, b0m h_x36, b0n h_x36, h_x360, h_x361, obr_irp2088, ltr_irp2088, b0a v4, b0a v5, b0a v6, b0a v4_1, b0a v4_2, b0a v5_1, b0a v6_1, b0a v4_4]
         exact hK _ _ ⟨(.rs iqp2085 0 (List.length (List.set before_5_2 (Int.toNat t_14) (List.set x23 (Int.toNat c_11) (wr (left_13 + x25)))))), (.rs iqp2083 0 (List.length pass_6_2)), s2, s3, s4, (by first | (simp only [go_sem, s5, List.length_append, List.map_append]; done) | rfl), (by first | (simp only [go_sem, s6, List.length_append, List.map_append]; done) | rfl), s7, s11, s12, s14, (b2f q0 (by intro j hj  hl; first | rfl | simp only [go_sem, hl, b08 (b2q rs_o4_o6 j hj), b04 (b2q rs_o4_o6 j hj), b0b (b04 (b2q rs_o4_o6 j hj)), b05 (b2q rs_o4_o6 j hj) hw_wp2084, b0b (b05 (b2q rs_o4_o6 j hj) hw_wp2084), q6]) (by first | omega | exact Nat.le_refl _ | (simp only [go_sem, nxs] <;> omega))), (b2f q1 (by intro j hj  hl; first | rfl | simp only [go_sem, hl, b08 (b2q rs_o5_o6 j hj), b04 (b2q rs_o5_o6 j hj), b0b (b04 (b2q rs_o5_o6 j hj)), b05 (b2q rs_o5_o6 j hj) hw_wp2084, b0b (b05 (b2q rs_o5_o6 j hj) hw_wp2084), q6]) (by first | omega | exact Nat.le_refl _ | (simp only [go_sem, nxs] <;> omega))), (b7e q2 h_x32 hw_wp2084 (by simp only [go_sem, b1h q2, q8, q6, b2w q2 hw_wp2084, b0b (b2w q2 hw_wp2084), List.length_append, List.map_append]) (by simp only [List.length_set]) (by intro j hj hne hl; first | rfl | simp only [go_sem, hne, hl, q6]) (by first | omega | exact Nat.le_refl _ | (simp only [go_sem, nxs] <;> omega))), (fun j hj => (rs_o4_o5 j hj)), (b2q (fun j hj => (b2q rs_o4_o6 j hj))), (b2q (fun j hj => (b2q rs_o5_o6 j hj)))⟩
        ·try clear s2 s3 s4 s5 s6 s7 s11 s12 s14 q0 q1 q2 rs_o4_o5 rs_o4_o6 rs_o5_o6 q8 q6 q4 q3
         rintro t h ⟨v5_4, v6_3, s2, s3, s4, s5, s6, s7, s11, s12, s14, q0, q1, q2, rs_o4_o5, rs_o4_o6, rs_o5_o6⟩
         obtain ⟨iqp2095, rfl, q4, q3⟩ := b3w q1 h_x33
         obtain ⟨wp2096, hw_wp2096, os_wp2096⟩ := b3v q1 h_x33
         obtain ⟨irp2097, rfl, obr_irp2097, ltr_irp2097⟩ := b3m os_wp2096 h_x34
         obtain ⟨x39, h_x39, hm2⟩ := b0h hm2
         have h_x390 := b0w h_x39
         have h_x391 := b0x h_x39; (try simp only [List.length_set] at h_x391)
         obtain ⟨iqp2098, rfl, q8, q6⟩ := b3w q2 h_x39
         obtain ⟨wp2099, hw_wp2099, os_wp2099⟩ := b3v q2 h_x39
         obtain ⟨x40, h_x40, hm2⟩ := b0h hm2
         have h_x400 := b0w h_x40
         have h_x401 := b0x h_x40
         obtain ⟨irp2100, rfl, obr_irp2100, ltr_irp2100⟩ := b3m os_wp2099 h_x40
         refine b2d (fun t h => ∃ v5_5 : AV, ∃ v6_4 : AV, t 2 = .fp [.fs 5 (List.map b0p h_.Combs), .fs 3 (List.map b0o h_.Trains), .fs 3 (List.map b0q h_.Shifts), I h_.Until] 0 ∧ t 3 = .fp [.fs 1 (List.map eI d.At), .fs 1 (List.map b0k d.People), .fs 1 (List.map b0k d.Walks)] 0 ∧ t 4 = v4_4 ∧ t 5 = v5_5 ∧ t 6 = v6_4 ∧ t 7 = I (List.length h_.Combs : Int) ∧ t 11 = I c_11 ∧ t 12 = .fs 1 (List.map eI y13) ∧ t 13 = I (wr (x34 - x40)) ∧ t 14 = I t_14 ∧ RR h v4_4 hs4 1 eI come_4_3 ∧ RR h v5_5 hs5 1 eI (List.set before_5_2 (Int.toNat t_14) (List.set x23 (Int.toNat c_11) (wr (left_13 + x25)))) ∧ RR h v6_4 hs6 1 eI (List.set pass_6_2 (Int.toNat t_14) (List.set x32 (Int.toNat c_11) (mn x34 x35))) ∧ (∀ j, ¬b0f v5_5 hs5 j → b0f v4_4 hs4 j) ∧ (∀ j, ¬b0f v6_4 hs6 j → b0f v4_4 hs4 j) ∧ (∀ j, ¬b0f v6_4 hs6 j → b0f v5_5 hs5 j)) (fun K hK => ?_) ?_
         ·simp only [go_sem, s5, b2c q1, s6, b2c q2, s11, s14, q4, q3, q8, q6, b0m hw_wp2096, b0n hw_wp2096, b3i os_wp2096, h_x330, h_x331, obr_irp2097, ltr_irp2097, b0m h_x39, b0n h_x39, h_x390, h_x391, b0m hw_wp2099, b0n hw_wp2099, b3i os_wp2099, b0m h_x40, b0n h_x40, h_x400, h_x401, obr_irp2100, ltr_irp2100, b0m h_x33, b0n h_x33, b0m h_x34, b0n h_x34, h_x340, h_x341, b0a v4, b0a v5, b0a v6, b0a v4_1, b0a v4_2, b0a v5_1, b0a v6_1, b0a v4_4]
          exact hK _ _ ⟨(.rs iqp2095 0 (List.length (List.set before_5_2 (Int.toNat t_14) (List.set x23 (Int.toNat c_11) (wr (left_13 + x25)))))), (.rs iqp2098 0 (List.length (List.set pass_6_2 (Int.toNat t_14) (List.set x32 (Int.toNat c_11) (mn x34 x35))))), s2, s3, s4, (by first | (simp only [go_sem, s5, List.length_append, List.map_append]; done) | rfl), (by first | (simp only [go_sem, s6, List.length_append, List.map_append]; done) | rfl), s7, s11, s12, (by first | (simp only [go_sem, List.length_append, List.map_append]; done) | rfl), s14, q0, (b2f q1 (by intro j hj  hl; first | rfl | simp only [go_sem, hl]) (by first | omega | exact Nat.le_refl _ | (simp only [go_sem, nxs] <;> omega))), (b2f q2 (by intro j hj  hl; first | rfl | simp only [go_sem, hl]) (by first | omega | exact Nat.le_refl _ | (simp only [go_sem, nxs] <;> omega))), (fun j hj => (rs_o4_o5 j hj)), (fun j hj => (rs_o4_o6 j hj)), (fun j hj => (rs_o5_o6 j hj))⟩
         ·try clear s2 s3 s4 s5 s6 s7 s11 s12 s14 q0 q1 q2 rs_o4_o5 rs_o4_o6 rs_o5_o6 q4 q3 q8 q6
          rintro t h ⟨v5_5, v6_4, s2, s3, s4, s5, s6, s7, s11, s12, s13, s14, q0, q1, q2, rs_o4_o5, rs_o4_o6, rs_o5_o6⟩
          obtain ⟨x44, h_x44, hm2⟩ := b0h hm2
          have h_x440 := b0w h_x44
          have h_x441 := b0x h_x44
          obtain ⟨q45, h_q45, hm2⟩ := b0h hm2
          obtain ⟨x46, h_x46, hm2⟩ := b0h hm2
          have h_x460 := b0w h_x46
          have h_x461 := b0x h_x46
          refine b0d fun K hK => ?_
          simp only [go_sem, s3, s11, s14, b0m h_x44, b0n h_x44, h_x440, h_x441, d51 h_q45, b0m h_x46, b0n h_x46, h_x460, h_x461, b0a v4, b0a v5, b0a v6, b0a v4_1, b0a v4_2, b0a v5_1, b0a v6_1, b0a v4_4, b0a v5_5, b0a v6_4]
          refine hK _ _ ?_
          clear hK K
          obtain ⟨x48, h_x48, hm2⟩ := b0h hm2
          have h_x480 := b0w h_x48
          have h_x481 := b0x h_x48
          refine b2d (fun t h => t 2 = .fp [.fs 5 (List.map b0p h_.Combs), .fs 3 (List.map b0o h_.Trains), .fs 3 (List.map b0q h_.Shifts), I h_.Until] 0 ∧ t 3 = .fp [.fs 1 (List.map eI d.At), .fs 1 (List.map b0k d.People), .fs 1 (List.map b0k d.Walks)] 0 ∧ t 4 = v4_4 ∧ t 5 = v5_5 ∧ t 6 = v6_4 ∧ t 7 = I (List.length h_.Combs : Int) ∧ t 11 = I c_11 ∧ t 12 = .fs 1 (List.map eI y13) ∧ t 13 = I (wr (x34 - x40)) ∧ t 14 = I t_14 ∧ t 15 = I (wr (t_14 + x46)) ∧ t 179 = B ((decide (0 ≤ x48.Next)) && (decide ((wr (t_14 + x46)) < h_.Until))) ∧ RR h v4_4 hs4 1 eI come_4_3 ∧ RR h v5_5 hs5 1 eI (List.set before_5_2 (Int.toNat t_14) (List.set x23 (Int.toNat c_11) (wr (left_13 + x25)))) ∧ RR h v6_4 hs6 1 eI (List.set pass_6_2 (Int.toNat t_14) (List.set x32 (Int.toNat c_11) (mn x34 x35))) ∧ (∀ j, ¬b0f v5_5 hs5 j → b0f v4_4 hs4 j) ∧ (∀ j, ¬b0f v6_4 hs6 j → b0f v4_4 hs4 j) ∧ (∀ j, ¬b0f v6_4 hs6 j → b0f v5_5 hs5 j)) (fun K hK => ?_) ?_
          ·simp only [go_sem, s2, s11, b0m h_x48, b0n h_x48, h_x480, h_x481, b0a v4, b0a v5, b0a v6, b0a v4_1, b0a v4_2, b0a v5_1, b0a v6_1, b0a v4_4, b0a v5_5, b0a v6_4]
           refine b0u (fun hg49 => ?_) (fun hg49 => ?_)
           ·simp only [go_sem, s2, s11, b0m h_x48, b0n h_x48, h_x480, h_x481, hg49, b0a v4, b0a v5, b0a v6, b0a v4_1, b0a v4_2, b0a v5_1, b0a v6_1, b0a v4_4, b0a v5_5, b0a v6_4]
            exact hK _ _ ⟨s2, s3, s4, s5, s6, s7, s11, s12, s13, s14, (by first | (simp only [go_sem, hg49, List.length_append, List.map_append]; done) | rfl), (by first | (simp only [go_sem, hg49, List.length_append, List.map_append]; done) | rfl), q0, q1, q2, (fun j hj => (rs_o4_o5 j hj)), (fun j hj => (rs_o4_o6 j hj)), (fun j hj => (rs_o5_o6 j hj))⟩
           ·simp only [go_sem, s2, s11, b0m h_x48, b0n h_x48, h_x480, h_x481, hg49, b0a v4, b0a v5, b0a v6, b0a v4_1, b0a v4_2, b0a v5_1, b0a v6_1, b0a v4_4, b0a v5_5, b0a v6_4]
            exact hK _ _ ⟨s2, s3, s4, s5, s6, s7, s11, s12, s13, s14, (by first | (simp only [go_sem, hg49, List.length_append, List.map_append]; done) | rfl), (by first | (simp only [go_sem, hg49, List.length_append, List.map_append]; done) | rfl), q0, q1, q2, (fun j hj => (rs_o4_o5 j hj)), (fun j hj => (rs_o4_o6 j hj)), (fun j hj => (rs_o5_o6 j hj))⟩
          ·try clear s2 s3 s4 s5 s6 s7 s11 s12 s13 s14 q0 q1 q2 rs_o4_o5 rs_o4_o6 rs_o5_o6
           rintro t h ⟨s2, s3, s4, s5, s6, s7, s11, s12, s13, s14, s15, s179, q0, q1, q2, rs_o4_o5, rs_o4_o6, rs_o5_o6⟩
           simp only [go_sem, s179]
           refine b0u (fun hc50 => ?_) (fun hc50 => ?_)
           ·rw [b02 hc50] at hm2
            obtain ⟨x53, h_x53, hm2⟩ := b0h hm2
            have h_x530 := b0w h_x53
            have h_x531 := b0x h_x53
            obtain ⟨iqp2107, rfl, q7, q5⟩ := b3w q0 h_x53
            obtain ⟨wp2108, hw_wp2108, os_wp2108⟩ := b3v q0 h_x53
            obtain ⟨x54, h_x54, hm2⟩ := b0h hm2
            have h_x540 := b0w h_x54
            have h_x541 := b0x h_x54
            obtain ⟨irp2109, rfl, obr_irp2109, ltr_irp2109⟩ := b3m os_wp2108 h_x54
            obtain ⟨iqp2110, rfl, q8, q6⟩ := b3w q2 h_x39
            obtain ⟨wp2111, hw_wp2111, os_wp2111⟩ := b3v q2 h_x39
            obtain ⟨irp2112, rfl, obr_irp2112, ltr_irp2112⟩ := b3m os_wp2111 h_x40
            refine b5g (fun t h => ∃ v4_5 : AV, ∃ v6_5 : AV, t 2 = .fp [.fs 5 (List.map b0p h_.Combs), .fs 3 (List.map b0o h_.Trains), .fs 3 (List.map b0q h_.Shifts), I h_.Until] 0 ∧ t 3 = .fp [.fs 1 (List.map eI d.At), .fs 1 (List.map b0k d.People), .fs 1 (List.map b0k d.Walks)] 0 ∧ t 4 = v4_5 ∧ t 5 = v5_5 ∧ t 6 = v6_5 ∧ t 7 = I (List.length h_.Combs : Int) ∧ t 11 = I c_11 ∧ t 12 = .fs 1 (List.map eI y13) ∧ t 13 = I (wr (x34 - x40)) ∧ t 14 = I t_14 ∧ RR h v4_5 hs4 1 eI (List.set come_4_3 (Int.toNat (wr (t_14 + x46))) (List.set x53 (Int.toNat x48.Next) (wr (x54 + x40)))) ∧ RR h v5_5 hs5 1 eI (List.set before_5_2 (Int.toNat t_14) (List.set x23 (Int.toNat c_11) (wr (left_13 + x25)))) ∧ RR h v6_5 hs6 1 eI (List.set pass_6_2 (Int.toNat t_14) (List.set x32 (Int.toNat c_11) (mn x34 x35))) ∧ (∀ j, ¬b0f v5_5 hs5 j → b0f v4_5 hs4 j) ∧ (∀ j, ¬b0f v6_5 hs6 j → b0f v4_5 hs4 j) ∧ (∀ j, ¬b0f v6_5 hs6 j → b0f v5_5 hs5 j)) (fun K hK => ?_) ?_
            ·simp only [go_sem, s2, s4, b2c q0, s6, b2c q2, s11, s14, s15, q7, q5, q8, q6, b0m h_x53, b0n h_x53, h_x530, h_x531, b0m hw_wp2108, b0n hw_wp2108, b3i os_wp2108, b0m h_x54, b0n h_x54, h_x540, h_x541, obr_irp2109, ltr_irp2109, b0m hw_wp2111, b0n hw_wp2111, b3i os_wp2111, h_x390, h_x391, obr_irp2112, ltr_irp2112, b0m h_x48, b0n h_x48, h_x480, h_x481, b0m h_x39, b0n h_x39, b0m h_x40, b0n h_x40, h_x400, h_x401, b0a v4, b0a v5, b0a v6, b0a v4_1, b0a v4_2, b0a v5_1, b0a v6_1, b0a v5_5]
             exact hK _ _ ⟨(.rs iqp2107 0 (List.length come_4_3)), (.rs iqp2110 0 (List.length (List.set pass_6_2 (Int.toNat t_14) (List.set x32 (Int.toNat c_11) (mn x34 x35))))), s2, s3, (by first | (simp only [go_sem, s4, List.length_append, List.map_append]; done) | rfl), s5, (by first | (simp only [go_sem, s6, List.length_append, List.map_append]; done) | rfl), s7, s11, s12, s13, s14, (b7e q0 h_x53 hw_wp2108 (by simp only [go_sem, b1h q0, q7, q5, b2w q0 hw_wp2108, b0b (b2w q0 hw_wp2108), List.length_append, List.map_append]) (by simp only [List.length_set]) (by intro j hj hne hl; first | rfl | simp only [go_sem, hne, hl, q5]) (by first | omega | exact Nat.le_refl _ | (simp only [go_sem, nxs] <;> omega))), (b2f q1 (by intro j hj  hl; first | rfl | simp only [go_sem, hl, b08 (rs_o4_o5 j hj), b04 (rs_o4_o5 j hj), b0b (b04 (rs_o4_o5 j hj)), b05 (rs_o4_o5 j hj) hw_wp2108, b0b (b05 (rs_o4_o5 j hj) hw_wp2108), q5]) (by first | omega | exact Nat.le_refl _ | (simp only [go_sem, nxs] <;> omega))), (b2f q2 (by intro j hj  hl; first | rfl | simp only [go_sem, hl, b08 (rs_o4_o6 j hj), b04 (rs_o4_o6 j hj), b0b (b04 (rs_o4_o6 j hj)), b05 (rs_o4_o6 j hj) hw_wp2108, b0b (b05 (rs_o4_o6 j hj) hw_wp2108), q5]) (by first | omega | exact Nat.le_refl _ | (simp only [go_sem, nxs] <;> omega))), (fun j hj => (rs_o4_o5 j hj)), (fun j hj => (rs_o4_o6 j hj)), (fun j hj => (rs_o5_o6 j hj))⟩
            ·try clear s2 s3 s4 s5 s6 s7 s11 s12 s13 s14 s15 s179 q0 q1 q2 rs_o4_o5 rs_o4_o6 rs_o5_o6 q7 q5 q8 q6
             rintro t h ⟨v4_5, v6_5, s2, s3, s4, s5, s6, s7, s11, s12, s13, s14, q0, q1, q2, rs_o4_o5, rs_o4_o6, rs_o5_o6⟩
             simp only [b0i, b0j]
             exact J18 (List.set come_4_3 (Int.toNat (wr (t_14 + x46))) (List.set x53 (Int.toNat x48.Next) (wr (x54 + x40)))) (List.set before_5_2 (Int.toNat t_14) (List.set x23 (Int.toNat c_11) (wr (left_13 + x25)))) (List.set pass_6_2 (Int.toNat t_14) (List.set x32 (Int.toNat c_11) (mn x34 x35))) (wr (x34 - x40)) v4_5 v5_5 v6_5 _ _ s2 s3 s4 s5 s6 s7 s11 s12 s13 s14 q0 q1 q2 (fun j hj => (rs_o4_o5 j hj)) (fun j hj => (rs_o4_o6 j hj)) (fun j hj => (rs_o5_o6 j hj)) hm2
           ·rw [b01 hc50] at hm2
            simp only [b0z, b0i, b0j]
            exact J18 come_4_3 (List.set before_5_2 (Int.toNat t_14) (List.set x23 (Int.toNat c_11) (wr (left_13 + x25)))) (List.set pass_6_2 (Int.toNat t_14) (List.set x32 (Int.toNat c_11) (mn x34 x35))) (wr (x34 - x40)) v4_4 v5_5 v6_4 _ _ s2 s3 s4 s5 s6 s7 s11 s12 s13 s14 q0 q1 q2 (fun j hj => (rs_o4_o5 j hj)) (fun j hj => (rs_o4_o6 j hj)) (fun j hj => (rs_o5_o6 j hj)) hm2
      ·rw [b01 hc16] at hm2
       simp only [b1t, b1w, b1v, b1u, b0i, b0j, Nat.reduceEqDiff, not_false_eq_true]
       obtain rfl := Option.some.inj hm2
       obtain rfl := hb14 _ rfl
       try dsimp only at hm1
       exact J11 come_4_3 before_5_2 pass_6_2 v4_3 v5_2 v6_2 _ _ s2 s3 s4 s5 s6 s7 s11 q0 q1 q2 (fun j hj => (rs_o4_o5 j hj)) (fun j hj => (rs_o4_o6 j hj)) (fun j hj => (rs_o5_o6 j hj)) hm1
    ·rw [b01 hc9] at hm1
     simp only [b1t, b1w, b1v, b1u, b0i, b0j, Nat.reduceEqDiff, not_false_eq_true]
     obtain rfl := Option.some.inj hm1
     obtain rfl := hb7 _ rfl
     try dsimp only at hm0
     exact J6 come_4_2 before_5_1 pass_6_1 v4_2 v5_1 v6_1 _ _ s4 s5 s6 q0 q1 q2 (fun j hj => (rs_o4_o5 j hj)) (fun j hj => (rs_o4_o6 j hj)) (fun j hj => (rs_o5_o6 j hj)) hm0
  simp only [b00]
  obtain ⟨b57, hl57, hm0⟩ := b0h hm0
  refine b1x hl57 (fun | (come_4_1, i_9), t, h => ∃ v4_1 : AV, t 2 = .fp [.fs 5 (List.map b0p h_.Combs), .fs 3 (List.map b0o h_.Trains), .fs 3 (List.map b0q h_.Shifts), I h_.Until] 0 ∧ t 3 = .fp [.fs 1 (List.map eI d.At), .fs 1 (List.map b0k d.People), .fs 1 (List.map b0k d.Walks)] 0 ∧ t 4 = v4_1 ∧ t 5 = v5 ∧ t 6 = v6 ∧ t 7 = I (List.length h_.Combs : Int) ∧ t 9 = I i_9 ∧ RR h v4_1 hs4 1 eI come_4_1 ∧ RR h v5 hs5 1 eI before_5 ∧ RR h v6 hs6 1 eI pass_6 ∧ (∀ j, ¬b0f v5 hs5 j → b0f v4_1 hs4 j) ∧ (∀ j, ¬b0f v6 hs6 j → b0f v4_1 hs4 j) ∧ (∀ j, ¬b0f v6 hs6 j → b0f v5 hs5 j)) ?_ ?_
  ·exact ⟨v4, s2, s3, s4, s5, s6, s7, (by first | (simp only [go_sem, List.length_append, List.map_append]; done) | rfl), q0, q1, q2, (fun j hj => (rs_o4_o5 j hj)), (fun j hj => (rs_o4_o6 j hj)), (fun j hj => (rs_o5_o6 j hj))⟩
  ·try clear s2 s3 s4 s5 s6 s7 q0 q1 q2 rs_o4_o5 rs_o4_o6 rs_o5_o6
   rintro ⟨come_4_1, i_9⟩ o t h ⟨v4_1, s2, s3, s4, s5, s6, s7, s9, q0, q1, q2, rs_o4_o5, rs_o4_o6, rs_o5_o6⟩ hm1 hb57
   simp only [b99] at hm1
   rw [g0s]
   refine b03 ?_
   refine b0d fun K hK => ?_
   simp only [go_sem, s2, s9, b0a v4, b0a v5, b0a v6, b0a v4_1]
   refine hK _ _ ?_
   clear hK K
   refine b0r fun K58 hK58 => ?_
   simp only [go_sem]
   refine b0u (fun hc59 => ?_) (fun hc59 => ?_)
   ·rw [b02 hc59] at hm1
    simp only [b0z, b0i, b0j]
    refine hK58 _ _ ?_
    refine b0r fun K60 hK60 => ?_
    have J61 : ∀ (come_4_2 : List (List Int)) (v4_2 : AV) (t : Slots) (h : Heap), t 2 = .fp [.fs 5 (List.map b0p h_.Combs), .fs 3 (List.map b0o h_.Trains), .fs 3 (List.map b0q h_.Shifts), I h_.Until] 0 → t 3 = .fp [.fs 1 (List.map eI d.At), .fs 1 (List.map b0k d.People), .fs 1 (List.map b0k d.Walks)] 0 → t 4 = v4_2 → t 5 = v5 → t 6 = v6 → t 7 = I (List.length h_.Combs : Int) → t 9 = I i_9 → RR h v4_2 hs4 1 eI come_4_2 → RR h v5 hs5 1 eI before_5 → RR h v6 hs6 1 eI pass_6 → (∀ j, ¬b0f v5 hs5 j → b0f v4_2 hs4 j) → (∀ j, ¬b0f v6 hs6 j → b0f v4_2 hs4 j) → (∀ j, ¬b0f v6 hs6 j → b0f v5 hs5 j) → c58 i_9 come_4_2 = some o → K60 t h := by
     try clear s2 s3 s4 s5 s6 s7 s9 q0 q1 q2 rs_o4_o5 rs_o4_o6 rs_o5_o6
     intro come_4_2 v4_2 t h s2 s3 s4 s5 s6 s7 s9 q0 q1 q2 rs_o4_o5 rs_o4_o6 rs_o5_o6 hm1
     refine hK60 _ _ ?_
     unfold c58 at hm1
     refine b1i fun K hK => ?_
     simp only [go_sem, s9, b0a v4, b0a v5, b0a v6, b0a v4_1, b0a v4_2]
     refine hK _ _ ?_
     clear hK K
     simp only [b0i, b0j]
     obtain rfl := Option.some.inj hm1
     refine ⟨_, rfl, ?_⟩
     exact ⟨v4_2, s2, s3, s4, s5, s6, s7, (by first | (simp only [go_sem, s9, List.length_append, List.map_append]; done) | rfl), q0, q1, q2, (fun j hj => (rs_o4_o5 j hj)), (fun j hj => (rs_o4_o6 j hj)), (fun j hj => (rs_o5_o6 j hj))⟩
    simp only [b00]
    refine b0d fun K hK => ?_
    simp only [go_sem, b0a v4, b0a v5, b0a v6, b0a v4_1]
    refine hK _ _ ?_
    clear hK K
    simp only [b00]
    obtain ⟨b62, hl62, hm1⟩ := b0h hm1
    refine b1x hl62 (fun | (come_4_2, k_10), t, h => ∃ v4_2 : AV, t 2 = .fp [.fs 5 (List.map b0p h_.Combs), .fs 3 (List.map b0o h_.Trains), .fs 3 (List.map b0q h_.Shifts), I h_.Until] 0 ∧ t 3 = .fp [.fs 1 (List.map eI d.At), .fs 1 (List.map b0k d.People), .fs 1 (List.map b0k d.Walks)] 0 ∧ t 4 = v4_2 ∧ t 5 = v5 ∧ t 6 = v6 ∧ t 7 = I (List.length h_.Combs : Int) ∧ t 9 = I i_9 ∧ t 10 = I k_10 ∧ RR h v4_2 hs4 1 eI come_4_2 ∧ RR h v5 hs5 1 eI before_5 ∧ RR h v6 hs6 1 eI pass_6 ∧ (∀ j, ¬b0f v5 hs5 j → b0f v4_2 hs4 j) ∧ (∀ j, ¬b0f v6 hs6 j → b0f v4_2 hs4 j) ∧ (∀ j, ¬b0f v6 hs6 j → b0f v5 hs5 j)) ?_ ?_
    ·exact ⟨v4_1, s2, s3, s4, s5, s6, s7, s9, (by first | (simp only [go_sem, List.length_append, List.map_append]; done) | rfl), q0, q1, q2, (fun j hj => (rs_o4_o5 j hj)), (fun j hj => (rs_o4_o6 j hj)), (fun j hj => (rs_o5_o6 j hj))⟩
    ·try clear s2 s3 s4 s5 s6 s7 s9 q0 q1 q2 rs_o4_o5 rs_o4_o6 rs_o5_o6
     rintro ⟨come_4_2, k_10⟩ o t h ⟨v4_2, s2, s3, s4, s5, s6, s7, s9, s10, q0, q1, q2, rs_o4_o5, rs_o4_o6, rs_o5_o6⟩ hm2 hb62
     simp only [c2o] at hm2
     rw [g0r]
     refine b03 ?_
     obtain ⟨x64, h_x64, hm2⟩ := b0h hm2
     have h_x640 := b0w h_x64
     have h_x641 := b0x h_x64
     refine b0d fun K hK => ?_
     simp only [go_sem, s2, s9, s10, b0m h_x64, b0n h_x64, h_x640, h_x641, b0a v4, b0a v5, b0a v6, b0a v4_1, b0a v4_2]
     refine hK _ _ ?_
     clear hK K
     refine b0r fun K65 hK65 => ?_
     simp only [go_sem]
     refine b0u (fun hc66 => ?_) (fun hc66 => ?_)
     ·rw [b02 hc66] at hm2
      simp only [b0z, b0i, b0j]
      refine hK65 _ _ ?_
      refine b0r fun K67 hK67 => ?_
      simp only [b00]
      obtain ⟨x74, h_x74, hm2⟩ := b0h hm2
      have h_x740 := b0w h_x74
      have h_x741 := b0x h_x74
      obtain ⟨x75, h_x75, hm2⟩ := b0h hm2
      have h_x750 := b0w h_x75
      have h_x751 := b0x h_x75
      obtain ⟨iqp2266, rfl, q7, q5⟩ := b3w q0 h_x75
      obtain ⟨wp2267, hw_wp2267, os_wp2267⟩ := b3v q0 h_x75
      obtain ⟨x76, h_x76, hm2⟩ := b0h hm2
      have h_x760 := b0w h_x76
      have h_x761 := b0x h_x76
      obtain ⟨x77, h_x77, hm2⟩ := b0h hm2
      have h_x770 := b0w h_x77
      have h_x771 := b0x h_x77
      obtain ⟨irp2268, rfl, obr_irp2268, ltr_irp2268⟩ := b3m os_wp2267 h_x77
      obtain ⟨x78, h_x78, hm2⟩ := b0h hm2
      have h_x780 := b0w h_x78
      have h_x781 := b0x h_x78
      obtain ⟨x79, h_x79, hm2⟩ := b0h hm2
      have h_x790 := b0w h_x79
      have h_x791 := b0x h_x79
      refine b5g (fun t h => ∃ v4_3 : AV, t 2 = .fp [.fs 5 (List.map b0p h_.Combs), .fs 3 (List.map b0o h_.Trains), .fs 3 (List.map b0q h_.Shifts), I h_.Until] 0 ∧ t 3 = .fp [.fs 1 (List.map eI d.At), .fs 1 (List.map b0k d.People), .fs 1 (List.map b0k d.Walks)] 0 ∧ t 4 = v4_3 ∧ t 5 = v5 ∧ t 6 = v6 ∧ t 7 = I (List.length h_.Combs : Int) ∧ t 9 = I i_9 ∧ t 10 = I k_10 ∧ RR h v4_3 hs4 1 eI (List.set come_4_2 (Int.toNat x74) (List.set x75 (Int.toNat x76.Comb) (wr (x77 + x79)))) ∧ RR h v5 hs5 1 eI before_5 ∧ RR h v6 hs6 1 eI pass_6 ∧ (∀ j, ¬b0f v5 hs5 j → b0f v4_3 hs4 j) ∧ (∀ j, ¬b0f v6 hs6 j → b0f v4_3 hs4 j) ∧ (∀ j, ¬b0f v6 hs6 j → b0f v5 hs5 j)) (fun K hK => ?_) ?_
      ·simp only [go_sem, s2, s3, s4, b2c q0, s9, s10, q7, q5, b0m h_x74, b0n h_x74, h_x740, h_x741, b0m h_x75, b0n h_x75, h_x750, h_x751, b0m hw_wp2267, b0n hw_wp2267, b3i os_wp2267, b0m h_x76, b0n h_x76, h_x760, h_x761, b0m h_x77, b0n h_x77, h_x770, h_x771, obr_irp2268, ltr_irp2268, b0m h_x78, b0n h_x78, h_x780, h_x781, b0m h_x79, b0n h_x79, h_x790, h_x791, b0m h_x64, b0n h_x64, h_x640, h_x641, b0a v4, b0a v5, b0a v6, b0a v4_1]
       exact hK _ _ ⟨(.rs iqp2266 0 (List.length come_4_2)), s2, s3, (by first | (simp only [go_sem, s4, List.length_append, List.map_append]; done) | rfl), s5, s6, s7, s9, s10, (b7e q0 h_x75 hw_wp2267 (by simp only [go_sem, b1h q0, q7, q5, b2w q0 hw_wp2267, b0b (b2w q0 hw_wp2267), List.length_append, List.map_append]) (by simp only [List.length_set]) (by intro j hj hne hl; first | rfl | simp only [go_sem, hne, hl, q5]) (by first | omega | exact Nat.le_refl _ | (simp only [go_sem, nxs] <;> omega))), (b2f q1 (by intro j hj  hl; first | rfl | simp only [go_sem, hl, b08 (rs_o4_o5 j hj), b04 (rs_o4_o5 j hj), b0b (b04 (rs_o4_o5 j hj)), b05 (rs_o4_o5 j hj) hw_wp2267, b0b (b05 (rs_o4_o5 j hj) hw_wp2267), q5]) (by first | omega | exact Nat.le_refl _ | (simp only [go_sem, nxs] <;> omega))), (b2f q2 (by intro j hj  hl; first | rfl | simp only [go_sem, hl, b08 (rs_o4_o6 j hj), b04 (rs_o4_o6 j hj), b0b (b04 (rs_o4_o6 j hj)), b05 (rs_o4_o6 j hj) hw_wp2267, b0b (b05 (rs_o4_o6 j hj) hw_wp2267), q5]) (by first | omega | exact Nat.le_refl _ | (simp only [go_sem, nxs] <;> omega))), (fun j hj => (rs_o4_o5 j hj)), (fun j hj => (rs_o4_o6 j hj)), (fun j hj => (rs_o5_o6 j hj))⟩
      ·try clear s2 s3 s4 s5 s6 s7 s9 s10 q0 q1 q2 rs_o4_o5 rs_o4_o6 rs_o5_o6 q7 q5
       rintro t h ⟨v4_3, s2, s3, s4, s5, s6, s7, s9, s10, q0, q1, q2, rs_o4_o5, rs_o4_o6, rs_o5_o6⟩
       simp only [b0i, b0j]
       refine hK67 _ _ ?_
       refine b1i fun K hK => ?_
       simp only [go_sem, s10, b0a v4, b0a v5, b0a v6, b0a v4_1, b0a v4_3]
       refine hK _ _ ?_
       clear hK K
       simp only [b0i, b0j]
       obtain rfl := Option.some.inj hm2
       refine ⟨_, rfl, ?_⟩
       exact ⟨v4_3, s2, s3, s4, s5, s6, s7, s9, (by first | (simp only [go_sem, s10, List.length_append, List.map_append]; done) | rfl), q0, q1, q2, (fun j hj => (rs_o4_o5 j hj)), (fun j hj => (rs_o4_o6 j hj)), (fun j hj => (rs_o5_o6 j hj))⟩
     ·rw [b01 hc66] at hm2
      simp only [b1t, b1w, b1v, b1u, b0i, b0j, Nat.reduceEqDiff, not_false_eq_true]
      obtain rfl := Option.some.inj hm2
      obtain rfl := hb62 _ rfl
      try dsimp only at hm1
      exact J61 come_4_2 v4_2 _ _ s2 s3 s4 s5 s6 s7 s9 q0 q1 q2 (fun j hj => (rs_o4_o5 j hj)) (fun j hj => (rs_o4_o6 j hj)) (fun j hj => (rs_o5_o6 j hj)) hm1
   ·rw [b01 hc59] at hm1
    simp only [b1t, b1w, b1v, b1u, b0i, b0j, Nat.reduceEqDiff, not_false_eq_true]
    obtain rfl := Option.some.inj hm1
    obtain rfl := hb57 _ rfl
    try dsimp only at hm0
    exact J4 come_4_1 v4_1 _ _ s2 s3 s4 s5 s6 s7 q0 q1 q2 (fun j hj => (rs_o4_o5 j hj)) (fun j hj => (rs_o4_o6 j hj)) (fun j hj => (rs_o5_o6 j hj)) hm0
 simp only [b00]
 obtain ⟨b82, hl82, hm0⟩ := b0h hm0
 refine b1x hl82 (fun | (come_4, before_5, pass_6, t_8), t, h => ∃ v4 : AV, ∃ hs4 : List AV, ∃ v5 : AV, ∃ hs5 : List AV, ∃ v6 : AV, ∃ hs6 : List AV, t 2 = .fp [.fs 5 (List.map b0p h_.Combs), .fs 3 (List.map b0o h_.Trains), .fs 3 (List.map b0q h_.Shifts), I h_.Until] 0 ∧ t 3 = .fp [.fs 1 (List.map eI d.At), .fs 1 (List.map b0k d.People), .fs 1 (List.map b0k d.Walks)] 0 ∧ t 4 = v4 ∧ t 5 = v5 ∧ t 6 = v6 ∧ t 7 = I (List.length h_.Combs : Int) ∧ t 8 = I t_8 ∧ RR h v4 hs4 1 eI come_4 ∧ RR h v5 hs5 1 eI before_5 ∧ RR h v6 hs6 1 eI pass_6 ∧ (∀ j, ¬b0f v5 hs5 j → b0f v4 hs4 j) ∧ (∀ j, ¬b0f v6 hs6 j → b0f v4 hs4 j) ∧ (∀ j, ¬b0f v6 hs6 j → b0f v5 hs5 j)) ?_ ?_
 ·exact ⟨nilS, [], nilS, [], nilS, [], (by first | (simp only [go_sem, List.length_append, List.map_append]; done) | rfl), (by first | (simp only [go_sem, List.length_append, List.map_append]; done) | rfl), (by first | (simp only [go_sem, List.length_append, List.map_append]; done) | rfl), (by first | (simp only [go_sem, List.length_append, List.map_append]; done) | rfl), (by first | (simp only [go_sem, List.length_append, List.map_append]; done) | rfl), (by first | (simp only [go_sem, List.length_append, List.map_append]; done) | rfl), (by first | (simp only [go_sem, List.length_append, List.map_append]; done) | rfl), c2y, c2y, c2y, (fun _ _ => c6c), (fun _ _ => c6c), (fun _ _ => c6c)⟩
 ·rintro ⟨come_4, before_5, pass_6, t_8⟩ o t h ⟨v4, hs4, v5, hs5, v6, hs6, s2, s3, s4, s5, s6, s7, s8, q0, q1, q2, rs_o4_o5, rs_o4_o6, rs_o5_o6⟩ hm1 hb82
  simp only [c2q] at hm1
  rw [g0v]
  refine b03 ?_
  refine b0d fun K hK => ?_
  simp only [go_sem, s2, s8, b0a v4, b0a v5, b0a v6]
  refine hK _ _ ?_
  clear hK K
  refine b0r fun K83 hK83 => ?_
  simp only [go_sem]
  refine b0u (fun hc84 => ?_) (fun hc84 => ?_)
  ·rw [b02 hc84] at hm1
   simp only [b0z, b0i, b0j]
   refine hK83 _ _ ?_
   refine b0r fun K85 hK85 => ?_
   simp only [b00]
   obtain ⟨l88, h_l88, hm1⟩ := b0h hm1
   obtain ⟨l89, h_l89, hm1⟩ := b0h hm1
   refine b2d (fun t h => ∃ v4_1 : AV, ∃ hs4_1 : List AV, t 2 = .fp [.fs 5 (List.map b0p h_.Combs), .fs 3 (List.map b0o h_.Trains), .fs 3 (List.map b0q h_.Shifts), I h_.Until] 0 ∧ t 3 = .fp [.fs 1 (List.map eI d.At), .fs 1 (List.map b0k d.People), .fs 1 (List.map b0k d.Walks)] 0 ∧ t 4 = v4_1 ∧ t 5 = v5 ∧ t 6 = v6 ∧ t 7 = I (List.length h_.Combs : Int) ∧ t 8 = I t_8 ∧ RR h v4_1 hs4_1 1 eI l89 ∧ RR h v5 hs5 1 eI before_5 ∧ RR h v6 hs6 1 eI pass_6 ∧ (∀ j, ¬b0f v5 hs5 j → b0f v4_1 hs4_1 j) ∧ (∀ j, ¬b0f v6 hs6 j → b0f v4_1 hs4_1 j) ∧ (∀ j, ¬b0f v6 hs6 j → b0f v5 hs5 j)) (fun K hK => ?_) ?_
   ·simp only [go_sem, s4, b2c q0, s7, b0a v4, b0a v5, b0a v6]
    refine b6e (f := eI) (z := 0) rfl h_l88 ?_
    simp only [go_sem, s4, b2c q0, s7, b0a v4, b0a v5, b0a v6]
    refine c11 (f := eI) (sz := 1) (rows := come_4) (hs := hs4) (u := .rs h.nx 0 (List.length l88)) ?_ ?_ ?_ h_l89 ?_
    ·exact (b2f q0 (by intro j hj  hl; first | rfl | simp only [go_sem, hl]) (by first | omega | exact Nat.le_refl _ | (simp only [go_sem, nxs] <;> omega)))
    ·exact (by simp only [go_sem, b1h q0, b1h q1, b1h q2, List.length_append, List.map_append])
    ·exact (b2r q0 (by first | assumption | omega | (simp only [nxs] <;> omega)))
    simp only [go_sem, s4, b2c q0, s7, b0a v4, b0a v5, b0a v6]
    exact hK _ _ ⟨(.rs (nxs (nxs h.nx)) 0 (List.length l89)), (hs4 ++ [.rs h.nx 0 (List.length l88)]), s2, s3, (by first | (simp only [go_sem, s4, List.length_append, List.map_append]; done) | rfl), s5, s6, s7, s8, (c2x (h := h) q0 h_l89 (by simp only [go_sem, b1h q0, List.length_append, List.map_append]) rfl (by simp only [go_sem]) (b3c (by simp only [go_sem, b1h q0, List.length_append, List.map_append]) (by simp only [go_sem, b1h q0, List.length_append, List.map_append]) (by simp only [go_sem])) (b58 (by first | assumption | exact b2r q0 (by first | omega | (simp only [nxs] <;> omega)))) (by first | omega | exact Nat.le_refl _ | (simp only [go_sem, nxs] <;> omega)) (by first | exact b1k | exact b1l (by first | assumption | omega | (simp only [nxs] <;> omega))) (by intro j hj h2 hl; first | rfl | simp only [go_sem, h2, hl]) (by first | omega | exact Nat.le_refl _ | (simp only [go_sem, nxs] <;> omega))), (b2f q1 (by intro j hj  hl; first | rfl | simp only [go_sem, hl, b08 (rs_o4_o5 j hj)]) (by first | omega | exact Nat.le_refl _ | (simp only [go_sem, nxs] <;> omega))), (b2f q2 (by intro j hj  hl; first | rfl | simp only [go_sem, hl, b08 (rs_o4_o6 j hj)]) (by first | omega | exact Nat.le_refl _ | (simp only [go_sem, nxs] <;> omega))), (fun j hj => (b8j (rs_o4_o5 j hj) (by first | exact b1k | exact b1l (b0b (b3d hj (by first | assumption | exact b2r (by assumption) (by first | assumption | omega | (simp only [nxs] <;> omega))))) | exact b4n (by assumption) j hj) (b0b (b3d hj (by first | assumption | exact b2r (by assumption) (by first | assumption | omega | (simp only [nxs] <;> omega))))))), (fun j hj => (b8j (rs_o4_o6 j hj) (by first | exact b1k | exact b1l (b0b (b3d hj (by first | assumption | exact b2r (by assumption) (by first | assumption | omega | (simp only [nxs] <;> omega))))) | exact b4n (by assumption) j hj) (b0b (b3d hj (by first | assumption | exact b2r (by assumption) (by first | assumption | omega | (simp only [nxs] <;> omega))))))), (fun j hj => (rs_o5_o6 j hj))⟩
   ·try clear s2 s3 s4 s5 s6 s7 s8 q0 q1 q2 rs_o4_o5 rs_o4_o6 rs_o5_o6
    rintro t h ⟨v4_1, hs4_1, s2, s3, s4, s5, s6, s7, s8, q0, q1, q2, rs_o4_o5, rs_o4_o6, rs_o5_o6⟩
    obtain ⟨l92, h_l92, hm1⟩ := b0h hm1
    obtain ⟨l93, h_l93, hm1⟩ := b0h hm1
    refine b2d (fun t h => ∃ v5_1 : AV, ∃ hs5_1 : List AV, t 2 = .fp [.fs 5 (List.map b0p h_.Combs), .fs 3 (List.map b0o h_.Trains), .fs 3 (List.map b0q h_.Shifts), I h_.Until] 0 ∧ t 3 = .fp [.fs 1 (List.map eI d.At), .fs 1 (List.map b0k d.People), .fs 1 (List.map b0k d.Walks)] 0 ∧ t 4 = v4_1 ∧ t 5 = v5_1 ∧ t 6 = v6 ∧ t 7 = I (List.length h_.Combs : Int) ∧ t 8 = I t_8 ∧ RR h v4_1 hs4_1 1 eI l89 ∧ RR h v5_1 hs5_1 1 eI l93 ∧ RR h v6 hs6 1 eI pass_6 ∧ (∀ j, ¬b0f v5_1 hs5_1 j → b0f v4_1 hs4_1 j) ∧ (∀ j, ¬b0f v6 hs6 j → b0f v4_1 hs4_1 j) ∧ (∀ j, ¬b0f v6 hs6 j → b0f v5_1 hs5_1 j)) (fun K hK => ?_) ?_
    ·simp only [go_sem, s5, b2c q1, s7, b0a v4, b0a v5, b0a v6, b0a v4_1]
     refine b6e (f := eI) (z := 0) rfl h_l92 ?_
     simp only [go_sem, s5, b2c q1, s7, b0a v4, b0a v5, b0a v6, b0a v4_1]
     refine c11 (f := eI) (sz := 1) (rows := before_5) (hs := hs5) (u := .rs h.nx 0 (List.length l92)) ?_ ?_ ?_ h_l93 ?_
     ·exact (b2f q1 (by intro j hj  hl; first | rfl | simp only [go_sem, hl]) (by first | omega | exact Nat.le_refl _ | (simp only [go_sem, nxs] <;> omega)))
     ·exact (by simp only [go_sem, b1h q0, b1h q1, b1h q2, List.length_append, List.map_append])
     ·exact (b2r q1 (by first | assumption | omega | (simp only [nxs] <;> omega)))
     simp only [go_sem, s5, b2c q1, s7, b0a v4, b0a v5, b0a v6, b0a v4_1]
     exact hK _ _ ⟨(.rs (nxs (nxs h.nx)) 0 (List.length l93)), (hs5 ++ [.rs h.nx 0 (List.length l92)]), s2, s3, s4, (by first | (simp only [go_sem, s5, List.length_append, List.map_append]; done) | rfl), s6, s7, s8, (b2f q0 (by intro j hj  hl; first | rfl | simp only [go_sem, hl, b08 (b2q rs_o4_o5 j hj)]) (by first | omega | exact Nat.le_refl _ | (simp only [go_sem, nxs] <;> omega))), (c2x (h := h) q1 h_l93 (by simp only [go_sem, b1h q1, List.length_append, List.map_append]) rfl (by simp only [go_sem]) (b3c (by simp only [go_sem, b1h q1, List.length_append, List.map_append]) (by simp only [go_sem, b1h q1, List.length_append, List.map_append]) (by simp only [go_sem])) (b58 (by first | assumption | exact b2r q1 (by first | omega | (simp only [nxs] <;> omega)))) (by first | omega | exact Nat.le_refl _ | (simp only [go_sem, nxs] <;> omega)) (by first | exact b1k | exact b1l (by first | assumption | omega | (simp only [nxs] <;> omega))) (by intro j hj h2 hl; first | rfl | simp only [go_sem, h2, hl]) (by first | omega | exact Nat.le_refl _ | (simp only [go_sem, nxs] <;> omega))), (b2f q2 (by intro j hj  hl; first | rfl | simp only [go_sem, hl, b08 (rs_o5_o6 j hj)]) (by first | omega | exact Nat.le_refl _ | (simp only [go_sem, nxs] <;> omega))), (b2q (fun j hj => (b8j (b2q rs_o4_o5 j hj) (by first | exact b1k | exact b1l (b0b (b3d hj (by first | assumption | exact b2r (by assumption) (by first | assumption | omega | (simp only [nxs] <;> omega))))) | exact b4n (by assumption) j hj) (b0b (b3d hj (by first | assumption | exact b2r (by assumption) (by first | assumption | omega | (simp only [nxs] <;> omega)))))))), (fun j hj => (rs_o4_o6 j hj)), (fun j hj => (b8j (rs_o5_o6 j hj) (by first | exact b1k | exact b1l (b0b (b3d hj (by first | assumption | exact b2r (by assumption) (by first | assumption | omega | (simp only [nxs] <;> omega))))) | exact b4n (by assumption) j hj) (b0b (b3d hj (by first | assumption | exact b2r (by assumption) (by first | assumption | omega | (simp only [nxs] <;> omega)))))))⟩
    ·try clear s2 s3 s4 s5 s6 s7 s8 q0 q1 q2 rs_o4_o5 rs_o4_o6 rs_o5_o6
     rintro t h ⟨v5_1, hs5_1, s2, s3, s4, s5, s6, s7, s8, q0, q1, q2, rs_o4_o5, rs_o4_o6, rs_o5_o6⟩
     obtain ⟨l96, h_l96, hm1⟩ := b0h hm1
     obtain ⟨l97, h_l97, hm1⟩ := b0h hm1
     refine b5g (fun t h => ∃ v6_1 : AV, ∃ hs6_1 : List AV, t 2 = .fp [.fs 5 (List.map b0p h_.Combs), .fs 3 (List.map b0o h_.Trains), .fs 3 (List.map b0q h_.Shifts), I h_.Until] 0 ∧ t 3 = .fp [.fs 1 (List.map eI d.At), .fs 1 (List.map b0k d.People), .fs 1 (List.map b0k d.Walks)] 0 ∧ t 4 = v4_1 ∧ t 5 = v5_1 ∧ t 6 = v6_1 ∧ t 7 = I (List.length h_.Combs : Int) ∧ t 8 = I t_8 ∧ RR h v4_1 hs4_1 1 eI l89 ∧ RR h v5_1 hs5_1 1 eI l93 ∧ RR h v6_1 hs6_1 1 eI l97 ∧ (∀ j, ¬b0f v5_1 hs5_1 j → b0f v4_1 hs4_1 j) ∧ (∀ j, ¬b0f v6_1 hs6_1 j → b0f v4_1 hs4_1 j) ∧ (∀ j, ¬b0f v6_1 hs6_1 j → b0f v5_1 hs5_1 j)) (fun K hK => ?_) ?_
     ·simp only [go_sem, s6, b2c q2, s7, b0a v4, b0a v5, b0a v6, b0a v4_1, b0a v5_1]
      refine b6e (f := eI) (z := 0) rfl h_l96 ?_
      simp only [go_sem, s6, b2c q2, s7, b0a v4, b0a v5, b0a v6, b0a v4_1, b0a v5_1]
      refine c11 (f := eI) (sz := 1) (rows := pass_6) (hs := hs6) (u := .rs h.nx 0 (List.length l96)) ?_ ?_ ?_ h_l97 ?_
      ·exact (b2f q2 (by intro j hj  hl; first | rfl | simp only [go_sem, hl]) (by first | omega | exact Nat.le_refl _ | (simp only [go_sem, nxs] <;> omega)))
      ·exact (by simp only [go_sem, b1h q0, b1h q1, b1h q2, List.length_append, List.map_append])
      ·exact (b2r q2 (by first | assumption | omega | (simp only [nxs] <;> omega)))
      simp only [go_sem, s6, b2c q2, s7, b0a v4, b0a v5, b0a v6, b0a v4_1, b0a v5_1]
      exact hK _ _ ⟨(.rs (nxs (nxs h.nx)) 0 (List.length l97)), (hs6 ++ [.rs h.nx 0 (List.length l96)]), s2, s3, s4, s5, (by first | (simp only [go_sem, s6, List.length_append, List.map_append]; done) | rfl), s7, s8, (b2f q0 (by intro j hj  hl; first | rfl | simp only [go_sem, hl, b08 (b2q rs_o4_o6 j hj)]) (by first | omega | exact Nat.le_refl _ | (simp only [go_sem, nxs] <;> omega))), (b2f q1 (by intro j hj  hl; first | rfl | simp only [go_sem, hl, b08 (b2q rs_o5_o6 j hj)]) (by first | omega | exact Nat.le_refl _ | (simp only [go_sem, nxs] <;> omega))), (c2x (h := h) q2 h_l97 (by simp only [go_sem, b1h q2, List.length_append, List.map_append]) rfl (by simp only [go_sem]) (b3c (by simp only [go_sem, b1h q2, List.length_append, List.map_append]) (by simp only [go_sem, b1h q2, List.length_append, List.map_append]) (by simp only [go_sem])) (b58 (by first | assumption | exact b2r q2 (by first | omega | (simp only [nxs] <;> omega)))) (by first | omega | exact Nat.le_refl _ | (simp only [go_sem, nxs] <;> omega)) (by first | exact b1k | exact b1l (by first | assumption | omega | (simp only [nxs] <;> omega))) (by intro j hj h2 hl; first | rfl | simp only [go_sem, h2, hl]) (by first | omega | exact Nat.le_refl _ | (simp only [go_sem, nxs] <;> omega))), (fun j hj => (rs_o4_o5 j hj)), (b2q (fun j hj => (b8j (b2q rs_o4_o6 j hj) (by first | exact b1k | exact b1l (b0b (b3d hj (by first | assumption | exact b2r (by assumption) (by first | assumption | omega | (simp only [nxs] <;> omega))))) | exact b4n (by assumption) j hj) (b0b (b3d hj (by first | assumption | exact b2r (by assumption) (by first | assumption | omega | (simp only [nxs] <;> omega)))))))), (b2q (fun j hj => (b8j (b2q rs_o5_o6 j hj) (by first | exact b1k | exact b1l (b0b (b3d hj (by first | assumption | exact b2r (by assumption) (by first | assumption | omega | (simp only [nxs] <;> omega))))) | exact b4n (by assumption) j hj) (b0b (b3d hj (by first | assumption | exact b2r (by assumption) (by first | assumption | omega | (simp only [nxs] <;> omega))))))))⟩
     ·try clear s2 s3 s4 s5 s6 s7 s8 q0 q1 q2 rs_o4_o5 rs_o4_o6 rs_o5_o6
      rintro t h ⟨v6_1, hs6_1, s2, s3, s4, s5, s6, s7, s8, q0, q1, q2, rs_o4_o5, rs_o4_o6, rs_o5_o6⟩
      simp only [b0i, b0j]
      refine hK85 _ _ ?_
      refine b1i fun K hK => ?_
      simp only [go_sem, s8, b0a v4, b0a v5, b0a v6, b0a v4_1, b0a v5_1, b0a v6_1]
      refine hK _ _ ?_
      clear hK K
      simp only [b0i, b0j]
      obtain rfl := Option.some.inj hm1
      refine ⟨_, rfl, ?_⟩
      exact ⟨v4_1, hs4_1, v5_1, hs5_1, v6_1, hs6_1, s2, s3, s4, s5, s6, s7, (by first | (simp only [go_sem, s8, List.length_append, List.map_append]; done) | rfl), q0, q1, q2, (fun j hj => (rs_o4_o5 j hj)), (fun j hj => (rs_o4_o6 j hj)), (fun j hj => (rs_o5_o6 j hj))⟩
  ·rw [b01 hc84] at hm1
   simp only [b1t, b1w, b1v, b1u, b0i, b0j, Nat.reduceEqDiff, not_false_eq_true]
   obtain rfl := Option.some.inj hm1
   obtain rfl := hb82 _ rfl
   try dsimp only at hm0
   exact J2 come_4 before_5 pass_6 v4 hs4 v5 hs5 v6 hs6 _ _ s2 s3 s4 s5 s6 s7 q0 q1 q2 (fun j hj => (rs_o4_o5 j hj)) (fun j hj => (rs_o4_o6 j hj)) (fun j hj => (rs_o5_o6 j hj)) hm0
theorem c19 (hf : Has O "newel/newelref06.Same" x_r06_Same) : c3m O := by
 intro a b r hm0
 unfold c0c at hm0
 refine b2k hf rfl (b0e (b0s fun a _ => b2b a) (b0e (b0s fun a _ => b2b a) b0y)) (b0l _) ?_
 refine b2h (fun t h => t 0 = .fs 1 (List.map eI a) ∧ t 1 = .fs 1 (List.map eI b)) ⟨rfl, rfl⟩ fun t h ⟨s0, s1⟩ => ?_
 simp only [x_r06_Same]
 refine b0d fun K hK => ?_
 simp only [go_sem]
 refine hK _ _ ?_
 clear hK K
 refine b03 ?_
 refine b0d fun K hK => ?_
 simp only [go_sem, s0, s1]
 refine hK _ _ ?_
 clear hK K
 refine b0r fun K1 hK1 => ?_
 simp only [go_sem]
 refine b0u (fun hc2 => ?_) (fun hc2 => ?_)
 ·rw [b02 hc2] at hm0
  refine b0d fun K hK => ?_
  simp only [go_sem]
  refine hK _ _ ?_
  clear hK K
  simp only [b1a, b1c, b1b, b1d]
  obtain rfl := Option.some.inj hm0
  exact b1q (by simp only [go_sem, List.length_append, List.map_append]) (b0l _)
 ·rw [b01 hc2] at hm0
  simp only [b0z, b0i, b0j]
  refine hK1 _ _ ?_
  refine b03 ?_
  refine b0d fun K hK => ?_
  simp only [go_sem]
  refine hK _ _ ?_
  clear hK K
  refine b0r fun K3 hK3 => ?_
  have J4 : ∀ (t : Slots) (h : Heap), d1h = some r → K3 t h := by
   intro t h hm0
   refine hK3 _ _ ?_
   unfold d1h at hm0
   refine b0d fun K hK => ?_
   simp only [go_sem]
   refine hK _ _ ?_
   clear hK K
   simp only [b1a, b1c, b1b, b1d]
   obtain rfl := Option.some.inj hm0
   exact b1q (by simp only [go_sem, List.length_append, List.map_append]) (b0l _)
  simp only [b00]
  obtain ⟨b5, hl5, hm0⟩ := b0h hm0
  refine b1x hl5 (fun | i_5, t, h => t 0 = .fs 1 (List.map eI a) ∧ t 1 = .fs 1 (List.map eI b) ∧ t 5 = I i_5) ?_ ?_
  ·exact ⟨s0, s1, (by first | (simp only [go_sem, List.length_append, List.map_append]; done) | rfl)⟩
  ·rintro i_5 o t h ⟨s0, s1, s5⟩ hm1 hb5
   simp only [c2r] at hm1
   rw [g0w]
   refine b03 ?_
   refine b0d fun K hK => ?_
   simp only [go_sem, s0, s5]
   refine hK _ _ ?_
   clear hK K
   refine b0r fun K6 hK6 => ?_
   simp only [go_sem]
   refine b0u (fun hc7 => ?_) (fun hc7 => ?_)
   ·rw [b02 hc7] at hm1
    simp only [b0z, b0i, b0j]
    refine hK6 _ _ ?_
    refine b0r fun K8 hK8 => ?_
    simp only [b00]
    obtain ⟨x11, h_x11, hm1⟩ := b0h hm1
    have h_x110 := b0w h_x11
    have h_x111 := b0x h_x11
    obtain ⟨x12, h_x12, hm1⟩ := b0h hm1
    have h_x120 := b0w h_x12
    have h_x121 := b0x h_x12
    refine b0d fun K hK => ?_
    simp only [go_sem, s0, s1, s5, b0m h_x11, b0n h_x11, h_x110, h_x111, b0m h_x12, b0n h_x12, h_x120, h_x121]
    refine hK _ _ ?_
    clear hK K
    simp only [go_sem]
    refine b0u (fun hc13 => ?_) (fun hc13 => ?_)
    ·rw [b02 hc13] at hm1
     refine b0d fun K hK => ?_
     simp only [go_sem]
     refine hK _ _ ?_
     clear hK K
     simp only [b1a, b1c, b1b, b1d]
     obtain rfl := Option.some.inj hm1
     obtain rfl := hb5 _ rfl
     try dsimp only at hm0
     obtain rfl := Option.some.inj hm0
     exact b1q (by simp only [go_sem, List.length_append, List.map_append]) (b0l _)
    ·rw [b01 hc13] at hm1
     simp only [b0z, b0i, b0j]
     refine hK8 _ _ ?_
     refine b1i fun K hK => ?_
     simp only [go_sem, s5]
     refine hK _ _ ?_
     clear hK K
     simp only [b0i, b0j]
     obtain rfl := Option.some.inj hm1
     refine ⟨_, rfl, ?_⟩
     exact ⟨s0, s1, (by first | (simp only [go_sem, s5, List.length_append, List.map_append]; done) | rfl)⟩
   ·rw [b01 hc7] at hm1
    simp only [b1t, b1w, b1v, b1u, b0i, b0j, Nat.reduceEqDiff, not_false_eq_true]
    obtain rfl := Option.some.inj hm1
    obtain rfl := hb5 _ rfl
    try dsimp only at hm0
    exact J4  _ _  hm0
theorem c2a (hf : Has O "newel/newelref06.rates" x_r06_rates) : c3n O := by
 intro h_ comb r hm0
 unfold c0e at hm0
 refine b2k hf rfl (b0e (.agg _ (b0e (b0s fun a _ => b2m a) (b0e (b0s fun a _ => b2l a) (b0e (b0s fun a _ => b2o a) (b0e (b0l _) b0y))))) (b0e (b0l _) b0y)) (b0s fun a _ => b2b a) ?_
 refine b2h (fun t h => t 0 = .agg [.fs 5 (List.map b0p h_.Combs), .fs 3 (List.map b0o h_.Trains), .fs 3 (List.map b0q h_.Shifts), I h_.Until] ∧ t 1 = I comb) ⟨rfl, rfl⟩ fun t h ⟨s0, s1⟩ => ?_
 simp only [x_r06_rates]
 refine b0d fun K hK => ?_
 simp only [go_sem, s0]
 refine hK _ _ ?_
 clear hK K
 obtain ⟨l2, h_l2, hm0⟩ := b0h hm0
 refine b0d fun K hK => ?_
 simp only [go_sem]
 refine b6e (f := eI) (z := 0) rfl h_l2 ?_
 simp only [go_sem]
 refine hK _ _ ?_
 clear hK K
 refine b03 ?_
 refine b0d fun K hK => ?_
 simp only [go_sem]
 refine hK _ _ ?_
 clear hK K
 refine b0r fun K3 hK3 => ?_
 have J4 : ∀ (l_5 : List Int) (i5 : Nat) (t : Slots) (h : Heap), t 5 = .rs i5 0 (List.length l_5) → h.ob i5 = some (1, List.map eI l_5) → i5 < h.nx → d1i l_5 = some r → K3 t h := by
  intro l_5 i5 t h s5 q4 q3 hm0
  refine hK3 _ _ ?_
  unfold d1i at hm0
  refine b0d fun K hK => ?_
  simp only [go_sem, s5, q4, q3]
  refine hK _ _ ?_
  clear hK K
  simp only [b1a, b1c, b1b, b1d]
  obtain rfl := Option.some.inj hm0
  exact c72 (v := .rs i5 0 (List.length l_5)) (by simp only [go_sem, q4, q3, List.length_append, List.map_append]) (b42 (f := eI) (l := l_5) (id := i5) (by simp only [go_sem, q4, q3, List.length_append, List.map_append]) (by first | rfl | simp only [go_sem, List.length_append, List.map_append]) b2b b38)
 simp only [b00]
 obtain ⟨b5, hl5, hm0⟩ := b0h hm0
 refine b1x hl5 (fun | (l_5, t_6), t, h => ∃ i5 : Nat, t 1 = I comb ∧ t 2 = .fp [.fs 5 (List.map b0p h_.Combs), .fs 3 (List.map b0o h_.Trains), .fs 3 (List.map b0q h_.Shifts), I h_.Until] 0 ∧ t 5 = .rs i5 0 (List.length l_5) ∧ t 6 = I t_6 ∧ h.ob i5 = some (1, List.map eI l_5) ∧ i5 < h.nx) ?_ ?_
 ·exact ⟨h.nx, s1, (by first | (simp only [go_sem, List.length_append, List.map_append]; done) | rfl), (by first | (simp only [go_sem, List.length_append, List.map_append]; done) | rfl), (by first | (simp only [go_sem, List.length_append, List.map_append]; done) | rfl), (by simp only [go_sem, List.length_append, List.map_append]), (by simp only [go_sem])⟩
 ·rintro ⟨l_5, t_6⟩ o t h ⟨i5, s1, s2, s5, s6, q4, q3⟩ hm1 hb5
  simp only [c2t] at hm1
  rw [g0y]
  refine b03 ?_
  refine b0d fun K hK => ?_
  simp only [go_sem, s2, s6, q3]
  refine hK _ _ ?_
  clear hK K
  refine b0r fun K6 hK6 => ?_
  simp only [go_sem]
  refine b0u (fun hc7 => ?_) (fun hc7 => ?_)
  ·rw [b02 hc7] at hm1
   simp only [b0z, b0i, b0j]
   refine hK6 _ _ ?_
   refine b0r fun K8 hK8 => ?_
   have J9 : ∀ (l_5_1 : List Int) (t : Slots) (h : Heap), t 1 = I comb → t 2 = .fp [.fs 5 (List.map b0p h_.Combs), .fs 3 (List.map b0o h_.Trains), .fs 3 (List.map b0q h_.Shifts), I h_.Until] 0 → t 5 = .rs i5 0 (List.length l_5_1) → t 6 = I t_6 → h.ob i5 = some (1, List.map eI l_5_1) → i5 < h.nx → c59 t_6 l_5_1 = some o → K8 t h := by
    intro l_5_1 t h s1 s2 s5 s6 q4 q3 hm1
    refine hK8 _ _ ?_
    unfold c59 at hm1
    refine b1i fun K hK => ?_
    simp only [go_sem, s6, q3]
    refine hK _ _ ?_
    clear hK K
    simp only [b0i, b0j]
    obtain rfl := Option.some.inj hm1
    refine ⟨_, rfl, ?_⟩
    exact ⟨i5, s1, s2, (by first | exact s5 | simp only [go_sem, s5, List.length_append, List.map_append]), (by first | (simp only [go_sem, s6, List.length_append, List.map_append]; done) | rfl), q4, q3⟩
   simp only [b00]
   obtain ⟨x12, h_x12, hm1⟩ := b0h hm1
   have h_x120 := b0w h_x12
   have h_x121 := b0x h_x12
   obtain ⟨x13, h_x13, hm1⟩ := b0h hm1
   have h_x130 := b0w h_x13
   have h_x131 := b0x h_x13
   refine b0d fun K hK => ?_
   simp only [go_sem, s1, s2, s5, s6, q4, q3, b0m h_x12, b0n h_x12, h_x120, h_x121, b0m h_x13, b0n h_x13, h_x130, h_x131]
   refine hK _ _ ?_
   clear hK K
   refine b0d fun K hK => ?_
   simp only [go_sem, q3]
   refine hK _ _ ?_
   clear hK K
   simp only [b00]
   obtain ⟨b14, hl14, hm1⟩ := b0h hm1
   refine b1x hl14 (fun | (l_5_1, i_7), t, h => t 1 = I comb ∧ t 2 = .fp [.fs 5 (List.map b0p h_.Combs), .fs 3 (List.map b0o h_.Trains), .fs 3 (List.map b0q h_.Shifts), I h_.Until] 0 ∧ t 5 = .rs i5 0 (List.length l_5_1) ∧ t 6 = I t_6 ∧ t 7 = I i_7 ∧ h.ob i5 = some (1, List.map eI l_5_1) ∧ i5 < h.nx) ?_ ?_
   ·exact ⟨s1, s2, (by first | exact s5 | simp only [go_sem, s5, List.length_append, List.map_append]), s6, (by first | (simp only [go_sem, List.length_append, List.map_append]; done) | rfl), (by simp only [go_sem, q4, q3, List.length_append, List.map_append]), (by simp only [go_sem, q3])⟩
   ·rintro ⟨l_5_1, i_7⟩ o t h ⟨s1, s2, s5, s6, s7, q4, q3⟩ hm2 hb14
    simp only [c2s] at hm2
    rw [g0x]
    refine b03 ?_
    refine b0d fun K hK => ?_
    simp only [go_sem, s2, s7, q3]
    refine hK _ _ ?_
    clear hK K
    refine b0r fun K15 hK15 => ?_
    simp only [go_sem]
    refine b0u (fun hc16 => ?_) (fun hc16 => ?_)
    ·rw [b02 hc16] at hm2
     simp only [b0z, b0i, b0j]
     refine hK15 _ _ ?_
     refine b0r fun K17 hK17 => ?_
     have J18 : ∀ (l_5_2 : List Int) (t : Slots) (h : Heap), t 1 = I comb → t 2 = .fp [.fs 5 (List.map b0p h_.Combs), .fs 3 (List.map b0o h_.Trains), .fs 3 (List.map b0q h_.Shifts), I h_.Until] 0 → t 5 = .rs i5 0 (List.length l_5_2) → t 6 = I t_6 → t 7 = I i_7 → h.ob i5 = some (1, List.map eI l_5_2) → i5 < h.nx → c0f i_7 l_5_2 = some o → K17 t h := by
      intro l_5_2 t h s1 s2 s5 s6 s7 q4 q3 hm2
      refine hK17 _ _ ?_
      unfold c0f at hm2
      refine b1i fun K hK => ?_
      simp only [go_sem, s7, q3]
      refine hK _ _ ?_
      clear hK K
      simp only [b0i, b0j]
      obtain rfl := Option.some.inj hm2
      refine ⟨_, rfl, ?_⟩
      exact ⟨s1, s2, (by first | exact s5 | simp only [go_sem, s5, List.length_append, List.map_append]), s6, (by first | (simp only [go_sem, s7, List.length_append, List.map_append]; done) | rfl), q4, q3⟩
     simp only [b00]
     obtain ⟨x20, h_x20, hm2⟩ := b0h hm2
     have h_x200 := b0w h_x20
     have h_x201 := b0x h_x20
     refine b2d (fun t h => t 1 = I comb ∧ t 2 = .fp [.fs 5 (List.map b0p h_.Combs), .fs 3 (List.map b0o h_.Trains), .fs 3 (List.map b0q h_.Shifts), I h_.Until] 0 ∧ t 5 = .rs i5 0 (List.length l_5_1) ∧ t 6 = I t_6 ∧ t 7 = I i_7 ∧ t 50 = B ((decide (x20.Comb = comb)) && (decide (x20.At ≤ t_6))) ∧ h.ob i5 = some (1, List.map eI l_5_1) ∧ i5 < h.nx) (fun K hK => ?_) ?_
     ·simp only [go_sem, s1, s2, s6, s7, q3, b0m h_x20, b0n h_x20, h_x200, h_x201]
      refine b0u (fun hg21 => ?_) (fun hg21 => ?_)
      ·simp only [go_sem, s1, s2, s6, s7, q3, b0m h_x20, b0n h_x20, h_x200, h_x201, hg21]
       exact hK _ _ ⟨s1, s2, (by first | exact s5 | simp only [go_sem, s5, List.length_append, List.map_append]), s6, s7, (by first | (simp only [go_sem, hg21, List.length_append, List.map_append]; done) | rfl), q4, q3⟩
      ·simp only [go_sem, s1, s2, s6, s7, q3, b0m h_x20, b0n h_x20, h_x200, h_x201, hg21]
       exact hK _ _ ⟨s1, s2, (by first | exact s5 | simp only [go_sem, s5, List.length_append, List.map_append]), s6, s7, (by first | (simp only [go_sem, hg21, List.length_append, List.map_append]; done) | rfl), q4, q3⟩
     ·rintro t h ⟨s1, s2, s5, s6, s7, s50, q4, q3⟩
      simp only [go_sem, s50]
      refine b0u (fun hc22 => ?_) (fun hc22 => ?_)
      ·rw [b02 hc22] at hm2
       obtain ⟨x24, h_x24, hm2⟩ := b0h hm2
       have h_x240 := b0w h_x24
       have h_x241 := b0x h_x24
       refine b1i fun K hK => ?_
       simp only [go_sem, s2, s5, s6, s7, q4, q3, b0m h_x24, b0n h_x24, h_x240, h_x241, b0m h_x20, b0n h_x20, h_x200, h_x201]
       refine hK _ _ ?_
       clear hK K
       simp only [b0i, b0j]
       exact J18 (List.set l_5_1 (Int.toNat t_6) x20.Rate) _ _ s1 s2 (by first | exact s5 | simp only [go_sem, s5, List.length_append, List.map_append]) s6 s7 (by simp only [go_sem, q4, q3, List.length_append, List.map_append]) (by simp only [go_sem, q3]) hm2
      ·rw [b01 hc22] at hm2
       simp only [b0z, b0i, b0j]
       exact J18 l_5_1 _ _ s1 s2 (by first | exact s5 | simp only [go_sem, s5, List.length_append, List.map_append]) s6 s7 q4 q3 hm2
    ·rw [b01 hc16] at hm2
     simp only [b1t, b1w, b1v, b1u, b0i, b0j, Nat.reduceEqDiff, not_false_eq_true]
     obtain rfl := Option.some.inj hm2
     obtain rfl := hb14 _ rfl
     try dsimp only at hm1
     exact J9 l_5_1 _ _ s1 s2 (by first | exact s5 | simp only [go_sem, s5, List.length_append, List.map_append]) s6 q4 q3 hm1
  ·rw [b01 hc7] at hm1
   simp only [b1t, b1w, b1v, b1u, b0i, b0j, Nat.reduceEqDiff, not_false_eq_true]
   obtain rfl := Option.some.inj hm1
   obtain rfl := hb5 _ rfl
   try dsimp only at hm0
   exact J4 l_5 i5 _ _ (by first | exact s5 | simp only [go_sem, s5, List.length_append, List.map_append]) q4 q3 hm0
theorem b3t (hf : Has O "newel/newelref06.within" x_r06_within) : c0n O := by
 intro n low high
 generalize hm0 : b2g n low high = r
 unfold b2g at hm0
 refine b2k hf rfl (b0e (b0l _) (b0e (b0l _) (b0e (b0l _) b0y))) (b0l _) ?_
 refine b2h (fun t h => t 0 = I n ∧ t 1 = I low ∧ t 2 = I high) ⟨rfl, rfl, rfl⟩ fun t h ⟨s0, s1, s2⟩ => ?_
 simp only [x_r06_within]
 refine b0d fun K hK => ?_
 simp only [go_sem]
 refine hK _ _ ?_
 clear hK K
 refine b2d (fun t h => t 6 = B ((decide (low ≤ n)) && (decide (n ≤ high)))) (fun K hK => ?_) ?_
 ·simp only [go_sem, s0, s1, s2]
  refine b0u (fun hg1 => ?_) (fun hg1 => ?_)
  ·simp only [go_sem, s0, s1, s2, hg1]
   exact hK _ _ (by first | (simp only [go_sem, hg1, List.length_append, List.map_append]; done) | rfl)
  ·simp only [go_sem, s0, s1, s2, hg1]
   exact hK _ _ (by first | (simp only [go_sem, hg1, List.length_append, List.map_append]; done) | rfl)
 ·rintro t h s6
  simp only [b1a, b1c, b1b, b1d]
  obtain rfl := hm0
  exact b1q (by simp only [go_sem, s6, List.length_append, List.map_append]) (b0l _)
theorem d0p (hf : Has O "slices.ContainsFunc[[]newel/api.Train,newel/api.Train]" x_slices_ContainsFunc___api_Train_api_Train_) (d0q : c7j O) : c7i O := by
 intro s f_n f_a f_b f f_z f_h r hm0
 unfold c0j at hm0
 refine b2k hf rfl (b0e (b0s fun a _ => b2l a) (b0e f_z b0y)) (b0l _) ?_
 refine b2h (fun t h => t 0 = .fs 3 (List.map b0o s) ∧ t 1 = .fn f_n f_a f_b) ⟨rfl, rfl⟩ fun t h ⟨s0, s1⟩ => ?_
 simp only [x_slices_ContainsFunc___api_Train_api_Train_]
 refine b0d fun K hK => ?_
 simp only [go_sem]
 refine hK _ _ ?_
 clear hK K
 obtain ⟨y2, h_y2, hm0⟩ := b0h hm0
 refine b0d fun K hK => ?_
 simp only [go_sem, s0, s1]
 refine b1j (d0q s f_n f_a f_b f f_z f_h _ h_y2) ?_
 simp only [go_sem, s0, s1]
 refine hK _ _ ?_
 clear hK K
 simp only [b1a, b1c, b1b, b1d]
 obtain rfl := Option.some.inj hm0
 exact b1q (by simp only [go_sem, List.length_append, List.map_append]) (b0l _)
theorem d0q (hf : Has O "slices.IndexFunc[[]newel/api.Train,newel/api.Train]" x_slices_IndexFunc___api_Train_api_Train_) : c7j O := by
 intro s f_n f_a f_b f f_z f_h r hm0
 unfold c26 at hm0
 refine b2k hf rfl (b0e (b0s fun a _ => b2l a) (b0e f_z b0y)) (b0l _) ?_
 refine b2h (fun t h => t 0 = .fs 3 (List.map b0o s) ∧ t 1 = .fn f_n f_a f_b) ⟨rfl, rfl⟩ fun t h ⟨s0, s1⟩ => ?_
 simp only [x_slices_IndexFunc___api_Train_api_Train_]
 refine b0d fun K hK => ?_
 simp only [go_sem]
 refine hK _ _ ?_
 clear hK K
 refine b03 ?_
 refine b0d fun K hK => ?_
 simp only [go_sem, s0]
 refine hK _ _ ?_
 clear hK K
 refine b0r fun K1 hK1 => ?_
 have J2 : ∀ (t : Slots) (h : Heap), c27 = some r → K1 t h := by
  intro t h hm0
  refine hK1 _ _ ?_
  unfold c27 at hm0
  refine b0d fun K hK => ?_
  simp only [go_sem]
  refine hK _ _ ?_
  clear hK K
  simp only [b1a, b1c, b1b, b1d]
  obtain rfl := Option.some.inj hm0
  exact b1q (by simp only [go_sem, List.length_append, List.map_append]) (b0l _)
 simp only [b00]
 obtain ⟨b3, hl3, hm0⟩ := b0h hm0
 refine b1x hl3 (fun | x_8, t, h => t 0 = .fs 3 (List.map b0o s) ∧ t 1 = .fn f_n f_a f_b ∧ t 7 = I (List.length s : Int) ∧ t 8 = I x_8) ?_ ?_
 ·exact ⟨s0, s1, (by first | (simp only [go_sem, List.length_append, List.map_append]; done) | rfl), (by first | (simp only [go_sem, List.length_append, List.map_append]; done) | rfl)⟩
 ·rintro x_8 o t h ⟨s0, s1, s7, s8⟩ hm1 hb3
  simp only [c6j] at hm1
  rw [g0z]
  refine b0d fun K hK => ?_
  simp only [go_sem, s7, s8]
  refine hK _ _ ?_
  clear hK K
  refine b0r fun K4 hK4 => ?_
  simp only [go_sem]
  refine b0u (fun hc5 => ?_) (fun hc5 => ?_)
  ·rw [b02 hc5] at hm1
   simp only [b0z, b0i, b0j]
   refine hK4 _ _ ?_
   refine b0r fun K6 hK6 => ?_
   simp only [b00]
   refine b0d fun K hK => ?_
   simp only [go_sem, s8]
   refine hK _ _ ?_
   clear hK K
   obtain ⟨x9, h_x9, hm1⟩ := b0h hm1
   have h_x90 := b0w h_x9
   have h_x91 := b0x h_x9
   obtain ⟨y10, h_y10, hm1⟩ := b0h hm1
   refine b0d fun K hK => ?_
   simp only [go_sem, s0, s1, b0m h_x9, b0n h_x9, h_x90, h_x91]
   refine d6e (f_h x9 _ h_y10) ?_
   simp only [go_sem, s0, s1, b0m h_x9, b0n h_x9, h_x90, h_x91]
   refine hK _ _ ?_
   clear hK K
   simp only [go_sem]
   refine b0u (fun hc11 => ?_) (fun hc11 => ?_)
   ·rw [b02 hc11] at hm1
    refine b0d fun K hK => ?_
    simp only [go_sem]
    refine hK _ _ ?_
    clear hK K
    simp only [b1a, b1c, b1b, b1d]
    obtain rfl := Option.some.inj hm1
    obtain rfl := hb3 _ rfl
    try dsimp only at hm0
    obtain rfl := Option.some.inj hm0
    exact b1q (by simp only [go_sem, List.length_append, List.map_append]) (b0l _)
   ·rw [b01 hc11] at hm1
    simp only [b0z, b0i, b0j]
    refine hK6 _ _ ?_
    refine b1i fun K hK => ?_
    simp only [go_sem, s8]
    refine hK _ _ ?_
    clear hK K
    simp only [b0i, b0j]
    obtain rfl := Option.some.inj hm1
    refine ⟨_, rfl, ?_⟩
    exact ⟨s0, s1, s7, (by first | (simp only [go_sem, s8, List.length_append, List.map_append]; done) | rfl)⟩
  ·rw [b01 hc5] at hm1
   simp only [b1t, b1w, b1v, b1u, b0i, b0j, Nat.reduceEqDiff, not_false_eq_true]
   obtain rfl := Option.some.inj hm1
   obtain rfl := hb3 _ rfl
   try dsimp only at hm0
   exact J2  _ _  hm0
theorem c2c (hf : Has O "slices.IndexFunc[[]int,int]" x_slices_IndexFunc___int_int_) : c3p O := by
 intro s f_n f_a f_b f f_z f_h r hm0
 unfold c0k at hm0
 refine b2k hf rfl (b0e (b0s fun a _ => b2b a) (b0e f_z b0y)) (b0l _) ?_
 refine b2h (fun t h => t 0 = .fs 1 (List.map eI s) ∧ t 1 = .fn f_n f_a f_b) ⟨rfl, rfl⟩ fun t h ⟨s0, s1⟩ => ?_
 simp only [x_slices_IndexFunc___int_int_]
 refine b0d fun K hK => ?_
 simp only [go_sem]
 refine hK _ _ ?_
 clear hK K
 refine b03 ?_
 refine b0d fun K hK => ?_
 simp only [go_sem, s0]
 refine hK _ _ ?_
 clear hK K
 refine b0r fun K1 hK1 => ?_
 have J2 : ∀ (t : Slots) (h : Heap), c3a = some r → K1 t h := by
  intro t h hm0
  refine hK1 _ _ ?_
  unfold c3a at hm0
  refine b0d fun K hK => ?_
  simp only [go_sem]
  refine hK _ _ ?_
  clear hK K
  simp only [b1a, b1c, b1b, b1d]
  obtain rfl := Option.some.inj hm0
  exact b1q (by simp only [go_sem, List.length_append, List.map_append]) (b0l _)
 simp only [b00]
 obtain ⟨b3, hl3, hm0⟩ := b0h hm0
 refine b1x hl3 (fun | x_8, t, h => t 0 = .fs 1 (List.map eI s) ∧ t 1 = .fn f_n f_a f_b ∧ t 7 = I (List.length s : Int) ∧ t 8 = I x_8) ?_ ?_
 ·exact ⟨s0, s1, (by first | (simp only [go_sem, List.length_append, List.map_append]; done) | rfl), (by first | (simp only [go_sem, List.length_append, List.map_append]; done) | rfl)⟩
 ·rintro x_8 o t h ⟨s0, s1, s7, s8⟩ hm1 hb3
  simp only [c6k] at hm1
  rw [g00]
  refine b0d fun K hK => ?_
  simp only [go_sem, s7, s8]
  refine hK _ _ ?_
  clear hK K
  refine b0r fun K4 hK4 => ?_
  simp only [go_sem]
  refine b0u (fun hc5 => ?_) (fun hc5 => ?_)
  ·rw [b02 hc5] at hm1
   simp only [b0z, b0i, b0j]
   refine hK4 _ _ ?_
   refine b0r fun K6 hK6 => ?_
   simp only [b00]
   refine b0d fun K hK => ?_
   simp only [go_sem, s8]
   refine hK _ _ ?_
   clear hK K
   obtain ⟨x9, h_x9, hm1⟩ := b0h hm1
   have h_x90 := b0w h_x9
   have h_x91 := b0x h_x9
   obtain ⟨y10, h_y10, hm1⟩ := b0h hm1
   refine b0d fun K hK => ?_
   simp only [go_sem, s0, s1, b0m h_x9, b0n h_x9, h_x90, h_x91]
   refine d6e (f_h x9 _ h_y10) ?_
   simp only [go_sem, s0, s1, b0m h_x9, b0n h_x9, h_x90, h_x91]
   refine hK _ _ ?_
   clear hK K
   simp only [go_sem]
   refine b0u (fun hc11 => ?_) (fun hc11 => ?_)
   ·rw [b02 hc11] at hm1
    refine b0d fun K hK => ?_
    simp only [go_sem]
    refine hK _ _ ?_
    clear hK K
    simp only [b1a, b1c, b1b, b1d]
    obtain rfl := Option.some.inj hm1
    obtain rfl := hb3 _ rfl
    try dsimp only at hm0
    obtain rfl := Option.some.inj hm0
    exact b1q (by simp only [go_sem, List.length_append, List.map_append]) (b0l _)
   ·rw [b01 hc11] at hm1
    simp only [b0z, b0i, b0j]
    refine hK6 _ _ ?_
    refine b1i fun K hK => ?_
    simp only [go_sem, s8]
    refine hK _ _ ?_
    clear hK K
    simp only [b0i, b0j]
    obtain rfl := Option.some.inj hm1
    refine ⟨_, rfl, ?_⟩
    exact ⟨s0, s1, s7, (by first | (simp only [go_sem, s8, List.length_append, List.map_append]; done) | rfl)⟩
  ·rw [b01 hc5] at hm1
   simp only [b1t, b1w, b1v, b1u, b0i, b0j, Nat.reduceEqDiff, not_false_eq_true]
   obtain rfl := Option.some.inj hm1
   obtain rfl := hb3 _ rfl
   try dsimp only at hm0
   exact J2  _ _  hm0
end Go.Nw.HM
