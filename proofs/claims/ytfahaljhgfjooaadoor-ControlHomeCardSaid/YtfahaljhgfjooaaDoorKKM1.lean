/- That the texts make what their models say: printed by a program. -/
import Derived.Test.YtfahaljhgfjooaaDoorKM
set_option linter.all false
namespace Go.Nw.KM
open Go.Nw.Ctl
set_option maxHeartbeats 4000000
variable {O : Orac} [MapsOk O]
theorem c3b (hf : Has O "(*newel/control.walk).first" x___control_walk__first) (d2s : c9u O) : c5d O := by
 intro w_ wanted_n wanted_a wanted_b wanted wanted_z wanted_h r hm0
 unfold b9e at hm0
 refine b1i hf rfl (b0a (.fp _ _ (b0a (b0c fun a _ => b44 a) (b0a (b0c fun a _ => b1t a) (b0a (b0c fun a _ => b1t a) (b0a (b0c fun a _ => b8i a) b0j))))) (b0a wanted_z b0j)) (.tup _ (b0a (b0c fun a _ => b1t a) (b0a (b0e _) b0j))) ?_
 refine b1c (fun t h => t 0 = .fp [.fs 3 (List.map b1g w_.places), .fs 1 (List.map eI w_.from_), .fs 1 (List.map eI w_.by_), .fs 1 (List.map b2f w_.next)] 0 /\ t 1 = .fn wanted_n wanted_a wanted_b) ⟨rfl, rfl⟩ fun t h ⟨s0, s1⟩ => ?_
 simp only [x___control_walk__first]
 refine b0b fun K hK => ?_
 simp only [go_sem]
 refine hK _ _ ?_
 clear hK K
 refine b0v ?_
 refine b0b fun K hK => ?_
 simp only [go_sem, s0]
 refine hK _ _ ?_
 clear hK K
 refine b0i fun K1 hK1 => ?_
 have J2 : ∀ (t : Slots) (h : Heap), c56 = some r -> K1 t h := by
  intro t h hm0
  refine hK1 _ _ ?_
  unfold c56 at hm0
  refine b0b fun K hK => ?_
  simp only [go_sem]
  refine hK _ _ ?_
  clear hK K
  simp only [b0x, b0y]
  obtain rfl := sI9 hm0
  exact d66 (v := .v (.slice none 0 0)) (u := B false) (by simp only [go_sem]) (by simp only [go_sem]) (.nil _) (.refl _ (b0e _))
 simp only [b0u]
 obtain ⟨b3, hl3, hm0⟩ := b0g hm0
 refine b1j hl3 (fun | x_12, t, h => t 0 = .fp [.fs 3 (List.map b1g w_.places), .fs 1 (List.map eI w_.from_), .fs 1 (List.map eI w_.by_), .fs 1 (List.map b2f w_.next)] 0 /\ t 1 = .fn wanted_n wanted_a wanted_b /\ t 11 = I (List.length w_.places : Int) /\ t 12 = I x_12) ?_ ?_
 ·exact ⟨s0, s1, (by first | (simp only [go_sem]; done) | rfl), (by first | (simp only [go_sem]; done) | rfl)⟩
 ·rintro x_12 o t h ⟨s0, s1, s11, s12⟩ hm1 hb3
  simp only [b9f] at hm1
  rw [g30]
  refine b0b fun K hK => ?_
  simp only [go_sem, s11, s12]
  refine hK _ _ ?_
  clear hK K
  refine b0i fun K4 hK4 => ?_
  simp only [go_sem]
  refine b0k (fun hc5 => ?_) (fun hc5 => ?_)
  ·rw [b0r hc5] at hm1
   simp only [b0s, b0f]
   refine hK4 _ _ ?_
   refine b0i fun K6 hK6 => ?_
   simp only [b0u]
   refine b0b fun K hK => ?_
   simp only [go_sem, s12]
   refine hK _ _ ?_
   clear hK K
   obtain ⟨y8, h_y8, hm1⟩ := b0g hm1
   refine b0b fun K hK => ?_
   simp only [go_sem, s1]
   refine o5t (wanted_h x_12 _ h_y8) ?_
   simp only [go_sem]
   refine hK _ _ ?_
   clear hK K
   simp only [go_sem]
   refine b0k (fun hc9 => ?_) (fun hc9 => ?_)
   ·rw [b0r hc9] at hm1
    obtain ⟨y11, h_y11, hm1⟩ := b0g hm1
    refine b0b fun K hK => ?_
    simp only [go_sem, s0]
    refine b01 (d2s w_ x_12 _ h_y11) ?_
    simp only [go_sem]
    refine hK _ _ ?_
    clear hK K
    simp only [b0x, b1p, b2e, b0y]
    obtain rfl := sI9 hm1
    obtain rfl := hb3 _ rfl
    try dsimp only at hm0
    obtain rfl := sI9 hm0
    exact d1m (by simp only [go_sem]) (by simp only [go_sem]) (b0c fun a _ => b1t a) (b0e _)
   ·rw [b0q hc9] at hm1
    simp only [b0s, b02, b0f]
    refine hK6 _ _ ?_
    refine b03 fun K hK => ?_
    simp only [go_sem, s12]
    refine hK _ _ ?_
    clear hK K
    simp only [b0f]
    obtain rfl := sI9 hm1
    refine ⟨_, rfl, ?_⟩
    exact ⟨s0, s1, s11, (by first | (simp only [go_sem]; done) | rfl)⟩
  ·rw [b0q hc5] at hm1
   simp only [b09, b1b, b1a, b0f]
   obtain rfl := sI9 hm1
   obtain rfl := hb3 _ rfl
   try dsimp only at hm0
   exact J2  _ _  hm0
theorem d2s (hf : Has O "(*newel/control.walk).run" x___control_walk__run) (d3x : d00 O) : c9u O := by
 intro w_ at_ r hm0
 unfold b71 at hm0
 refine b1i hf rfl (b0a (.fp _ _ (b0a (b0c fun a _ => b44 a) (b0a (b0c fun a _ => b1t a) (b0a (b0c fun a _ => b1t a) (b0a (b0c fun a _ => b8i a) b0j))))) (b0a (b0e _) b0j)) (b0c fun a _ => b1t a) ?_
 refine b1c (fun t h => t 0 = .fp [.fs 3 (List.map b1g w_.places), .fs 1 (List.map eI w_.from_), .fs 1 (List.map eI w_.by_), .fs 1 (List.map b2f w_.next)] 0 /\ t 1 = I at_) ⟨rfl, rfl⟩ fun t h ⟨s0, s1⟩ => ?_
 simp only [x___control_walk__run]
 refine b0b fun K hK => ?_
 simp only [go_sem]
 refine hK _ _ ?_
 clear hK K
 refine b0b fun K hK => ?_
 simp only [go_sem]
 refine hK _ _ ?_
 clear hK K
 refine b0i fun K1 hK1 => ?_
 have J2 : ∀ (l_5 : List Int) (v5 : AV) (t : Slots) (h : Heap), t 5 = v5 -> b2a h v5 1 (List.map eI l_5) -> c57 l_5 = some r -> K1 t h := by
  intro l_5 v5 t h s5 Q1l hm0
  refine hK1 _ _ ?_
  unfold c57 at hm0
  obtain ⟨y4, h_y4, hm0⟩ := b0g hm0
  refine b2p (fun t h => t 5 = v5 /\ b2a h v5 1 (List.map eI y4)) (fun K hK => ?_) ?_
  ·simp only [go_sem, s5, b5r v5]
   refine d9m (d3x l_5 (v5) _ Q1l _ h_y4) ?_
   rintro _ hq_y4 ⟨rfl, ow_y4, fr_y4, fx_y4⟩
   simp only [go_sem]
   exact hK _ _ ⟨s5, ow_y4⟩
  ·rintro t h ⟨s5, Q1l⟩
   refine b0b fun K hK => ?_
   simp only [go_sem, s5, b5r v5]
   refine hK _ _ ?_
   clear hK K
   simp only [b0x, b0y]
   obtain rfl := sI9 hm0
   exact b8e (v := v5) (by simp only [go_sem]) (b98 (f := eI) (l := y4) (b3x Q1l (by intro j hj hl; first | rfl | simp only [go_sem, hl]) (by first | omega | exact Nat.le_refl _ | (simp only [go_sem, nxs] <;> omega))) b1t b8p)
 simp only [b0u]
 obtain ⟨b5, hl5, hm0⟩ := b0g hm0
 refine b1j hl5 (fun | (at_1, l_5), t, h => ∃ v5 : AV, t 0 = .fp [.fs 3 (List.map b1g w_.places), .fs 1 (List.map eI w_.from_), .fs 1 (List.map eI w_.by_), .fs 1 (List.map b2f w_.next)] 0 /\ t 1 = I at_1 /\ t 5 = v5 /\ b2a h v5 1 (List.map eI l_5)) ?_ ?_
 ·exact ⟨(.v (.slice none 0 0)), s0, s1, (by first | (simp only [go_sem]; done) | rfl), c0o⟩
 ·rintro ⟨at_1, l_5⟩ o t h ⟨v5, s0, s1, s5, Q1l⟩ hm1 hb5
  simp only [b72] at hm1
  rw [g31]
  refine b0v ?_
  obtain ⟨x7, h_x7, hm1⟩ := b0g hm1
  have h_x70 := b05 h_x7
  have h_x71 := b06 h_x7
  refine b0b fun K hK => ?_
  simp only [go_sem, s0, s1, b08 h_x7]
  refine hK _ _ ?_
  clear hK K
  refine b0i fun K8 hK8 => ?_
  simp only [go_sem]
  refine b0k (fun hc9 => ?_) (fun hc9 => ?_)
  ·rw [b0r hc9] at hm1
   simp only [b0s, b0f]
   refine hK8 _ _ ?_
   refine b0i fun K10 hK10 => ?_
   simp only [b0u]
   obtain ⟨x13, h_x13, hm1⟩ := b0g hm1
   have h_x130 := b05 h_x13
   have h_x131 := b06 h_x13
   obtain ⟨l14, h_l14, hm1⟩ := b0g hm1
   refine b03 fun K hK => ?_
   simp only [go_sem, s0, s1, s5, b08 h_x13, b5r v5]
   refine b3a (f := eI) (l := l_5) (m := ([x13])) ?_ ?_ ?_ ?_ h_l14 ?_
   ·exact (b3x Q1l (by intro j hj hl; first | rfl | simp only [go_sem, hl]) (by first | omega | exact Nat.le_refl _ | (simp only [go_sem, nxs] <;> omega)))
   ·exact (b4t (by simp only [go_sem]) (by simp only [go_sem]))
   ·exact (b4r (by first | exact b1w | exact b1y (by first | omega | (simp only [nxs] <;> omega)) | assumption | exact b1v (by assumption) (by first | omega | (simp only [go_sem, nxs] <;> omega))))
   ·exact (fun _ => by simp)
   simp only [go_sem]
   refine hK _ _ ?_
   clear hK K
   simp only [b02, b0f]
   refine hK10 _ _ ?_
   refine b03 fun K hK => ?_
   simp only [go_sem, s0, s1, b08 h_x7]
   refine hK _ _ ?_
   clear hK K
   simp only [b0f]
   obtain rfl := sI9 hm1
   refine ⟨_, rfl, ?_⟩
   exact ⟨(.rs (nxs h.nx) 0 (List.length l14)), s0, (by first | (simp only [go_sem]; done) | rfl), (by first | (simp only [go_sem]; done) | rfl), (b2v (by simp only [go_sem, b8s Q1l]) (by first | rfl | simp only [go_sem]) (by simp only [go_sem]))⟩
  ·rw [b0q hc9] at hm1
   simp only [b09, b1b, b1a, b0f]
   obtain rfl := sI9 hm1
   obtain rfl := hb5 _ rfl
   try dsimp only at hm0
   exact J2 l_5 v5 _ _ s5 Q1l hm0
theorem c3c (hf : Has O "(newel/control.plant).explore" x__control_plant__explore) (d2w : c9y O) (d2x : c9z O) (d20 : c92 O) : c5e O := by
 intro m assume heard_n heard_a heard_b heard heard_z heard_h r hm0
 unfold b9h at hm0
 refine b1i hf rfl (b0a (fM _) (b0a (b0c fun a _ => b2j a) (b0a heard_z b0j))) (.fp _ _ (b0a (b0c fun a _ => b44 a) (b0a (b0c fun a _ => b1t a) (b0a (b0c fun a _ => b1t a) (b0a (b0c fun a _ => b8i a) b0j))))) ?_
 refine b1c (fun t h => t 0 = .agg (vM m.Plant.Machine) /\ t 1 = .fs 1 (List.map b0t assume) /\ t 2 = .fn heard_n heard_a heard_b) ⟨rfl, rfl, rfl⟩ fun t h ⟨s0, s1, s2⟩ => ?_
 simp only [x__control_plant__explore]
 refine b0b fun K hK => ?_
 simp only [go_sem, s0]
 refine hK _ _ ?_
 clear hK K
 refine b0b fun K hK => ?_
 simp only [go_sem]
 refine hK _ _ ?_
 clear hK K
 refine b0b fun K hK => ?_
 simp only [go_sem]
 refine g0d (O := O) (e := List.map (eM (vks b47) vI) ([] : List (Place × Int))) rfl ?_
 simp only [go_sem]
 refine d2i (O := O) (fk := (vks b47)) (fv := vI) (l := ([] : List (Place × Int))) (x := (Place.mk 0 (0, 0))) (v := 0) g1t d30 ?_ ?_ ?_
 ·rfl
 ·simp only [go_sem]
 simp only [go_sem]
 refine hK _ _ ?_
 clear hK K
 refine b0v ?_
 refine b0b fun K hK => ?_
 simp only [go_sem]
 refine hK _ _ ?_
 clear hK K
 refine b0i fun K1 hK1 => ?_
 have J2 : ∀ (w_7_0 : List Place) (w_7_1 : List Int) (w_7_2 : List Int) (w_7_3 : List (List Int)) (i7 : Nat) (i7_1 : Nat) (i7_2 : Nat) (i7_3 : Nat) (v7 : AV) (t : Slots) (h : Heap), t 7 = .rp i7 0 0 -> h.ob i7 = some (4, [[.rs i7_1 0 (List.length w_7_0), .rs i7_2 0 (List.length w_7_1), .rs i7_3 0 (List.length w_7_2), v7]]) -> i7 < h.nx -> h.ob i7_1 = some (3, List.map b1g w_7_0) -> i7_1 < h.nx -> h.ob i7_2 = some (1, List.map eI w_7_1) -> i7_2 < h.nx -> h.ob i7_3 = some (1, List.map eI w_7_2) -> i7_3 < h.nx -> b2a h v7 1 (List.map b2f w_7_3) -> ¬i7 = i7_1 -> ¬i7 = i7_2 -> ¬i7 = i7_3 -> b07 v7 i7 -> ¬i7_1 = i7_2 -> ¬i7_1 = i7_3 -> b07 v7 i7_1 -> ¬i7_2 = i7_3 -> b07 v7 i7_2 -> b07 v7 i7_3 -> c6a w_7_0 w_7_1 w_7_2 w_7_3 = some r -> K1 t h := by
  intro w_7_0 w_7_1 w_7_2 w_7_3 i7 i7_1 i7_2 i7_3 v7 t h s7 Q6 Q3 Qh Qc Qk Q9 Ql Q8 Qp Qe Qi Qm Qq Qr Qs Qu Qt Qv Qw hm0
  refine hK1 _ _ ?_
  unfold c6a at hm0
  refine b0b fun K hK => ?_
  simp only [go_sem, s7]
  refine hK _ _ ?_
  clear hK K
  simp only [b0x, b0y]
  obtain rfl := sI9 hm0
  exact b8e (v := .rp i7 0 0) (by simp only [go_sem]) (c66 (id := i7) (sz := 4) (xs := [.rs i7_1 0 (List.length w_7_0), .rs i7_2 0 (List.length w_7_1), .rs i7_3 0 (List.length w_7_2), v7]) (by simp only [go_sem, Q6]) (.cons (b29 (f := b1g) (l := w_7_0) (id := i7_1) (by simp only [go_sem, Qh]) (by first | rfl | simp only [go_sem, lA9, mA9]) b44 d32) (.cons (b29 (f := eI) (l := w_7_1) (id := i7_2) (by simp only [go_sem, Qk]) (by first | rfl | simp only [go_sem, lA9, mA9]) b1t b8p) (.cons (b29 (f := eI) (l := w_7_2) (id := i7_3) (by simp only [go_sem, Ql]) (by first | rfl | simp only [go_sem, lA9, mA9]) b1t b8p) (.cons (b98 (f := b2f) (l := w_7_3) (b3x Qp (by intro j hj hl; first | rfl | simp only [go_sem, hl, b4s hj Qq, b4s hj Qu, b4s hj Qv, b4s hj Qw]) (by first | omega | exact Nat.le_refl _ | (simp only [go_sem, nxs] <;> omega))) b8i j7n) (.nil))))))
 simp only [b0u]
 obtain ⟨b3, hl3, hm0⟩ := b0g hm0
 refine b1j hl3 (fun | (w_7_0, w_7_1, w_7_2, w_7_3, found_8, at_9), t, h => ∃ i7 : Nat, ∃ i7_1 : Nat, ∃ i7_2 : Nat, ∃ i7_3 : Nat, ∃ v7 : AV, ∃ i8 : Nat, t 1 = .fs 1 (List.map b0t assume) /\ t 2 = .fn heard_n heard_a heard_b /\ t 3 = .fp (vM m.Plant.Machine) 0 /\ t 7 = .rp i7 0 0 /\ t 8 = .mp i8 /\ t 9 = I at_9 /\ h.ob i7 = some (4, [[.rs i7_1 0 (List.length w_7_0), .rs i7_2 0 (List.length w_7_1), .rs i7_3 0 (List.length w_7_2), v7]]) /\ i7 < h.nx /\ h.ob i7_1 = some (3, List.map b1g w_7_0) /\ i7_1 < h.nx /\ h.ob i7_2 = some (1, List.map eI w_7_1) /\ i7_2 < h.nx /\ h.ob i7_3 = some (1, List.map eI w_7_2) /\ i7_3 < h.nx /\ b2a h v7 1 (List.map b2f w_7_3) /\ h.ob i8 = some (0, List.map (eM (vks b47) vI) found_8) /\ i8 < h.nx /\ ¬i7 = i7_1 /\ ¬i7 = i7_2 /\ ¬i7 = i7_3 /\ b07 v7 i7 /\ ¬i7 = i8 /\ ¬i7_1 = i7_2 /\ ¬i7_1 = i7_3 /\ b07 v7 i7_1 /\ ¬i7_1 = i8 /\ ¬i7_2 = i7_3 /\ b07 v7 i7_2 /\ ¬i7_2 = i8 /\ b07 v7 i7_3 /\ ¬i7_3 = i8 /\ b07 v7 i8) ?_ ?_
 ·exact ⟨(nxs (nxs (nxs h.nx))), h.nx, (nxs h.nx), (nxs (nxs h.nx)), (.v (.slice none 0 0)), (nxs (nxs (nxs (nxs h.nx)))), s1, s2, (by first | (simp only [go_sem]; done) | rfl), (by first | (simp only [go_sem]; done) | rfl), (by first | (simp only [go_sem]; done) | rfl), (by first | (simp only [go_sem]; done) | rfl), (by simp only [go_sem]), (by simp only [go_sem]), (by simp only [go_sem]), (by simp only [go_sem]), (by simp only [go_sem]), (by simp only [go_sem]), (by simp only [go_sem]), (by simp only [go_sem]), c0o, (by simp only [go_sem]), (by simp only [go_sem]), (by first | first | assumption | omega | (simp only [nxs] <;> omega)), (by first | first | assumption | omega | (simp only [nxs] <;> omega)), (by first | first | assumption | omega | (simp only [nxs] <;> omega)), (by first | exact b1w | exact b1y (by first | assumption | omega | (simp only [nxs] <;> omega)) | assumption | exact b1v (by assumption) (by first | assumption | omega | (simp only [nxs] <;> omega))), (by first | first | assumption | omega | (simp only [nxs] <;> omega)), (by first | first | assumption | omega | (simp only [nxs] <;> omega)), (by first | first | assumption | omega | (simp only [nxs] <;> omega)), (by first | exact b1w | exact b1y (by first | assumption | omega | (simp only [nxs] <;> omega)) | assumption | exact b1v (by assumption) (by first | assumption | omega | (simp only [nxs] <;> omega))), (by first | first | assumption | omega | (simp only [nxs] <;> omega)), (by first | first | assumption | omega | (simp only [nxs] <;> omega)), (by first | exact b1w | exact b1y (by first | assumption | omega | (simp only [nxs] <;> omega)) | assumption | exact b1v (by assumption) (by first | assumption | omega | (simp only [nxs] <;> omega))), (by first | first | assumption | omega | (simp only [nxs] <;> omega)), (by first | exact b1w | exact b1y (by first | assumption | omega | (simp only [nxs] <;> omega)) | assumption | exact b1v (by assumption) (by first | assumption | omega | (simp only [nxs] <;> omega))), (by first | first | assumption | omega | (simp only [nxs] <;> omega)), (by first | exact b1w | exact b1y (by first | assumption | omega | (simp only [nxs] <;> omega)) | assumption | exact b1v (by assumption) (by first | assumption | omega | (simp only [nxs] <;> omega)))⟩
 ·rintro ⟨w_7_0, w_7_1, w_7_2, w_7_3, found_8, at_9⟩ o t h ⟨i7, i7_1, i7_2, i7_3, v7, i8, s1, s2, s3, s7, s8, s9, Q6, Q3, Qh, Qc, Qk, Q9, Ql, Q8, Qp, Q4, Q2, Qe, Qi, Qm, Qq, Qd, Qr, Qs, Qu, Qx, Qt, Qv, Qy, Qw, Qz, Q10⟩ hm1 hb3
  simp only [b9i] at hm1
  rw [g33]
  refine b0v ?_
  refine b0b fun K hK => ?_
  simp only [go_sem, s7, s9, Q6]
  refine hK _ _ ?_
  clear hK K
  refine b0i fun K4 hK4 => ?_
  simp only [go_sem]
  refine b0k (fun hc5 => ?_) (fun hc5 => ?_)
  ·rw [b0r hc5] at hm1
   simp only [b0s, b0f]
   refine hK4 _ _ ?_
   refine b0i fun K6 hK6 => ?_
   have J7 : ∀ (w_7_0_1 : List Place) (w_7_1_1 : List Int) (w_7_2_1 : List Int) (w_7_3_1 : List (List Int)) (found_8_1 : List (Place × Int)) (i7_4 : Nat) (i7_5 : Nat) (i7_6 : Nat) (i7_7 : Nat) (t : Slots) (h : Heap), t 1 = .fs 1 (List.map b0t assume) -> t 2 = .fn heard_n heard_a heard_b -> t 3 = .fp (vM m.Plant.Machine) 0 -> t 7 = .rp i7 0 0 -> t 8 = .mp i8 -> t 9 = I at_9 -> h.ob i7 = some (4, [[.rs i7_4 0 (List.length w_7_0_1), .rs i7_5 0 (List.length w_7_1_1), .rs i7_6 0 (List.length w_7_2_1), .rs i7_7 0 (List.length w_7_3_1)]]) -> i7 < h.nx -> h.ob i7_4 = some (3, List.map b1g w_7_0_1) -> i7_4 < h.nx -> h.ob i7_5 = some (1, List.map eI w_7_1_1) -> i7_5 < h.nx -> h.ob i7_6 = some (1, List.map eI w_7_2_1) -> i7_6 < h.nx -> h.ob i7_7 = some (1, List.map b2f w_7_3_1) -> i7_7 < h.nx -> h.ob i8 = some (0, List.map (eM (vks b47) vI) found_8_1) -> i8 < h.nx -> ¬i7 = i7_4 -> ¬i7 = i7_5 -> ¬i7 = i7_6 -> ¬i7 = i7_7 -> ¬i7 = i8 -> ¬i7_4 = i7_5 -> ¬i7_4 = i7_6 -> ¬i7_4 = i7_7 -> ¬i7_4 = i8 -> ¬i7_5 = i7_6 -> ¬i7_5 = i7_7 -> ¬i7_5 = i8 -> ¬i7_6 = i7_7 -> ¬i7_6 = i8 -> ¬i7_7 = i8 -> c6b at_9 w_7_0_1 w_7_1_1 w_7_2_1 w_7_3_1 found_8_1 = some o -> K6 t h := by
    try clear s1 s2 s3 s7 s8 s9 Q6 Q3 Qh Qc Qk Q9 Ql Q8 Qp Q4 Q2 Qe Qi Qm Qq Qd Qr Qs Qu Qx Qt Qv Qy Qw Qz Q10
    intro w_7_0_1 w_7_1_1 w_7_2_1 w_7_3_1 found_8_1 i7_4 i7_5 i7_6 i7_7 t h s1 s2 s3 s7 s8 s9 Q6 Q3 Qh Qc Qk Q9 Ql Q8 Q1p Q1q Q4 Q2 Qe Qi Qm Q1u Qd Qr Qs Q1v Qx Qt Q1w Qy Q1x Qz Q1y hm1
    refine hK6 _ _ ?_
    unfold c6b at hm1
    refine b03 fun K hK => ?_
    simp only [go_sem, s9]
    refine hK _ _ ?_
    clear hK K
    simp only [b0f]
    obtain rfl := sI9 hm1
    refine ⟨_, rfl, ?_⟩
    exact ⟨i7, i7_4, i7_5, i7_6, (.rs i7_7 0 (List.length w_7_3_1)), i8, s1, s2, s3, s7, s8, (by first | (simp only [go_sem]; done) | rfl), Q6, Q3, Qh, Qc, Qk, Q9, Ql, Q8, (b2v (by simp only [go_sem, Q1p]) (by first | rfl | simp only [go_sem]) (by simp only [go_sem, Q1q])), Q4, Q2, Qe, Qi, Qm, (by first | exact b1w | exact b1y (by first | assumption | omega | (simp only [nxs] <;> omega)) | assumption | exact b1v (by assumption) (by first | assumption | omega | (simp only [nxs] <;> omega))), Qd, Qr, Qs, (by first | exact b1w | exact b1y (by first | assumption | omega | (simp only [nxs] <;> omega)) | assumption | exact b1v (by assumption) (by first | assumption | omega | (simp only [nxs] <;> omega))), Qx, Qt, (by first | exact b1w | exact b1y (by first | assumption | omega | (simp only [nxs] <;> omega)) | assumption | exact b1v (by assumption) (by first | assumption | omega | (simp only [nxs] <;> omega))), Qy, (by first | exact b1w | exact b1y (by first | assumption | omega | (simp only [nxs] <;> omega)) | assumption | exact b1v (by assumption) (by first | assumption | omega | (simp only [nxs] <;> omega))), Qz, (by first | exact b1w | exact b1y (by first | assumption | omega | (simp only [nxs] <;> omega)) | assumption | exact b1v (by assumption) (by first | assumption | omega | (simp only [nxs] <;> omega)))⟩
   simp only [b0u]
   obtain ⟨x9, h_x9, hm1⟩ := b0g hm1
   have h_x90 := b05 h_x9
   have h_x91 := b06 h_x9
   refine b0b fun K hK => ?_
   simp only [go_sem, s7, s9, Q6, Qh, b3n h_x9, h_x90, h_x91]
   refine hK _ _ ?_
   clear hK K
   obtain ⟨y12, h_y12, hm1⟩ := b0g hm1
   obtain ⟨l13, h_l13, hm1⟩ := b0g hm1
   refine b0b fun K hK => ?_
   simp only [go_sem, s3]
   refine b01 (d2w m.Plant _ h_y12) ?_
   simp only [go_sem]
   refine d2k (f := eI) (z := 0) rfl h_l13 ?_
   simp only [go_sem]
   refine hK _ _ ?_
   clear hK K
   refine b0v ?_
   refine b0b fun K hK => ?_
   simp only [go_sem]
   refine hK _ _ ?_
   clear hK K
   refine b0i fun K14 hK14 => ?_
   have J15 : ∀ (w_7_0_1 : List Place) (w_7_1_1 : List Int) (w_7_2_1 : List Int) (found_8_1 : List (Place × Int)) (row_11 : List Int) (i7_4 : Nat) (i7_5 : Nat) (i7_6 : Nat) (i11 : Nat) (t : Slots) (h : Heap), t 1 = .fs 1 (List.map b0t assume) -> t 2 = .fn heard_n heard_a heard_b -> t 3 = .fp (vM m.Plant.Machine) 0 -> t 7 = .rp i7 0 0 -> t 8 = .mp i8 -> t 9 = I at_9 -> t 11 = .rs i11 0 (List.length row_11) -> h.ob i7 = some (4, [[.rs i7_4 0 (List.length w_7_0_1), .rs i7_5 0 (List.length w_7_1_1), .rs i7_6 0 (List.length w_7_2_1), v7]]) -> i7 < h.nx -> h.ob i7_4 = some (3, List.map b1g w_7_0_1) -> i7_4 < h.nx -> h.ob i7_5 = some (1, List.map eI w_7_1_1) -> i7_5 < h.nx -> h.ob i7_6 = some (1, List.map eI w_7_2_1) -> i7_6 < h.nx -> b2a h v7 1 (List.map b2f w_7_3) -> h.ob i8 = some (0, List.map (eM (vks b47) vI) found_8_1) -> i8 < h.nx -> h.ob i11 = some (1, List.map eI row_11) -> i11 < h.nx -> ¬i7 = i7_4 -> ¬i7 = i7_5 -> ¬i7 = i7_6 -> b07 v7 i7 -> ¬i7 = i8 -> ¬i7 = i11 -> ¬i7_4 = i7_5 -> ¬i7_4 = i7_6 -> b07 v7 i7_4 -> ¬i7_4 = i8 -> ¬i7_4 = i11 -> ¬i7_5 = i7_6 -> b07 v7 i7_5 -> ¬i7_5 = i8 -> ¬i7_5 = i11 -> b07 v7 i7_6 -> ¬i7_6 = i8 -> ¬i7_6 = i11 -> b07 v7 i8 -> b07 v7 i11 -> ¬i8 = i11 -> c59 w_7_3 at_9 w_7_0_1 w_7_1_1 w_7_2_1 found_8_1 row_11 = some o -> K14 t h := by
    try clear s1 s2 s3 s7 s8 s9 Q6 Q3 Qh Qc Qk Q9 Ql Q8 Qp Q4 Q2 Qe Qi Qm Qq Qd Qr Qs Qu Qx Qt Qv Qy Qw Qz Q10
    intro w_7_0_1 w_7_1_1 w_7_2_1 found_8_1 row_11 i7_4 i7_5 i7_6 i11 t h s1 s2 s3 s7 s8 s9 s11 Q6 Q3 Qh Qc Qk Q9 Ql Q8 Qp Q4 Q2 Q1 Q0 Qe Qi Qm Qq Qd Qn Qr Qs Qu Qx Q13 Qt Qv Qy Q14 Qw Qz Q15 Q10 Q16 Q11 hm1
    refine hK14 _ _ ?_
    unfold c59 at hm1
    refine g9j (s := 11) (v := .rs i11 0 (List.length row_11)) (f := eI) (l := row_11) (by simp only [go_sem, s11]) (b2v (by simp only [go_sem, Q1]) (by simp only [go_sem]) (by simp only [go_sem, Q0])) b1t b8p ?_
    simp only [d75]
    obtain ⟨l17, h_l17, hm1⟩ := b0g hm1
    refine b03 fun K hK => ?_
    simp only [go_sem, s7, Q6, Qn]
    refine b3a (f := b2f) (l := w_7_3) (m := ([row_11])) ?_ ?_ ?_ ?_ h_l17 ?_
    ·exact (b3x Qp (by intro j hj hl; first | rfl | simp only [go_sem, hl, b4s hj Q16]) (by first | omega | exact Nat.le_refl _ | (simp only [go_sem, nxs] <;> omega)))
    ·exact (b4t (by simp only [go_sem]) (by simp only [go_sem]))
    ·exact (b4r (by first | exact b1w | exact b1y (by first | omega | (simp only [nxs] <;> omega)) | assumption | exact b1v (by assumption) (by first | omega | (simp only [go_sem, nxs] <;> omega))))
    ·exact (fun _ => by simp)
    simp only [go_sem, Q6, Q3, Qq, Qn]
    refine hK _ _ ?_
    clear hK K
    simp only [b02, b0f]
    exact J7 w_7_0_1 w_7_1_1 w_7_2_1 l17 found_8_1 i7_4 i7_5 i7_6 (nxs h.nx) _ _ s1 s2 s3 s7 s8 s9 (by simp only [go_sem]) (by simp only [go_sem, Q3]) (by simp only [go_sem, Qh, Qc, b1z Qe, Qu, Q13]) (by simp only [go_sem, Qc]) (by simp only [go_sem, Qk, Q9, b1z Qi, Qv, Q14]) (by simp only [go_sem, Q9]) (by simp only [go_sem, Ql, Q8, b1z Qm, Qw, Q15]) (by simp only [go_sem, Q8]) (by simp only [go_sem, Q3, b8s Qp]) (by simp only [go_sem]) (by simp only [go_sem, Q4, Q2, b1z Qd, Q10, Q11]) (by simp only [go_sem, Q2]) Qe Qi Qm (by first | first | assumption | omega | (simp only [nxs] <;> omega)) Qd Qr Qs (by first | first | assumption | omega | (simp only [nxs] <;> omega)) Qx Qt (by first | first | assumption | omega | (simp only [nxs] <;> omega)) Qy (by first | first | assumption | omega | (simp only [nxs] <;> omega)) Qz (by first | first | assumption | omega | (simp only [nxs] <;> omega)) hm1
   simp only [b0u]
   obtain ⟨b18, hl18, hm1⟩ := b0g hm1
   refine b1j hl18 (fun | (w_7_0_1, w_7_1_1, w_7_2_1, found_8_1, row_11, x_47), t, h => ∃ i7_4 : Nat, ∃ i7_5 : Nat, ∃ i7_6 : Nat, ∃ i10 : Nat, ∃ i11 : Nat, t 1 = .fs 1 (List.map b0t assume) /\ t 2 = .fn heard_n heard_a heard_b /\ t 3 = .fp (vM m.Plant.Machine) 0 /\ t 7 = .rp i7 0 0 /\ t 8 = .mp i8 /\ t 9 = I at_9 /\ t 10 = .rp i10 0 0 /\ t 11 = .rs i11 0 (List.length row_11) /\ t 46 = I ((List.length l13 : Nat) : Int) /\ t 47 = I x_47 /\ h.ob i7 = some (4, [[.rs i7_4 0 (List.length w_7_0_1), .rs i7_5 0 (List.length w_7_1_1), .rs i7_6 0 (List.length w_7_2_1), v7]]) /\ i7 < h.nx /\ h.ob i7_4 = some (3, List.map b1g w_7_0_1) /\ i7_4 < h.nx /\ h.ob i7_5 = some (1, List.map eI w_7_1_1) /\ i7_5 < h.nx /\ h.ob i7_6 = some (1, List.map eI w_7_2_1) /\ i7_6 < h.nx /\ b2a h v7 1 (List.map b2f w_7_3) /\ h.ob i8 = some (0, List.map (eM (vks b47) vI) found_8_1) /\ i8 < h.nx /\ h.ob i10 = some (3, [[I x9.State, I x9.Values.1, I x9.Values.2]]) /\ i10 < h.nx /\ h.ob i11 = some (1, List.map eI row_11) /\ i11 < h.nx /\ ¬i7 = i7_4 /\ ¬i7 = i7_5 /\ ¬i7 = i7_6 /\ b07 v7 i7 /\ ¬i7 = i8 /\ ¬i7 = i10 /\ ¬i7 = i11 /\ ¬i7_4 = i7_5 /\ ¬i7_4 = i7_6 /\ b07 v7 i7_4 /\ ¬i7_4 = i8 /\ ¬i7_4 = i10 /\ ¬i7_4 = i11 /\ ¬i7_5 = i7_6 /\ b07 v7 i7_5 /\ ¬i7_5 = i8 /\ ¬i7_5 = i10 /\ ¬i7_5 = i11 /\ b07 v7 i7_6 /\ ¬i7_6 = i8 /\ ¬i7_6 = i10 /\ ¬i7_6 = i11 /\ b07 v7 i8 /\ b07 v7 i10 /\ b07 v7 i11 /\ ¬i8 = i10 /\ ¬i8 = i11 /\ ¬i10 = i11) ?_ ?_
   ·exact ⟨i7_1, i7_2, i7_3, h.nx, (nxs h.nx), s1, s2, s3, s7, s8, s9, (by first | (simp only [go_sem]; done) | rfl), (by first | (simp only [go_sem]; done) | rfl), (by first | (simp only [go_sem]; done) | rfl), (by first | (simp only [go_sem]; done) | rfl), (by simp only [go_sem, Q6, Q3]), (by simp only [go_sem, Q3]), (by simp only [go_sem, Qh, Qc]), (by simp only [go_sem, Qc]), (by simp only [go_sem, Qk, Q9]), (by simp only [go_sem, Q9]), (by simp only [go_sem, Ql, Q8]), (by simp only [go_sem, Q8]), (b3x Qp (by intro j hj hl; first | rfl | simp only [go_sem, hl]) (by first | omega | exact Nat.le_refl _ | (simp only [go_sem, nxs] <;> omega))), (by simp only [go_sem, Q4, Q2]), (by simp only [go_sem, Q2]), (by simp only [go_sem]), (by simp only [go_sem]), (by simp only [go_sem]), (by simp only [go_sem]), Qe, Qi, Qm, Qq, Qd, (by first | first | assumption | omega | (simp only [nxs] <;> omega)), (by first | first | assumption | omega | (simp only [nxs] <;> omega)), Qr, Qs, Qu, Qx, (by first | first | assumption | omega | (simp only [nxs] <;> omega)), (by first | first | assumption | omega | (simp only [nxs] <;> omega)), Qt, Qv, Qy, (by first | first | assumption | omega | (simp only [nxs] <;> omega)), (by first | first | assumption | omega | (simp only [nxs] <;> omega)), Qw, Qz, (by first | first | assumption | omega | (simp only [nxs] <;> omega)), (by first | first | assumption | omega | (simp only [nxs] <;> omega)), Q10, (by first | exact b1w | exact b1y (by first | assumption | omega | (simp only [nxs] <;> omega)) | assumption | exact b1v (by assumption) (by first | assumption | omega | (simp only [nxs] <;> omega))), (by first | exact b1w | exact b1y (by first | assumption | omega | (simp only [nxs] <;> omega)) | assumption | exact b1v (by assumption) (by first | assumption | omega | (simp only [nxs] <;> omega))), (by first | first | assumption | omega | (simp only [nxs] <;> omega)), (by first | first | assumption | omega | (simp only [nxs] <;> omega)), (by first | first | assumption | omega | (simp only [nxs] <;> omega))⟩
   ·try clear s1 s2 s3 s7 s8 s9 Q6 Q3 Qh Qc Qk Q9 Ql Q8 Qp Q4 Q2 Qe Qi Qm Qq Qd Qr Qs Qu Qx Qt Qv Qy Qw Qz Q10
    rintro ⟨w_7_0_1, w_7_1_1, w_7_2_1, found_8_1, row_11, x_47⟩ o t h ⟨i7_4, i7_5, i7_6, i10, i11, s1, s2, s3, s7, s8, s9, s10, s11, s46, s47, Q6, Q3, Qh, Qc, Qk, Q9, Ql, Q8, Qp, Q4, Q2, Q1a, Q1b, Q1, Q0, Qe, Qi, Qm, Qq, Qd, Q1e, Qn, Qr, Qs, Qu, Qx, Q1h, Q13, Qt, Qv, Qy, Q1i, Q14, Qw, Qz, Q1j, Q15, Q10, Q1k, Q16, Q1f, Q11, Q17⟩ hm2 hb18
    simp only [c1u] at hm2
    rw [g32]
    refine b0b fun K hK => ?_
    simp only [go_sem, s46, s47]
    refine hK _ _ ?_
    clear hK K
    refine b0i fun K19 hK19 => ?_
    simp only [go_sem]
    refine b0k (fun hc20 => ?_) (fun hc20 => ?_)
    ·rw [b0r hc20] at hm2
     simp only [b0s, b0f]
     refine hK19 _ _ ?_
     refine b0i fun K21 hK21 => ?_
     have J22 : ∀ (w_7_0_2 : List Place) (w_7_1_2 : List Int) (w_7_2_2 : List Int) (found_8_2 : List (Place × Int)) (row_11_1 : List Int) (i7_7 : Nat) (i7_8 : Nat) (i7_9 : Nat) (t : Slots) (h : Heap), t 1 = .fs 1 (List.map b0t assume) -> t 2 = .fn heard_n heard_a heard_b -> t 3 = .fp (vM m.Plant.Machine) 0 -> t 7 = .rp i7 0 0 -> t 8 = .mp i8 -> t 9 = I at_9 -> t 10 = .rp i10 0 0 -> t 11 = .rs i11 0 (List.length row_11_1) -> t 46 = I ((List.length l13 : Nat) : Int) -> t 47 = I x_47 -> h.ob i7 = some (4, [[.rs i7_7 0 (List.length w_7_0_2), .rs i7_8 0 (List.length w_7_1_2), .rs i7_9 0 (List.length w_7_2_2), v7]]) -> i7 < h.nx -> h.ob i7_7 = some (3, List.map b1g w_7_0_2) -> i7_7 < h.nx -> h.ob i7_8 = some (1, List.map eI w_7_1_2) -> i7_8 < h.nx -> h.ob i7_9 = some (1, List.map eI w_7_2_2) -> i7_9 < h.nx -> b2a h v7 1 (List.map b2f w_7_3) -> h.ob i8 = some (0, List.map (eM (vks b47) vI) found_8_2) -> i8 < h.nx -> h.ob i10 = some (3, [[I x9.State, I x9.Values.1, I x9.Values.2]]) -> i10 < h.nx -> h.ob i11 = some (1, List.map eI row_11_1) -> i11 < h.nx -> ¬i7 = i7_7 -> ¬i7 = i7_8 -> ¬i7 = i7_9 -> b07 v7 i7 -> ¬i7 = i8 -> ¬i7 = i10 -> ¬i7 = i11 -> ¬i7_7 = i7_8 -> ¬i7_7 = i7_9 -> b07 v7 i7_7 -> ¬i7_7 = i8 -> ¬i7_7 = i10 -> ¬i7_7 = i11 -> ¬i7_8 = i7_9 -> b07 v7 i7_8 -> ¬i7_8 = i8 -> ¬i7_8 = i10 -> ¬i7_8 = i11 -> b07 v7 i7_9 -> ¬i7_9 = i8 -> ¬i7_9 = i10 -> ¬i7_9 = i11 -> b07 v7 i8 -> b07 v7 i10 -> b07 v7 i11 -> ¬i8 = i10 -> ¬i8 = i11 -> ¬i10 = i11 -> c1v x_47 w_7_0_2 w_7_1_2 w_7_2_2 found_8_2 row_11_1 = some o -> K21 t h := by
      try clear s1 s2 s3 s7 s8 s9 s10 s11 s46 s47 Q6 Q3 Qh Qc Qk Q9 Ql Q8 Qp Q4 Q2 Q1a Q1b Q1 Q0 Qe Qi Qm Qq Qd Q1e Qn Qr Qs Qu Qx Q1h Q13 Qt Qv Qy Q1i Q14 Qw Qz Q1j Q15 Q10 Q1k Q16 Q1f Q11 Q17
      intro w_7_0_2 w_7_1_2 w_7_2_2 found_8_2 row_11_1 i7_7 i7_8 i7_9 t h s1 s2 s3 s7 s8 s9 s10 s11 s46 s47 Q6 Q3 Qh Qc Qk Q9 Ql Q8 Qp Q4 Q2 Q1a Q1b Q1 Q0 Qe Qi Qm Qq Qd Q1e Qn Qr Qs Qu Qx Q1h Q13 Qt Qv Qy Q1i Q14 Qw Qz Q1j Q15 Q10 Q1k Q16 Q1f Q11 Q17 hm2
      refine hK21 _ _ ?_
      unfold c1v at hm2
      refine b03 fun K hK => ?_
      simp only [go_sem, s47]
      refine hK _ _ ?_
      clear hK K
      simp only [b0f]
      obtain rfl := sI9 hm2
      refine ⟨_, rfl, ?_⟩
      exact ⟨i7_7, i7_8, i7_9, i10, i11, s1, s2, s3, s7, s8, s9, s10, (by first | exact s11 | simp only [go_sem, s11, lA9, mA9]), s46, (by first | (simp only [go_sem]; done) | rfl), Q6, Q3, Qh, Qc, Qk, Q9, Ql, Q8, Qp, Q4, Q2, Q1a, Q1b, Q1, Q0, Qe, Qi, Qm, Qq, Qd, Q1e, Qn, Qr, Qs, Qu, Qx, Q1h, Q13, Qt, Qv, Qy, Q1i, Q14, Qw, Qz, Q1j, Q15, Q10, Q1k, Q16, Q1f, Q11, Q17⟩
     simp only [b0u]
     refine b0b fun K hK => ?_
     simp only [go_sem, s47]
     refine hK _ _ ?_
     clear hK K
     obtain ⟨x24, h_x24, hm2⟩ := b0g hm2
     have h_x240 := b05 h_x24
     have h_x241 := b06 h_x24
     refine b0b fun K hK => ?_
     simp only [go_sem, s11, Q1, b3n h_x24, h_x240, h_x241]
     refine hK _ _ ?_
     clear hK K
     refine b0v ?_
     obtain ⟨y26, h_y26, hm2⟩ := b0g hm2
     refine b0b fun K hK => ?_
     simp only [go_sem, s1, s3, s10, Q1a, Q17]
     refine b01 (d2x m.Plant assume (Place.mk x9.State (x9.Values.1, x9.Values.2)) x_47 _ h_y26) ?_
     simp only [go_sem]
     refine hK _ _ ?_
     clear hK K
     refine b0i fun K27 hK27 => ?_
     simp only [go_sem]
     refine b0k (fun hc28 => ?_) (fun hc28 => ?_)
     ·rw [b0r hc28] at hm2
      simp only [b09, b1b, b1a, b0f]
      exact J22 w_7_0_1 w_7_1_1 w_7_2_1 found_8_1 (List.set row_11 (Int.toNat x_47) (-1)) i7_4 i7_5 i7_6 _ _ s1 s2 s3 s7 s8 s9 s10 (by first | exact s11 | simp only [go_sem, s11]) s46 s47 (by simp only [go_sem, Q6, Qn]) (by simp only [go_sem, Q3]) (by simp only [go_sem, Qh, Q13]) (by simp only [go_sem, Qc]) (by simp only [go_sem, Qk, Q14]) (by simp only [go_sem, Q9]) (by simp only [go_sem, Ql, Q15]) (by simp only [go_sem, Q8]) (b3x Qp (by intro j hj hl; first | rfl | simp only [go_sem, b4s hj Q16]) (by first | omega | exact Nat.le_refl _ | (simp only [go_sem, nxs] <;> omega))) (by simp only [go_sem, Q4, Q11]) (by simp only [go_sem, Q2]) (by simp only [go_sem, Q1a, Q17]) (by simp only [go_sem, Q1b]) (by simp only [go_sem]) (by simp only [go_sem, Q0]) Qe Qi Qm Qq Qd Q1e Qn Qr Qs Qu Qx Q1h Q13 Qt Qv Qy Q1i Q14 Qw Qz Q1j Q15 Q10 Q1k Q16 Q1f Q11 Q17 hm2
     ·rw [b0q hc28] at hm2
      simp only [b0s, b0f]
      refine hK27 _ _ ?_
      obtain ⟨y31, h_y31, hm2⟩ := b0g hm2
      obtain ⟨y32, h_y32, hm2⟩ := b0g hm2
      refine b0b fun K hK => ?_
      simp only [go_sem, s2, s3, s10, Q1a, Q17]
      refine o5t (heard_h x_47 _ h_y31) ?_
      simp only [go_sem]
      refine b01 (d20 m.Plant (Place.mk x9.State (x9.Values.1, x9.Values.2)) y31 _ h_y32) ?_
      simp only [go_sem]
      refine hK _ _ ?_
      clear hK K
      refine b0b fun K hK => ?_
      simp only [go_sem, s8]
      refine j5x (O := O) (fk := (vks b47)) (fv := vI) (l := found_8_1) (x := (Place.mk y32.State (y32.Values.1, y32.Values.2))) (z := 0) j8c d30 ?_ ?_ ?_
      ·rfl
      ·simp only [go_sem, Q4, Q2, Q11]
      simp only [go_sem]
      refine hK _ _ ?_
      clear hK K
      refine b0v ?_
      refine b0b fun K hK => ?_
      simp only [go_sem]
      refine hK _ _ ?_
      clear hK K
      refine b0i fun K33 hK33 => ?_
      have J34 : ∀ (w_7_0_2 : List Place) (w_7_1_2 : List Int) (w_7_2_2 : List Int) (found_8_2 : List (Place × Int)) (to_14 : Int) (i7_7 : Nat) (i7_8 : Nat) (i7_9 : Nat) (t : Slots) (h : Heap), t 1 = .fs 1 (List.map b0t assume) -> t 2 = .fn heard_n heard_a heard_b -> t 3 = .fp (vM m.Plant.Machine) 0 -> t 7 = .rp i7 0 0 -> t 8 = .mp i8 -> t 9 = I at_9 -> t 10 = .rp i10 0 0 -> t 11 = .rs i11 0 (List.length (List.set row_11 (Int.toNat x_47) (-1))) -> t 12 = I x_47 -> t 14 = I to_14 -> t 46 = I ((List.length l13 : Nat) : Int) -> t 47 = I x_47 -> h.ob i7 = some (4, [[.rs i7_7 0 (List.length w_7_0_2), .rs i7_8 0 (List.length w_7_1_2), .rs i7_9 0 (List.length w_7_2_2), v7]]) -> i7 < h.nx -> h.ob i7_7 = some (3, List.map b1g w_7_0_2) -> i7_7 < h.nx -> h.ob i7_8 = some (1, List.map eI w_7_1_2) -> i7_8 < h.nx -> h.ob i7_9 = some (1, List.map eI w_7_2_2) -> i7_9 < h.nx -> b2a h v7 1 (List.map b2f w_7_3) -> h.ob i8 = some (0, List.map (eM (vks b47) vI) found_8_2) -> i8 < h.nx -> h.ob i10 = some (3, [[I x9.State, I x9.Values.1, I x9.Values.2]]) -> i10 < h.nx -> h.ob i11 = some (1, List.map eI (List.set row_11 (Int.toNat x_47) (-1))) -> i11 < h.nx -> ¬i7 = i7_7 -> ¬i7 = i7_8 -> ¬i7 = i7_9 -> b07 v7 i7 -> ¬i7 = i8 -> ¬i7 = i10 -> ¬i7 = i11 -> ¬i7_7 = i7_8 -> ¬i7_7 = i7_9 -> b07 v7 i7_7 -> ¬i7_7 = i8 -> ¬i7_7 = i10 -> ¬i7_7 = i11 -> ¬i7_8 = i7_9 -> b07 v7 i7_8 -> ¬i7_8 = i8 -> ¬i7_8 = i10 -> ¬i7_8 = i11 -> b07 v7 i7_9 -> ¬i7_9 = i8 -> ¬i7_9 = i10 -> ¬i7_9 = i11 -> b07 v7 i8 -> b07 v7 i10 -> b07 v7 i11 -> ¬i8 = i10 -> ¬i8 = i11 -> ¬i10 = i11 -> c1w row_11 x_47 w_7_0_2 w_7_1_2 w_7_2_2 found_8_2 to_14 = some o -> K33 t h := by
       try clear s1 s2 s3 s7 s8 s9 s10 s11 s46 s47 Q6 Q3 Qh Qc Qk Q9 Ql Q8 Qp Q4 Q2 Q1a Q1b Q1 Q0 Qe Qi Qm Qq Qd Q1e Qn Qr Qs Qu Qx Q1h Q13 Qt Qv Qy Q1i Q14 Qw Qz Q1j Q15 Q10 Q1k Q16 Q1f Q11 Q17
       intro w_7_0_2 w_7_1_2 w_7_2_2 found_8_2 to_14 i7_7 i7_8 i7_9 t h s1 s2 s3 s7 s8 s9 s10 s11 s12 s14 s46 s47 Q6 Q3 Qh Qc Qk Q9 Ql Q8 Qp Q4 Q2 Q1a Q1b Q1 Q0 Qe Qi Qm Qq Qd Q1e Qn Qr Qs Qu Qx Q1h Q13 Qt Qv Qy Q1i Q14 Qw Qz Q1j Q15 Q10 Q1k Q16 Q1f Q11 Q17 hm2
       refine hK33 _ _ ?_
       unfold c1w at hm2
       obtain ⟨x36, h_x36, hm2⟩ := b0g hm2
       have h_x360 := b05 h_x36
       have h_x361 := b06 h_x36; (try simp only [List.length_set] at h_x361)
       refine b03 fun K hK => ?_
       simp only [go_sem, s11, s12, s14, Q1, b3n h_x36, h_x360, h_x361]
       refine hK _ _ ?_
       clear hK K
       simp only [b02, b0f]
       exact J22 w_7_0_2 w_7_1_2 w_7_2_2 found_8_2 (List.set (List.set row_11 (Int.toNat x_47) (-1)) (Int.toNat x_47) to_14) i7_7 i7_8 i7_9 _ _ s1 s2 s3 s7 s8 s9 s10 (by first | exact s11 | simp only [go_sem, s11]) s46 s47 (by simp only [go_sem, Q6, Qn]) (by simp only [go_sem, Q3]) (by simp only [go_sem, Qh, Q13]) (by simp only [go_sem, Qc]) (by simp only [go_sem, Qk, Q14]) (by simp only [go_sem, Q9]) (by simp only [go_sem, Ql, Q15]) (by simp only [go_sem, Q8]) (b3x Qp (by intro j hj hl; first | rfl | simp only [go_sem, b4s hj Q16]) (by first | omega | exact Nat.le_refl _ | (simp only [go_sem, nxs] <;> omega))) (by simp only [go_sem, Q4, Q11]) (by simp only [go_sem, Q2]) (by simp only [go_sem, Q1a, Q17]) (by simp only [go_sem, Q1b]) (by simp only [go_sem]) (by simp only [go_sem, Q0]) Qe Qi Qm Qq Qd Q1e Qn Qr Qs Qu Qx Q1h Q13 Qt Qv Qy Q1i Q14 Qw Qz Q1j Q15 Q10 Q1k Q16 Q1f Q11 Q17 hm2
      simp only [go_sem]
      refine b0k (fun hc37 => ?_) (fun hc37 => ?_)
      ·rw [b0r hc37] at hm2
       refine b0b fun K hK => ?_
       simp only [go_sem, s7, Q6, Q3, Qn]
       refine hK _ _ ?_
       clear hK K
       refine b0b fun K hK => ?_
       simp only [go_sem, s8]
       refine d2i (O := O) (fk := (vks b47)) (fv := vI) (l := found_8_1) (x := (Place.mk y32.State (y32.Values.1, y32.Values.2))) (v := ((List.length w_7_0_1 : Nat) : Int)) g1t d30 ?_ ?_ ?_
       ·rfl
       ·simp only [go_sem, Q4, Q2, Q11]
       simp only [go_sem]
       refine hK _ _ ?_
       clear hK K
       obtain ⟨l41, h_l41, hm2⟩ := b0g hm2
       obtain ⟨l42, h_l42, hm2⟩ := b0g hm2
       obtain ⟨l43, h_l43, hm2⟩ := b0g hm2
       refine b03 fun K hK => ?_
       simp only [go_sem, s7, Q6, Q3, Q2, Qd, Qn]
       refine b3a (f := b1g) (l := w_7_0_1) (m := ([(Place.mk y32.State (y32.Values.1, y32.Values.2))])) ?_ ?_ ?_ ?_ h_l41 ?_
       ·exact (b2v (by simp only [go_sem, Qh, Qc, Qx, Q13]) (by simp only [go_sem]) (by simp only [go_sem, Qc]))
       ·exact (b4t (by simp only [go_sem]) (by simp only [go_sem]))
       ·exact (b4r (by first | exact b1w | exact b1y (by first | omega | (simp only [nxs] <;> omega)) | assumption | exact b1v (by assumption) (by first | omega | (simp only [go_sem, nxs] <;> omega))))
       ·exact (fun _ => by simp)
       simp only [go_sem, s7, s9, Q6, Q3, Qe, Qd, Qn]
       refine b3a (f := eI) (l := w_7_1_1) (m := ([at_9])) ?_ ?_ ?_ ?_ h_l42 ?_
       ·exact (b2v (by simp only [go_sem, Qk, Q9, b1z Qr, Qy, Q14]) (by simp only [go_sem]) (by simp only [go_sem, Q9]))
       ·exact (b4t (by simp only [go_sem]) (by simp only [go_sem]))
       ·exact (b4r (by first | exact b1w | exact b1y (by first | omega | (simp only [nxs] <;> omega)) | assumption | exact b1v (by assumption) (by first | omega | (simp only [go_sem, nxs] <;> omega))))
       ·exact (fun _ => by simp)
       simp only [go_sem, s7, Q6, Q3, Qe, Qi, Qd, Qn]
       refine b3a (f := eI) (l := w_7_2_1) (m := ([x_47])) ?_ ?_ ?_ ?_ h_l43 ?_
       ·exact (b2v (by simp only [go_sem, Ql, Q8, b1z Qs, b1z Qt, Qz, Q15]) (by simp only [go_sem]) (by simp only [go_sem, Q8]))
       ·exact (b4t (by simp only [go_sem]) (by simp only [go_sem]))
       ·exact (b4r (by first | exact b1w | exact b1y (by first | omega | (simp only [nxs] <;> omega)) | assumption | exact b1v (by assumption) (by first | omega | (simp only [go_sem, nxs] <;> omega))))
       ·exact (fun _ => by simp)
       simp only [go_sem, Q6, Q3, Qe, Qi, Qm, Qd, Qn]
       refine hK _ _ ?_
       clear hK K
       simp only [b0f]
       exact J34 l41 l42 l43 (b3w found_8_1 (Place.mk y32.State (y32.Values.1, y32.Values.2)) ((List.length w_7_0_1 : Nat) : Int)) ((List.length w_7_0_1 : Nat) : Int) (nxs (nxs h.nx)) (nxs (nxs (nxs (nxs h.nx)))) (nxs (nxs (nxs (nxs (nxs (nxs h.nx)))))) _ _ s1 s2 s3 s7 s8 s9 s10 (by first | exact s11 | simp only [go_sem, s11]) (by first | (simp only [go_sem]; done) | rfl) (by first | (simp only [go_sem]; done) | rfl) s46 s47 (by simp only [go_sem]) (by simp only [go_sem, Q3]) (by simp only [go_sem, Q3, Q9, Q8]) (by simp only [go_sem]) (by simp only [go_sem, Q3, Q8]) (by simp only [go_sem]) (by simp only [go_sem, Q3]) (by simp only [go_sem]) (b3x Qp (by intro j hj hl; first | rfl | simp only [go_sem, hl, b4s hj Qq, b4s hj Qu, b4s hj Qv, b4s hj Qw, b4s hj Q10, b4s hj Q16]) (by first | omega | exact Nat.le_refl _ | (simp only [go_sem, nxs] <;> omega))) (by simp only [go_sem, Q2, b1z Qd, b1z Qx, b1z Qy, b1z Qz]) (by simp only [go_sem, Q2]) (by simp only [go_sem, Q1a, Q1b, b1z Q1e, b1z Q1h, b1z Q1i, b1z Q1j, b1z Q1f, Q17]) (by simp only [go_sem, Q1b]) (by simp only [go_sem, Q0, b1z Qn, b1z Q13, b1z Q14, b1z Q15, b1z Q11]) (by simp only [go_sem, Q0]) (by first | first | assumption | omega | (simp only [nxs] <;> omega)) (by first | first | assumption | omega | (simp only [nxs] <;> omega)) (by first | first | assumption | omega | (simp only [nxs] <;> omega)) Qq Qd Q1e Qn (by first | first | assumption | omega | (simp only [nxs] <;> omega)) (by first | first | assumption | omega | (simp only [nxs] <;> omega)) (by first | exact b1w | exact b1y (by first | assumption | omega | (simp only [nxs] <;> omega)) | assumption | exact b1v (by assumption) (by first | assumption | omega | (simp only [nxs] <;> omega))) (by first | first | assumption | omega | (simp only [nxs] <;> omega)) (by first | first | assumption | omega | (simp only [nxs] <;> omega)) (by first | first | assumption | omega | (simp only [nxs] <;> omega)) (by first | first | assumption | omega | (simp only [nxs] <;> omega)) (by first | exact b1w | exact b1y (by first | assumption | omega | (simp only [nxs] <;> omega)) | assumption | exact b1v (by assumption) (by first | assumption | omega | (simp only [nxs] <;> omega))) (by first | first | assumption | omega | (simp only [nxs] <;> omega)) (by first | first | assumption | omega | (simp only [nxs] <;> omega)) (by first | first | assumption | omega | (simp only [nxs] <;> omega)) (by first | exact b1w | exact b1y (by first | assumption | omega | (simp only [nxs] <;> omega)) | assumption | exact b1v (by assumption) (by first | assumption | omega | (simp only [nxs] <;> omega))) (by first | first | assumption | omega | (simp only [nxs] <;> omega)) (by first | first | assumption | omega | (simp only [nxs] <;> omega)) (by first | first | assumption | omega | (simp only [nxs] <;> omega)) Q10 Q1k Q16 Q1f Q11 Q17 hm2
      ·rw [b0q hc37] at hm2
       simp only [b0s, b0f]
       exact J34 w_7_0_1 w_7_1_1 w_7_2_1 found_8_1 (b2w found_8_1 (Place.mk y32.State (y32.Values.1, y32.Values.2)) 0) i7_4 i7_5 i7_6 _ _ s1 s2 s3 s7 s8 s9 s10 (by first | exact s11 | simp only [go_sem, s11]) (by first | (simp only [go_sem]; done) | rfl) (by first | (simp only [go_sem]; done) | rfl) s46 s47 (by simp only [go_sem, Q6, Q3, Qn]) (by simp only [go_sem, Q3]) (by simp only [go_sem, Qh, Qc, Q13]) (by simp only [go_sem, Qc]) (by simp only [go_sem, Qk, Q9, Q14]) (by simp only [go_sem, Q9]) (by simp only [go_sem, Ql, Q8, Q15]) (by simp only [go_sem, Q8]) (b3x Qp (by intro j hj hl; first | rfl | simp only [go_sem, hl, b4s hj Q16]) (by first | omega | exact Nat.le_refl _ | (simp only [go_sem, nxs] <;> omega))) (by simp only [go_sem, Q4, Q2, Q11]) (by simp only [go_sem, Q2]) (by simp only [go_sem, Q1a, Q1b, Q17]) (by simp only [go_sem, Q1b]) (by simp only [go_sem, Q0]) (by simp only [go_sem, Q0]) Qe Qi Qm Qq Qd Q1e Qn Qr Qs Qu Qx Q1h Q13 Qt Qv Qy Q1i Q14 Qw Qz Q1j Q15 Q10 Q1k Q16 Q1f Q11 Q17 hm2
    ·rw [b0q hc20] at hm2
     simp only [b09, b1b, b1a, b0f]
     obtain rfl := sI9 hm2
     obtain rfl := hb18 _ rfl
     try dsimp only at hm1
     exact J15 w_7_0_1 w_7_1_1 w_7_2_1 found_8_1 row_11 i7_4 i7_5 i7_6 i11 _ _ s1 s2 s3 s7 s8 s9 (by first | exact s11 | simp only [go_sem, s11, lA9, mA9]) Q6 Q3 Qh Qc Qk Q9 Ql Q8 Qp Q4 Q2 Q1 Q0 Qe Qi Qm Qq Qd Qn Qr Qs Qu Qx Q13 Qt Qv Qy Q14 Qw Qz Q15 Q10 Q16 Q11 hm1
  ·rw [b0q hc5] at hm1
   simp only [b09, b1b, b1a, b0f]
   obtain rfl := sI9 hm1
   obtain rfl := hb3 _ rfl
   try dsimp only at hm0
   exact J2 w_7_0 w_7_1 w_7_2 w_7_3 i7 i7_1 i7_2 i7_3 v7 _ _ s7 Q6 Q3 Qh Qc Qk Q9 Ql Q8 Qp Qe Qi Qm Qq Qr Qs Qu Qt Qv Qw hm0
theorem d2w (hf : Has O "(newel/situation.Plant).All" x__situation_Plant__All) : c9y O := by
 intro m r hm0
 unfold c1y at hm0
 refine b1i hf rfl (b0a (fM _) b0j) (b0e _) ?_
 refine b1c (fun t h => t 0 = .agg (vM m.Machine)) rfl fun t h s0 => ?_
 simp only [x__situation_Plant__All]
 refine b0b fun K hK => ?_
 simp only [go_sem, s0]
 refine hK _ _ ?_
 clear hK K
 obtain ⟨q2, h_q2, hm0⟩ := b0g hm0
 refine b0b fun K hK => ?_
 simp only [go_sem, c21 h_q2]
 refine hK _ _ ?_
 clear hK K
 simp only [b0x, b0y]
 obtain rfl := sI9 hm0
 exact b04 (by simp only [go_sem]) (b0e _)
theorem d2x (hf : Has O "(newel/situation.Plant).Allowed" x__situation_Plant__Allowed) (b52 : b89 O) : c9z O := by
 intro m assume p input r hm0
 unfold c1z at hm0
 refine b1i hf rfl (b0a (fM _) (b0a (b0c fun a _ => b2j a) (b0a (.agg _ (b0a (b0e _) (b0a (b0e _) (b0a (b0e _) b0j)))) (b0a (b0e _) b0j)))) (b0e _) ?_
 refine b1c (fun t h => t 0 = .agg (vM m.Machine) /\ t 1 = .fs 1 (List.map b0t assume) /\ t 2 = .agg [I p.State, I p.Values.1, I p.Values.2] /\ t 3 = I input) ⟨rfl, rfl, rfl, rfl⟩ fun t h ⟨s0, s1, s2, s3⟩ => ?_
 simp only [x__situation_Plant__Allowed]
 refine b0b fun K hK => ?_
 simp only [go_sem, s0, s2]
 refine hK _ _ ?_
 clear hK K
 obtain ⟨c4, h_c4, hm0⟩ := b0g hm0
 refine b2p (fun t h => t 8 = B c4) (fun K hK => ?_) ?_
 ·simp only [go_sem, s1]
  refine b0k (fun hg5 => ?_) (fun hg5 => ?_)
  ·simp only [hg5, eq_self, if_true] at h_c4
   obtain rfl := sI9 h_c4
   simp only [go_sem, hg5]
   exact hK _ _ (by first | (simp only [go_sem]; done) | rfl)
  ·simp only [hg5, if_false, fT9] at h_c4
   obtain ⟨y3, h_y3, h_c4⟩ := b0g h_c4
   obtain rfl := sI9 h_c4
   simp only [go_sem, s1, s3, hg5]
   refine b01 (b52 m assume p input _ h_y3) ?_
   simp only [go_sem, hg5]
   exact hK _ _ (by first | (simp only [go_sem]; done) | rfl)
 ·rintro t h s8
  simp only [b0x, b0y]
  obtain rfl := sI9 hm0
  exact b04 (by simp only [go_sem, s8]) (b0e _)
theorem b52 (hf : Has O "(newel/situation.Plant).Holds" x__situation_Plant__Holds) (d3t : d0w O) (d2y : c90 O) : b89 O := by
 intro m c p input r hm0
 unfold b6v at hm0
 refine b1i hf rfl (b0a (fM _) (b0a (b0c fun a _ => b2j a) (b0a (.agg _ (b0a (b0e _) (b0a (b0e _) (b0a (b0e _) b0j)))) (b0a (b0e _) b0j)))) (b0e _) ?_
 refine b1c (fun t h => t 0 = .agg (vM m.Machine) /\ t 1 = .fs 1 (List.map b0t c) /\ t 2 = .agg [I p.State, I p.Values.1, I p.Values.2] /\ t 3 = I input) ⟨rfl, rfl, rfl, rfl⟩ fun t h ⟨s0, s1, s2, s3⟩ => ?_
 simp only [x__situation_Plant__Holds]
 refine b0b fun K hK => ?_
 simp only [go_sem, s0, s2, s3]
 refine hK _ _ ?_
 clear hK K
 obtain ⟨y4, h_y4, hm0⟩ := b0g hm0
 refine b0b fun K hK => ?_
 simp only [go_sem, s1]
 refine b01 (d3t c "(newel/situation.Plant).Holds$1" [] [.fp (vM m.Machine) 0, .fp [I p.State, I p.Values.1, I p.Values.2] 0, .fp [I input] 0] (fun z3 => b74 z3 m p input) (.fn _ _ _ b0j (b0a (.fp _ _ (b0a (b0c fun a _ => b0z a) (b0a (b0c fun a _ => b0z a) (b0a (b0c fun a _ => b1q a) (b0a (b0c fun a _ => b1s a) (b0a (b0c fun a _ => b1r a) b0j)))))) (b0a (.fp _ _ (b0a (b0e _) (b0a (b0e _) (b0a (b0e _) b0j)))) (b0a (.fp _ _ (b0a (b0e _) b0j)) b0j)))) (fun z0 y hz => d2y z0 m p input y hz) _ h_y4) ?_
 simp only [go_sem]
 refine hK _ _ ?_
 clear hK K
 simp only [b0x, b0y]
 obtain rfl := sI9 hm0
 exact b04 (by simp only [go_sem]) (b0e _)
theorem d2y (hf : Has O "(newel/situation.Plant).Holds$1" x__situation_Plant__HoldsD1) (b8n : c1o O) (d2z : c91 O) : c90 O := by
 intro t_ c0 c1 c2 r hm0
 unfold b74 at hm0
 refine b1i hf rfl (b0a (b0c fun a _ => c2w a) (b0a (.fp _ _ (b0a (b0c fun a _ => b0z a) (b0a (b0c fun a _ => b0z a) (b0a (b0c fun a _ => b1q a) (b0a (b0c fun a _ => b1s a) (b0a (b0c fun a _ => b1r a) b0j)))))) (b0a (.fp _ _ (b0a (b0e _) (b0a (b0e _) (b0a (b0e _) b0j)))) (b0a (.fp _ _ (b0a (b0e _) b0j)) b0j)))) (b0e _) ?_
 refine b1c (fun t h => t 0 = .fs 4 (List.map b3k t_) /\ t 1 = .fp (vM c0.Machine) 0 /\ t 2 = .fp [I c1.State, I c1.Values.1, I c1.Values.2] 0 /\ t 3 = .fp [I c2] 0) ⟨rfl, rfl, rfl, rfl⟩ fun t h ⟨s0, s1, s2, s3⟩ => ?_
 simp only [x__situation_Plant__HoldsD1]
 refine b0b fun K hK => ?_
 simp only [go_sem]
 refine hK _ _ ?_
 clear hK K
 obtain ⟨y4, h_y4, hm0⟩ := b0g hm0
 refine b0b fun K hK => ?_
 simp only [go_sem, s0, s1, s2, s3]
 refine b01 (b8n t_ "(newel/situation.Plant).Holds$1$1" [] [.fp (vM c0.Machine) 0, .fp [I c1.State, I c1.Values.1, I c1.Values.2] 0, .fp [I c2] 0] (fun z3 => b76 z3 c0 c1 c2) (.fn _ _ _ b0j (b0a (.fp _ _ (b0a (b0c fun a _ => b0z a) (b0a (b0c fun a _ => b0z a) (b0a (b0c fun a _ => b1q a) (b0a (b0c fun a _ => b1s a) (b0a (b0c fun a _ => b1r a) b0j)))))) (b0a (.fp _ _ (b0a (b0e _) (b0a (b0e _) (b0a (b0e _) b0j)))) (b0a (.fp _ _ (b0a (b0e _) b0j)) b0j)))) (fun z0 y hz => d2z z0 c0 c1 c2 y hz) _ h_y4) ?_
 simp only [go_sem, s1, s2, s3]
 refine hK _ _ ?_
 clear hK K
 simp only [b0x, b0y]
 obtain rfl := sI9 hm0
 exact b04 (by simp only [go_sem]) (b0e _)
theorem d2z (hf : Has O "(newel/situation.Plant).Holds$1$1" x__situation_Plant__HoldsD1D1) (d21 : c93 O) : c91 O := by
 intro x c0 c1 c2 r hm0
 unfold b76 at hm0
 refine b1i hf rfl (b0a (.agg _ (b0a (b0e _) (b0a (b0e _) (b0a (b0e _) (b0a (b0e _) b0j))))) (b0a (.fp _ _ (b0a (b0c fun a _ => b0z a) (b0a (b0c fun a _ => b0z a) (b0a (b0c fun a _ => b1q a) (b0a (b0c fun a _ => b1s a) (b0a (b0c fun a _ => b1r a) b0j)))))) (b0a (.fp _ _ (b0a (b0e _) (b0a (b0e _) (b0a (b0e _) b0j)))) (b0a (.fp _ _ (b0a (b0e _) b0j)) b0j)))) (b0e _) ?_
 refine b1c (fun t h => t 0 = .agg [I x.Kind, I x.Number, I x.Value, B x.Not] /\ t 1 = .fp (vM c0.Machine) 0 /\ t 2 = .fp [I c1.State, I c1.Values.1, I c1.Values.2] 0 /\ t 3 = .fp [I c2] 0) ⟨rfl, rfl, rfl, rfl⟩ fun t h ⟨s0, s1, s2, s3⟩ => ?_
 simp only [x__situation_Plant__HoldsD1D1]
 refine b0b fun K hK => ?_
 simp only [go_sem, s0]
 refine hK _ _ ?_
 clear hK K
 obtain ⟨y2, h_y2, hm0⟩ := b0g hm0
 refine b0b fun K hK => ?_
 simp only [go_sem, s1, s2, s3]
 refine b01 (d21 c0 x c1 c2 _ h_y2) ?_
 simp only [go_sem]
 refine hK _ _ ?_
 clear hK K
 simp only [b0x, b0y]
 obtain rfl := sI9 hm0
 exact b04 (by simp only [go_sem]) (b0e _)
theorem p2y (hf : Has O "(newel/situation.Plant).Input" x__situation_Plant__Input) (d2w : c9y O) (b4q : c5u O) : p2o O := by
 intro m n r hm0
 unfold p2c at hm0
 refine b1i hf rfl (b0a (fM _) (b0a (b0e _) b0j)) (b0e _) ?_
 refine b1c (fun t h => t 0 = .agg (vM m.Machine) /\ t 1 = I n) ⟨rfl, rfl⟩ fun t h ⟨s0, s1⟩ => ?_
 simp only [x__situation_Plant__Input]
 refine b0b fun K hK => ?_
 simp only [go_sem, s0]
 refine hK _ _ ?_
 clear hK K
 obtain ⟨y2, h_y2, hm0⟩ := b0g hm0
 refine b0b fun K hK => ?_
 simp only [go_sem, s1]
 refine b01 (d2w m _ h_y2) ?_
 simp only [go_sem]
 refine b01 (b4q n 0 (wr (y2 - 1))) ?_
 simp only [go_sem]
 refine hK _ _ ?_
 clear hK K
 simp only [b0x, b0y]
 obtain rfl := sI9 hm0
 exact b04 (by simp only [go_sem]) (b0e _)
theorem o8g (hf : Has O "(newel/situation.Plant).Place" x__situation_Plant__Place) (b4q : c5u O) : o8b O := by
 intro m p r hm0
 unfold o7s at hm0
 refine b1i hf rfl (b0a (fM _) (b0a (.agg _ (b0a (b0e _) (b0a (b0e _) (b0a (b0e _) b0j)))) b0j)) (b0e _) ?_
 refine b1c (fun t h => t 0 = .agg (vM m.Machine) /\ t 1 = .agg [I p.State, I p.Values.1, I p.Values.2]) ⟨rfl, rfl⟩ fun t h ⟨s0, s1⟩ => ?_
 simp only [x__situation_Plant__Place]
 refine b0b fun K hK => ?_
 simp only [go_sem, s0, s1]
 refine hK _ _ ?_
 clear hK K
 refine b0v ?_
 refine b0b fun K hK => ?_
 simp only [go_sem]
 refine hK _ _ ?_
 clear hK K
 refine b0i fun K1 hK1 => ?_
 have J2 : ∀ (t : Slots) (h : Heap), t 2 = .fp (vM m.Machine) 0 -> t 3 = .fp [I p.State, I p.Values.1, I p.Values.2] 0 -> o73 m p = some r -> K1 t h := by
  intro t h s2 s3 hm0
  refine hK1 _ _ ?_
  unfold o73 at hm0
  refine b0b fun K hK => ?_
  simp only [go_sem, s2, s3]
  refine b01 (b4q p.State 0 (wr ((List.length m.Machine.States : Int) - 1))) ?_
  simp only [go_sem]
  refine hK _ _ ?_
  clear hK K
  simp only [b0x, b0y]
  obtain rfl := sI9 hm0
  exact b04 (by simp only [go_sem]) (b0e _)
 simp only [b0u]
 obtain ⟨b3, hl3, hm0⟩ := b0g hm0
 refine b1j hl3 (fun | x_10, t, h => t 2 = .fp (vM m.Machine) 0 /\ t 3 = .fp [I p.State, I p.Values.1, I p.Values.2] 0 /\ t 9 = .agg [I p.Values.1, I p.Values.2] /\ t 10 = I x_10) ?_ ?_
 ·exact ⟨(by first | (simp only [go_sem]; done) | rfl), (by first | (simp only [go_sem]; done) | rfl), (by first | (simp only [go_sem]; done) | rfl), (by first | (simp only [go_sem]; done) | rfl)⟩
 ·rintro x_10 o t h ⟨s2, s3, s9, s10⟩ hm1 hb3
  simp only [o7t] at hm1
  rw [o8u]
  refine b0b fun K hK => ?_
  simp only [go_sem, s10]
  refine hK _ _ ?_
  clear hK K
  refine b0i fun K4 hK4 => ?_
  simp only [go_sem]
  refine b0k (fun hc5 => ?_) (fun hc5 => ?_)
  ·rw [b0r hc5] at hm1
   simp only [b0s, b0f]
   refine hK4 _ _ ?_
   refine b0i fun K6 hK6 => ?_
   simp only [b0u]
   obtain ⟨x8, h_x8, hm1⟩ := b0g hm1
   have ha_x8 : ∀ v : Int, List.take (Int.toNat (x_10)) [I p.Values.1, I p.Values.2] ++ [I v] ++ List.drop (Int.toNat (x_10)) [I p.Values.2] = [I (b1n (x_10) 0 v p.Values.1), I (b1n (x_10) 1 v p.Values.2)] := fun v => (o9p (cs := [I p.Values.1, I p.Values.2]) (v := v) h_x8 rfl).trans (by rw [c1d h_x8]; rfl)
   have hb_x8 : Int.toNat (x_10) + 1 <= 2 := Nat.le_trans (c0a h_x8) (by simp)
   refine b0b fun K hK => ?_
   simp only [go_sem, s9, s10, o9i (n := 2) (l := [p.Values.1, p.Values.2]) (cs := [I p.Values.1, I p.Values.2]) h_x8 rfl rfl]
   refine hK _ _ ?_
   clear hK K
   refine b0b fun K hK => ?_
   simp only [go_sem]
   refine hK _ _ ?_
   clear hK K
   refine b0v ?_
   refine b0b fun K hK => ?_
   simp only [go_sem, s2]
   refine hK _ _ ?_
   clear hK K
   refine b0i fun K9 hK9 => ?_
   have J10 : ∀ (most_7 : Int) (t : Slots) (h : Heap), t 2 = .fp (vM m.Machine) 0 -> t 3 = .fp [I p.State, I p.Values.1, I p.Values.2] 0 -> t 6 = I x8 -> t 7 = I most_7 -> t 9 = .agg [I p.Values.1, I p.Values.2] -> t 10 = I x_10 -> o7u x_10 x8 most_7 = some o -> K9 t h := by
    intro most_7 t h s2 s3 s6 s7 s9 s10 hm1
    refine hK9 _ _ ?_
    unfold o7u at hm1
    refine b0b fun K hK => ?_
    simp only [go_sem, s6, s7]
    refine b01 (b4q x8 0 most_7) ?_
    simp only [go_sem]
    refine hK _ _ ?_
    clear hK K
    simp only [go_sem]
    refine b0k (fun hc11 => ?_) (fun hc11 => ?_)
    ·rw [b0r hc11] at hm1
     refine b0b fun K hK => ?_
     simp only [go_sem]
     refine hK _ _ ?_
     clear hK K
     simp only [b0x, b1p, b2e, b0y]
     obtain rfl := sI9 hm1
     obtain rfl := hb3 _ rfl
     try dsimp only at hm0
     obtain rfl := sI9 hm0
     exact b04 (by simp only [go_sem]) (b0e _)
    ·rw [b0q hc11] at hm1
     simp only [b0s, b02, b0f]
     refine hK6 _ _ ?_
     refine b03 fun K hK => ?_
     simp only [go_sem, s10]
     refine hK _ _ ?_
     clear hK K
     simp only [b0f]
     obtain rfl := sI9 hm1
     refine ⟨_, rfl, ?_⟩
     exact ⟨s2, s3, s9, (by first | (simp only [go_sem]; done) | rfl)⟩
   simp only [go_sem]
   refine b0k (fun hc12 => ?_) (fun hc12 => ?_)
   ·rw [b0r hc12] at hm1
    obtain ⟨x14, h_x14, hm1⟩ := b0g hm1
    have h_x140 := b05 h_x14
    have h_x141 := b06 h_x14
    refine b03 fun K hK => ?_
    simp only [go_sem, s2, b08 h_x14, h_x141]
    refine hK _ _ ?_
    clear hK K
    simp only [b0f]
    exact J10 x14.Max _ _ s2 s3 (by first | (simp only [go_sem]; done) | rfl) (by first | (simp only [go_sem]; done) | rfl) s9 s10 hm1
   ·rw [b0q hc12] at hm1
    simp only [b0s, b0f]
    exact J10 0 _ _ s2 s3 (by first | (simp only [go_sem]; done) | rfl) (by first | (simp only [go_sem]; done) | rfl) s9 s10 hm1
  ·rw [b0q hc5] at hm1
   simp only [b09, b1b, b1a, b0f]
   obtain rfl := sI9 hm1
   obtain rfl := hb3 _ rfl
   try dsimp only at hm0
   exact J2  _ _ s2 s3 hm0
theorem d20 (hf : Has O "(newel/situation.Plant).Step" x__situation_Plant__Step) (b52 : b89 O) (d22 : c94 O) : c92 O := by
 intro m p input r hm0
 unfold l56 at hm0
 refine b1i hf rfl (b0a (fM _) (b0a (.agg _ (b0a (b0e _) (b0a (b0e _) (b0a (b0e _) b0j)))) (b0a (b0e _) b0j))) (.agg _ (b0a (b0e _) (b0a (b0e _) (b0a (b0e _) b0j)))) ?_
 refine b1c (fun t h => t 0 = .agg (vM m.Machine) /\ t 1 = .agg [I p.State, I p.Values.1, I p.Values.2] /\ t 2 = I input) ⟨rfl, rfl, rfl⟩ fun t h ⟨s0, s1, s2⟩ => ?_
 simp only [x__situation_Plant__Step]
 refine b0b fun K hK => ?_
 simp only [go_sem, s0, s1]
 refine hK _ _ ?_
 clear hK K
 refine b0v ?_
 refine b0b fun K hK => ?_
 simp only [go_sem]
 refine hK _ _ ?_
 clear hK K
 refine b0i fun K1 hK1 => ?_
 have J2 : ∀ (p_4_0 : Int) (p_4_1 : Int) (p_4_2 : Int) (i4 : Nat) (i6 : Nat) (t : Slots) (h : Heap), t 4 = .rp i4 0 0 -> t 6 = .rp i6 0 0 -> h.ob i4 = some (3, [[I p_4_0, I p_4_1, I p_4_2]]) -> i4 < h.nx -> h.ob i6 = some (3, [[I 0, I 0, I 0]]) -> i6 < h.nx -> ¬i4 = i6 -> c6h p_4_0 p_4_1 p_4_2 = some r -> K1 t h := by
  intro p_4_0 p_4_1 p_4_2 i4 i6 t h s4 s6 Qa Q5 Qb Q7 Qf hm0
  refine hK1 _ _ ?_
  unfold c6h at hm0
  refine b0b fun K hK => ?_
  simp only [go_sem, s4, s6, Qa, Qb]
  refine hK _ _ ?_
  clear hK K
  simp only [b0x, b0y]
  obtain rfl := sI9 hm0
  exact b90 (id := i6) (m := 3) (cs := [I p_4_0, I p_4_1, I p_4_2]) (by simp only [go_sem, s6]) (by simp only [go_sem]) rfl (.refl _ (.agg _ (b0a (b0e _) (b0a (b0e _) (b0a (b0e _) b0j)))))
 simp only [b0u]
 obtain ⟨b3, hl3, hm0⟩ := b0g hm0
 refine b1j hl3 (fun | x_15, t, h => ∃ i4 : Nat, ∃ i6 : Nat, t 2 = I input /\ t 3 = .fp (vM m.Machine) 0 /\ t 4 = .rp i4 0 0 /\ t 6 = .rp i6 0 0 /\ t 13 = .fs 4 (List.map b0m m.Machine.Rules) /\ t 14 = I (List.length m.Machine.Rules : Int) /\ t 15 = I x_15 /\ h.ob i4 = some (3, [[I p.State, I p.Values.1, I p.Values.2]]) /\ i4 < h.nx /\ h.ob i6 = some (3, [[I 0, I 0, I 0]]) /\ i6 < h.nx /\ ¬i4 = i6) ?_ ?_
 ·exact ⟨h.nx, (nxs h.nx), s2, (by first | (simp only [go_sem]; done) | rfl), (by first | (simp only [go_sem]; done) | rfl), (by first | (simp only [go_sem]; done) | rfl), (by first | (simp only [go_sem]; done) | rfl), (by first | (simp only [go_sem]; done) | rfl), (by first | (simp only [go_sem]; done) | rfl), (by simp only [go_sem]), (by simp only [go_sem]), (by simp only [go_sem]), (by simp only [go_sem]), (by first | first | assumption | omega | (simp only [nxs] <;> omega))⟩
 ·rintro x_15 o t h ⟨i4, i6, s2, s3, s4, s6, s13, s14, s15, Qa, Q5, Qb, Q7, Qf⟩ hm1 hb3
  simp only [c6f] at hm1
  rw [g37]
  refine b0b fun K hK => ?_
  simp only [go_sem, s14, s15]
  refine hK _ _ ?_
  clear hK K
  refine b0i fun K4 hK4 => ?_
  simp only [go_sem]
  refine b0k (fun hc5 => ?_) (fun hc5 => ?_)
  ·rw [b0r hc5] at hm1
   simp only [b0s, b0f]
   refine hK4 _ _ ?_
   refine b0i fun K6 hK6 => ?_
   have J7 : ∀ (t : Slots) (h : Heap), t 2 = I input -> t 3 = .fp (vM m.Machine) 0 -> t 4 = .rp i4 0 0 -> t 6 = .rp i6 0 0 -> t 13 = .fs 4 (List.map b0m m.Machine.Rules) -> t 14 = I (List.length m.Machine.Rules : Int) -> t 15 = I x_15 -> h.ob i4 = some (3, [[I p.State, I p.Values.1, I p.Values.2]]) -> i4 < h.nx -> h.ob i6 = some (3, [[I 0, I 0, I 0]]) -> i6 < h.nx -> ¬i4 = i6 -> c6i x_15 = some o -> K6 t h := by
    try clear s2 s3 s4 s6 s13 s14 s15 Qa Q5 Qb Q7 Qf
    intro t h s2 s3 s4 s6 s13 s14 s15 Qa Q5 Qb Q7 Qf hm1
    refine hK6 _ _ ?_
    unfold c6i at hm1
    refine b03 fun K hK => ?_
    simp only [go_sem, s15]
    refine hK _ _ ?_
    clear hK K
    simp only [b0f]
    obtain rfl := sI9 hm1
    refine ⟨_, rfl, ?_⟩
    exact ⟨i4, i6, s2, s3, s4, s6, s13, s14, (by first | (simp only [go_sem]; done) | rfl), Qa, Q5, Qb, Q7, Qf⟩
   simp only [b0u]
   obtain ⟨x9, h_x9, hm1⟩ := b0g hm1
   have h_x90 := b05 h_x9
   have h_x91 := b06 h_x9
   refine b0b fun K hK => ?_
   simp only [go_sem, s13, s15, b08 h_x9, h_x91]
   refine hK _ _ ?_
   clear hK K
   refine b0v ?_
   obtain ⟨c13, h_c13, hm1⟩ := b0g hm1
   refine b2p (fun t h => ∃ i8 : Nat, t 2 = I input /\ t 3 = .fp (vM m.Machine) 0 /\ t 4 = .rp i4 0 0 /\ t 6 = .rp i6 0 0 /\ t 8 = .rp i8 0 0 /\ t 13 = .fs 4 (List.map b0m m.Machine.Rules) /\ t 14 = I (List.length m.Machine.Rules : Int) /\ t 15 = I x_15 /\ t 37 = B c13 /\ h.ob i4 = some (3, [[I p.State, I p.Values.1, I p.Values.2]]) /\ i4 < h.nx /\ h.ob i6 = some (3, [[I 0, I 0, I 0]]) /\ i6 < h.nx /\ h.ob i8 = some (4, [[I x9.From, I x9.To, .fs 1 (List.map b0t x9.When), .fs 2 (List.map b2o x9.Sets)]]) /\ i8 < h.nx /\ ¬i4 = i6 /\ ¬i4 = i8 /\ ¬i6 = i8) (fun K hK => ?_) ?_
   ·simp only [go_sem]
    refine b0k (fun hg14 => ?_) (fun hg14 => ?_)
    ·simp only [go_sem, s4, Qa, Q5, hg14]
     refine b0k (fun hg15 => ?_) (fun hg15 => ?_)
     ·simp only [hg14, hg15, eq_self, if_true, Bool.and_true] at h_c13
      obtain rfl := sI9 h_c13
      simp only [go_sem, hg14, hg15]
      exact hK _ _ ⟨h.nx, s2, s3, s4, s6, (by first | (simp only [go_sem]; done) | rfl), s13, s14, s15, (by first | (simp only [go_sem]; done) | rfl), (by simp only [go_sem, Qa, Q5]), (by simp only [go_sem, Q5]), (by simp only [go_sem, Qb, Q7]), (by simp only [go_sem, Q7]), (by simp only [go_sem]), (by simp only [go_sem]), Qf, (by first | first | assumption | omega | (simp only [nxs] <;> omega)), (by first | first | assumption | omega | (simp only [nxs] <;> omega))⟩
     ·simp only [hg14, hg15, if_false, Bool.and_false, fT9] at h_c13
      obtain ⟨y12, h_y12, h_c13⟩ := b0g h_c13
      obtain rfl := sI9 h_c13
      simp only [go_sem, s2, s3, s4, Qa, Q5, hg14, hg15]
      refine b01 (b52 m x9.When (Place.mk p.State (p.Values.1, p.Values.2)) input _ h_y12) ?_
      simp only [go_sem, hg14, hg15]
      exact hK _ _ ⟨h.nx, s2, s3, s4, s6, (by first | (simp only [go_sem]; done) | rfl), s13, s14, s15, (by first | (simp only [go_sem]; done) | rfl), (by simp only [go_sem, Qa, Q5]), (by simp only [go_sem, Q5]), (by simp only [go_sem, Qb, Q7]), (by simp only [go_sem, Q7]), (by simp only [go_sem]), (by simp only [go_sem]), Qf, (by first | first | assumption | omega | (simp only [nxs] <;> omega)), (by first | first | assumption | omega | (simp only [nxs] <;> omega))⟩
    ·simp only [hg14, if_false, Bool.false_and, fT9] at h_c13
     obtain ⟨y12, h_y12, h_c13⟩ := b0g h_c13
     obtain rfl := sI9 h_c13
     simp only [go_sem, s2, s3, s4, Qa, Q5, hg14]
     refine b01 (b52 m x9.When (Place.mk p.State (p.Values.1, p.Values.2)) input _ h_y12) ?_
     simp only [go_sem, hg14]
     exact hK _ _ ⟨h.nx, s2, s3, s4, s6, (by first | (simp only [go_sem]; done) | rfl), s13, s14, s15, (by first | (simp only [go_sem]; done) | rfl), (by simp only [go_sem, Qa, Q5]), (by simp only [go_sem, Q5]), (by simp only [go_sem, Qb, Q7]), (by simp only [go_sem, Q7]), (by simp only [go_sem]), (by simp only [go_sem]), Qf, (by first | first | assumption | omega | (simp only [nxs] <;> omega)), (by first | first | assumption | omega | (simp only [nxs] <;> omega))⟩
   ·try clear s2 s3 s4 s6 s13 s14 s15 Qa Q5 Qb Q7 Qf
    rintro t h ⟨i8, s2, s3, s4, s6, s8, s13, s14, s15, s37, Qa, Q5, Qb, Q7, Q4, Q2, Qf, Q1c, Q1g⟩
    refine b0i fun K16 hK16 => ?_
    simp only [go_sem, s37]
    refine b0k (fun hc17 => ?_) (fun hc17 => ?_)
    ·rw [b0r hc17] at hm1
     simp only [b09, b1b, b1a, b0f]
     exact J7  _ _ s2 s3 s4 s6 s13 s14 s15 Qa Q5 Qb Q7 Qf hm1
    ·rw [b0q hc17] at hm1
     simp only [b0s, b0f]
     refine hK16 _ _ ?_
     refine b0v ?_
     refine b0b fun K hK => ?_
     simp only [go_sem, s8, Q4]
     refine hK _ _ ?_
     clear hK K
     refine b0i fun K18 hK18 => ?_
     have J19 : ∀ (p_4_0 : Int) (p_4_1 : Int) (p_4_2 : Int) (t : Slots) (h : Heap), t 4 = .rp i4 0 0 -> t 6 = .rp i6 0 0 -> t 8 = .rp i8 0 0 -> h.ob i4 = some (3, [[I p_4_0, I p_4_1, I p_4_2]]) -> i4 < h.nx -> h.ob i6 = some (3, [[I 0, I 0, I 0]]) -> i6 < h.nx -> h.ob i8 = some (4, [[I x9.From, I x9.To, .fs 1 (List.map b0t x9.When), .fs 2 (List.map b2o x9.Sets)]]) -> i8 < h.nx -> ¬i4 = i6 -> ¬i4 = i8 -> ¬i6 = i8 -> c6g x9 p_4_0 p_4_1 p_4_2 = some o -> K18 t h := by
      try clear s2 s3 s4 s6 s8 s13 s14 s15 s37 Qa Q5 Qb Q7 Q4 Q2 Qf Q1c Q1g
      intro p_4_0 p_4_1 p_4_2 t h s4 s6 s8 Qa Q5 Qb Q7 Q4 Q2 Qf Q1c Q1g hm1
      refine hK18 _ _ ?_
      unfold c6g at hm1
      refine b0b fun K hK => ?_
      simp only [go_sem, s4, s8, Qa, Q4]
      refine hK _ _ ?_
      clear hK K
      simp only [b09, b1b, b1a, c0s, b0f, Nat.reduceEqDiff, nF9]
      obtain rfl := sI9 hm1
      obtain rfl := hb3 _ rfl
      try dsimp only at hm0
      exact J2 x9.To p_4_1 p_4_2 i4 i6 _ _ s4 s6 (by simp only [go_sem]) (by simp only [go_sem, Q5]) (by simp only [go_sem, Qb, b1z Qf]) (by simp only [go_sem, Q7]) Qf hm0
     simp only [b0u]
     obtain ⟨b20, hl20, hm1⟩ := b0g hm1
     refine b1j hl20 (fun | (p_4_0, p_4_1, p_4_2, x_41), t, h => t 3 = .fp (vM m.Machine) 0 /\ t 4 = .rp i4 0 0 /\ t 6 = .rp i6 0 0 /\ t 8 = .rp i8 0 0 /\ t 39 = .fs 2 (List.map b2o x9.Sets) /\ t 40 = I (List.length x9.Sets : Int) /\ t 41 = I x_41 /\ h.ob i4 = some (3, [[I p_4_0, I p_4_1, I p_4_2]]) /\ i4 < h.nx /\ h.ob i6 = some (3, [[I 0, I 0, I 0]]) /\ i6 < h.nx /\ h.ob i8 = some (4, [[I x9.From, I x9.To, .fs 1 (List.map b0t x9.When), .fs 2 (List.map b2o x9.Sets)]]) /\ i8 < h.nx /\ ¬i4 = i6 /\ ¬i4 = i8 /\ ¬i6 = i8) ?_ ?_
     ·exact ⟨s3, s4, s6, s8, (by first | (simp only [go_sem]; done) | rfl), (by first | (simp only [go_sem]; done) | rfl), (by first | (simp only [go_sem]; done) | rfl), Qa, Q5, Qb, Q7, Q4, Q2, Qf, Q1c, Q1g⟩
     ·try clear s2 s3 s4 s6 s8 s13 s14 s15 s37 Qa Q5 Qb Q7 Q4 Q2 Qf Q1c Q1g
      rintro ⟨p_4_0, p_4_1, p_4_2, x_41⟩ o t h ⟨s3, s4, s6, s8, s39, s40, s41, Qa, Q5, Qb, Q7, Q4, Q2, Qf, Q1c, Q1g⟩ hm2 hb20
      simp only [c11] at hm2
      rw [g36]
      refine b0b fun K hK => ?_
      simp only [go_sem, s40, s41]
      refine hK _ _ ?_
      clear hK K
      refine b0i fun K21 hK21 => ?_
      simp only [go_sem]
      refine b0k (fun hc22 => ?_) (fun hc22 => ?_)
      ·rw [b0r hc22] at hm2
       simp only [b0s, b0f]
       refine hK21 _ _ ?_
       refine b0i fun K23 hK23 => ?_
       simp only [b0u]
       obtain ⟨x25, h_x25, hm2⟩ := b0g hm2
       have h_x250 := b05 h_x25
       have h_x251 := b06 h_x25
       refine b0b fun K hK => ?_
       simp only [go_sem, s39, s41, b08 h_x25, h_x251]
       refine hK _ _ ?_
       clear hK K
       obtain ⟨y27, h_y27, hm2⟩ := b0g hm2
       refine b9y (fun t h => t 3 = .fp (vM m.Machine) 0 /\ t 4 = .rp i4 0 0 /\ t 6 = .rp i6 0 0 /\ t 8 = .rp i8 0 0 /\ t 39 = .fs 2 (List.map b2o x9.Sets) /\ t 40 = I (List.length x9.Sets : Int) /\ t 41 = I x_41 /\ h.ob i4 = some (3, [[I y27.State, I y27.Values.1, I y27.Values.2]]) /\ i4 < h.nx /\ h.ob i6 = some (3, [[I 0, I 0, I 0]]) /\ i6 < h.nx /\ h.ob i8 = some (4, [[I x9.From, I x9.To, .fs 1 (List.map b0t x9.When), .fs 2 (List.map b2o x9.Sets)]]) /\ i8 < h.nx /\ ¬i4 = i6 /\ ¬i4 = i8 /\ ¬i6 = i8) (fun K hK => ?_) ?_
       ·simp only [go_sem, s3, s4]
        refine d9m (d22 m x25 (Place.mk p_4_0 (p_4_1, p_4_2)) i4 _ (by simp only [go_sem, Qa, Q5]) (by first | omega | simp only [go_sem, Q5]) _ h_y27) ?_
        rintro _ hq_y27 ⟨rfl, ob_y27, fr_y27, fx_y27⟩
        have lw_y270 : i4 < hq_y27.nx := Nat.lt_of_lt_of_le (by first | omega | simp only [go_sem, Q5]) fx_y27
        have lw_y271 : i6 < hq_y27.nx := Nat.lt_of_lt_of_le (by first | omega | simp only [go_sem, Q7]) fx_y27
        have lw_y272 : i8 < hq_y27.nx := Nat.lt_of_lt_of_le (by first | omega | simp only [go_sem, Q2]) fx_y27
        have lw_y273 : h.nx < hq_y27.nx := Nat.lt_of_lt_of_le (by first | omega | simp only [go_sem]) fx_y27
        simp only [go_sem]
        exact hK _ _ ⟨s3, s4, s6, s8, s39, s40, s41, (by simp only [go_sem, ob_y27]), (by first | omega | simp only [go_sem, Q5]), (by simp only [go_sem, Qb, Q7, b1z Qf, fr_y27]), (by first | omega | simp only [go_sem, Q7]), (by simp only [go_sem, Q4, Q2, b1z Q1c, fr_y27]), (by first | omega | simp only [go_sem, Q2]), Qf, Q1c, Q1g⟩
       ·try clear s3 s4 s6 s8 s39 s40 s41 Qa Q5 Qb Q7 Q4 Q2 Qf Q1c Q1g
        rintro t h ⟨s3, s4, s6, s8, s39, s40, s41, Qa, Q5, Qb, Q7, Q4, Q2, Qf, Q1c, Q1g⟩
        simp only [b02, b0f]
        refine hK23 _ _ ?_
        refine b03 fun K hK => ?_
        simp only [go_sem, s41]
        refine hK _ _ ?_
        clear hK K
        simp only [b0f]
        obtain rfl := sI9 hm2
        refine ⟨_, rfl, ?_⟩
        exact ⟨s3, s4, s6, s8, s39, s40, (by first | (simp only [go_sem]; done) | rfl), Qa, Q5, Qb, Q7, Q4, Q2, Qf, Q1c, Q1g⟩
      ·rw [b0q hc22] at hm2
       simp only [b09, b1b, b1a, b0f]
       obtain rfl := sI9 hm2
       obtain rfl := hb20 _ rfl
       try dsimp only at hm1
       exact J19 p_4_0 p_4_1 p_4_2 _ _ s4 s6 s8 Qa Q5 Qb Q7 Q4 Q2 Qf Q1c Q1g hm1
  ·rw [b0q hc5] at hm1
   simp only [b09, b1b, b1a, b0f]
   obtain rfl := sI9 hm1
   obtain rfl := hb3 _ rfl
   try dsimp only at hm0
   exact J2 p.State p.Values.1 p.Values.2 i4 i6 _ _ s4 s6 Qa Q5 Qb Q7 Qf hm0
theorem d21 (hf : Has O "(newel/situation.Plant).literal" x__situation_Plant__literal) : c93 O := by
 intro m x p input r hm0
 unfold b77 at hm0
 refine b1i hf rfl (b0a (fM _) (b0a (.agg _ (b0a (b0e _) (b0a (b0e _) (b0a (b0e _) (b0a (b0e _) b0j))))) (b0a (.agg _ (b0a (b0e _) (b0a (b0e _) (b0a (b0e _) b0j)))) (b0a (b0e _) b0j)))) (b0e _) ?_
 refine b1c (fun t h => t 0 = .agg (vM m.Machine) /\ t 1 = .agg [I x.Kind, I x.Number, I x.Value, B x.Not] /\ t 2 = .agg [I p.State, I p.Values.1, I p.Values.2] /\ t 3 = I input) ⟨rfl, rfl, rfl, rfl⟩ fun t h ⟨s0, s1, s2, s3⟩ => ?_
 simp only [x__situation_Plant__literal]
 refine b0b fun K hK => ?_
 simp only [go_sem, s0, s1, s2]
 refine hK _ _ ?_
 clear hK K
 refine b0b fun K hK => ?_
 simp only [go_sem]
 refine hK _ _ ?_
 clear hK K
 refine b0v ?_
 refine b0b fun K hK => ?_
 simp only [go_sem]
 refine hK _ _ ?_
 clear hK K
 refine b0i fun K1 hK1 => ?_
 have J2 : ∀ (holds_9 : Bool) (t : Slots) (h : Heap), t 5 = .fp [I x.Kind, I x.Number, I x.Value, B x.Not] 0 -> t 9 = B holds_9 -> b6w x holds_9 = some r -> K1 t h := by
  intro holds_9 t h s5 s9 hm0
  refine hK1 _ _ ?_
  unfold b6w at hm0
  refine b0b fun K hK => ?_
  simp only [go_sem, s5, s9]
  refine hK _ _ ?_
  clear hK K
  simp only [b0x, b0y]
  obtain rfl := sI9 hm0
  exact b04 (by simp only [go_sem]) (b0e _)
 simp only [b0u]
 refine b0b fun K hK => ?_
 simp only [go_sem]
 refine hK _ _ ?_
 clear hK K
 simp only [go_sem]
 refine b0k (fun hc3 => ?_) (fun hc3 => ?_)
 ·rw [b0r hc3] at hm0
  obtain ⟨q5, h_q5, hm0⟩ := b0g hm0
  refine b03 fun K hK => ?_
  simp only [go_sem, s3, c7d h_q5]
  refine hK _ _ ?_
  clear hK K
  simp only [b02, b0f]
  exact J2 (decide ((b6y q5 1) = 1)) _ _ (by first | (simp only [go_sem]; done) | rfl) (by first | (simp only [go_sem]; done) | rfl) hm0
 ·rw [b0q hc3] at hm0
  refine b0b fun K hK => ?_
  simp only [go_sem]
  refine hK _ _ ?_
  clear hK K
  simp only [go_sem]
  refine b0k (fun hc6 => ?_) (fun hc6 => ?_)
  ·rw [b0r hc6] at hm0
   obtain ⟨x8, h_x8, hm0⟩ := b0g hm0
   have ha_x8 : ∀ v : Int, List.take (1 + Int.toNat (x.Number)) [I p.State, I p.Values.1, I p.Values.2] ++ [I v] ++ List.drop (1 + Int.toNat (x.Number)) [I p.Values.1, I p.Values.2] = [I p.State, I (b1n (x.Number) 0 v p.Values.1), I (b1n (x.Number) 1 v p.Values.2)] := fun v => (c1e (cs := [I p.State, I p.Values.1, I p.Values.2]) (off := 1) (v := v) h_x8 rfl).trans (by rw [c1d h_x8]; rfl)
   have hb_x8 : 1 + Int.toNat (x.Number) + 1 <= 3 := Nat.le_trans (Nat.add_le_add_left (c0a h_x8) 1) (by simp)
   refine b03 fun K hK => ?_
   simp only [go_sem, d94 (n := 2) (l := [p.Values.1, p.Values.2]) h_x8 rfl, c0c (cs := [I p.State, I p.Values.1, I p.Values.2]) (off := 1) h_x8 rfl]
   refine hK _ _ ?_
   clear hK K
   simp only [b02, b0f]
   exact J2 (decide (x.Value <= x8)) _ _ (by first | (simp only [go_sem]; done) | rfl) (by first | (simp only [go_sem]; done) | rfl) hm0
  ·rw [b0q hc6] at hm0
   refine b0b fun K hK => ?_
   simp only [go_sem]
   refine hK _ _ ?_
   clear hK K
   simp only [go_sem]
   refine b0k (fun hc9 => ?_) (fun hc9 => ?_)
   ·rw [b0r hc9] at hm0
    refine b03 fun K hK => ?_
    simp only [go_sem]
    refine hK _ _ ?_
    clear hK K
    simp only [b02, b0f]
    exact J2 (decide (p.State = x.Number)) _ _ (by first | (simp only [go_sem]; done) | rfl) (by first | (simp only [go_sem]; done) | rfl) hm0
   ·rw [b0q hc9] at hm0
    refine b0b fun K hK => ?_
    simp only [go_sem]
    refine hK _ _ ?_
    clear hK K
    simp only [go_sem]
    refine b0k (fun hc10 => ?_) (fun hc10 => ?_)
    ·rw [b0r hc10] at hm0
     obtain ⟨x13, h_x13, hm0⟩ := b0g hm0
     have h_x130 := b05 h_x13
     have h_x131 := b06 h_x13
     obtain ⟨q14, h_q14, hm0⟩ := b0g hm0
     refine b03 fun K hK => ?_
     simp only [go_sem, b08 h_x13, c7d h_q14]
     refine hK _ _ ?_
     clear hK K
     simp only [b02, b0f]
     exact J2 (decide ((b6y q14 1) = 1)) _ _ (by first | (simp only [go_sem]; done) | rfl) (by first | (simp only [go_sem]; done) | rfl) hm0
    ·rw [b0q hc10] at hm0
     simp only [b0s, b02, b0f]
     exact J2 false _ _ (by first | (simp only [go_sem]; done) | rfl) (by first | (simp only [go_sem]; done) | rfl) hm0
theorem d22 (hf : Has O "(newel/situation.Plant).set" x__situation_Plant__set) : c94 O := by
 intro m s p i_2 h0 ob_p2 lt_p2 r hm0
 unfold r1b at hm0
 refine d8g hf rfl ?_
 refine b1c (fun t h => t 0 = .agg (vM m.Machine) /\ t 1 = .agg [I s.Kind, I s.Counter] /\ t 2 = .rp i_2 0 0 /\ h.ob i_2 = some (3, [[I p.State, I p.Values.1, I p.Values.2]]) /\ i_2 < h.nx /\ (∀ j, j < h0.nx -> ¬j = i_2 -> h.ob j = h0.ob j) /\ h0.nx <= h.nx) ⟨rfl, rfl, rfl, ob_p2, lt_p2, fun _ _ _ => rfl, Nat.le_refl _⟩ fun t h ⟨s0, s1, s2, ob_p2, lt_p2, fr, fx⟩ => ?_
 simp only [x__situation_Plant__set]
 refine b0b fun K hK => ?_
 simp only [go_sem, s0, s1]
 refine hK _ _ ?_
 clear hK K
 obtain ⟨x2, h_x2, hm0⟩ := b0g hm0
 have ha_x2 : ∀ v : Int, List.take (1 + Int.toNat (s.Counter)) [I p.State, I p.Values.1, I p.Values.2] ++ [I v] ++ List.drop (1 + Int.toNat (s.Counter)) [I p.Values.1, I p.Values.2] = [I p.State, I (b1n (s.Counter) 0 v p.Values.1), I (b1n (s.Counter) 1 v p.Values.2)] := fun v => (c1e (cs := [I p.State, I p.Values.1, I p.Values.2]) (off := 1) (v := v) h_x2 rfl).trans (by rw [c1d h_x2]; rfl)
 have hb_x2 : 1 + Int.toNat (s.Counter) + 1 <= 3 := Nat.le_trans (Nat.add_le_add_left (c0a h_x2) 1) (by simp)
 refine b0b fun K hK => ?_
 simp only [go_sem, s2, ob_p2, c7f (n := 2) (l := [p.Values.1, p.Values.2]) h_x2 rfl]
 refine hK _ _ ?_
 clear hK K
 refine b0b fun K hK => ?_
 simp only [go_sem]
 refine hK _ _ ?_
 clear hK K
 simp only [b0u]
 refine b0b fun K hK => ?_
 simp only [go_sem]
 refine hK _ _ ?_
 clear hK K
 simp only [go_sem]
 refine b0k (fun hc3 => ?_) (fun hc3 => ?_)
 ·rw [b0r hc3] at hm0
  refine b03 fun K hK => ?_
  simp only [go_sem, ob_p2, ha_x2, hb_x2]
  refine hK _ _ ?_
  clear hK K
  simp only [b02]
  obtain rfl := sI9 hm0
  exact c4o (Post := fun v h => v = .tup [] /\ h.ob i_2 = some (3, [[I ((Place.mk p.State (b1n s.Counter 0 0 p.Values.1, b1n s.Counter 1 0 p.Values.2)).State), I (((Place.mk p.State (b1n s.Counter 0 0 p.Values.1, b1n s.Counter 1 0 p.Values.2)).Values).1), I (((Place.mk p.State (b1n s.Counter 0 0 p.Values.1, b1n s.Counter 1 0 p.Values.2)).Values).2)]]) /\ (∀ j, j < h0.nx -> ¬j = i_2 -> h.ob j = h0.ob j) /\ h0.nx <= h.nx) ⟨rfl, (by simp only [go_sem]), (by intro j hj hx0; first | exact fr j hj hx0 | (refine Eq.trans ?_ (fr j hj hx0); first | rfl | simp only [go_sem, hx0])), (by first | exact fx | omega | (simp only [go_sem, nxs] <;> omega))⟩
 ·rw [b0q hc3] at hm0
  refine b0b fun K hK => ?_
  simp only [go_sem]
  refine hK _ _ ?_
  clear hK K
  simp only [go_sem]
  refine b0k (fun hc4 => ?_) (fun hc4 => ?_)
  ·rw [b0r hc4] at hm0
   obtain ⟨x6, h_x6, hm0⟩ := b0g hm0
   have h_x60 := b05 h_x6
   have h_x61 := b06 h_x6
   refine b03 fun K hK => ?_
   simp only [go_sem, ob_p2, b08 h_x6, c0c (cs := [I p.State, I p.Values.1, I p.Values.2]) (off := 1) h_x2 rfl, ha_x2, hb_x2]
   refine hK _ _ ?_
   clear hK K
   simp only [b02]
   obtain rfl := sI9 hm0
   exact c4o (Post := fun v h => v = .tup [] /\ h.ob i_2 = some (3, [[I ((Place.mk p.State (b1n s.Counter 0 (mn (wr (x2 + 1)) x6.Max) p.Values.1, b1n s.Counter 1 (mn (wr (x2 + 1)) x6.Max) p.Values.2)).State), I (((Place.mk p.State (b1n s.Counter 0 (mn (wr (x2 + 1)) x6.Max) p.Values.1, b1n s.Counter 1 (mn (wr (x2 + 1)) x6.Max) p.Values.2)).Values).1), I (((Place.mk p.State (b1n s.Counter 0 (mn (wr (x2 + 1)) x6.Max) p.Values.1, b1n s.Counter 1 (mn (wr (x2 + 1)) x6.Max) p.Values.2)).Values).2)]]) /\ (∀ j, j < h0.nx -> ¬j = i_2 -> h.ob j = h0.ob j) /\ h0.nx <= h.nx) ⟨rfl, (by simp only [go_sem]), (by intro j hj hx0; first | exact fr j hj hx0 | (refine Eq.trans ?_ (fr j hj hx0); first | rfl | simp only [go_sem, hx0])), (by first | exact fx | omega | (simp only [go_sem, nxs] <;> omega))⟩
  ·rw [b0q hc4] at hm0
   refine b0b fun K hK => ?_
   simp only [go_sem]
   refine hK _ _ ?_
   clear hK K
   simp only [go_sem]
   refine b0k (fun hc7 => ?_) (fun hc7 => ?_)
   ·rw [b0r hc7] at hm0
    refine b03 fun K hK => ?_
    simp only [go_sem, ob_p2, c0c (cs := [I p.State, I p.Values.1, I p.Values.2]) (off := 1) h_x2 rfl, ha_x2, hb_x2]
    refine hK _ _ ?_
    clear hK K
    simp only [b02]
    obtain rfl := sI9 hm0
    exact c4o (Post := fun v h => v = .tup [] /\ h.ob i_2 = some (3, [[I ((Place.mk p.State (b1n s.Counter 0 (mx (wr (x2 - 1)) 0) p.Values.1, b1n s.Counter 1 (mx (wr (x2 - 1)) 0) p.Values.2)).State), I (((Place.mk p.State (b1n s.Counter 0 (mx (wr (x2 - 1)) 0) p.Values.1, b1n s.Counter 1 (mx (wr (x2 - 1)) 0) p.Values.2)).Values).1), I (((Place.mk p.State (b1n s.Counter 0 (mx (wr (x2 - 1)) 0) p.Values.1, b1n s.Counter 1 (mx (wr (x2 - 1)) 0) p.Values.2)).Values).2)]]) /\ (∀ j, j < h0.nx -> ¬j = i_2 -> h.ob j = h0.ob j) /\ h0.nx <= h.nx) ⟨rfl, (by simp only [go_sem]), (by intro j hj hx0; first | exact fr j hj hx0 | (refine Eq.trans ?_ (fr j hj hx0); first | rfl | simp only [go_sem, hx0])), (by first | exact fx | omega | (simp only [go_sem, nxs] <;> omega))⟩
   ·rw [b0q hc7] at hm0
    simp only [b0s, b02]
    obtain rfl := sI9 hm0
    exact c4o (Post := fun v h => v = .tup [] /\ h.ob i_2 = some (3, [[I ((Place.mk p.State (p.Values.1, p.Values.2)).State), I (((Place.mk p.State (p.Values.1, p.Values.2)).Values).1), I (((Place.mk p.State (p.Values.1, p.Values.2)).Values).2)]]) /\ (∀ j, j < h0.nx -> ¬j = i_2 -> h.ob j = h0.ob j) /\ h0.nx <= h.nx) ⟨rfl, ob_p2, fr, fx⟩
theorem d24 (hf : Has O "newel/control.Check" x_control_Check) (d3h : d0k O) : c96 O := by
 intro m r hm0
 unfold c2f at hm0
 refine b1i hf rfl (b0a (fM _) b0j) (b0e _) ?_
 refine b1c (fun t h => t 0 = .agg (vM m)) rfl fun t h s0 => ?_
 simp only [x_control_Check]
 refine b0b fun K hK => ?_
 simp only [go_sem, s0]
 refine hK _ _ ?_
 clear hK K
 obtain ⟨y2, h_y2, hm0⟩ := b0g hm0
 refine b0b fun K hK => ?_
 simp only [go_sem]
 refine b01 (d3h m _ h_y2) ?_
 simp only [go_sem]
 refine hK _ _ ?_
 clear hK K
 simp only [b0x, b0y]
 obtain rfl := sI9 hm0
 exact b04 (by simp only [go_sem]) (b0e _)
theorem p2z (hf : Has O "newel/control.Reach" x_control_Reach) (c3e : c5g O) (c3f : c5h O) (c3c : c5e O) (c3g : c5i O) : p2p O := by
 intro m assume r hm0
 unfold p2e at hm0
 refine b1i hf rfl (b0a (fM _) (b0a (b0c fun a _ => b2j a) b0j)) (.tup _ (b0a (b0c fun a _ => b44 a) (b0a (b0e _) b0j))) ?_
 refine b1c (fun t h => t 0 = .agg (vM m) /\ t 1 = .fs 1 (List.map b0t assume)) ⟨rfl, rfl⟩ fun t h ⟨s0, s1⟩ => ?_
 simp only [x_control_Reach]
 refine b0b fun K hK => ?_
 simp only [go_sem, s0]
 refine hK _ _ ?_
 clear hK K
 refine b0v ?_
 obtain ⟨y2, h_y2, hm0⟩ := b0g hm0
 refine b0b fun K hK => ?_
 simp only [go_sem, s1]
 refine b8l ?_ (c3e m ([assume]) _ h_y2) (.v _) ?_
 ·exact .cons (.refl _ (fM _)) (.cons (b29 (f := b4v) (l := ([assume])) (id := h.nx) (by simp only [go_sem]) (by first | rfl | simp only [go_sem, lA9, mA9]) b97 c7o) (.nil))
 simp only [go_sem]
 refine hK _ _ ?_
 clear hK K
 refine b0v ?_
 refine b0b fun K hK => ?_
 simp only [go_sem]
 refine hK _ _ ?_
 clear hK K
 refine b0i fun K3 hK3 => ?_
 simp only [go_sem]
 refine b0k (fun hc4 => ?_) (fun hc4 => ?_)
 ·rw [b0r hc4] at hm0
  refine b0b fun K hK => ?_
  simp only [go_sem]
  refine hK _ _ ?_
  clear hK K
  simp only [b0x, b1p, b0y]
  obtain rfl := sI9 hm0
  exact d66 (v := .v (.slice none 0 0)) (u := I y2) (by simp only [go_sem]) (by simp only [go_sem]) (.nil _) (.refl _ (b0e _))
 ·rw [b0q hc4] at hm0
  simp only [b0s, b0f]
  refine hK3 _ _ ?_
  obtain ⟨y8, h_y8, hm0⟩ := b0g hm0
  refine b0b fun K hK => ?_
  simp only [go_sem]
  refine b01 (c3f m) ?_
  simp only [go_sem, s1]
  refine b01 (c3c (b3h m) assume "newel/control.same" [] [] (fun z7 => some (b6f z7)) (.fn _ _ _ b0j b0j) (fun z0 y hz => by cases hz; exact c3g z0) _ h_y8) ?_
  simp only [go_sem]
  refine hK _ _ ?_
  clear hK K
  simp only [b0x, b0y]
  obtain rfl := sI9 hm0
  exact d1m (by simp only [go_sem]) (by simp only [go_sem]) (b0c fun a _ => b44 a) (b0e _)
theorem p20 (hf : Has O "newel/control.Step" x_control_Step) (d24 : c96 O) (c3f : c5h O) (o8g : o8b O) (p2y : p2o O) (d20 : c92 O) : p2q O := by
 intro m p input r hm0
 unfold p2f at hm0
 refine b1i hf rfl (b0a (fM _) (b0a (.agg _ (b0a (b0e _) (b0a (b0e _) (b0a (b0e _) b0j)))) (b0a (b0e _) b0j))) (.tup _ (b0a (.agg _ (b0a (b0e _) (b0a (b0e _) (b0a (b0e _) b0j)))) (b0a (b0e _) b0j))) ?_
 refine b1c (fun t h => t 0 = .agg (vM m) /\ t 1 = .agg [I p.State, I p.Values.1, I p.Values.2] /\ t 2 = I input) ⟨rfl, rfl, rfl⟩ fun t h ⟨s0, s1, s2⟩ => ?_
 simp only [x_control_Step]
 refine b0b fun K hK => ?_
 simp only [go_sem, s0, s1]
 refine hK _ _ ?_
 clear hK K
 refine b0v ?_
 obtain ⟨y2, h_y2, hm0⟩ := b0g hm0
 refine b0b fun K hK => ?_
 simp only [go_sem]
 refine b01 (d24 m _ h_y2) ?_
 simp only [go_sem]
 refine hK _ _ ?_
 clear hK K
 refine b0v ?_
 refine b0b fun K hK => ?_
 simp only [go_sem]
 refine hK _ _ ?_
 clear hK K
 refine b0i fun K3 hK3 => ?_
 simp only [go_sem]
 refine b0k (fun hc4 => ?_) (fun hc4 => ?_)
 ·rw [b0r hc4] at hm0
  refine b0b fun K hK => ?_
  simp only [go_sem]
  refine hK _ _ ?_
  clear hK K
  simp only [b0x, b1p, b0y]
  obtain rfl := sI9 hm0
  exact p2s (id := h.nx) (m := 3) (cs := [I 0, I 0, I 0]) (u := I y2) (by simp only [go_sem]) (by simp only [go_sem]) rfl (by simp only [go_sem]) (.refl _ (.agg _ (b0a (b0e _) (b0a (b0e _) (b0a (b0e _) b0j))))) (.refl _ (b0e _))
 ·rw [b0q hc4] at hm0
  simp only [b0s, b0f]
  refine hK3 _ _ ?_
  refine b0b fun K hK => ?_
  simp only [go_sem]
  refine b01 (c3f m) ?_
  simp only [go_sem]
  refine hK _ _ ?_
  clear hK K
  refine b0v ?_
  obtain ⟨y8, h_y8, hm0⟩ := b0g hm0
  obtain ⟨c10, h_c10, hm0⟩ := b0g hm0
  refine b2p (fun t h => ∃ i6 : Nat, ∃ i9 : Nat, t 2 = I input /\ t 4 = .fp [I p.State, I p.Values.1, I p.Values.2] 0 /\ t 6 = .rp i6 0 0 /\ t 9 = .rp i9 0 0 /\ t 29 = B c10 /\ h.ob i6 = some (3, [[I 0, I 0, I 0]]) /\ i6 < h.nx /\ h.ob i9 = some (5, [[.fs 1 (List.map eS ((((b3h m).Plant).Machine).Inputs)), .fs 1 (List.map eS ((((b3h m).Plant).Machine).Outputs)), .fs 2 (List.map b0o ((((b3h m).Plant).Machine).Counters)), .fs 2 (List.map b0p ((((b3h m).Plant).Machine).States)), .fs 4 (List.map b0m ((((b3h m).Plant).Machine).Rules))]]) /\ i9 < h.nx /\ ¬i6 = i9) (fun K hK => ?_) ?_
  ·simp only [go_sem]
   refine b01 (o8g (situation_Plant.mk (((b3h m).Plant).Machine)) p _ h_y8) ?_
   simp only [go_sem]
   refine b0k (fun hg11 => ?_) (fun hg11 => ?_)
   ·simp only [hg11, eq_self, if_true] at h_c10
    obtain rfl := sI9 h_c10
    simp only [go_sem, hg11]
    exact hK _ _ ⟨h.nx, (nxs h.nx), s2, (by first | (simp only [go_sem]; done) | rfl), (by first | (simp only [go_sem]; done) | rfl), (by first | (simp only [go_sem]; done) | rfl), (by first | (simp only [go_sem]; done) | rfl), (by simp only [go_sem]), (by simp only [go_sem]), (by simp only [go_sem]), (by simp only [go_sem]), (by first | first | assumption | omega | (simp only [nxs] <;> omega))⟩
   ·simp only [hg11, if_false, fT9] at h_c10
    obtain ⟨y9, h_y9, h_c10⟩ := b0g h_c10
    obtain rfl := sI9 h_c10
    simp only [go_sem, s2, hg11]
    refine b01 (p2y (situation_Plant.mk (((b3h m).Plant).Machine)) input _ h_y9) ?_
    simp only [go_sem, hg11]
    exact hK _ _ ⟨h.nx, (nxs h.nx), s2, (by first | (simp only [go_sem]; done) | rfl), (by first | (simp only [go_sem]; done) | rfl), (by first | (simp only [go_sem]; done) | rfl), (by first | (simp only [go_sem]; done) | rfl), (by simp only [go_sem]), (by simp only [go_sem]), (by simp only [go_sem]), (by simp only [go_sem]), (by first | first | assumption | omega | (simp only [nxs] <;> omega))⟩
  ·rintro t h ⟨i6, i9, s2, s4, s6, s9, s29, Qb, Q7, Q18, Q1d, Q1z⟩
   refine b0i fun K12 hK12 => ?_
   simp only [go_sem, s29]
   refine b0k (fun hc13 => ?_) (fun hc13 => ?_)
   ·rw [b0r hc13] at hm0
    refine b0b fun K hK => ?_
    simp only [go_sem, s6, Qb]
    refine hK _ _ ?_
    clear hK K
    simp only [b0x, b1p, b0y]
    obtain rfl := sI9 hm0
    exact p2s (id := i6) (m := 3) (cs := [I 0, I 0, I 0]) (u := I 1) (by simp only [go_sem, s6]) (by simp only [go_sem]) rfl (by simp only [go_sem]) (.refl _ (.agg _ (b0a (b0e _) (b0a (b0e _) (b0a (b0e _) b0j))))) (.refl _ (b0e _))
   ·rw [b0q hc13] at hm0
    simp only [b0s, b0f]
    refine hK12 _ _ ?_
    obtain ⟨y15, h_y15, hm0⟩ := b0g hm0
    refine b0b fun K hK => ?_
    simp only [go_sem, s2, s4, s9, Q18]
    refine b01 (d20 (situation_Plant.mk (((b3h m).Plant).Machine)) p input _ h_y15) ?_
    simp only [go_sem, s6, Qb]
    refine hK _ _ ?_
    clear hK K
    simp only [b0x, b0y]
    obtain rfl := sI9 hm0
    exact p2s (id := i6) (m := 3) (cs := [I y15.State, I y15.Values.1, I y15.Values.2]) (u := I 0) (by simp only [go_sem, s6]) (by simp only [go_sem]) rfl (by simp only [go_sem]) (.refl _ (.agg _ (b0a (b0e _) (b0a (b0e _) (b0a (b0e _) b0j))))) (.refl _ (b0e _))
theorem d25 (hf : Has O "newel/control.Trap" x_control_Trap) (c3e : c5g O) (c3f : c5h O) (c3c : c5e O) (c3g : c5i O) (b52 : b89 O) (d3s : d0v O) (d26 : c98 O) (c3b : c5d O) (d27 : c99 O) : c97 O := by
 intro m assume rest r hm0
 unfold c2g at hm0
 refine b1i hf rfl (b0a (fM _) (b0a (b0c fun a _ => b2j a) (b0a (b0c fun a _ => b2j a) b0j))) (.tup _ (b0a (b0c fun a _ => b1t a) (b0a (b0e _) (b0a (b0e _) b0j)))) ?_
 refine b1c (fun t h => t 0 = .agg (vM m) /\ t 1 = .fs 1 (List.map b0t assume) /\ t 2 = .fs 1 (List.map b0t rest)) ⟨rfl, rfl, rfl⟩ fun t h ⟨s0, s1, s2⟩ => ?_
 simp only [x_control_Trap]
 refine b0b fun K hK => ?_
 simp only [go_sem, s0]
 refine hK _ _ ?_
 clear hK K
 refine b0v ?_
 obtain ⟨y2, h_y2, hm0⟩ := b0g hm0
 refine b0b fun K hK => ?_
 simp only [go_sem, s1, s2]
 refine b8l ?_ (c3e m ([assume, rest]) _ h_y2) (.v _) ?_
 ·exact .cons (.refl _ (fM _)) (.cons (b29 (f := b4v) (l := ([assume, rest])) (id := h.nx) (by simp only [go_sem]) (by first | rfl | simp only [go_sem, lA9, mA9]) b97 c7o) (.nil))
 simp only [go_sem]
 refine hK _ _ ?_
 clear hK K
 refine b0v ?_
 refine b0b fun K hK => ?_
 simp only [go_sem]
 refine hK _ _ ?_
 clear hK K
 refine b0i fun K3 hK3 => ?_
 simp only [go_sem]
 refine b0k (fun hc4 => ?_) (fun hc4 => ?_)
 ·rw [b0r hc4] at hm0
  refine b0b fun K hK => ?_
  simp only [go_sem]
  refine hK _ _ ?_
  clear hK K
  simp only [b0x, b1p, b0y]
  obtain rfl := sI9 hm0
  exact c2l (v := .v (.slice none 0 0)) (u := B false) (x := I y2) (by simp only [go_sem]) (by simp only [go_sem]) (by simp only [go_sem]) (.nil _) (.refl _ (b0e _)) (.refl _ (b0e _))
 ·rw [b0q hc4] at hm0
  simp only [b0s, b0f]
  refine hK3 _ _ ?_
  refine b0b fun K hK => ?_
  simp only [go_sem]
  refine b01 (c3f m) ?_
  simp only [go_sem]
  refine hK _ _ ?_
  clear hK K
  obtain ⟨y8, h_y8, hm0⟩ := b0g hm0
  refine b0b fun K hK => ?_
  simp only [go_sem, s1]
  refine b01 (c3c (control_plant.mk (situation_Plant.mk (((b3h m).Plant).Machine))) assume "newel/control.same" [] [] (fun z7 => some (b6f z7)) (.fn _ _ _ b0j b0j) (fun z0 y hz => by cases hz; exact c3g z0) _ h_y8) ?_
  simp only [go_sem]
  refine hK _ _ ?_
  clear hK K
  obtain ⟨l10, h_l10, hm0⟩ := b0g hm0
  refine b0b fun K hK => ?_
  simp only [go_sem]
  refine d2k (f := eB) (z := false) rfl h_l10 ?_
  simp only [go_sem]
  refine hK _ _ ?_
  clear hK K
  refine b0v ?_
  refine b0b fun K hK => ?_
  simp only [go_sem]
  refine hK _ _ ?_
  clear hK K
  refine b0i fun K11 hK11 => ?_
  have J12 : ∀ (calm_11_0 : List Bool) (i11 : Nat) (i11_1 : Nat) (t : Slots) (h : Heap), t 10 = .fp [.fs 3 (List.map b1g y8.places), .fs 1 (List.map eI y8.from_), .fs 1 (List.map eI y8.by_), .fs 1 (List.map b2f y8.next)] 0 -> t 11 = .rp i11 0 0 -> h.ob i11 = some (1, [[.rs i11_1 0 (List.length calm_11_0)]]) -> i11 < h.nx -> h.ob i11_1 = some (1, List.map eB calm_11_0) -> i11_1 < h.nx -> ¬i11 = i11_1 -> c6r y8 calm_11_0 = some r -> K11 t h := by
   intro calm_11_0 i11 i11_1 t h s10 s11 Q1 Q0 Qg Qo Qj hm0
   refine hK11 _ _ ?_
   unfold c6r at hm0
   refine b0v ?_
   refine b0b fun K hK => ?_
   simp only [go_sem]
   refine hK _ _ ?_
   clear hK K
   refine b0i fun K13 hK13 => ?_
   have J14 : ∀ (calm_11_0_1 : List Bool) (t : Slots) (h : Heap), t 10 = .fp [.fs 3 (List.map b1g y8.places), .fs 1 (List.map eI y8.from_), .fs 1 (List.map eI y8.by_), .fs 1 (List.map b2f y8.next)] 0 -> t 11 = .rp i11 0 0 -> h.ob i11 = some (1, [[.rs i11_1 0 (List.length calm_11_0_1)]]) -> i11 < h.nx -> h.ob i11_1 = some (1, List.map eB calm_11_0_1) -> i11_1 < h.nx -> ¬i11 = i11_1 -> c6s y8 calm_11_0_1 = some r -> K13 t h := by
    intro calm_11_0_1 t h s10 s11 Q1 Q0 Qg Qo Qj hm0
    refine hK13 _ _ ?_
    unfold c6s at hm0
    refine b0v ?_
    refine d63 (s := 11) (v := .rp i11 0 0) (y := .fp [.fs 1 (List.map eB calm_11_0_1)] 0) (fun j => j == i11 || j == i11_1) (by simp only [go_sem, s11]) (c66 (id := i11) (sz := 1) (xs := [.rs i11_1 0 (List.length calm_11_0_1)]) (by rw [c3x (by simp)]; simp only [go_sem, Q1]) (.cons (b29 (f := eB) (l := calm_11_0_1) (id := i11_1) (by rw [c3x (by simp)]; simp only [go_sem, Qg]) (by first | rfl | simp only [go_sem, lA9, mA9]) b8h g1c) (.nil))) (.fp _ _ (b0a (b0c fun a _ => b8h a) b0j)) ?_
    obtain ⟨y18, h_y18, hm0⟩ := b0g hm0
    refine b0b fun K hK => ?_
    simp only [go_sem, s10]
    refine b01 (c3b y8 "newel/control.Trap$2" [] [.fp [.fs 1 (List.map eB calm_11_0_1)] 0] (fun z17 => b9s z17 calm_11_0_1) (.fn _ _ _ b0j (b0a (.fp _ _ (b0a (b0c fun a _ => b8h a) b0j)) b0j)) (fun z0 y hz => d27 z0 calm_11_0_1 y hz) _ h_y18) ?_
    simp only [go_sem]
    refine hK _ _ ?_
    clear hK K
    refine b0b fun K hK => ?_
    simp only [go_sem]
    refine hK _ _ ?_
    clear hK K
    simp only [b0x, b0y]
    obtain rfl := sI9 hm0
    exact c6t (by simp only [go_sem, nF9]) (by simp only [go_sem, nF9]) (by simp only [go_sem]) (b0c fun a _ => b1t a) (b0e _) (b0e _)
   simp only [b0u]
   obtain ⟨b19, hl19, hm0⟩ := b0g hm0
   refine b1j hl19 (fun | (calm_11_0_1, more_14), t, h => t 10 = .fp [.fs 3 (List.map b1g y8.places), .fs 1 (List.map eI y8.from_), .fs 1 (List.map eI y8.by_), .fs 1 (List.map b2f y8.next)] 0 /\ t 11 = .rp i11 0 0 /\ t 14 = B more_14 /\ h.ob i11 = some (1, [[.rs i11_1 0 (List.length calm_11_0_1)]]) /\ i11 < h.nx /\ h.ob i11_1 = some (1, List.map eB calm_11_0_1) /\ i11_1 < h.nx /\ ¬i11 = i11_1) ?_ ?_
   ·exact ⟨s10, s11, (by first | (simp only [go_sem]; done) | rfl), Q1, Q0, Qg, Qo, Qj⟩
   ·rintro ⟨calm_11_0_1, more_14⟩ o t h ⟨s10, s11, s14, Q1, Q0, Qg, Qo, Qj⟩ hm1 hb19
    simp only [b9v] at hm1
    rw [g4a]
    refine b0v ?_
    refine b0b fun K hK => ?_
    simp only [go_sem, s14]
    refine hK _ _ ?_
    clear hK K
    refine b0i fun K20 hK20 => ?_
    simp only [go_sem]
    refine b0k (fun hc21 => ?_) (fun hc21 => ?_)
    ·rw [b0r hc21] at hm1
     simp only [b0s, b0f]
     refine hK20 _ _ ?_
     refine d1l ?_
     refine b0i fun K22 hK22 => ?_
     have J23 : ∀ (calm_11_0_2 : List Bool) (more_14_1 : Bool) (t : Slots) (h : Heap), t 10 = .fp [.fs 3 (List.map b1g y8.places), .fs 1 (List.map eI y8.from_), .fs 1 (List.map eI y8.by_), .fs 1 (List.map b2f y8.next)] 0 -> t 11 = .rp i11 0 0 -> t 14 = B more_14_1 -> h.ob i11 = some (1, [[.rs i11_1 0 (List.length calm_11_0_2)]]) -> i11 < h.nx -> h.ob i11_1 = some (1, List.map eB calm_11_0_2) -> i11_1 < h.nx -> ¬i11 = i11_1 -> b9w calm_11_0_2 more_14_1 = some o -> K22 t h := by
      intro calm_11_0_2 more_14_1 t h s10 s11 s14 Q1 Q0 Qg Qo Qj hm1
      refine hK22 _ _ ?_
      unfold b9w at hm1
      simp only [b0s, b0f]
      obtain rfl := sI9 hm1
      refine ⟨_, rfl, ?_⟩
      exact ⟨s10, s11, s14, Q1, Q0, Qg, Qo, Qj⟩
     simp only [b0u]
     refine b0b fun K hK => ?_
     simp only [go_sem]
     refine hK _ _ ?_
     clear hK K
     refine b0b fun K hK => ?_
     simp only [go_sem, s10]
     refine hK _ _ ?_
     clear hK K
     simp only [b0u]
     obtain ⟨b24, hl24, hm1⟩ := b0g hm1
     refine b1j hl24 (fun | (calm_11_0_2, more_14_1, x_61), t, h => t 10 = .fp [.fs 3 (List.map b1g y8.places), .fs 1 (List.map eI y8.from_), .fs 1 (List.map eI y8.by_), .fs 1 (List.map b2f y8.next)] 0 /\ t 11 = .rp i11 0 0 /\ t 14 = B more_14_1 /\ t 59 = .fs 1 (List.map b2f y8.next) /\ t 60 = I (List.length y8.next : Int) /\ t 61 = I x_61 /\ h.ob i11 = some (1, [[.rs i11_1 0 (List.length calm_11_0_2)]]) /\ i11 < h.nx /\ h.ob i11_1 = some (1, List.map eB calm_11_0_2) /\ i11_1 < h.nx /\ ¬i11 = i11_1) ?_ ?_
     ·exact ⟨s10, s11, (by first | (simp only [go_sem]; done) | rfl), (by first | (simp only [go_sem]; done) | rfl), (by first | (simp only [go_sem]; done) | rfl), (by first | (simp only [go_sem]; done) | rfl), Q1, Q0, Qg, Qo, Qj⟩
     ·rintro ⟨calm_11_0_2, more_14_1, x_61⟩ o t h ⟨s10, s11, s14, s59, s60, s61, Q1, Q0, Qg, Qo, Qj⟩ hm2 hb24
      simp only [b9u] at hm2
      rw [g39]
      refine b0b fun K hK => ?_
      simp only [go_sem, s60, s61]
      refine hK _ _ ?_
      clear hK K
      refine b0i fun K25 hK25 => ?_
      simp only [go_sem]
      refine b0k (fun hc26 => ?_) (fun hc26 => ?_)
      ·rw [b0r hc26] at hm2
       simp only [b0s, b0f]
       refine hK25 _ _ ?_
       refine b0i fun K27 hK27 => ?_
       have J28 : ∀ (calm_11_0_3 : List Bool) (more_14_2 : Bool) (t : Slots) (h : Heap), t 10 = .fp [.fs 3 (List.map b1g y8.places), .fs 1 (List.map eI y8.from_), .fs 1 (List.map eI y8.by_), .fs 1 (List.map b2f y8.next)] 0 -> t 11 = .rp i11 0 0 -> t 14 = B more_14_2 -> t 59 = .fs 1 (List.map b2f y8.next) -> t 60 = I (List.length y8.next : Int) -> t 61 = I x_61 -> h.ob i11 = some (1, [[.rs i11_1 0 (List.length calm_11_0_3)]]) -> i11 < h.nx -> h.ob i11_1 = some (1, List.map eB calm_11_0_3) -> i11_1 < h.nx -> ¬i11 = i11_1 -> c2h x_61 calm_11_0_3 more_14_2 = some o -> K27 t h := by
        try clear s10 s11 s14 s59 s60 s61 Q1 Q0 Qg Qo Qj
        intro calm_11_0_3 more_14_2 t h s10 s11 s14 s59 s60 s61 Q1 Q0 Qg Qo Qj hm2
        refine hK27 _ _ ?_
        unfold c2h at hm2
        refine b03 fun K hK => ?_
        simp only [go_sem, s61]
        refine hK _ _ ?_
        clear hK K
        simp only [b0f]
        obtain rfl := sI9 hm2
        refine ⟨_, rfl, ?_⟩
        exact ⟨s10, s11, s14, s59, s60, (by first | (simp only [go_sem]; done) | rfl), Q1, Q0, Qg, Qo, Qj⟩
       simp only [b0u]
       obtain ⟨x30, h_x30, hm2⟩ := b0g hm2
       have h_x300 := b05 h_x30
       have h_x301 := b06 h_x30
       refine b0b fun K hK => ?_
       simp only [go_sem, s59, s61, b08 h_x30, h_x301]
       refine hK _ _ ?_
       clear hK K
       obtain ⟨x35, h_x35, hm2⟩ := b0g hm2
       have h_x350 := b05 h_x35
       have h_x351 := b06 h_x35
       obtain ⟨c38, h_c38, hm2⟩ := b0g hm2
       refine b2p (fun t h => t 10 = .fp [.fs 3 (List.map b1g y8.places), .fs 1 (List.map eI y8.from_), .fs 1 (List.map eI y8.by_), .fs 1 (List.map b2f y8.next)] 0 /\ t 11 = .rp i11 0 0 /\ t 14 = B more_14_1 /\ t 15 = I x_61 /\ t 59 = .fs 1 (List.map b2f y8.next) /\ t 60 = I (List.length y8.next : Int) /\ t 61 = I x_61 /\ t 75 = B c38 /\ h.ob i11 = some (1, [[.rs i11_1 0 (List.length calm_11_0_2)]]) /\ i11 < h.nx /\ h.ob i11_1 = some (1, List.map eB calm_11_0_2) /\ i11_1 < h.nx /\ ¬i11 = i11_1) (fun K hK => ?_) ?_
       ·simp only [go_sem, s11, Q1, Qg, b3n h_x35, h_x350, h_x351]
        refine b0k (fun hg39 => ?_) (fun hg39 => ?_)
        ·simp only [hg39, eq_self, if_true] at h_c38
         obtain ⟨y37, h_y37, h_c38⟩ := b0g h_c38
         obtain rfl := sI9 h_c38
         simp only [go_sem, s11, hg39]
         refine b8l ?_ (d3s x30 "newel/control.Trap$1" [] [.fp [.fs 1 (List.map eB calm_11_0_2)] 0] (fun z36 => b60 z36 calm_11_0_2) (.fn _ _ _ b0j (b0a (.fp _ _ (b0a (b0c fun a _ => b8h a) b0j)) b0j)) (fun z0 y hz => d26 z0 calm_11_0_2 y hz) _ h_y37) (.v _) ?_
         ·exact .cons (.refl _ (b0c fun a _ => b1t a)) (.cons (j1d (.nil) (.cons (c66 (id := i11) (sz := 1) (xs := [.rs i11_1 0 (List.length calm_11_0_2)]) (by simp only [go_sem, Q1]) (.cons (b29 (f := eB) (l := calm_11_0_2) (id := i11_1) (by simp only [go_sem, Qg]) (by first | rfl | simp only [go_sem, lA9, mA9]) b8h g1c) (.nil))) (.nil))) (.nil))
         simp only [go_sem, s11, hg39]
         exact hK _ _ ⟨s10, s11, s14, (by first | (simp only [go_sem]; done) | rfl), s59, s60, s61, (by first | (simp only [go_sem]; done) | rfl), Q1, Q0, Qg, Qo, Qj⟩
        ·simp only [hg39, if_false, fT9] at h_c38
         obtain rfl := sI9 h_c38
         simp only [go_sem, hg39]
         exact hK _ _ ⟨s10, s11, s14, (by first | (simp only [go_sem]; done) | rfl), s59, s60, s61, (by first | (simp only [go_sem]; done) | rfl), Q1, Q0, Qg, Qo, Qj⟩
       ·try clear s10 s11 s14 s59 s60 s61 Q1 Q0 Qg Qo Qj
        rintro t h ⟨s10, s11, s14, s15, s59, s60, s61, s75, Q1, Q0, Qg, Qo, Qj⟩
        simp only [go_sem, s75]
        refine b0k (fun hc40 => ?_) (fun hc40 => ?_)
        ·rw [b0r hc40] at hm2
         refine b03 fun K hK => ?_
         simp only [go_sem, s11, s15, Q1, Qg, b3n h_x35, h_x350, h_x351]
         refine hK _ _ ?_
         clear hK K
         simp only [b02, b0f]
         exact J28 (List.set calm_11_0_2 (Int.toNat x_61) true) true _ _ s10 s11 (by first | (simp only [go_sem]; done) | rfl) s59 s60 s61 (by simp only [go_sem, Q1, Qj]) (by simp only [go_sem, Q0]) (by simp only [go_sem]) (by simp only [go_sem, Qo]) Qj hm2
        ·rw [b0q hc40] at hm2
         simp only [b0s, b02, b0f]
         exact J28 calm_11_0_2 more_14_1 _ _ s10 s11 s14 s59 s60 s61 Q1 Q0 Qg Qo Qj hm2
      ·rw [b0q hc26] at hm2
       simp only [b09, b1b, b1a, b02, b0f]
       obtain rfl := sI9 hm2
       obtain rfl := hb24 _ rfl
       try dsimp only at hm1
       exact J23 calm_11_0_2 more_14_1 _ _ s10 s11 s14 Q1 Q0 Qg Qo Qj hm1
    ·rw [b0q hc21] at hm1
     simp only [b09, b1b, b1a, b0f]
     obtain rfl := sI9 hm1
     obtain rfl := hb19 _ rfl
     try dsimp only at hm0
     exact J14 calm_11_0_1 _ _ s10 s11 Q1 Q0 Qg Qo Qj hm0
  simp only [b0u]
  obtain ⟨b43, hl43, hm0⟩ := b0g hm0
  refine b1j hl43 (fun | (calm_11_0, x_41), t, h => ∃ i9 : Nat, ∃ i11 : Nat, ∃ i11_1 : Nat, t 2 = .fs 1 (List.map b0t rest) /\ t 9 = .rp i9 0 0 /\ t 10 = .fp [.fs 3 (List.map b1g y8.places), .fs 1 (List.map eI y8.from_), .fs 1 (List.map eI y8.by_), .fs 1 (List.map b2f y8.next)] 0 /\ t 11 = .rp i11 0 0 /\ t 39 = .fs 3 (List.map b1g y8.places) /\ t 40 = I (List.length y8.places : Int) /\ t 41 = I x_41 /\ h.ob i9 = some (5, [[.fs 1 (List.map eS ((((b3h m).Plant).Machine).Inputs)), .fs 1 (List.map eS ((((b3h m).Plant).Machine).Outputs)), .fs 2 (List.map b0o ((((b3h m).Plant).Machine).Counters)), .fs 2 (List.map b0p ((((b3h m).Plant).Machine).States)), .fs 4 (List.map b0m ((((b3h m).Plant).Machine).Rules))]]) /\ i9 < h.nx /\ h.ob i11 = some (1, [[.rs i11_1 0 (List.length calm_11_0)]]) /\ i11 < h.nx /\ h.ob i11_1 = some (1, List.map eB calm_11_0) /\ i11_1 < h.nx /\ ¬i9 = i11 /\ ¬i9 = i11_1 /\ ¬i11 = i11_1) ?_ ?_
  ·exact ⟨(nxs h.nx), (nxs (nxs (nxs h.nx))), (nxs (nxs h.nx)), s2, (by first | (simp only [go_sem]; done) | rfl), (by first | (simp only [go_sem]; done) | rfl), (by first | (simp only [go_sem]; done) | rfl), (by first | (simp only [go_sem]; done) | rfl), (by first | (simp only [go_sem]; done) | rfl), (by first | (simp only [go_sem]; done) | rfl), (by simp only [go_sem]), (by simp only [go_sem]), (by simp only [go_sem]), (by simp only [go_sem]), (by simp only [go_sem]), (by simp only [go_sem]), (by first | first | assumption | omega | (simp only [nxs] <;> omega)), (by first | first | assumption | omega | (simp only [nxs] <;> omega)), (by first | first | assumption | omega | (simp only [nxs] <;> omega))⟩
  ·rintro ⟨calm_11_0, x_41⟩ o t h ⟨i9, i11, i11_1, s2, s9, s10, s11, s39, s40, s41, Q18, Q1d, Q1, Q0, Qg, Qo, Q1r, Q1n, Qj⟩ hm1 hb43
   simp only [b9t] at hm1
   rw [g38]
   refine b0b fun K hK => ?_
   simp only [go_sem, s40, s41]
   refine hK _ _ ?_
   clear hK K
   refine b0i fun K44 hK44 => ?_
   simp only [go_sem]
   refine b0k (fun hc45 => ?_) (fun hc45 => ?_)
   ·rw [b0r hc45] at hm1
    simp only [b0s, b0f]
    refine hK44 _ _ ?_
    refine b0i fun K46 hK46 => ?_
    simp only [b0u]
    obtain ⟨x48, h_x48, hm1⟩ := b0g hm1
    have h_x480 := b05 h_x48
    have h_x481 := b06 h_x48
    refine b0b fun K hK => ?_
    simp only [go_sem, s39, s41, b08 h_x48, h_x481]
    refine hK _ _ ?_
    clear hK K
    obtain ⟨y51, h_y51, hm1⟩ := b0g hm1
    obtain ⟨x52, h_x52, hm1⟩ := b0g hm1
    have h_x520 := b05 h_x52
    have h_x521 := b06 h_x52
    refine b03 fun K hK => ?_
    simp only [go_sem, s2, s9, s11, Q18, Q1d, Q1, Q0]
    refine b01 (b52 (situation_Plant.mk (((b3h m).Plant).Machine)) rest (Place.mk x48.State (x48.Values.1, x48.Values.2)) 0 _ h_y51) ?_
    simp only [go_sem, Qg, Qo, b3n h_x52, h_x520, h_x521]
    refine hK _ _ ?_
    clear hK K
    simp only [b02, b0f]
    refine hK46 _ _ ?_
    refine b03 fun K hK => ?_
    simp only [go_sem, s41]
    refine hK _ _ ?_
    clear hK K
    simp only [b0f]
    obtain rfl := sI9 hm1
    refine ⟨_, rfl, ?_⟩
    exact ⟨i9, i11, i11_1, s2, s9, s10, s11, s39, s40, (by first | (simp only [go_sem]; done) | rfl), (by simp only [go_sem, Q18, Q1d, Q1n]), (by simp only [go_sem, Q1d]), (by simp only [go_sem, Q1, Q0, Qj]), (by simp only [go_sem, Q0]), (by simp only [go_sem]), (by simp only [go_sem, Qo]), Q1r, Q1n, Qj⟩
   ·rw [b0q hc45] at hm1
    simp only [b09, b1b, b1a, b0f]
    obtain rfl := sI9 hm1
    obtain rfl := hb43 _ rfl
    try dsimp only at hm0
    exact J12 calm_11_0 i11 i11_1 _ _ s10 s11 Q1 Q0 Qg Qo Qj hm0
theorem d26 (hf : Has O "newel/control.Trap$1" x_control_TrapD1) : c98 O := by
 intro to_ c0 r hm0
 unfold b60 at hm0
 refine b1i hf rfl (b0a (b0e _) (b0a (.fp _ _ (b0a (b0c fun a _ => b8h a) b0j)) b0j)) (b0e _) ?_
 refine b1c (fun t h => t 0 = I to_ /\ t 1 = .fp [.fs 1 (List.map eB c0)] 0) ⟨rfl, rfl⟩ fun t h ⟨s0, s1⟩ => ?_
 simp only [x_control_TrapD1]
 refine b0b fun K hK => ?_
 simp only [go_sem]
 refine hK _ _ ?_
 clear hK K
 obtain ⟨c4, h_c4, hm0⟩ := b0g hm0
 refine b2p (fun t h => t 3 = B c4) (fun K hK => ?_) ?_
 ·simp only [go_sem, s0]
  refine b0k (fun hg5 => ?_) (fun hg5 => ?_)
  ·simp only [hg5, eq_self, if_true] at h_c4
   obtain ⟨x3, h_x3, h_c4⟩ := b0g h_c4
   have h_x30 := b05 h_x3
   have h_x31 := b06 h_x3
   obtain rfl := sI9 h_c4
   simp only [go_sem, s0, s1, b08 h_x3, h_x30]
   exact hK _ _ (by first | (simp only [go_sem]; done) | rfl)
  ·simp only [hg5, if_false, fT9] at h_c4
   obtain rfl := sI9 h_c4
   simp only [go_sem, hg5]
   exact hK _ _ (by first | (simp only [go_sem]; done) | rfl)
 ·rintro t h s3
  simp only [b0x, b0y]
  obtain rfl := sI9 hm0
  exact b04 (by simp only [go_sem, s3]) (b0e _)
theorem d27 (hf : Has O "newel/control.Trap$2" x_control_TrapD2) : c99 O := by
 intro at_ c0 r hm0
 unfold b9s at hm0
 refine b1i hf rfl (b0a (b0e _) (b0a (.fp _ _ (b0a (b0c fun a _ => b8h a) b0j)) b0j)) (b0e _) ?_
 refine b1c (fun t h => t 0 = I at_ /\ t 1 = .fp [.fs 1 (List.map eB c0)] 0) ⟨rfl, rfl⟩ fun t h ⟨s0, s1⟩ => ?_
 simp only [x_control_TrapD2]
 refine b0b fun K hK => ?_
 simp only [go_sem]
 refine hK _ _ ?_
 clear hK K
 obtain ⟨x2, h_x2, hm0⟩ := b0g hm0
 have h_x20 := b05 h_x2
 have h_x21 := b06 h_x2
 refine b0b fun K hK => ?_
 simp only [go_sem, s0, s1, b08 h_x2]
 refine hK _ _ ?_
 clear hK K
 simp only [b0x, b0y]
 obtain rfl := sI9 hm0
 exact b04 (by simp only [go_sem]) (b0e _)
theorem c3e (hf : Has O "newel/control.check" x_control_check) (d24 : c96 O) (c3p : c5t O) : c5g O := by
 intro m conds r hm0
 unfold b9x at hm0
 refine b1i hf rfl (b0a (fM _) (b0a (b0c fun a _ => b97 a) b0j)) (b0e _) ?_
 refine b1c (fun t h => t 0 = .agg (vM m) /\ t 1 = .fs 1 (List.map b4v conds)) ⟨rfl, rfl⟩ fun t h ⟨s0, s1⟩ => ?_
 simp only [x_control_check]
 refine b0b fun K hK => ?_
 simp only [go_sem, s0]
 refine hK _ _ ?_
 clear hK K
 refine b0v ?_
 obtain ⟨y2, h_y2, hm0⟩ := b0g hm0
 refine b0b fun K hK => ?_
 simp only [go_sem]
 refine b01 (d24 m _ h_y2) ?_
 simp only [go_sem]
 refine hK _ _ ?_
 clear hK K
 refine b0v ?_
 refine b0b fun K hK => ?_
 simp only [go_sem]
 refine hK _ _ ?_
 clear hK K
 refine b0i fun K3 hK3 => ?_
 simp only [go_sem]
 refine b0k (fun hc4 => ?_) (fun hc4 => ?_)
 ·rw [b0r hc4] at hm0
  refine b0b fun K hK => ?_
  simp only [go_sem]
  refine hK _ _ ?_
  clear hK K
  simp only [b0x, b1p, b0y]
  obtain rfl := sI9 hm0
  exact b04 (by simp only [go_sem]) (b0e _)
 ·rw [b0q hc4] at hm0
  simp only [b0s, b0f]
  refine hK3 _ _ ?_
  refine b0v ?_
  refine b0b fun K hK => ?_
  simp only [go_sem, s1]
  refine hK _ _ ?_
  clear hK K
  refine b0i fun K5 hK5 => ?_
  have J6 : ∀ (t : Slots) (h : Heap), d1j = some r -> K5 t h := by
   intro t h hm0
   refine hK5 _ _ ?_
   unfold d1j at hm0
   refine b0b fun K hK => ?_
   simp only [go_sem]
   refine hK _ _ ?_
   clear hK K
   simp only [b0x, b0y]
   obtain rfl := sI9 hm0
   exact b04 (by simp only [go_sem]) (b0e _)
  simp only [b0u]
  obtain ⟨b7, hl7, hm0⟩ := b0g hm0
  refine b1j hl7 (fun | x_15, t, h => t 2 = .fp (vM m) 0 /\ t 13 = .fs 1 (List.map b4v conds) /\ t 14 = I (List.length conds : Int) /\ t 15 = I x_15) ?_ ?_
  ·exact ⟨(by first | (simp only [go_sem]; done) | rfl), (by first | (simp only [go_sem]; done) | rfl), (by first | (simp only [go_sem]; done) | rfl), (by first | (simp only [go_sem]; done) | rfl)⟩
  ·rintro x_15 o t h ⟨s2, s13, s14, s15⟩ hm1 hb7
   simp only [c2i] at hm1
   rw [g4b]
   refine b0b fun K hK => ?_
   simp only [go_sem, s14, s15]
   refine hK _ _ ?_
   clear hK K
   refine b0i fun K8 hK8 => ?_
   simp only [go_sem]
   refine b0k (fun hc9 => ?_) (fun hc9 => ?_)
   ·rw [b0r hc9] at hm1
    simp only [b0s, b0f]
    refine hK8 _ _ ?_
    refine b0i fun K10 hK10 => ?_
    simp only [b0u]
    obtain ⟨x12, h_x12, hm1⟩ := b0g hm1
    have h_x120 := b05 h_x12
    have h_x121 := b06 h_x12
    refine b0b fun K hK => ?_
    simp only [go_sem, s13, s15, b08 h_x12, h_x121]
    refine hK _ _ ?_
    clear hK K
    obtain ⟨y14, h_y14, hm1⟩ := b0g hm1
    refine b0b fun K hK => ?_
    simp only [go_sem, s2]
    refine b01 (c3p m x12 _ h_y14) ?_
    simp only [go_sem]
    refine hK _ _ ?_
    clear hK K
    simp only [go_sem]
    refine b0k (fun hc15 => ?_) (fun hc15 => ?_)
    ·rw [b0r hc15] at hm1
     refine b0b fun K hK => ?_
     simp only [go_sem]
     refine hK _ _ ?_
     clear hK K
     simp only [b0x, b1p, b2e, b0y]
     obtain rfl := sI9 hm1
     obtain rfl := hb7 _ rfl
     try dsimp only at hm0
     obtain rfl := sI9 hm0
     exact b04 (by simp only [go_sem]) (b0e _)
    ·rw [b0q hc15] at hm1
     simp only [b0s, b02, b0f]
     refine hK10 _ _ ?_
     refine b03 fun K hK => ?_
     simp only [go_sem, s15]
     refine hK _ _ ?_
     clear hK K
     simp only [b0f]
     obtain rfl := sI9 hm1
     refine ⟨_, rfl, ?_⟩
     exact ⟨s2, s13, s14, (by first | (simp only [go_sem]; done) | rfl)⟩
   ·rw [b0q hc9] at hm1
    simp only [b09, b1b, b1a, b0f]
    obtain rfl := sI9 hm1
    obtain rfl := hb7 _ rfl
    try dsimp only at hm0
    exact J6  _ _  hm0
theorem c3f (hf : Has O "newel/control.of" x_control_of) : c5h O := by
 intro m
 generalize hm0 : b3h m = r
 unfold b3h at hm0
 refine b1i hf rfl (b0a (fM _) b0j) (fM _) ?_
 refine b1c (fun t h => t 0 = .agg (vM m)) rfl fun t h s0 => ?_
 simp only [x_control_of]
 refine b0b fun K hK => ?_
 simp only [go_sem, s0]
 refine hK _ _ ?_
 clear hK K
 refine b0b fun K hK => ?_
 simp only [go_sem]
 refine hK _ _ ?_
 clear hK K
 simp only [b0x, b0y]
 obtain rfl := hm0
 exact b90 (id := h.nx) (m := 5) (cs := (vM m)) (by simp only [go_sem]) (by simp only [go_sem]) rfl (.refl _ (fM _))
theorem c3g (hf : Has O "newel/control.same" x_control_same) : c5i O := by
 intro input
 generalize hm0 : b6f input = r
 unfold b6f at hm0
 refine b1i hf rfl (b0a (b0e _) b0j) (b0e _) ?_
 refine b1c (fun t h => t 0 = I input) rfl fun t h s0 => ?_
 simp only [x_control_same]
 refine b0b fun K hK => ?_
 simp only [go_sem]
 refine hK _ _ ?_
 clear hK K
 refine b0b fun K hK => ?_
 simp only [go_sem, s0]
 refine hK _ _ ?_
 clear hK K
 simp only [b0x, b0y]
 obtain rfl := hm0
 exact b04 (by simp only [go_sem]) (b0e _)
theorem p7l (hf : Has O "newel/newellaw04.ControlHome" x_l04_ControlHome) (d28 : d0a O) (c3j : c5l O) (k_l04_works : d5r O) (d25 : c97 O) (p2z : p2p O) (p2k : p2r O) (p60 : p65 O) : p67 O := by
 intro m c run r hm0
 unfold p6v at hm0
 refine b1i hf rfl (b0a (fM _) (b0a (.agg _ (b0a (b0c fun a _ => b2j a) (b0a (b0c fun a _ => b2j a) b0j))) (b0a (b0c fun a _ => b1t a) b0j))) (b0e _) ?_
 refine b1c (fun t h => t 0 = .agg (vM m) /\ t 1 = .agg [.fs 1 (List.map b0t c.Assume), .fs 1 (List.map b0t c.Never)] /\ t 2 = .fs 1 (List.map eI run)) ⟨rfl, rfl, rfl⟩ fun t h ⟨s0, s1, s2⟩ => ?_
 simp only [x_l04_ControlHome]
 refine b0b fun K hK => ?_
 simp only [go_sem, s0, s1]
 refine hK _ _ ?_
 clear hK K
 refine b0v ?_
 obtain ⟨y4, h_y4, hm0⟩ := b0g hm0
 obtain ⟨c6, h_c6, hm0⟩ := b0g hm0
 refine b2p (fun t h => t 2 = .fs 1 (List.map eI run) /\ t 3 = .fp (vM m) 0 /\ t 4 = .fp [.fs 1 (List.map b0t c.Assume), .fs 1 (List.map b0t c.Never)] 0 /\ t 32 = B (c6 || (decide (60 < (List.length run : Int))))) (fun K hK => ?_) ?_
 ·simp only [go_sem]
  refine b01 (d28 m _ h_y4) ?_
  simp only [go_sem]
  refine b0k (fun hg7 => ?_) (fun hg7 => ?_)
  ·simp only [hg7, eq_self, if_true] at h_c6
   obtain rfl := sI9 h_c6
   simp only [go_sem, hg7]
   exact hK _ _ ⟨s2, (by first | (simp only [go_sem]; done) | rfl), (by first | (simp only [go_sem]; done) | rfl), (by first | (simp only [go_sem]; done) | rfl)⟩
  ·simp only [hg7, if_false, fT9] at h_c6
   obtain ⟨y5, h_y5, h_c6⟩ := b0g h_c6
   obtain rfl := sI9 h_c6
   simp only [go_sem, hg7]
   refine b8l ?_ (c3j m ([c.Assume, c.Never]) _ h_y5) (.v _) ?_
   ·exact .cons (.refl _ (fM _)) (.cons (b29 (f := b4v) (l := ([c.Assume, c.Never])) (id := h.nx) (by simp only [go_sem]) (by first | rfl | simp only [go_sem, lA9, mA9]) b97 c7o) (.nil))
   simp only [go_sem, hg7]
   refine b0k (fun hg8 => ?_) (fun hg8 => ?_)
   ·simp only [go_sem, hg7, hg8]
    exact hK _ _ ⟨s2, (by first | (simp only [go_sem]; done) | rfl), (by first | (simp only [go_sem]; done) | rfl), (by first | (simp only [go_sem, hg8]; done) | rfl)⟩
   ·simp only [go_sem, s2, hg7, hg8]
    exact hK _ _ ⟨s2, (by first | (simp only [go_sem]; done) | rfl), (by first | (simp only [go_sem]; done) | rfl), (by first | (simp only [go_sem, hg8]; done) | rfl)⟩
 ·rintro t h ⟨s2, s3, s4, s32⟩
  refine b0i fun K9 hK9 => ?_
  simp only [go_sem, s32]
  refine b0k (fun hc10 => ?_) (fun hc10 => ?_)
  ·rw [b0r hc10] at hm0
   obtain ⟨y12, h_y12, hm0⟩ := b0g hm0
   refine b0b fun K hK => ?_
   simp only [go_sem]
   refine b01 (k_l04_works  _ h_y12) ?_
   simp only [go_sem]
   refine hK _ _ ?_
   clear hK K
   simp only [b0x, b1p, b0y]
   obtain rfl := sI9 hm0
   exact b04 (by simp only [go_sem]) (b0e _)
  ·rw [b0q hc10] at hm0
   simp only [b0s, b0f]
   refine hK9 _ _ ?_
   obtain ⟨y14, h_y14, hm0⟩ := b0g hm0
   refine b0b fun K hK => ?_
   simp only [go_sem, s3, s4]
   refine b01 (d25 m c.Assume c.Never _ h_y14) ?_
   simp only [go_sem]
   refine hK _ _ ?_
   clear hK K
   obtain ⟨y16, h_y16, hm0⟩ := b0g hm0
   refine b0b fun K hK => ?_
   simp only [go_sem, s3, s4]
   refine b01 (p2z m c.Assume _ h_y16) ?_
   simp only [go_sem]
   refine hK _ _ ?_
   clear hK K
   refine b0v ?_
   refine b2p (fun t h => t 2 = .fs 1 (List.map eI run) /\ t 3 = .fp (vM m) 0 /\ t 4 = .fp [.fs 1 (List.map b0t c.Assume), .fs 1 (List.map b0t c.Never)] 0 /\ t 7 = .fs 1 (List.map eI y14.1) /\ t 8 = B y14.2.1 /\ t 10 = .fs 3 (List.map b1g y16.1) /\ t 56 = B ((decide (¬y14.2.2 = 0)) || (decide (¬y16.2 = 0)))) (fun K hK => ?_) ?_
   ·simp only [go_sem]
    refine b0k (fun hg17 => ?_) (fun hg17 => ?_)
    ·simp only [go_sem, hg17]
     exact hK _ _ ⟨s2, s3, s4, (by first | (simp only [go_sem]; done) | rfl), (by first | (simp only [go_sem]; done) | rfl), (by first | (simp only [go_sem]; done) | rfl), (by first | (simp only [go_sem, hg17]; done) | rfl)⟩
    ·simp only [go_sem, hg17]
     exact hK _ _ ⟨s2, s3, s4, (by first | (simp only [go_sem]; done) | rfl), (by first | (simp only [go_sem]; done) | rfl), (by first | (simp only [go_sem]; done) | rfl), (by first | (simp only [go_sem, hg17]; done) | rfl)⟩
   ·rintro t h ⟨s2, s3, s4, s7, s8, s10, s56⟩
    refine b0i fun K18 hK18 => ?_
    simp only [go_sem, s56]
    refine b0k (fun hc19 => ?_) (fun hc19 => ?_)
    ·rw [b0r hc19] at hm0
     refine b0b fun K hK => ?_
     simp only [go_sem]
     refine hK _ _ ?_
     clear hK K
     simp only [b0x, b1p, b0y]
     obtain rfl := sI9 hm0
     exact b04 (by simp only [go_sem]) (b0e _)
    ·rw [b0q hc19] at hm0
     simp only [b0s, b0f]
     refine hK18 _ _ ?_
     refine b0v ?_
     refine b0b fun K hK => ?_
     simp only [go_sem, s8]
     refine hK _ _ ?_
     clear hK K
     refine b0i fun K20 hK20 => ?_
     simp only [go_sem]
     refine b0k (fun hc21 => ?_) (fun hc21 => ?_)
     ·rw [b0r hc21] at hm0
      obtain ⟨y23, h_y23, hm0⟩ := b0g hm0
      refine b0b fun K hK => ?_
      simp only [go_sem, s3, s4, s7]
      refine b01 (p2k m y14.1 c.Assume (-1) 0 _ h_y23) ?_
      simp only [go_sem]
      refine hK _ _ ?_
      clear hK K
      obtain ⟨c31, h_c31, hm0⟩ := b0g hm0
      obtain ⟨c33, h_c33, hm0⟩ := b0g hm0
      refine b2p (fun t h => t 6 = B c33) (fun K hK => ?_) ?_
      ·simp only [go_sem]
       refine b0k (fun hg34 => ?_) (fun hg34 => ?_)
       ·simp only [hg34, eq_self, if_true] at h_c31
        obtain ⟨x29, h_x29, h_c31⟩ := b0g h_c31
        have h_x290 := b05 h_x29
        have h_x291 := b06 h_x29
        obtain ⟨y30, h_y30, h_c31⟩ := b0g h_c31
        obtain rfl := sI9 h_c31
        simp only [go_sem, s3, s4, s10, b08 h_x29, hg34]
        refine b01 (p60 m y16.1 x29 c.Assume c.Never _ h_y30) ?_
        simp only [go_sem, hg34]
        refine b0k (fun hg35 => ?_) (fun hg35 => ?_)
        ·simp only [hg35, eq_self, if_true] at h_c33
         obtain ⟨y32, h_y32, h_c33⟩ := b0g h_c33
         obtain rfl := sI9 h_c33
         simp only [go_sem, hg34, hg35]
         refine b01 (k_l04_works  _ h_y32) ?_
         simp only [go_sem, hg34, hg35]
         exact hK _ _ (by first | (simp only [go_sem]; done) | rfl)
        ·simp only [hg35, if_false, fT9] at h_c33
         obtain rfl := sI9 h_c33
         simp only [go_sem, hg34, hg35]
         exact hK _ _ (by first | (simp only [go_sem]; done) | rfl)
       ·simp only [hg34, if_false, fT9] at h_c31
        obtain rfl := sI9 h_c31
        simp only [if_false, fT9] at h_c33
        obtain rfl := sI9 h_c33
        simp only [go_sem, hg34]
        exact hK _ _ (by first | (simp only [go_sem]; done) | rfl)
      ·rintro t h s6
       simp only [b0x, b1p, b0y]
       obtain rfl := sI9 hm0
       exact b04 (by simp only [go_sem, s6]) (b0e _)
     ·rw [b0q hc21] at hm0
      simp only [b0s, b0f]
      refine hK20 _ _ ?_
      obtain ⟨y37, h_y37, hm0⟩ := b0g hm0
      refine b0b fun K hK => ?_
      simp only [go_sem, s2, s3, s4]
      refine b01 (p2k m run c.Assume (-1) 0 _ h_y37) ?_
      simp only [go_sem]
      refine hK _ _ ?_
      clear hK K
      refine b0v ?_
      refine b0b fun K hK => ?_
      simp only [go_sem]
      refine hK _ _ ?_
      clear hK K
      refine b0i fun K38 hK38 => ?_
      simp only [go_sem]
      refine b0k (fun hc39 => ?_) (fun hc39 => ?_)
      ·rw [b0r hc39] at hm0
       obtain ⟨y41, h_y41, hm0⟩ := b0g hm0
       refine b0b fun K hK => ?_
       simp only [go_sem]
       refine b01 (k_l04_works  _ h_y41) ?_
       simp only [go_sem]
       refine hK _ _ ?_
       clear hK K
       simp only [b0x, b1p, b0y]
       obtain rfl := sI9 hm0
       exact b04 (by simp only [go_sem]) (b0e _)
      ·rw [b0q hc39] at hm0
       simp only [b0s, b0f]
       refine hK38 _ _ ?_
       obtain ⟨x46, h_x46, hm0⟩ := b0g hm0
       have h_x460 := b05 h_x46
       have h_x461 := b06 h_x46
       obtain ⟨y47, h_y47, hm0⟩ := b0g hm0
       obtain ⟨c49, h_c49, hm0⟩ := b0g hm0
       refine b2p (fun t h => t 6 = B c49) (fun K hK => ?_) ?_
       ·simp only [go_sem, s3, s4, s10, b08 h_x46]
        refine b01 (p60 m y16.1 x46 c.Assume c.Never _ h_y47) ?_
        simp only [go_sem]
        refine b0k (fun hg50 => ?_) (fun hg50 => ?_)
        ·simp only [hg50, eq_self, if_true] at h_c49
         obtain ⟨y48, h_y48, h_c49⟩ := b0g h_c49
         obtain rfl := sI9 h_c49
         simp only [go_sem, hg50]
         refine b01 (k_l04_works  _ h_y48) ?_
         simp only [go_sem, hg50]
         exact hK _ _ (by first | (simp only [go_sem]; done) | rfl)
        ·simp only [hg50, if_false, fT9] at h_c49
         obtain rfl := sI9 h_c49
         simp only [go_sem, hg50]
         exact hK _ _ (by first | (simp only [go_sem]; done) | rfl)
       ·rintro t h s6
        simp only [b0x, b0y]
        obtain rfl := sI9 hm0
        exact b04 (by simp only [go_sem, s6]) (b0e _)
theorem d28 (hf : Has O "newel/newellaw04.Wide" x_l04_Wide) (c3i : c5k O) : d0a O := by
 intro m r hm0
 unfold b8o at hm0
 refine b1i hf rfl (b0a (fM _) b0j) (b0e _) ?_
 refine b1c (fun t h => t 0 = .agg (vM m)) rfl fun t h s0 => ?_
 simp only [x_l04_Wide]
 refine b0b fun K hK => ?_
 simp only [go_sem, s0]
 refine hK _ _ ?_
 clear hK K
 refine b0v ?_
 obtain ⟨y2, h_y2, hm0⟩ := b0g hm0
 refine b0b fun K hK => ?_
 simp only [go_sem]
 refine b01 (c3i m _ h_y2) ?_
 simp only [go_sem]
 refine hK _ _ ?_
 clear hK K
 refine b0i fun K3 hK3 => ?_
 simp only [go_sem]
 refine b0k (fun hc4 => ?_) (fun hc4 => ?_)
 ·rw [b0r hc4] at hm0
  refine b0b fun K hK => ?_
  simp only [go_sem]
  refine hK _ _ ?_
  clear hK K
  simp only [b0x, b1p, b0y]
  obtain rfl := sI9 hm0
  exact b04 (by simp only [go_sem]) (b0e _)
 ·rw [b0q hc4] at hm0
  simp only [b0s, b0f]
  refine hK3 _ _ ?_
  refine b0b fun K hK => ?_
  simp only [go_sem]
  refine hK _ _ ?_
  clear hK K
  refine b0v ?_
  refine b0b fun K hK => ?_
  simp only [go_sem]
  refine hK _ _ ?_
  clear hK K
  refine b0i fun K5 hK5 => ?_
  have J6 : ∀ (places_3 : Int) (t : Slots) (h : Heap), t 1 = .fp (vM m) 0 -> t 3 = I places_3 -> d31 m places_3 = some r -> K5 t h := by
   intro places_3 t h s1 s3 hm0
   refine hK5 _ _ ?_
   unfold d31 at hm0
   refine b2p (fun t h => t 2 = B ((decide (3 < (List.length m.Inputs : Int))) || (decide (80 < places_3)))) (fun K hK => ?_) ?_
   ·simp only [go_sem, s1]
    refine b0k (fun hg7 => ?_) (fun hg7 => ?_)
    ·simp only [go_sem, hg7]
     exact hK _ _ (by first | (simp only [go_sem, hg7]; done) | rfl)
    ·simp only [go_sem, s3, hg7]
     exact hK _ _ (by first | (simp only [go_sem, hg7]; done) | rfl)
   ·rintro t h s2
    simp only [b0x, b0y]
    obtain rfl := sI9 hm0
    exact b04 (by simp only [go_sem, s2]) (b0e _)
  simp only [b0u]
  obtain ⟨b8, hl8, hm0⟩ := b0g hm0
  refine b1j hl8 (fun | (places_3, i_4), t, h => t 1 = .fp (vM m) 0 /\ t 3 = I places_3 /\ t 4 = I i_4) ?_ ?_
  ·exact ⟨(by first | (simp only [go_sem]; done) | rfl), (by first | (simp only [go_sem]; done) | rfl), (by first | (simp only [go_sem]; done) | rfl)⟩
  ·rintro ⟨places_3, i_4⟩ o t h ⟨s1, s3, s4⟩ hm1 hb8
   simp only [c3s] at hm1
   rw [g4c]
   refine b0v ?_
   refine b0b fun K hK => ?_
   simp only [go_sem, s1, s4]
   refine hK _ _ ?_
   clear hK K
   refine b0i fun K9 hK9 => ?_
   simp only [go_sem]
   refine b0k (fun hc10 => ?_) (fun hc10 => ?_)
   ·rw [b0r hc10] at hm1
    simp only [b0s, b0f]
    refine hK9 _ _ ?_
    refine b0i fun K11 hK11 => ?_
    simp only [b0u]
    obtain ⟨x13, h_x13, hm1⟩ := b0g hm1
    have h_x130 := b05 h_x13
    have h_x131 := b06 h_x13
    refine b03 fun K hK => ?_
    simp only [go_sem, s1, s3, s4, b08 h_x13, h_x131]
    refine hK _ _ ?_
    clear hK K
    simp only [b02, b0f]
    refine hK11 _ _ ?_
    refine b03 fun K hK => ?_
    simp only [go_sem, s4]
    refine hK _ _ ?_
    clear hK K
    simp only [b0f]
    obtain rfl := sI9 hm1
    refine ⟨_, rfl, ?_⟩
    exact ⟨s1, (by first | (simp only [go_sem]; done) | rfl), (by first | (simp only [go_sem]; done) | rfl)⟩
   ·rw [b0q hc10] at hm1
    simp only [b09, b1b, b1a, b0f]
    obtain rfl := sI9 hm1
    obtain rfl := hb8 _ rfl
    try dsimp only at hm0
    exact J6 places_3 _ _ s1 s3 hm0
theorem p6z (hf : Has O "newel/newellaw04.has" x_l04_has) : p64 O := by
 intro l p r hm0
 unfold p6s at hm0
 refine b1i hf rfl (b0a (b0c fun a _ => b44 a) (b0a (.agg _ (b0a (b0e _) (b0a (b0e _) (b0a (b0e _) b0j)))) b0j)) (b0e _) ?_
 refine b1c (fun t h => t 0 = .fs 3 (List.map b1g l) /\ t 1 = .agg [I p.State, I p.Values.1, I p.Values.2]) ⟨rfl, rfl⟩ fun t h ⟨s0, s1⟩ => ?_
 simp only [x_l04_has]
 refine b0b fun K hK => ?_
 simp only [go_sem, s1]
 refine hK _ _ ?_
 clear hK K
 refine b0v ?_
 refine b0b fun K hK => ?_
 simp only [go_sem]
 refine hK _ _ ?_
 clear hK K
 refine b0i fun K1 hK1 => ?_
 have J2 : ∀ (t : Slots) (h : Heap), p61 = some r -> K1 t h := by
  intro t h hm0
  refine hK1 _ _ ?_
  unfold p61 at hm0
  refine b0b fun K hK => ?_
  simp only [go_sem]
  refine hK _ _ ?_
  clear hK K
  simp only [b0x, b0y]
  obtain rfl := sI9 hm0
  exact b04 (by simp only [go_sem]) (b0e _)
 simp only [b0u]
 obtain ⟨b3, hl3, hm0⟩ := b0g hm0
 refine b1j hl3 (fun | i_5, t, h => t 0 = .fs 3 (List.map b1g l) /\ t 3 = .fp [I p.State, I p.Values.1, I p.Values.2] 0 /\ t 5 = I i_5) ?_ ?_
 ·exact ⟨s0, (by first | (simp only [go_sem]; done) | rfl), (by first | (simp only [go_sem]; done) | rfl)⟩
 ·rintro i_5 o t h ⟨s0, s3, s5⟩ hm1 hb3
  simp only [p6t] at hm1
  rw [p7b]
  refine b0v ?_
  refine b0b fun K hK => ?_
  simp only [go_sem, s0, s5]
  refine hK _ _ ?_
  clear hK K
  refine b0i fun K4 hK4 => ?_
  simp only [go_sem]
  refine b0k (fun hc5 => ?_) (fun hc5 => ?_)
  ·rw [b0r hc5] at hm1
   simp only [b0s, b0f]
   refine hK4 _ _ ?_
   refine b0i fun K6 hK6 => ?_
   simp only [b0u]
   obtain ⟨x8, h_x8, hm1⟩ := b0g hm1
   have h_x80 := b05 h_x8
   have h_x81 := b06 h_x8
   refine b0b fun K hK => ?_
   simp only [go_sem, s0, s3, s5, b08 h_x8, h_x81]
   refine hK _ _ ?_
   clear hK K
   simp only [go_sem]
   refine b0k (fun hc9 => ?_) (fun hc9 => ?_)
   ·rw [b0r hc9] at hm1
    refine b0b fun K hK => ?_
    simp only [go_sem]
    refine hK _ _ ?_
    clear hK K
    simp only [b0x, b1p, b2e, b0y]
    obtain rfl := sI9 hm1
    obtain rfl := hb3 _ rfl
    try dsimp only at hm0
    obtain rfl := sI9 hm0
    exact b04 (by simp only [go_sem]) (b0e _)
   ·rw [b0q hc9] at hm1
    simp only [b0s, b02, b0f]
    refine hK6 _ _ ?_
    refine b03 fun K hK => ?_
    simp only [go_sem, s5]
    refine hK _ _ ?_
    clear hK K
    simp only [b0f]
    obtain rfl := sI9 hm1
    refine ⟨_, rfl, ?_⟩
    exact ⟨s0, s3, (by first | (simp only [go_sem]; done) | rfl)⟩
  ·rw [b0q hc5] at hm1
   simp only [b09, b1b, b1a, b0f]
   obtain rfl := sI9 hm1
   obtain rfl := hb3 _ rfl
   try dsimp only at hm0
   exact J2  _ _  hm0
theorem p2k (hf : Has O "newel/newellaw04.played" x_l04_played) (c3h : c5j O) (d3b : d0e O) (p20 : p2q O) (o8i : o8d O) : p2r O := by
 intro m inputs assume input value r hm0
 unfold p16 at hm0
 refine b1i hf rfl (b0a (fM _) (b0a (b0c fun a _ => b1t a) (b0a (b0c fun a _ => b2j a) (b0a (b0e _) (b0a (b0e _) b0j))))) (.tup _ (b0a (b0c fun a _ => b44 a) (b0a (b0e _) b0j))) ?_
 refine b1c (fun t h => t 0 = .agg (vM m) /\ t 1 = .fs 1 (List.map eI inputs) /\ t 2 = .fs 1 (List.map b0t assume) /\ t 3 = I input /\ t 4 = I value) ⟨rfl, rfl, rfl, rfl, rfl⟩ fun t h ⟨s0, s1, s2, s3, s4⟩ => ?_
 simp only [x_l04_played]
 refine b0b fun K hK => ?_
 simp only [go_sem, s0]
 refine hK _ _ ?_
 clear hK K
 refine b0b fun K hK => ?_
 simp only [go_sem]
 refine hK _ _ ?_
 clear hK K
 refine b0v ?_
 refine b0b fun K hK => ?_
 simp only [go_sem]
 refine hK _ _ ?_
 clear hK K
 refine b0i fun K1 hK1 => ?_
 have J2 : ∀ (out_12 : List Place) (i12 : Nat) (t : Slots) (h : Heap), t 12 = .rs i12 0 (List.length out_12) -> h.ob i12 = some (3, List.map b1g out_12) -> i12 < h.nx -> p2l out_12 = some r -> K1 t h := by
  intro out_12 i12 t h s12 Q19 Q12 hm0
  refine hK1 _ _ ?_
  unfold p2l at hm0
  refine b0b fun K hK => ?_
  simp only [go_sem, s12]
  refine hK _ _ ?_
  clear hK K
  simp only [b0x, b0y]
  obtain rfl := sI9 hm0
  exact d66 (v := .rs i12 0 (List.length out_12)) (u := B true) (by simp only [go_sem]) (by simp only [go_sem]) (b29 (f := b1g) (l := out_12) (id := i12) (by simp only [go_sem, Q19]) (by first | rfl | simp only [go_sem, lA9, mA9]) b44 d32) (.refl _ (b0e _))
 simp only [b0u]
 obtain ⟨b3, hl3, hm0⟩ := b0g hm0
 refine b1j hl3 (fun | (out_12, i_13), t, h => ∃ i12 : Nat, t 1 = .fs 1 (List.map eI inputs) /\ t 2 = .fs 1 (List.map b0t assume) /\ t 3 = I input /\ t 4 = I value /\ t 5 = .fp (vM m) 0 /\ t 12 = .rs i12 0 (List.length out_12) /\ t 13 = I i_13 /\ h.ob i12 = some (3, List.map b1g out_12) /\ i12 < h.nx) ?_ ?_
 ·exact ⟨h.nx, s1, s2, s3, s4, (by first | (simp only [go_sem]; done) | rfl), (by first | (simp only [go_sem]; done) | rfl), (by first | (simp only [go_sem]; done) | rfl), (by simp only [go_sem]), (by simp only [go_sem])⟩
 ·rintro ⟨out_12, i_13⟩ o t h ⟨i12, s1, s2, s3, s4, s5, s12, s13, Q19, Q12⟩ hm1 hb3
  simp only [p19] at hm1
  rw [p3h]
  refine b0v ?_
  refine b0b fun K hK => ?_
  simp only [go_sem, s1, s13]
  refine hK _ _ ?_
  clear hK K
  refine b0i fun K4 hK4 => ?_
  simp only [go_sem]
  refine b0k (fun hc5 => ?_) (fun hc5 => ?_)
  ·rw [b0r hc5] at hm1
   simp only [b0s, b0f]
   refine hK4 _ _ ?_
   refine b0i fun K6 hK6 => ?_
   simp only [b0u]
   obtain ⟨x8, h_x8, hm1⟩ := b0g hm1
   have h_x80 := b05 h_x8
   have h_x81 := b06 h_x8
   refine b0b fun K hK => ?_
   simp only [go_sem, s12, s13, Q19, b3n h_x8, h_x80, h_x81]
   refine hK _ _ ?_
   clear hK K
   refine b0v ?_
   obtain ⟨x14, h_x14, hm1⟩ := b0g hm1
   have h_x140 := b05 h_x14
   have h_x141 := b06 h_x14
   obtain ⟨c16, h_c16, hm1⟩ := b0g hm1
   obtain ⟨c18, h_c18, hm1⟩ := b0g hm1
   refine b2p (fun t h => ∃ i14 : Nat, t 1 = .fs 1 (List.map eI inputs) /\ t 2 = .fs 1 (List.map b0t assume) /\ t 3 = I input /\ t 4 = I value /\ t 5 = .fp (vM m) 0 /\ t 12 = .rs i12 0 (List.length out_12) /\ t 13 = I i_13 /\ t 14 = .rp i14 0 0 /\ t 56 = B c18 /\ h.ob i12 = some (3, List.map b1g out_12) /\ i12 < h.nx /\ h.ob i14 = some (3, [[I x8.State, I x8.Values.1, I x8.Values.2]]) /\ i14 < h.nx /\ ¬i12 = i14) (fun K hK => ?_) ?_
   ·simp only [go_sem, s1, s13, b08 h_x14, h_x141]
    refine b0k (fun hg19 => ?_) (fun hg19 => ?_)
    ·simp only [hg19, eq_self, if_true] at h_c16
     obtain rfl := sI9 h_c16
     simp only [eq_self, if_true] at h_c18
     obtain rfl := sI9 h_c18
     simp only [go_sem, hg19]
     exact hK _ _ ⟨h.nx, s1, s2, s3, s4, s5, (by first | exact s12 | simp only [go_sem, s12, lA9, mA9]), s13, (by first | (simp only [go_sem]; done) | rfl), (by first | (simp only [go_sem]; done) | rfl), (by simp only [go_sem, Q19, Q12]), (by simp only [go_sem, Q12]), (by simp only [go_sem]), (by simp only [go_sem]), (by first | first | assumption | omega | (simp only [nxs] <;> omega))⟩
    ·simp only [hg19, if_false, fT9] at h_c16
     obtain ⟨q15, h_q15, h_c16⟩ := b0g h_c16
     obtain rfl := sI9 h_c16
     simp only [go_sem, s1, s5, s13, b08 h_x14, c21 h_q15, hg19]
     refine b0k (fun hg20 => ?_) (fun hg20 => ?_)
     ·simp only [hg20, eq_self, if_true] at h_c18
      obtain rfl := sI9 h_c18
      simp only [go_sem, hg19, hg20]
      exact hK _ _ ⟨h.nx, s1, s2, s3, s4, s5, (by first | exact s12 | simp only [go_sem, s12, lA9, mA9]), s13, (by first | (simp only [go_sem]; done) | rfl), (by first | (simp only [go_sem]; done) | rfl), (by simp only [go_sem, Q19, Q12]), (by simp only [go_sem, Q12]), (by simp only [go_sem]), (by simp only [go_sem]), (by first | first | assumption | omega | (simp only [nxs] <;> omega))⟩
     ·simp only [hg20, if_false, fT9] at h_c18
      obtain ⟨y17, h_y17, h_c18⟩ := b0g h_c18
      obtain rfl := sI9 h_c18
      simp only [go_sem, s1, s2, s5, s13, b08 h_x14, hg19, hg20]
      refine b01 (c3h m (Place.mk x8.State (x8.Values.1, x8.Values.2)) x14 assume _ h_y17) ?_
      simp only [go_sem, hg19, hg20]
      exact hK _ _ ⟨h.nx, s1, s2, s3, s4, s5, (by first | exact s12 | simp only [go_sem, s12, lA9, mA9]), s13, (by first | (simp only [go_sem]; done) | rfl), (by first | (simp only [go_sem]; done) | rfl), (by simp only [go_sem, Q19, Q12]), (by simp only [go_sem, Q12]), (by simp only [go_sem]), (by simp only [go_sem]), (by first | first | assumption | omega | (simp only [nxs] <;> omega))⟩
   ·try clear s1 s2 s3 s4 s5 s12 s13 Q19 Q12
    rintro t h ⟨i14, s1, s2, s3, s4, s5, s12, s13, s14, s56, Q19, Q12, Q1m, Q1o, Q1s⟩
    refine b0i fun K21 hK21 => ?_
    simp only [go_sem, s56]
    refine b0k (fun hc22 => ?_) (fun hc22 => ?_)
    ·rw [b0r hc22] at hm1
     refine b0b fun K hK => ?_
     simp only [go_sem]
     refine hK _ _ ?_
     clear hK K
     simp only [b0x, b1p, b2e, b0y]
     obtain rfl := sI9 hm1
     obtain rfl := hb3 _ rfl
     try dsimp only at hm0
     obtain rfl := sI9 hm0
     exact d66 (v := .v (.slice none 0 0)) (u := B false) (by simp only [go_sem]) (by simp only [go_sem]) (.nil _) (.refl _ (b0e _))
    ·rw [b0q hc22] at hm1
     simp only [b0s, b0f]
     refine hK21 _ _ ?_
     obtain ⟨y25, h_y25, hm1⟩ := b0g hm1
     obtain ⟨y26, h_y26, hm1⟩ := b0g hm1
     refine b0b fun K hK => ?_
     simp only [go_sem, s1, s3, s4, s5, s13, s14, Q1m, b08 h_x14]
     refine b01 (d3b x14 input value _ h_y25) ?_
     simp only [go_sem]
     refine b01 (p20 m (Place.mk x8.State (x8.Values.1, x8.Values.2)) y25 _ h_y26) ?_
     simp only [go_sem]
     refine hK _ _ ?_
     clear hK K
     refine b0v ?_
     obtain ⟨c30, h_c30, hm1⟩ := b0g hm1
     refine b2p (fun t h => ∃ i15 : Nat, t 1 = .fs 1 (List.map eI inputs) /\ t 2 = .fs 1 (List.map b0t assume) /\ t 3 = I input /\ t 4 = I value /\ t 5 = .fp (vM m) 0 /\ t 12 = .rs i12 0 (List.length out_12) /\ t 13 = I i_13 /\ t 15 = .rp i15 0 0 /\ t 77 = B c30 /\ h.ob i12 = some (3, List.map b1g out_12) /\ i12 < h.nx /\ h.ob i15 = some (3, [[I y26.1.State, I y26.1.Values.1, I y26.1.Values.2]]) /\ i15 < h.nx /\ ¬i12 = i15) (fun K hK => ?_) ?_
     ·simp only [go_sem]
      refine b0k (fun hg31 => ?_) (fun hg31 => ?_)
      ·simp only [hg31, eq_self, if_true] at h_c30
       obtain rfl := sI9 h_c30
       simp only [go_sem, hg31]
       exact hK _ _ ⟨h.nx, s1, s2, s3, s4, s5, (by first | exact s12 | simp only [go_sem, s12, lA9, mA9]), s13, (by first | (simp only [go_sem]; done) | rfl), (by first | (simp only [go_sem]; done) | rfl), (by simp only [go_sem, Q19, Q12]), (by simp only [go_sem, Q12]), (by simp only [go_sem]), (by simp only [go_sem]), (by first | first | assumption | omega | (simp only [nxs] <;> omega))⟩
      ·simp only [hg31, if_false, fT9] at h_c30
       obtain ⟨y29, h_y29, h_c30⟩ := b0g h_c30
       obtain rfl := sI9 h_c30
       simp only [go_sem, s5, hg31]
       refine b01 (o8i m (Place.mk y26.1.State (y26.1.Values.1, y26.1.Values.2)) _ h_y29) ?_
       simp only [go_sem, hg31]
       exact hK _ _ ⟨h.nx, s1, s2, s3, s4, s5, (by first | exact s12 | simp only [go_sem, s12, lA9, mA9]), s13, (by first | (simp only [go_sem]; done) | rfl), (by first | (simp only [go_sem]; done) | rfl), (by simp only [go_sem, Q19, Q12]), (by simp only [go_sem, Q12]), (by simp only [go_sem]), (by simp only [go_sem]), (by first | first | assumption | omega | (simp only [nxs] <;> omega))⟩
     ·try clear s1 s2 s3 s4 s5 s12 s13 s14 s56 Q19 Q12 Q1m Q1o Q1s
      rintro t h ⟨i15, s1, s2, s3, s4, s5, s12, s13, s15, s77, Q19, Q12, Q1t, Q20, Q21⟩
      refine b0i fun K32 hK32 => ?_
      simp only [go_sem, s77]
      refine b0k (fun hc33 => ?_) (fun hc33 => ?_)
      ·rw [b0r hc33] at hm1
       refine b0b fun K hK => ?_
       simp only [go_sem]
       refine hK _ _ ?_
       clear hK K
       simp only [b0x, b1p, b2e, b0y]
       obtain rfl := sI9 hm1
       obtain rfl := hb3 _ rfl
       try dsimp only at hm0
       obtain rfl := sI9 hm0
       exact d66 (v := .v (.slice none 0 0)) (u := B false) (by simp only [go_sem]) (by simp only [go_sem]) (.nil _) (.refl _ (b0e _))
      ·rw [b0q hc33] at hm1
       simp only [b0s, b0f]
       refine hK32 _ _ ?_
       obtain ⟨l35, h_l35, hm1⟩ := b0g hm1
       refine b03 fun K hK => ?_
       simp only [go_sem, s12, s15, Q1t]
       refine b3a (f := b1g) (l := out_12) (m := ([(Place.mk y26.1.State (y26.1.Values.1, y26.1.Values.2))])) ?_ ?_ ?_ ?_ h_l35 ?_
       ·exact (b2v (by simp only [go_sem, Q19, Q12]) (by simp only [go_sem]) (by simp only [go_sem, Q12]))
       ·exact (b4t (by simp only [go_sem]) (by simp only [go_sem]))
       ·exact (b4r (by first | exact b1w | exact b1y (by first | omega | (simp only [nxs] <;> omega)) | assumption | exact b1v (by assumption) (by first | omega | (simp only [go_sem, nxs] <;> omega))))
       ·exact (fun _ => by simp)
       simp only [go_sem]
       refine hK _ _ ?_
       clear hK K
       simp only [b02, b0f]
       refine hK6 _ _ ?_
       refine b03 fun K hK => ?_
       simp only [go_sem, s13]
       refine hK _ _ ?_
       clear hK K
       simp only [b0f]
       obtain rfl := sI9 hm1
       refine ⟨_, rfl, ?_⟩
       exact ⟨(nxs h.nx), s1, s2, s3, s4, s5, (by first | (simp only [go_sem]; done) | rfl), (by first | (simp only [go_sem]; done) | rfl), (by simp only [go_sem]), (by simp only [go_sem])⟩
  ·rw [b0q hc5] at hm1
   simp only [b09, b1b, b1a, b0f]
   obtain rfl := sI9 hm1
   obtain rfl := hb3 _ rfl
   try dsimp only at hm0
   exact J2 out_12 i12 _ _ (by first | exact s12 | simp only [go_sem, s12, lA9, mA9]) Q19 Q12 hm0
theorem p60 (hf : Has O "newel/newellaw04.rests" x_l04_rests) (b54 : b9a O) (p20 : p2q O) (c3h : c5j O) (p6z : p64 O) : p65 O := by
 intro m l p assume rest r hm0
 unfold p6u at hm0
 refine b1i hf rfl (b0a (fM _) (b0a (b0c fun a _ => b44 a) (b0a (.agg _ (b0a (b0e _) (b0a (b0e _) (b0a (b0e _) b0j)))) (b0a (b0c fun a _ => b2j a) (b0a (b0c fun a _ => b2j a) b0j))))) (b0e _) ?_
 refine b1c (fun t h => t 0 = .agg (vM m) /\ t 1 = .fs 3 (List.map b1g l) /\ t 2 = .agg [I p.State, I p.Values.1, I p.Values.2] /\ t 3 = .fs 1 (List.map b0t assume) /\ t 4 = .fs 1 (List.map b0t rest)) ⟨rfl, rfl, rfl, rfl, rfl⟩ fun t h ⟨s0, s1, s2, s3, s4⟩ => ?_
 simp only [x_l04_rests]
 refine b0b fun K hK => ?_
 simp only [go_sem, s0, s2]
 refine hK _ _ ?_
 clear hK K
 refine b0b fun K hK => ?_
 simp only [go_sem]
 refine hK _ _ ?_
 clear hK K
 refine b0v ?_
 refine b0b fun K hK => ?_
 simp only [go_sem]
 refine hK _ _ ?_
 clear hK K
 refine b0i fun K1 hK1 => ?_
 have J2 : ∀ (t : Slots) (h : Heap), p62 = some r -> K1 t h := by
  intro t h hm0
  refine hK1 _ _ ?_
  unfold p62 at hm0
  refine b0b fun K hK => ?_
  simp only [go_sem]
  refine hK _ _ ?_
  clear hK K
  simp only [b0x, b0y]
  obtain rfl := sI9 hm0
  exact b04 (by simp only [go_sem]) (b0e _)
 simp only [b0u]
 obtain ⟨b3, hl3, hm0⟩ := b0g hm0
 refine b1j hl3 (fun | (seen_11, i_12), t, h => ∃ i11 : Nat, t 1 = .fs 3 (List.map b1g l) /\ t 3 = .fs 1 (List.map b0t assume) /\ t 4 = .fs 1 (List.map b0t rest) /\ t 5 = .fp (vM m) 0 /\ t 11 = .rs i11 0 (List.length seen_11) /\ t 12 = I i_12 /\ h.ob i11 = some (3, List.map b1g seen_11) /\ i11 < h.nx) ?_ ?_
 ·exact ⟨h.nx, s1, s3, s4, (by first | (simp only [go_sem]; done) | rfl), (by first | (simp only [go_sem]; done) | rfl), (by first | (simp only [go_sem]; done) | rfl), (by simp only [go_sem]), (by simp only [go_sem])⟩
 ·rintro ⟨seen_11, i_12⟩ o t h ⟨i11, s1, s3, s4, s5, s11, s12, Q1, Q0⟩ hm1 hb3
  simp only [c35] at hm1
  rw [p7d]
  refine b0v ?_
  refine b0b fun K hK => ?_
  simp only [go_sem, s11, s12]
  refine hK _ _ ?_
  clear hK K
  refine b0i fun K4 hK4 => ?_
  simp only [go_sem]
  refine b0k (fun hc5 => ?_) (fun hc5 => ?_)
  ·rw [b0r hc5] at hm1
   simp only [b0s, b0f]
   refine hK4 _ _ ?_
   refine b0i fun K6 hK6 => ?_
   have J7 : ∀ (seen_11_1 : List Place) (i11_1 : Nat) (t : Slots) (h : Heap), t 1 = .fs 3 (List.map b1g l) -> t 3 = .fs 1 (List.map b0t assume) -> t 4 = .fs 1 (List.map b0t rest) -> t 5 = .fp (vM m) 0 -> t 11 = .rs i11_1 0 (List.length seen_11_1) -> t 12 = I i_12 -> h.ob i11_1 = some (3, List.map b1g seen_11_1) -> i11_1 < h.nx -> p63 i_12 seen_11_1 = some o -> K6 t h := by
    intro seen_11_1 i11_1 t h s1 s3 s4 s5 s11 s12 Q1 Q0 hm1
    refine hK6 _ _ ?_
    unfold p63 at hm1
    refine b03 fun K hK => ?_
    simp only [go_sem, s12]
    refine hK _ _ ?_
    clear hK K
    simp only [b0f]
    obtain rfl := sI9 hm1
    refine ⟨_, rfl, ?_⟩
    exact ⟨i11_1, s1, s3, s4, s5, (by first | exact s11 | simp only [go_sem, s11, lA9, mA9]), (by first | (simp only [go_sem]; done) | rfl), Q1, Q0⟩
   simp only [b0u]
   refine b0v ?_
   obtain ⟨x10, h_x10, hm1⟩ := b0g hm1
   have h_x100 := b05 h_x10
   have h_x101 := b06 h_x10
   obtain ⟨y11, h_y11, hm1⟩ := b0g hm1
   refine b0b fun K hK => ?_
   simp only [go_sem, s4, s5, s11, s12, Q1, b3n h_x10, h_x100, h_x101]
   refine b01 (b54 m x10 0 rest _ h_y11) ?_
   simp only [go_sem]
   refine hK _ _ ?_
   clear hK K
   refine b0i fun K12 hK12 => ?_
   simp only [go_sem]
   refine b0k (fun hc13 => ?_) (fun hc13 => ?_)
   ·rw [b0r hc13] at hm1
    refine b0b fun K hK => ?_
    simp only [go_sem]
    refine hK _ _ ?_
    clear hK K
    simp only [b0x, b1p, b2e, b0y]
    obtain rfl := sI9 hm1
    obtain rfl := hb3 _ rfl
    try dsimp only at hm0
    obtain rfl := sI9 hm0
    exact b04 (by simp only [go_sem]) (b0e _)
   ·rw [b0q hc13] at hm1
    simp only [b0s, b0f]
    refine hK12 _ _ ?_
    refine b0b fun K hK => ?_
    simp only [go_sem]
    refine hK _ _ ?_
    clear hK K
    simp only [b0u]
    obtain ⟨b14, hl14, hm1⟩ := b0g hm1
    refine b1j hl14 (fun | (seen_11_1, x_13), t, h => ∃ i11_1 : Nat, t 1 = .fs 3 (List.map b1g l) /\ t 3 = .fs 1 (List.map b0t assume) /\ t 4 = .fs 1 (List.map b0t rest) /\ t 5 = .fp (vM m) 0 /\ t 11 = .rs i11_1 0 (List.length seen_11_1) /\ t 12 = I i_12 /\ t 13 = I x_13 /\ h.ob i11_1 = some (3, List.map b1g seen_11_1) /\ i11_1 < h.nx) ?_ ?_
    ·exact ⟨i11, s1, s3, s4, s5, (by first | exact s11 | simp only [go_sem, s11, lA9, mA9]), s12, (by first | (simp only [go_sem]; done) | rfl), Q1, Q0⟩
    ·rintro ⟨seen_11_1, x_13⟩ o t h ⟨i11_1, s1, s3, s4, s5, s11, s12, s13, Q1, Q0⟩ hm2 hb14
     simp only [b51] at hm2
     rw [p7c]
     refine b0v ?_
     obtain ⟨q16, h_q16, hm2⟩ := b0g hm2
     refine b0b fun K hK => ?_
     simp only [go_sem, s5, s13, c21 h_q16]
     refine hK _ _ ?_
     clear hK K
     refine b0i fun K17 hK17 => ?_
     simp only [go_sem]
     refine b0k (fun hc18 => ?_) (fun hc18 => ?_)
     ·rw [b0r hc18] at hm2
      simp only [b0s, b0f]
      refine hK17 _ _ ?_
      refine b0i fun K19 hK19 => ?_
      have J20 : ∀ (seen_11_2 : List Place) (i11_2 : Nat) (t : Slots) (h : Heap), t 1 = .fs 3 (List.map b1g l) -> t 3 = .fs 1 (List.map b0t assume) -> t 4 = .fs 1 (List.map b0t rest) -> t 5 = .fp (vM m) 0 -> t 11 = .rs i11_2 0 (List.length seen_11_2) -> t 12 = I i_12 -> t 13 = I x_13 -> h.ob i11_2 = some (3, List.map b1g seen_11_2) -> i11_2 < h.nx -> p6w x_13 seen_11_2 = some o -> K19 t h := by
       try clear s1 s3 s4 s5 s11 s12 s13 Q1 Q0
       intro seen_11_2 i11_2 t h s1 s3 s4 s5 s11 s12 s13 Q1 Q0 hm2
       refine hK19 _ _ ?_
       unfold p6w at hm2
       refine b03 fun K hK => ?_
       simp only [go_sem, s13]
       refine hK _ _ ?_
       clear hK K
       simp only [b0f]
       obtain rfl := sI9 hm2
       refine ⟨_, rfl, ?_⟩
       exact ⟨i11_2, s1, s3, s4, s5, (by first | exact s11 | simp only [go_sem, s11, lA9, mA9]), s12, (by first | (simp only [go_sem]; done) | rfl), Q1, Q0⟩
      simp only [b0u]
      obtain ⟨x23, h_x23, hm2⟩ := b0g hm2
      have h_x230 := b05 h_x23
      have h_x231 := b06 h_x23
      obtain ⟨y24, h_y24, hm2⟩ := b0g hm2
      refine b0b fun K hK => ?_
      simp only [go_sem, s5, s11, s12, s13, Q1, b3n h_x23, h_x230, h_x231]
      refine b01 (p20 m x23 x_13 _ h_y24) ?_
      simp only [go_sem]
      refine hK _ _ ?_
      clear hK K
      obtain ⟨c32, h_c32, hm2⟩ := b0g hm2
      obtain ⟨c34, h_c34, hm2⟩ := b0g hm2
      obtain ⟨c36, h_c36, hm2⟩ := b0g hm2
      refine b2p (fun t h => ∃ i14 : Nat, t 1 = .fs 3 (List.map b1g l) /\ t 3 = .fs 1 (List.map b0t assume) /\ t 4 = .fs 1 (List.map b0t rest) /\ t 5 = .fp (vM m) 0 /\ t 11 = .rs i11_1 0 (List.length seen_11_1) /\ t 12 = I i_12 /\ t 13 = I x_13 /\ t 14 = .rp i14 0 0 /\ t 72 = B c36 /\ h.ob i11_1 = some (3, List.map b1g seen_11_1) /\ i11_1 < h.nx /\ h.ob i14 = some (3, [[I y24.1.State, I y24.1.Values.1, I y24.1.Values.2]]) /\ i14 < h.nx /\ ¬i11_1 = i14) (fun K hK => ?_) ?_
      ·simp only [go_sem]
       refine b0k (fun hg37 => ?_) (fun hg37 => ?_)
       ·simp only [hg37, eq_self, if_true] at h_c32
        obtain ⟨y31, h_y31, h_c32⟩ := b0g h_c32
        obtain rfl := sI9 h_c32
        simp only [go_sem, s3, s5, s11, s12, s13, Q1, Q0, b3n h_x23, h_x230, h_x231, hg37]
        refine b01 (c3h m x23 x_13 assume _ h_y31) ?_
        simp only [go_sem, hg37]
        refine b0k (fun hg38 => ?_) (fun hg38 => ?_)
        ·simp only [hg38, eq_self, if_true] at h_c34
         obtain ⟨y33, h_y33, h_c34⟩ := b0g h_c34
         obtain rfl := sI9 h_c34
         simp only [go_sem, s1, hg37, hg38]
         refine b01 (p6z l (Place.mk y24.1.State (y24.1.Values.1, y24.1.Values.2)) _ h_y33) ?_
         simp only [go_sem, hg37, hg38]
         refine b0k (fun hg39 => ?_) (fun hg39 => ?_)
         ·simp only [hg39, eq_self, if_true] at h_c36
          obtain ⟨y35, h_y35, h_c36⟩ := b0g h_c36
          obtain rfl := sI9 h_c36
          simp only [go_sem, s11, hg37, hg38, hg39]
          refine b8l ?_ (p6z seen_11_1 (Place.mk y24.1.State (y24.1.Values.1, y24.1.Values.2)) _ h_y35) (.v _) ?_
          ·exact .cons (b29 (f := b1g) (l := seen_11_1) (id := i11_1) (by simp only [go_sem, Q1, Q0]) (by first | rfl | simp only [go_sem, lA9, mA9]) b44 d32) (.cons (.refl _ (.agg _ (b0a (b0e _) (b0a (b0e _) (b0a (b0e _) b0j))))) (.nil))
          simp only [go_sem, hg37, hg38, hg39]
          exact hK _ _ ⟨h.nx, s1, s3, s4, s5, (by first | exact s11 | simp only [go_sem, s11, lA9, mA9]), s12, s13, (by first | (simp only [go_sem]; done) | rfl), (by first | (simp only [go_sem]; done) | rfl), (by simp only [go_sem, Q1, Q0]), (by simp only [go_sem, Q0]), (by simp only [go_sem]), (by simp only [go_sem]), (by first | first | assumption | omega | (simp only [nxs] <;> omega))⟩
         ·simp only [hg39, if_false, fT9] at h_c36
          obtain rfl := sI9 h_c36
          simp only [go_sem, hg37, hg38, hg39]
          exact hK _ _ ⟨h.nx, s1, s3, s4, s5, (by first | exact s11 | simp only [go_sem, s11, lA9, mA9]), s12, s13, (by first | (simp only [go_sem]; done) | rfl), (by first | (simp only [go_sem]; done) | rfl), (by simp only [go_sem, Q1, Q0]), (by simp only [go_sem, Q0]), (by simp only [go_sem]), (by simp only [go_sem]), (by first | first | assumption | omega | (simp only [nxs] <;> omega))⟩
        ·simp only [hg38, if_false, fT9] at h_c34
         obtain rfl := sI9 h_c34
         simp only [if_false, fT9] at h_c36
         obtain rfl := sI9 h_c36
         simp only [go_sem, hg37, hg38]
         exact hK _ _ ⟨h.nx, s1, s3, s4, s5, (by first | exact s11 | simp only [go_sem, s11, lA9, mA9]), s12, s13, (by first | (simp only [go_sem]; done) | rfl), (by first | (simp only [go_sem]; done) | rfl), (by simp only [go_sem, Q1, Q0]), (by simp only [go_sem, Q0]), (by simp only [go_sem]), (by simp only [go_sem]), (by first | first | assumption | omega | (simp only [nxs] <;> omega))⟩
       ·simp only [hg37, if_false, fT9] at h_c32
        obtain rfl := sI9 h_c32
        simp only [if_false, fT9] at h_c34
        obtain rfl := sI9 h_c34
        simp only [if_false, fT9] at h_c36
        obtain rfl := sI9 h_c36
        simp only [go_sem, hg37]
        exact hK _ _ ⟨h.nx, s1, s3, s4, s5, (by first | exact s11 | simp only [go_sem, s11, lA9, mA9]), s12, s13, (by first | (simp only [go_sem]; done) | rfl), (by first | (simp only [go_sem]; done) | rfl), (by simp only [go_sem, Q1, Q0]), (by simp only [go_sem, Q0]), (by simp only [go_sem]), (by simp only [go_sem]), (by first | first | assumption | omega | (simp only [nxs] <;> omega))⟩
      ·try clear s1 s3 s4 s5 s11 s12 s13 Q1 Q0
       rintro t h ⟨i14, s1, s3, s4, s5, s11, s12, s13, s14, s72, Q1, Q0, Q1m, Q1o, Q22⟩
       simp only [go_sem, s72]
       refine b0k (fun hc40 => ?_) (fun hc40 => ?_)
       ·rw [b0r hc40] at hm2
        obtain ⟨l42, h_l42, hm2⟩ := b0g hm2
        refine b03 fun K hK => ?_
        simp only [go_sem, s11, s14, Q1m]
        refine b3a (f := b1g) (l := seen_11_1) (m := ([(Place.mk y24.1.State (y24.1.Values.1, y24.1.Values.2))])) ?_ ?_ ?_ ?_ h_l42 ?_
        ·exact (b2v (by simp only [go_sem, Q1, Q0]) (by simp only [go_sem]) (by simp only [go_sem, Q0]))
        ·exact (b4t (by simp only [go_sem]) (by simp only [go_sem]))
        ·exact (b4r (by first | exact b1w | exact b1y (by first | omega | (simp only [nxs] <;> omega)) | assumption | exact b1v (by assumption) (by first | omega | (simp only [go_sem, nxs] <;> omega))))
        ·exact (fun _ => by simp)
        simp only [go_sem]
        refine hK _ _ ?_
        clear hK K
        simp only [b02, b0f]
        exact J20 l42 (nxs h.nx) _ _ s1 s3 s4 s5 (by first | (simp only [go_sem]; done) | rfl) s12 s13 (by simp only [go_sem]) (by simp only [go_sem]) hm2
       ·rw [b0q hc40] at hm2
        simp only [b0s, b02, b0f]
        exact J20 seen_11_1 i11_1 _ _ s1 s3 s4 s5 (by first | exact s11 | simp only [go_sem, s11, lA9, mA9]) s12 s13 Q1 Q0 hm2
     ·rw [b0q hc18] at hm2
      simp only [b09, b1b, b1a, b02, b0f]
      obtain rfl := sI9 hm2
      obtain rfl := hb14 _ rfl
      try dsimp only at hm1
      exact J7 seen_11_1 i11_1 _ _ s1 s3 s4 s5 (by first | exact s11 | simp only [go_sem, s11, lA9, mA9]) s12 Q1 Q0 hm1
  ·rw [b0q hc5] at hm1
   simp only [b09, b1b, b1a, b0f]
   obtain rfl := sI9 hm1
   obtain rfl := hb3 _ rfl
   try dsimp only at hm0
   exact J2  _ _  hm0
theorem c3h (hf : Has O "newel/newelref04.Allows" x_r04_Allows) (b54 : b9a O) : c5j O := by
 intro m p input assume r hm0
 unfold c0t at hm0
 refine b1i hf rfl (b0a (fM _) (b0a (.agg _ (b0a (b0e _) (b0a (b0e _) (b0a (b0e _) b0j)))) (b0a (b0e _) (b0a (b0c fun a _ => b2j a) b0j)))) (b0e _) ?_
 refine b1c (fun t h => t 0 = .agg (vM m) /\ t 1 = .agg [I p.State, I p.Values.1, I p.Values.2] /\ t 2 = I input /\ t 3 = .fs 1 (List.map b0t assume)) ⟨rfl, rfl, rfl, rfl⟩ fun t h ⟨s0, s1, s2, s3⟩ => ?_
 simp only [x_r04_Allows]
 refine b0b fun K hK => ?_
 simp only [go_sem, s0, s1]
 refine hK _ _ ?_
 clear hK K
 obtain ⟨c4, h_c4, hm0⟩ := b0g hm0
 refine b2p (fun t h => t 8 = B c4) (fun K hK => ?_) ?_
 ·simp only [go_sem, s3]
  refine b0k (fun hg5 => ?_) (fun hg5 => ?_)
  ·simp only [hg5, eq_self, if_true] at h_c4
   obtain rfl := sI9 h_c4
   simp only [go_sem, hg5]
   exact hK _ _ (by first | (simp only [go_sem]; done) | rfl)
  ·simp only [hg5, if_false, fT9] at h_c4
   obtain ⟨y3, h_y3, h_c4⟩ := b0g h_c4
   obtain rfl := sI9 h_c4
   simp only [go_sem, s2, s3, hg5]
   refine b01 (b54 m p input assume _ h_y3) ?_
   simp only [go_sem, hg5]
   exact hK _ _ (by first | (simp only [go_sem]; done) | rfl)
 ·rintro t h s8
  simp only [b0x, b0y]
  obtain rfl := sI9 hm0
  exact b04 (by simp only [go_sem, s8]) (b0e _)
theorem c3i (hf : Has O "newel/newelref04.Check" x_r04_Check) (b4p : c5r O) (d3f : d0i O) (d3d : d0g O) (c3m : c5p O) : c5k O := by
 intro m r hm0
 unfold c0u at hm0
 refine b1i hf rfl (b0a (fM _) b0j) (b0e _) ?_
 refine b1c (fun t h => t 0 = .agg (vM m)) rfl fun t h s0 => ?_
 simp only [x_r04_Check]
 refine b0b fun K hK => ?_
 simp only [go_sem, s0]
 refine hK _ _ ?_
 clear hK K
 refine b0v ?_
 refine b2p (fun t h => t 1 = .fp (vM m) 0 /\ t 39 = B (((((decide (4 < (List.length m.Inputs : Int))) || (decide (6 < (List.length m.Outputs : Int)))) || (decide (2 < (List.length m.Counters : Int)))) || (!(b2b (List.length m.States : Int) 1 12))) || (decide (40 < (List.length m.Rules : Int))))) (fun K hK => ?_) ?_
 ·simp only [go_sem]
  refine b0k (fun hg1 => ?_) (fun hg1 => ?_)
  ·simp only [go_sem, hg1]
   exact hK _ _ ⟨(by first | (simp only [go_sem]; done) | rfl), (by first | (simp only [go_sem, hg1]; done) | rfl)⟩
  ·simp only [go_sem, hg1]
   refine b0k (fun hg2 => ?_) (fun hg2 => ?_)
   ·simp only [go_sem, hg1, hg2]
    exact hK _ _ ⟨(by first | (simp only [go_sem]; done) | rfl), (by first | (simp only [go_sem, hg1, hg2]; done) | rfl)⟩
   ·simp only [go_sem, hg1, hg2]
    refine b0k (fun hg3 => ?_) (fun hg3 => ?_)
    ·simp only [go_sem, hg1, hg2, hg3]
     exact hK _ _ ⟨(by first | (simp only [go_sem]; done) | rfl), (by first | (simp only [go_sem, hg1, hg2, hg3]; done) | rfl)⟩
    ·simp only [go_sem, hg1, hg2, hg3]
     refine b01 (b4p (List.length m.States : Int) 1 12) ?_
     simp only [go_sem, hg1, hg2, hg3]
     refine b0k (fun hg4 => ?_) (fun hg4 => ?_)
     ·simp only [go_sem, hg1, hg2, hg3, hg4]
      exact hK _ _ ⟨(by first | (simp only [go_sem]; done) | rfl), (by first | (simp only [go_sem, hg1, hg2, hg3, hg4]; done) | rfl)⟩
     ·simp only [go_sem, hg1, hg2, hg3, hg4]
      exact hK _ _ ⟨(by first | (simp only [go_sem]; done) | rfl), (by first | (simp only [go_sem, hg1, hg2, hg3, hg4]; done) | rfl)⟩
 ·rintro t h ⟨s1, s39⟩
  refine b0i fun K5 hK5 => ?_
  simp only [go_sem, s39]
  refine b0k (fun hc6 => ?_) (fun hc6 => ?_)
  ·rw [b0r hc6] at hm0
   refine b0b fun K hK => ?_
   simp only [go_sem]
   refine hK _ _ ?_
   clear hK K
   simp only [b0x, b1p, b0y]
   obtain rfl := sI9 hm0
   exact b04 (by simp only [go_sem]) (b0e _)
  ·rw [b0q hc6] at hm0
   simp only [b0s, b0f]
   refine hK5 _ _ ?_
   obtain ⟨y8, h_y8, hm0⟩ := b0g hm0
   refine b0b fun K hK => ?_
   simp only [go_sem, s1]
   refine b01 (d3f m _ h_y8) ?_
   simp only [go_sem]
   refine hK _ _ ?_
   clear hK K
   refine b0v ?_
   refine b0b fun K hK => ?_
   simp only [go_sem]
   refine hK _ _ ?_
   clear hK K
   refine b0i fun K9 hK9 => ?_
   have J10 : ∀ (t : Slots) (h : Heap), t 1 = .fp (vM m) 0 -> c77 m = some r -> K9 t h := by
    intro t h s1 hm0
    refine hK9 _ _ ?_
    unfold c77 at hm0
    refine b0v ?_
    refine b0b fun K hK => ?_
    simp only [go_sem]
    refine hK _ _ ?_
    clear hK K
    refine b0i fun K11 hK11 => ?_
    have J12 : ∀ (t : Slots) (h : Heap), t 1 = .fp (vM m) 0 -> c78 m = some r -> K11 t h := by
     intro t h s1 hm0
     refine hK11 _ _ ?_
     unfold c78 at hm0
     refine b0v ?_
     refine b0b fun K hK => ?_
     simp only [go_sem]
     refine hK _ _ ?_
     clear hK K
     refine b0i fun K13 hK13 => ?_
     have J14 : ∀ (t : Slots) (h : Heap), t 1 = .fp (vM m) 0 -> c79 m = some r -> K13 t h := by
      intro t h s1 hm0
      refine hK13 _ _ ?_
      unfold c79 at hm0
      refine b0v ?_
      refine b0b fun K hK => ?_
      simp only [go_sem]
      refine hK _ _ ?_
      clear hK K
      refine b0i fun K15 hK15 => ?_
      have J16 : ∀ (t : Slots) (h : Heap), d4p = some r -> K15 t h := by
       intro t h hm0
       refine hK15 _ _ ?_
       unfold d4p at hm0
       refine b0b fun K hK => ?_
       simp only [go_sem]
       refine hK _ _ ?_
       clear hK K
       simp only [b0x, b0y]
       obtain rfl := sI9 hm0
       exact b04 (by simp only [go_sem]) (b0e _)
      simp only [b0u]
      obtain ⟨b17, hl17, hm0⟩ := b0g hm0
      refine b1j hl17 (fun | i_8, t, h => t 1 = .fp (vM m) 0 /\ t 8 = I i_8) ?_ ?_
      ·exact ⟨s1, (by first | (simp only [go_sem]; done) | rfl)⟩
      ·rintro i_8 o t h ⟨s1, s8⟩ hm1 hb17
       simp only [b8v] at hm1
       rw [g4k]
       refine b0v ?_
       refine b0b fun K hK => ?_
       simp only [go_sem, s1, s8]
       refine hK _ _ ?_
       clear hK K
       refine b0i fun K18 hK18 => ?_
       simp only [go_sem]
       refine b0k (fun hc19 => ?_) (fun hc19 => ?_)
       ·rw [b0r hc19] at hm1
        simp only [b0s, b0f]
        refine hK18 _ _ ?_
        refine b0i fun K20 hK20 => ?_
        have J21 : ∀ (t : Slots) (h : Heap), t 1 = .fp (vM m) 0 -> t 8 = I i_8 -> c8a i_8 = some o -> K20 t h := by
         intro t h s1 s8 hm1
         refine hK20 _ _ ?_
         unfold c8a at hm1
         refine b03 fun K hK => ?_
         simp only [go_sem, s8]
         refine hK _ _ ?_
         clear hK K
         simp only [b0f]
         obtain rfl := sI9 hm1
         refine ⟨_, rfl, ?_⟩
         exact ⟨s1, (by first | (simp only [go_sem]; done) | rfl)⟩
        simp only [b0u]
        obtain ⟨x23, h_x23, hm1⟩ := b0g hm1
        have h_x230 := b05 h_x23
        have h_x231 := b06 h_x23
        refine b0b fun K hK => ?_
        simp only [go_sem, s1, s8, b08 h_x23, h_x231]
        refine hK _ _ ?_
        clear hK K
        refine b0v ?_
        obtain ⟨c27, h_c27, hm1⟩ := b0g hm1
        refine b2p (fun t h => ∃ i9 : Nat, t 1 = .fp (vM m) 0 /\ t 8 = I i_8 /\ t 9 = .rp i9 0 0 /\ t 154 = B (c27 || (decide (4 < (List.length x23.Sets : Int)))) /\ h.ob i9 = some (4, [[I x23.From, I x23.To, .fs 1 (List.map b0t x23.When), .fs 2 (List.map b2o x23.Sets)]]) /\ i9 < h.nx) (fun K hK => ?_) ?_
        ·simp only [go_sem, s1]
         refine b01 (b4p x23.From (-1) (wr ((List.length m.States : Int) - 1))) ?_
         simp only [go_sem]
         refine b0k (fun hg28 => ?_) (fun hg28 => ?_)
         ·simp only [hg28, eq_self, if_true, Bool.true_or] at h_c27
          obtain rfl := sI9 h_c27
          simp only [go_sem, hg28]
          exact hK _ _ ⟨h.nx, s1, s8, (by first | (simp only [go_sem]; done) | rfl), (by first | (simp only [go_sem]; done) | rfl), (by simp only [go_sem]), (by simp only [go_sem])⟩
         ·simp only [go_sem, s1, hg28]
          refine b01 (b4p x23.To 0 (wr ((List.length m.States : Int) - 1))) ?_
          simp only [go_sem, hg28]
          refine b0k (fun hg29 => ?_) (fun hg29 => ?_)
          ·simp only [hg28, hg29, eq_self, if_true, Bool.or_true] at h_c27
           obtain rfl := sI9 h_c27
           simp only [go_sem, hg28, hg29]
           exact hK _ _ ⟨h.nx, s1, s8, (by first | (simp only [go_sem]; done) | rfl), (by first | (simp only [go_sem]; done) | rfl), (by simp only [go_sem]), (by simp only [go_sem])⟩
          ·simp only [hg28, hg29, if_false, Bool.or_false, fT9] at h_c27
           obtain ⟨y26, h_y26, h_c27⟩ := b0g h_c27
           obtain rfl := sI9 h_c27
           simp only [go_sem, s1, hg28, hg29]
           refine b01 (c3m m x23.When false _ h_y26) ?_
           simp only [go_sem, hg28, hg29]
           refine b0k (fun hg30 => ?_) (fun hg30 => ?_)
           ·simp only [go_sem, hg28, hg29, hg30]
            exact hK _ _ ⟨h.nx, s1, s8, (by first | (simp only [go_sem]; done) | rfl), (by first | (simp only [go_sem, hg30]; done) | rfl), (by simp only [go_sem]), (by simp only [go_sem])⟩
           ·simp only [go_sem, hg28, hg29, hg30]
            exact hK _ _ ⟨h.nx, s1, s8, (by first | (simp only [go_sem]; done) | rfl), (by first | (simp only [go_sem, hg30]; done) | rfl), (by simp only [go_sem]), (by simp only [go_sem])⟩
        ·rintro t h ⟨i9, s1, s8, s9, s154, Q18, Q1d⟩
         refine b0i fun K31 hK31 => ?_
         simp only [go_sem, s154]
         refine b0k (fun hc32 => ?_) (fun hc32 => ?_)
         ·rw [b0r hc32] at hm1
          refine b0b fun K hK => ?_
          simp only [go_sem]
          refine hK _ _ ?_
          clear hK K
          simp only [b0x, b1p, b2e, b0y]
          obtain rfl := sI9 hm1
          obtain rfl := hb17 _ rfl
          try dsimp only at hm0
          obtain rfl := sI9 hm0
          exact b04 (by simp only [go_sem]) (b0e _)
         ·rw [b0q hc32] at hm1
          simp only [b0s, b0f]
          refine hK31 _ _ ?_
          refine b0b fun K hK => ?_
          simp only [go_sem]
          refine hK _ _ ?_
          clear hK K
          simp only [b0u]
          obtain ⟨b33, hl33, hm1⟩ := b0g hm1
          refine b1j hl33 (fun | k_10, t, h => t 1 = .fp (vM m) 0 /\ t 8 = I i_8 /\ t 9 = .rp i9 0 0 /\ t 10 = I k_10 /\ h.ob i9 = some (4, [[I x23.From, I x23.To, .fs 1 (List.map b0t x23.When), .fs 2 (List.map b2o x23.Sets)]]) /\ i9 < h.nx) ?_ ?_
          ·exact ⟨s1, s8, s9, (by first | (simp only [go_sem]; done) | rfl), Q18, Q1d⟩
          ·rintro k_10 o t h ⟨s1, s8, s9, s10, Q18, Q1d⟩ hm2 hb33
           simp only [c39] at hm2
           rw [g4j]
           refine b0v ?_
           refine b0b fun K hK => ?_
           simp only [go_sem, s9, s10, Q18]
           refine hK _ _ ?_
           clear hK K
           refine b0i fun K34 hK34 => ?_
           simp only [go_sem]
           refine b0k (fun hc35 => ?_) (fun hc35 => ?_)
           ·rw [b0r hc35] at hm2
            simp only [b0s, b0f]
            refine hK34 _ _ ?_
            refine b0i fun K36 hK36 => ?_
            simp only [b0u]
            obtain ⟨x38, h_x38, hm2⟩ := b0g hm2
            have h_x380 := b05 h_x38
            have h_x381 := b06 h_x38
            refine b2p (fun t h => t 1 = .fp (vM m) 0 /\ t 8 = I i_8 /\ t 9 = .rp i9 0 0 /\ t 10 = I k_10 /\ t 183 = B ((!(b2b x38.Kind 1 3)) || (!(b2b x38.Counter 0 (wr ((List.length m.Counters : Int) - 1))))) /\ h.ob i9 = some (4, [[I x23.From, I x23.To, .fs 1 (List.map b0t x23.When), .fs 2 (List.map b2o x23.Sets)]]) /\ i9 < h.nx) (fun K hK => ?_) ?_
            ·simp only [go_sem, s9, s10, Q18, b08 h_x38, h_x381]
             refine b01 (b4p x38.Kind 1 3) ?_
             simp only [go_sem]
             refine b0k (fun hg39 => ?_) (fun hg39 => ?_)
             ·simp only [go_sem, hg39]
              exact hK _ _ ⟨s1, s8, s9, s10, (by first | (simp only [go_sem, hg39]; done) | rfl), Q18, Q1d⟩
             ·simp only [go_sem, s1, s9, s10, Q18, b08 h_x38, hg39]
              refine b01 (b4p x38.Counter 0 (wr ((List.length m.Counters : Int) - 1))) ?_
              simp only [go_sem, hg39]
              exact hK _ _ ⟨s1, s8, s9, s10, (by first | (simp only [go_sem, hg39]; done) | rfl), Q18, Q1d⟩
            ·rintro t h ⟨s1, s8, s9, s10, s183, Q18, Q1d⟩
             simp only [go_sem, s183]
             refine b0k (fun hc40 => ?_) (fun hc40 => ?_)
             ·rw [b0r hc40] at hm2
              refine b0b fun K hK => ?_
              simp only [go_sem]
              refine hK _ _ ?_
              clear hK K
              simp only [b0x, b1p, b2e, b0y]
              obtain rfl := sI9 hm2
              obtain rfl := hb33 _ rfl
              try dsimp only at hm1
              obtain rfl := sI9 hm1
              obtain rfl := hb17 _ rfl
              try dsimp only at hm0
              obtain rfl := sI9 hm0
              exact b04 (by simp only [go_sem]) (b0e _)
             ·rw [b0q hc40] at hm2
              simp only [b0s, b02, b0f]
              refine hK36 _ _ ?_
              refine b03 fun K hK => ?_
              simp only [go_sem, s10]
              refine hK _ _ ?_
              clear hK K
              simp only [b0f]
              obtain rfl := sI9 hm2
              refine ⟨_, rfl, ?_⟩
              exact ⟨s1, s8, s9, (by first | (simp only [go_sem]; done) | rfl), Q18, Q1d⟩
           ·rw [b0q hc35] at hm2
            simp only [b09, b1b, b1a, b02, b0f]
            obtain rfl := sI9 hm2
            obtain rfl := hb33 _ rfl
            try dsimp only at hm1
            exact J21  _ _ s1 s8 hm1
       ·rw [b0q hc19] at hm1
        simp only [b09, b1b, b1a, b0f]
        obtain rfl := sI9 hm1
        obtain rfl := hb17 _ rfl
        try dsimp only at hm0
        exact J16  _ _  hm0
     simp only [b0u]
     obtain ⟨b43, hl43, hm0⟩ := b0g hm0
     refine b1j hl43 (fun | i_7, t, h => t 1 = .fp (vM m) 0 /\ t 7 = I i_7) ?_ ?_
     ·exact ⟨s1, (by first | (simp only [go_sem]; done) | rfl)⟩
     ·rintro i_7 o t h ⟨s1, s7⟩ hm1 hb43
      simp only [c37] at hm1
      rw [g4i]
      refine b0v ?_
      refine b0b fun K hK => ?_
      simp only [go_sem, s1, s7]
      refine hK _ _ ?_
      clear hK K
      refine b0i fun K44 hK44 => ?_
      simp only [go_sem]
      refine b0k (fun hc45 => ?_) (fun hc45 => ?_)
      ·rw [b0r hc45] at hm1
       simp only [b0s, b0f]
       refine hK44 _ _ ?_
       refine b0i fun K46 hK46 => ?_
       simp only [b0u]
       obtain ⟨x49, h_x49, hm1⟩ := b0g hm1
       have h_x490 := b05 h_x49
       have h_x491 := b06 h_x49
       obtain ⟨q50, h_q50, hm1⟩ := b0g hm1
       refine b0b fun K hK => ?_
       simp only [go_sem, s1, s7, b08 h_x49, h_x491, c21 h_q50]
       refine b01 (b4p x49.Shows 0 (wr (q50 - 1))) ?_
       simp only [go_sem]
       refine hK _ _ ?_
       clear hK K
       simp only [go_sem]
       refine b0k (fun hc51 => ?_) (fun hc51 => ?_)
       ·rw [b0r hc51] at hm1
        refine b0b fun K hK => ?_
        simp only [go_sem]
        refine hK _ _ ?_
        clear hK K
        simp only [b0x, b1p, b2e, b0y]
        obtain rfl := sI9 hm1
        obtain rfl := hb43 _ rfl
        try dsimp only at hm0
        obtain rfl := sI9 hm0
        exact b04 (by simp only [go_sem]) (b0e _)
       ·rw [b0q hc51] at hm1
        simp only [b0s, b02, b0f]
        refine hK46 _ _ ?_
        refine b03 fun K hK => ?_
        simp only [go_sem, s7]
        refine hK _ _ ?_
        clear hK K
        simp only [b0f]
        obtain rfl := sI9 hm1
        refine ⟨_, rfl, ?_⟩
        exact ⟨s1, (by first | (simp only [go_sem]; done) | rfl)⟩
      ·rw [b0q hc45] at hm1
       simp only [b09, b1b, b1a, b0f]
       obtain rfl := sI9 hm1
       obtain rfl := hb43 _ rfl
       try dsimp only at hm0
       exact J14  _ _ s1 hm0
    simp only [b0u]
    obtain ⟨b53, hl53, hm0⟩ := b0g hm0
    refine b1j hl53 (fun | i_6, t, h => t 1 = .fp (vM m) 0 /\ t 6 = I i_6) ?_ ?_
    ·exact ⟨s1, (by first | (simp only [go_sem]; done) | rfl)⟩
    ·rintro i_6 o t h ⟨s1, s6⟩ hm1 hb53
     simp only [p6x] at hm1
     rw [g4h]
     refine b0v ?_
     refine b0b fun K hK => ?_
     simp only [go_sem, s1, s6]
     refine hK _ _ ?_
     clear hK K
     refine b0i fun K54 hK54 => ?_
     simp only [go_sem]
     refine b0k (fun hc55 => ?_) (fun hc55 => ?_)
     ·rw [b0r hc55] at hm1
      simp only [b0s, b0f]
      refine hK54 _ _ ?_
      refine b0i fun K56 hK56 => ?_
      simp only [b0u]
      obtain ⟨x58, h_x58, hm1⟩ := b0g hm1
      have h_x580 := b05 h_x58
      have h_x581 := b06 h_x58
      refine b0b fun K hK => ?_
      simp only [go_sem, s1, s6, b08 h_x58, h_x581]
      refine b01 (b4p x58.Max 1 7) ?_
      simp only [go_sem]
      refine hK _ _ ?_
      clear hK K
      simp only [go_sem]
      refine b0k (fun hc59 => ?_) (fun hc59 => ?_)
      ·rw [b0r hc59] at hm1
       refine b0b fun K hK => ?_
       simp only [go_sem]
       refine hK _ _ ?_
       clear hK K
       simp only [b0x, b1p, b2e, b0y]
       obtain rfl := sI9 hm1
       obtain rfl := hb53 _ rfl
       try dsimp only at hm0
       obtain rfl := sI9 hm0
       exact b04 (by simp only [go_sem]) (b0e _)
      ·rw [b0q hc59] at hm1
       simp only [b0s, b02, b0f]
       refine hK56 _ _ ?_
       refine b03 fun K hK => ?_
       simp only [go_sem, s6]
       refine hK _ _ ?_
       clear hK K
       simp only [b0f]
       obtain rfl := sI9 hm1
       refine ⟨_, rfl, ?_⟩
       exact ⟨s1, (by first | (simp only [go_sem]; done) | rfl)⟩
     ·rw [b0q hc55] at hm1
      simp only [b09, b1b, b1a, b0f]
      obtain rfl := sI9 hm1
      obtain rfl := hb53 _ rfl
      try dsimp only at hm0
      exact J12  _ _ s1 hm0
   simp only [b0u]
   obtain ⟨b61, hl61, hm0⟩ := b0g hm0
   refine b1j hl61 (fun | i_4, t, h => t 1 = .fp (vM m) 0 /\ t 3 = .fs 1 (List.map eS y8) /\ t 4 = I i_4) ?_ ?_
   ·exact ⟨s1, (by first | (simp only [go_sem]; done) | rfl), (by first | (simp only [go_sem]; done) | rfl)⟩
   ·rintro i_4 o t h ⟨s1, s3, s4⟩ hm1 hb61
    simp only [b7n] at hm1
    rw [g4g]
    refine b0v ?_
    refine b0b fun K hK => ?_
    simp only [go_sem, s3, s4]
    refine hK _ _ ?_
    clear hK K
    refine b0i fun K62 hK62 => ?_
    simp only [go_sem]
    refine b0k (fun hc63 => ?_) (fun hc63 => ?_)
    ·rw [b0r hc63] at hm1
     simp only [b0s, b0f]
     refine hK62 _ _ ?_
     refine b0i fun K64 hK64 => ?_
     have J65 : ∀ (t : Slots) (h : Heap), t 1 = .fp (vM m) 0 -> t 3 = .fs 1 (List.map eS y8) -> t 4 = I i_4 -> c8b i_4 = some o -> K64 t h := by
      intro t h s1 s3 s4 hm1
      refine hK64 _ _ ?_
      unfold c8b at hm1
      refine b03 fun K hK => ?_
      simp only [go_sem, s4]
      refine hK _ _ ?_
      clear hK K
      simp only [b0f]
      obtain rfl := sI9 hm1
      refine ⟨_, rfl, ?_⟩
      exact ⟨s1, s3, (by first | (simp only [go_sem]; done) | rfl)⟩
     simp only [b0u]
     refine b0v ?_
     obtain ⟨x69, h_x69, hm1⟩ := b0g hm1
     have h_x690 := b05 h_x69
     have h_x691 := b06 h_x69
     obtain ⟨c71, h_c71, hm1⟩ := b0g hm1
     refine b2p (fun t h => t 1 = .fp (vM m) 0 /\ t 3 = .fs 1 (List.map eS y8) /\ t 4 = I i_4 /\ t 61 = B c71) (fun K hK => ?_) ?_
     ·simp only [go_sem, s3, s4, b08 h_x69, h_x691]
      refine b0k (fun hg72 => ?_) (fun hg72 => ?_)
      ·simp only [hg72, eq_self, if_true] at h_c71
       obtain rfl := sI9 h_c71
       simp only [go_sem, hg72]
       exact hK _ _ ⟨s1, s3, s4, (by first | (simp only [go_sem]; done) | rfl)⟩
      ·simp only [hg72, if_false, fT9] at h_c71
       obtain ⟨y70, h_y70, h_c71⟩ := b0g h_c71
       obtain rfl := sI9 h_c71
       simp only [go_sem, s3, s4, b08 h_x69, hg72]
       refine b01 (d3d x69 _ h_y70) ?_
       simp only [go_sem, hg72]
       exact hK _ _ ⟨s1, s3, s4, (by first | (simp only [go_sem]; done) | rfl)⟩
     ·rintro t h ⟨s1, s3, s4, s61⟩
      refine b0i fun K73 hK73 => ?_
      simp only [go_sem, s61]
      refine b0k (fun hc74 => ?_) (fun hc74 => ?_)
      ·rw [b0r hc74] at hm1
       refine b0b fun K hK => ?_
       simp only [go_sem]
       refine hK _ _ ?_
       clear hK K
       simp only [b0x, b1p, b2e, b0y]
       obtain rfl := sI9 hm1
       obtain rfl := hb61 _ rfl
       try dsimp only at hm0
       obtain rfl := sI9 hm0
       exact b04 (by simp only [go_sem]) (b0e _)
      ·rw [b0q hc74] at hm1
       simp only [b0s, b0f]
       refine hK73 _ _ ?_
       refine b0b fun K hK => ?_
       simp only [go_sem]
       refine hK _ _ ?_
       clear hK K
       simp only [b0u]
       obtain ⟨b75, hl75, hm1⟩ := b0g hm1
       refine b1j hl75 (fun | k_5, t, h => t 1 = .fp (vM m) 0 /\ t 3 = .fs 1 (List.map eS y8) /\ t 4 = I i_4 /\ t 5 = I k_5) ?_ ?_
       ·exact ⟨s1, s3, s4, (by first | (simp only [go_sem]; done) | rfl)⟩
       ·rintro k_5 o t h ⟨s1, s3, s4, s5⟩ hm2 hb75
        simp only [b8u] at hm2
        rw [g4f]
        refine b0v ?_
        refine b0b fun K hK => ?_
        simp only [go_sem, s4, s5]
        refine hK _ _ ?_
        clear hK K
        refine b0i fun K76 hK76 => ?_
        simp only [go_sem]
        refine b0k (fun hc77 => ?_) (fun hc77 => ?_)
        ·rw [b0r hc77] at hm2
         simp only [b0s, b0f]
         refine hK76 _ _ ?_
         refine b0i fun K78 hK78 => ?_
         simp only [b0u]
         obtain ⟨x81, h_x81, hm2⟩ := b0g hm2
         have h_x810 := b05 h_x81
         have h_x811 := b06 h_x81
         obtain ⟨x82, h_x82, hm2⟩ := b0g hm2
         have h_x820 := b05 h_x82
         have h_x821 := b06 h_x82
         refine b0b fun K hK => ?_
         simp only [go_sem, s3, s4, s5, b08 h_x81, b08 h_x82]
         refine hK _ _ ?_
         clear hK K
         simp only [go_sem]
         refine b0k (fun hc83 => ?_) (fun hc83 => ?_)
         ·rw [b0r hc83] at hm2
          refine b0b fun K hK => ?_
          simp only [go_sem]
          refine hK _ _ ?_
          clear hK K
          simp only [b0x, b1p, b2e, b0y]
          obtain rfl := sI9 hm2
          obtain rfl := hb75 _ rfl
          try dsimp only at hm1
          obtain rfl := sI9 hm1
          obtain rfl := hb61 _ rfl
          try dsimp only at hm0
          obtain rfl := sI9 hm0
          exact b04 (by simp only [go_sem]) (b0e _)
         ·rw [b0q hc83] at hm2
          simp only [b0s, b02, b0f]
          refine hK78 _ _ ?_
          refine b03 fun K hK => ?_
          simp only [go_sem, s5]
          refine hK _ _ ?_
          clear hK K
          simp only [b0f]
          obtain rfl := sI9 hm2
          refine ⟨_, rfl, ?_⟩
          exact ⟨s1, s3, s4, (by first | (simp only [go_sem]; done) | rfl)⟩
        ·rw [b0q hc77] at hm2
         simp only [b09, b1b, b1a, b02, b0f]
         obtain rfl := sI9 hm2
         obtain rfl := hb75 _ rfl
         try dsimp only at hm1
         exact J65  _ _ s1 s3 s4 hm1
    ·rw [b0q hc63] at hm1
     simp only [b09, b1b, b1a, b0f]
     obtain rfl := sI9 hm1
     obtain rfl := hb61 _ rfl
     try dsimp only at hm0
     exact J10  _ _ s1 hm0
theorem c3j (hf : Has O "newel/newelref04.CheckConds" x_r04_CheckConds) (c3i : c5k O) (c3m : c5p O) : c5l O := by
 intro m l r hm0
 unfold c0v at hm0
 refine b1i hf rfl (b0a (fM _) (b0a (b0c fun a _ => b97 a) b0j)) (b0e _) ?_
 refine b1c (fun t h => t 0 = .agg (vM m) /\ t 1 = .fs 1 (List.map b4v l)) ⟨rfl, rfl⟩ fun t h ⟨s0, s1⟩ => ?_
 simp only [x_r04_CheckConds]
 refine b0b fun K hK => ?_
 simp only [go_sem, s0]
 refine hK _ _ ?_
 clear hK K
 obtain ⟨y2, h_y2, hm0⟩ := b0g hm0
 refine b0b fun K hK => ?_
 simp only [go_sem]
 refine b01 (c3i m _ h_y2) ?_
 simp only [go_sem]
 refine hK _ _ ?_
 clear hK K
 refine b0v ?_
 refine b0b fun K hK => ?_
 simp only [go_sem]
 refine hK _ _ ?_
 clear hK K
 refine b0i fun K3 hK3 => ?_
 simp only [go_sem]
 refine b0k (fun hc4 => ?_) (fun hc4 => ?_)
 ·rw [b0r hc4] at hm0
  refine b0b fun K hK => ?_
  simp only [go_sem]
  refine hK _ _ ?_
  clear hK K
  simp only [b0x, b1p, b0y]
  obtain rfl := sI9 hm0
  exact b04 (by simp only [go_sem]) (b0e _)
 ·rw [b0q hc4] at hm0
  simp only [b0s, b0f]
  refine hK3 _ _ ?_
  refine b0v ?_
  refine b0b fun K hK => ?_
  simp only [go_sem]
  refine hK _ _ ?_
  clear hK K
  refine b0i fun K5 hK5 => ?_
  have J6 : ∀ (t : Slots) (h : Heap), d4o = some r -> K5 t h := by
   intro t h hm0
   refine hK5 _ _ ?_
   unfold d4o at hm0
   refine b0b fun K hK => ?_
   simp only [go_sem]
   refine hK _ _ ?_
   clear hK K
   simp only [b0x, b0y]
   obtain rfl := sI9 hm0
   exact b04 (by simp only [go_sem]) (b0e _)
  simp only [b0u]
  obtain ⟨b7, hl7, hm0⟩ := b0g hm0
  refine b1j hl7 (fun | i_6, t, h => t 1 = .fs 1 (List.map b4v l) /\ t 2 = .fp (vM m) 0 /\ t 6 = I i_6) ?_ ?_
  ·exact ⟨s1, (by first | (simp only [go_sem]; done) | rfl), (by first | (simp only [go_sem]; done) | rfl)⟩
  ·rintro i_6 o t h ⟨s1, s2, s6⟩ hm1 hb7
   simp only [p5t] at hm1
   rw [g4e]
   refine b0v ?_
   refine b0b fun K hK => ?_
   simp only [go_sem, s1, s6]
   refine hK _ _ ?_
   clear hK K
   refine b0i fun K8 hK8 => ?_
   simp only [go_sem]
   refine b0k (fun hc9 => ?_) (fun hc9 => ?_)
   ·rw [b0r hc9] at hm1
    simp only [b0s, b0f]
    refine hK8 _ _ ?_
    refine b0i fun K10 hK10 => ?_
    simp only [b0u]
    obtain ⟨x13, h_x13, hm1⟩ := b0g hm1
    have h_x130 := b05 h_x13
    have h_x131 := b06 h_x13
    obtain ⟨y14, h_y14, hm1⟩ := b0g hm1
    refine b0b fun K hK => ?_
    simp only [go_sem, s1, s2, s6, b08 h_x13, h_x131]
    refine b01 (c3m m x13 true _ h_y14) ?_
    simp only [go_sem]
    refine hK _ _ ?_
    clear hK K
    simp only [go_sem]
    refine b0k (fun hc15 => ?_) (fun hc15 => ?_)
    ·rw [b0r hc15] at hm1
     refine b0b fun K hK => ?_
     simp only [go_sem]
     refine hK _ _ ?_
     clear hK K
     simp only [b0x, b1p, b2e, b0y]
     obtain rfl := sI9 hm1
     obtain rfl := hb7 _ rfl
     try dsimp only at hm0
     obtain rfl := sI9 hm0
     exact b04 (by simp only [go_sem]) (b0e _)
    ·rw [b0q hc15] at hm1
     simp only [b0s, b02, b0f]
     refine hK10 _ _ ?_
     refine b03 fun K hK => ?_
     simp only [go_sem, s6]
     refine hK _ _ ?_
     clear hK K
     simp only [b0f]
     obtain rfl := sI9 hm1
     refine ⟨_, rfl, ?_⟩
     exact ⟨s1, s2, (by first | (simp only [go_sem]; done) | rfl)⟩
   ·rw [b0q hc9] at hm1
    simp only [b09, b1b, b1a, b0f]
    obtain rfl := sI9 hm1
    obtain rfl := hb7 _ rfl
    try dsimp only at hm0
    exact J6  _ _  hm0
theorem d3b (hf : Has O "newel/newelref04.Heard" x_r04_Heard) : d0e O := by
 intro x input value r hm0
 unfold b6a at hm0
 refine b1i hf rfl (b0a (b0e _) (b0a (b0e _) (b0a (b0e _) b0j))) (b0e _) ?_
 refine b1c (fun t h => t 0 = I x /\ t 1 = I input /\ t 2 = I value) ⟨rfl, rfl, rfl⟩ fun t h ⟨s0, s1, s2⟩ => ?_
 simp only [x_r04_Heard]
 refine b0b fun K hK => ?_
 simp only [go_sem]
 refine hK _ _ ?_
 clear hK K
 refine b0v ?_
 refine b0b fun K hK => ?_
 simp only [go_sem, s1]
 refine hK _ _ ?_
 clear hK K
 refine b0i fun K1 hK1 => ?_
 simp only [go_sem]
 refine b0k (fun hc2 => ?_) (fun hc2 => ?_)
 ·rw [b0r hc2] at hm0
  refine b0b fun K hK => ?_
  simp only [go_sem, s0]
  refine hK _ _ ?_
  clear hK K
  simp only [b0x, b1p, b0y]
  obtain rfl := sI9 hm0
  exact b04 (by simp only [go_sem]) (b0e _)
 ·rw [b0q hc2] at hm0
  simp only [b0s, b0f]
  refine hK1 _ _ ?_
  obtain ⟨q4, h_q4, hm0⟩ := b0g hm0
  refine b0b fun K hK => ?_
  simp only [go_sem, s1, c21 h_q4]
  refine hK _ _ ?_
  clear hK K
  refine b0v ?_
  refine b0b fun K hK => ?_
  simp only [go_sem, s2]
  refine hK _ _ ?_
  clear hK K
  refine b0i fun K5 hK5 => ?_
  simp only [go_sem]
  refine b0k (fun hc6 => ?_) (fun hc6 => ?_)
  ·rw [b0r hc6] at hm0
   refine b0b fun K hK => ?_
   simp only [go_sem, s0]
   refine hK _ _ ?_
   clear hK K
   simp only [b0x, b1p, b0y]
   obtain rfl := sI9 hm0
   exact b04 (by simp only [go_sem]) (b0e _)
  ·rw [b0q hc6] at hm0
   simp only [b0s, b0f]
   refine hK5 _ _ ?_
   refine b0b fun K hK => ?_
   simp only [go_sem, s0]
   refine hK _ _ ?_
   clear hK K
   simp only [b0x, b0y]
   obtain rfl := sI9 hm0
   exact b04 (by simp only [go_sem]) (b0e _)
theorem b54 (hf : Has O "newel/newelref04.Holds" x_r04_Holds) (d3e : d0h O) : b9a O := by
 intro m p input c r hm0
 unfold b7o at hm0
 refine b1i hf rfl (b0a (fM _) (b0a (.agg _ (b0a (b0e _) (b0a (b0e _) (b0a (b0e _) b0j)))) (b0a (b0e _) (b0a (b0c fun a _ => b2j a) b0j)))) (b0e _) ?_
 refine b1c (fun t h => t 0 = .agg (vM m) /\ t 1 = .agg [I p.State, I p.Values.1, I p.Values.2] /\ t 2 = I input /\ t 3 = .fs 1 (List.map b0t c)) ⟨rfl, rfl, rfl, rfl⟩ fun t h ⟨s0, s1, s2, s3⟩ => ?_
 simp only [x_r04_Holds]
 refine b0b fun K hK => ?_
 simp only [go_sem, s0, s1]
 refine hK _ _ ?_
 clear hK K
 refine b0v ?_
 refine b0b fun K hK => ?_
 simp only [go_sem]
 refine hK _ _ ?_
 clear hK K
 refine b0i fun K1 hK1 => ?_
 have J2 : ∀ (t : Slots) (h : Heap), d4q = some r -> K1 t h := by
  intro t h hm0
  refine hK1 _ _ ?_
  unfold d4q at hm0
  refine b0b fun K hK => ?_
  simp only [go_sem]
  refine hK _ _ ?_
  clear hK K
  simp only [b0x, b0y]
  obtain rfl := sI9 hm0
  exact b04 (by simp only [go_sem]) (b0e _)
 simp only [b0u]
 obtain ⟨b3, hl3, hm0⟩ := b0g hm0
 refine b1j hl3 (fun | i_9, t, h => t 2 = I input /\ t 3 = .fs 1 (List.map b0t c) /\ t 4 = .fp (vM m) 0 /\ t 5 = .fp [I p.State, I p.Values.1, I p.Values.2] 0 /\ t 9 = I i_9) ?_ ?_
 ·exact ⟨s2, s3, (by first | (simp only [go_sem]; done) | rfl), (by first | (simp only [go_sem]; done) | rfl), (by first | (simp only [go_sem]; done) | rfl)⟩
 ·rintro i_9 o t h ⟨s2, s3, s4, s5, s9⟩ hm1 hb3
  simp only [c4d] at hm1
  rw [g4n]
  refine b0v ?_
  refine b0b fun K hK => ?_
  simp only [go_sem, s3, s9]
  refine hK _ _ ?_
  clear hK K
  refine b0i fun K4 hK4 => ?_
  simp only [go_sem]
  refine b0k (fun hc5 => ?_) (fun hc5 => ?_)
  ·rw [b0r hc5] at hm1
   simp only [b0s, b0f]
   refine hK4 _ _ ?_
   refine b0i fun K6 hK6 => ?_
   have J7 : ∀ (t : Slots) (h : Heap), t 2 = I input -> t 3 = .fs 1 (List.map b0t c) -> t 4 = .fp (vM m) 0 -> t 5 = .fp [I p.State, I p.Values.1, I p.Values.2] 0 -> t 9 = I i_9 -> c8e i_9 = some o -> K6 t h := by
    intro t h s2 s3 s4 s5 s9 hm1
    refine hK6 _ _ ?_
    unfold c8e at hm1
    refine b03 fun K hK => ?_
    simp only [go_sem, s9]
    refine hK _ _ ?_
    clear hK K
    simp only [b0f]
    obtain rfl := sI9 hm1
    refine ⟨_, rfl, ?_⟩
    exact ⟨s2, s3, s4, s5, (by first | (simp only [go_sem]; done) | rfl)⟩
   simp only [b0u]
   refine b0b fun K hK => ?_
   simp only [go_sem]
   refine hK _ _ ?_
   clear hK K
   refine b0v ?_
   refine b0b fun K hK => ?_
   simp only [go_sem]
   refine hK _ _ ?_
   clear hK K
   refine b0i fun K8 hK8 => ?_
   have J9 : ∀ (all_10 : Bool) (t : Slots) (h : Heap), t 2 = I input -> t 3 = .fs 1 (List.map b0t c) -> t 4 = .fp (vM m) 0 -> t 5 = .fp [I p.State, I p.Values.1, I p.Values.2] 0 -> t 9 = I i_9 -> t 10 = B all_10 -> c8f i_9 all_10 = some o -> K8 t h := by
    intro all_10 t h s2 s3 s4 s5 s9 s10 hm1
    refine hK8 _ _ ?_
    unfold c8f at hm1
    refine b0b fun K hK => ?_
    simp only [go_sem, s10]
    refine hK _ _ ?_
    clear hK K
    simp only [go_sem]
    refine b0k (fun hc10 => ?_) (fun hc10 => ?_)
    ·rw [b0r hc10] at hm1
     refine b0b fun K hK => ?_
     simp only [go_sem]
     refine hK _ _ ?_
     clear hK K
     simp only [b0x, b1p, b2e, b0y]
     obtain rfl := sI9 hm1
     obtain rfl := hb3 _ rfl
     try dsimp only at hm0
     obtain rfl := sI9 hm0
     exact b04 (by simp only [go_sem]) (b0e _)
    ·rw [b0q hc10] at hm1
     simp only [b0s, b02, b0f]
     exact J7  _ _ s2 s3 s4 s5 s9 hm1
   simp only [b0u]
   obtain ⟨b11, hl11, hm1⟩ := b0g hm1
   refine b1j hl11 (fun | (all_10, k_11), t, h => t 2 = I input /\ t 3 = .fs 1 (List.map b0t c) /\ t 4 = .fp (vM m) 0 /\ t 5 = .fp [I p.State, I p.Values.1, I p.Values.2] 0 /\ t 9 = I i_9 /\ t 10 = B all_10 /\ t 11 = I k_11) ?_ ?_
   ·exact ⟨s2, s3, s4, s5, s9, (by first | (simp only [go_sem]; done) | rfl), (by first | (simp only [go_sem]; done) | rfl)⟩
   ·rintro ⟨all_10, k_11⟩ o t h ⟨s2, s3, s4, s5, s9, s10, s11⟩ hm2 hb11
    simp only [c4e] at hm2
    rw [g4o]
    refine b0v ?_
    obtain ⟨x13, h_x13, hm2⟩ := b0g hm2
    have h_x130 := b05 h_x13
    have h_x131 := b06 h_x13
    refine b0b fun K hK => ?_
    simp only [go_sem, s3, s9, s11, b08 h_x13]
    refine hK _ _ ?_
    clear hK K
    refine b0i fun K14 hK14 => ?_
    simp only [go_sem]
    refine b0k (fun hc15 => ?_) (fun hc15 => ?_)
    ·rw [b0r hc15] at hm2
     simp only [b0s, b0f]
     refine hK14 _ _ ?_
     refine b0i fun K16 hK16 => ?_
     simp only [b0u]
     obtain ⟨c22, h_c22, hm2⟩ := b0g hm2
     refine b9y (fun t h => t 2 = I input /\ t 3 = .fs 1 (List.map b0t c) /\ t 4 = .fp (vM m) 0 /\ t 5 = .fp [I p.State, I p.Values.1, I p.Values.2] 0 /\ t 9 = I i_9 /\ t 10 = B c22 /\ t 11 = I k_11) (fun K hK => ?_) ?_
     ·simp only [go_sem, s10]
      refine b0k (fun hg23 => ?_) (fun hg23 => ?_)
      ·simp only [hg23, eq_self, if_true] at h_c22
       obtain ⟨x20, h_x20, h_c22⟩ := b0g h_c22
       have h_x200 := b05 h_x20
       have h_x201 := b06 h_x20
       obtain ⟨y21, h_y21, h_c22⟩ := b0g h_c22
       obtain rfl := sI9 h_c22
       simp only [go_sem, s2, s3, s4, s5, s9, s11, b08 h_x20, h_x201, b08 h_x13, hg23]
       refine b01 (d3e m p input x20 _ h_y21) ?_
       simp only [go_sem, h_x201, hg23]
       exact hK _ _ ⟨s2, s3, s4, s5, s9, (by first | (simp only [go_sem]; done) | rfl), s11⟩
      ·simp only [hg23, if_false, fT9] at h_c22
       obtain rfl := sI9 h_c22
       simp only [go_sem, hg23]
       exact hK _ _ ⟨s2, s3, s4, s5, s9, (by first | (simp only [go_sem]; done) | rfl), s11⟩
     ·rintro t h ⟨s2, s3, s4, s5, s9, s10, s11⟩
      simp only [b02, b0f]
      refine hK16 _ _ ?_
      refine b03 fun K hK => ?_
      simp only [go_sem, s11]
      refine hK _ _ ?_
      clear hK K
      simp only [b0f]
      obtain rfl := sI9 hm2
      refine ⟨_, rfl, ?_⟩
      exact ⟨s2, s3, s4, s5, s9, s10, (by first | (simp only [go_sem]; done) | rfl)⟩
    ·rw [b0q hc15] at hm2
     simp only [b09, b1b, b1a, b0f]
     obtain rfl := sI9 hm2
     obtain rfl := hb11 _ rfl
     try dsimp only at hm1
     exact J9 all_10 _ _ s2 s3 s4 s5 s9 s10 hm1
  ·rw [b0q hc5] at hm1
   simp only [b09, b1b, b1a, b0f]
   obtain rfl := sI9 hm1
   obtain rfl := hb3 _ rfl
   try dsimp only at hm0
   exact J2  _ _  hm0
theorem b4p (hf : Has O "newel/newelref04.from" x_r04_from) : c5r O := by
 intro n low high
 generalize hm0 : b2b n low high = r
 unfold b2b at hm0
 refine b1i hf rfl (b0a (b0e _) (b0a (b0e _) (b0a (b0e _) b0j))) (b0e _) ?_
 refine b1c (fun t h => t 0 = I n /\ t 1 = I low /\ t 2 = I high) ⟨rfl, rfl, rfl⟩ fun t h ⟨s0, s1, s2⟩ => ?_
 simp only [x_r04_from]
 refine b0b fun K hK => ?_
 simp only [go_sem]
 refine hK _ _ ?_
 clear hK K
 refine b2p (fun t h => t 6 = B ((decide (low <= n)) && (decide (n <= high)))) (fun K hK => ?_) ?_
 ·simp only [go_sem, s0, s1]
  refine b0k (fun hg1 => ?_) (fun hg1 => ?_)
  ·simp only [go_sem, s0, s2, hg1]
   exact hK _ _ (by first | (simp only [go_sem, hg1]; done) | rfl)
  ·simp only [go_sem, hg1]
   exact hK _ _ (by first | (simp only [go_sem, hg1]; done) | rfl)
 ·rintro t h s6
  simp only [b0x, b0y]
  obtain rfl := hm0
  exact b04 (by simp only [go_sem, s6]) (b0e _)
theorem d3n (d3o : d0r O) (d3p : d0s O) : d0q O := by
 intro m r hm0
 unfold c45 at hm0
 split at hm0
 ·exact d3o m r hm0
 ·exact d3p m r hm0
end Go.Nw.KM
