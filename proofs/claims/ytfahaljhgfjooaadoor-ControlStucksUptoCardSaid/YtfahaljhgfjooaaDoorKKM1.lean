/- That the texts make what their models say: printed by a program. -/
import Derived.Test.YtfahaljhgfjooaaDoorKM
set_option linter.all false
namespace Go.Nw.KM
open Go.Nw.Ctl
set_option maxHeartbeats 4000000
variable {O : Orac} [MapsOk O]
theorem d08 (hf : Has O "(*newel/control.walk).first" x___control_walk__first) (d09 : c79 O) : c78 O := by
 intro w_ wanted_n wanted_a wanted_b wanted wanted_z wanted_h r hm0
 unfold c05 at hm0
 refine b1h hf rfl (b0a (.fp _ _ (b0a (b0c fun a _ => b4s a) (b0a (b0c fun a _ => b13 a) (b0a (b0c fun a _ => b13 a) (b0a (b0c fun a _ => b8e a) b0l))))) (b0a wanted_z b0l)) (.tup _ (b0a (b0c fun a _ => b13 a) (b0a (b0e _) b0l))) ?_
 refine b1f (fun t h => t 0 = .fp [.fs 3 (List.map b1y w_.places), .fs 1 (List.map eI w_.from_), .fs 1 (List.map eI w_.by_), .fs 1 (List.map b21 w_.next)] 0 /\ t 1 = .fn wanted_n wanted_a wanted_b) ⟨rfl, rfl⟩ fun t h ⟨s0, s1⟩ => ?_
 simp only [x___control_walk__first]
 refine b0b fun K hK => ?_
 simp only [go_sem]
 refine hK _ _ ?_
 clear hK K
 refine b0v ?_
 refine b0b fun K hK => ?_
 simp only [go_sem, s0]
 refine hK _ _ ?_
 clear hK K
 refine b0i fun K1 hK1 => ?_
 have J2 : ∀ (t : Slots) (h : Heap), c4h = some r -> K1 t h := by
  intro t h hm0
  refine hK1 _ _ ?_
  unfold c4h at hm0
  refine b0b fun K hK => ?_
  simp only [go_sem]
  refine hK _ _ ?_
  clear hK K
  simp only [b0x, b0y]
  obtain rfl := sI9 hm0
  exact d48 (v := .v (.slice none 0 0)) (u := B false) (by simp only [go_sem]) (by simp only [go_sem]) (.nil _) (.refl _ (b0e _))
 simp only [b0u]
 obtain ⟨b3, hl3, hm0⟩ := b0g hm0
 refine b1l hl3 (fun | x_12, t, h => t 0 = .fp [.fs 3 (List.map b1y w_.places), .fs 1 (List.map eI w_.from_), .fs 1 (List.map eI w_.by_), .fs 1 (List.map b21 w_.next)] 0 /\ t 1 = .fn wanted_n wanted_a wanted_b /\ t 11 = I (List.length w_.places : Int) /\ t 12 = I x_12) ?_ ?_
 ·exact ⟨s0, s1, (by first | (simp only [go_sem]; done) | rfl), (by first | (simp only [go_sem]; done) | rfl)⟩
 ·rintro x_12 o t h ⟨s0, s1, s11, s12⟩ hm1 hb3
  simp only [b89] at hm1
  rw [g1v]
  refine b0b fun K hK => ?_
  simp only [go_sem, s11, s12]
  refine hK _ _ ?_
  clear hK K
  refine b0i fun K4 hK4 => ?_
  simp only [go_sem]
  refine b0j (fun hc5 => ?_) (fun hc5 => ?_)
  ·rw [b0q hc5] at hm1
   simp only [b0r, b0f]
   refine hK4 _ _ ?_
   refine b0i fun K6 hK6 => ?_
   simp only [b0u]
   refine b0b fun K hK => ?_
   simp only [go_sem, s12]
   refine hK _ _ ?_
   clear hK K
   obtain ⟨y8, h_y8, hm1⟩ := b0g hm1
   refine b0b fun K hK => ?_
   simp only [go_sem, s1]
   refine c5p (wanted_h x_12 _ h_y8) ?_
   simp only [go_sem]
   refine hK _ _ ?_
   clear hK K
   simp only [go_sem]
   refine b0j (fun hc9 => ?_) (fun hc9 => ?_)
   ·rw [b0q hc9] at hm1
    obtain ⟨y11, h_y11, hm1⟩ := b0g hm1
    refine b0b fun K hK => ?_
    simp only [go_sem, s0]
    refine b03 (d09 w_ x_12 _ h_y11) ?_
    simp only [go_sem]
    refine hK _ _ ?_
    clear hK K
    simp only [b0x, b1n, b2b, b0y]
    obtain rfl := sI9 hm1
    obtain rfl := hb3 _ rfl
    try dsimp only at hm0
    obtain rfl := sI9 hm0
    exact d0a (by simp only [go_sem]) (by simp only [go_sem]) (b0c fun a _ => b13 a) (b0e _)
   ·rw [b0p hc9] at hm1
    simp only [b0r, b01, b0f]
    refine hK6 _ _ ?_
    refine b02 fun K hK => ?_
    simp only [go_sem, s12]
    refine hK _ _ ?_
    clear hK K
    simp only [b0f]
    obtain rfl := sI9 hm1
    refine ⟨_, rfl, ?_⟩
    exact ⟨s0, s1, s11, (by first | (simp only [go_sem]; done) | rfl)⟩
  ·rw [b0p hc5] at hm1
   simp only [b1b, b1e, b1d, b0f]
   obtain rfl := sI9 hm1
   obtain rfl := hb3 _ rfl
   try dsimp only at hm0
   exact J2  _ _  hm0
theorem d09 (hf : Has O "(*newel/control.walk).run" x___control_walk__run) (d2k : c9k O) : c79 O := by
 intro w_ at_ r hm0
 unfold b7s at hm0
 refine b1h hf rfl (b0a (.fp _ _ (b0a (b0c fun a _ => b4s a) (b0a (b0c fun a _ => b13 a) (b0a (b0c fun a _ => b13 a) (b0a (b0c fun a _ => b8e a) b0l))))) (b0a (b0e _) b0l)) (b0c fun a _ => b13 a) ?_
 refine b1f (fun t h => t 0 = .fp [.fs 3 (List.map b1y w_.places), .fs 1 (List.map eI w_.from_), .fs 1 (List.map eI w_.by_), .fs 1 (List.map b21 w_.next)] 0 /\ t 1 = I at_) ⟨rfl, rfl⟩ fun t h ⟨s0, s1⟩ => ?_
 simp only [x___control_walk__run]
 refine b0b fun K hK => ?_
 simp only [go_sem]
 refine hK _ _ ?_
 clear hK K
 refine b0b fun K hK => ?_
 simp only [go_sem]
 refine hK _ _ ?_
 clear hK K
 refine b0i fun K1 hK1 => ?_
 have J2 : ∀ (l_5 : List Int) (v5 : AV) (t : Slots) (h : Heap), t 5 = v5 -> b1o h v5 1 (List.map eI l_5) -> c4i l_5 = some r -> K1 t h := by
  intro l_5 v5 t h s5 Q17 hm0
  refine hK1 _ _ ?_
  unfold c4i at hm0
  obtain ⟨y4, h_y4, hm0⟩ := b0g hm0
  refine b2z (fun t h => t 5 = v5 /\ b1o h v5 1 (List.map eI y4)) (fun K hK => ?_) ?_
  ·simp only [go_sem, s5, b5k v5]
   refine d7n (d2k l_5 (v5) _ Q17 _ h_y4) ?_
   rintro _ hq_y4 ⟨rfl, ow_y4, fr_y4, fx_y4⟩
   simp only [go_sem]
   exact hK _ _ ⟨s5, ow_y4⟩
  ·rintro t h ⟨s5, Q17⟩
   refine b0b fun K hK => ?_
   simp only [go_sem, s5, b5k v5]
   refine hK _ _ ?_
   clear hK K
   simp only [b0x, b0y]
   obtain rfl := sI9 hm0
   exact b8b (v := v5) (by simp only [go_sem]) (b8f (f := eI) (l := y4) (b24 Q17 (by intro j hj hl; first | rfl | simp only [go_sem, hl]) (by first | omega | exact Nat.le_refl _ | (simp only [go_sem, nxs] <;> omega))) b13 b8k)
 simp only [b0u]
 obtain ⟨b5, hl5, hm0⟩ := b0g hm0
 refine b1l hl5 (fun | (at_1, l_5), t, h => ∃ v5 : AV, t 0 = .fp [.fs 3 (List.map b1y w_.places), .fs 1 (List.map eI w_.from_), .fs 1 (List.map eI w_.by_), .fs 1 (List.map b21 w_.next)] 0 /\ t 1 = I at_1 /\ t 5 = v5 /\ b1o h v5 1 (List.map eI l_5)) ?_ ?_
 ·exact ⟨(.v (.slice none 0 0)), s0, s1, (by first | (simp only [go_sem]; done) | rfl), b98⟩
 ·rintro ⟨at_1, l_5⟩ o t h ⟨v5, s0, s1, s5, Q17⟩ hm1 hb5
  simp only [b7t] at hm1
  rw [g1w]
  refine b0v ?_
  obtain ⟨x7, h_x7, hm1⟩ := b0g hm1
  have h_x70 := b06 h_x7
  have h_x71 := b07 h_x7
  refine b0b fun K hK => ?_
  simp only [go_sem, s0, s1, b1a h_x7]
  refine hK _ _ ?_
  clear hK K
  refine b0i fun K8 hK8 => ?_
  simp only [go_sem]
  refine b0j (fun hc9 => ?_) (fun hc9 => ?_)
  ·rw [b0q hc9] at hm1
   simp only [b0r, b0f]
   refine hK8 _ _ ?_
   refine b0i fun K10 hK10 => ?_
   simp only [b0u]
   obtain ⟨x13, h_x13, hm1⟩ := b0g hm1
   have h_x130 := b06 h_x13
   have h_x131 := b07 h_x13
   obtain ⟨l14, h_l14, hm1⟩ := b0g hm1
   refine b02 fun K hK => ?_
   simp only [go_sem, s0, s1, s5, b1a h_x13, b5k v5]
   refine b22 (f := eI) (l := l_5) (m := ([x13])) ?_ ?_ ?_ ?_ h_l14 ?_
   ·exact (b24 Q17 (by intro j hj hl; first | rfl | simp only [go_sem, hl]) (by first | omega | exact Nat.le_refl _ | (simp only [go_sem, nxs] <;> omega)))
   ·exact (b4j (by simp only [go_sem]) (by simp only [go_sem]))
   ·exact (b4h (by first | exact b1v | exact b1x (by first | omega | (simp only [nxs] <;> omega)) | assumption | exact b1u (by assumption) (by first | omega | (simp only [go_sem, nxs] <;> omega))))
   ·exact (fun _ => by simp)
   simp only [go_sem]
   refine hK _ _ ?_
   clear hK K
   simp only [b01, b0f]
   refine hK10 _ _ ?_
   refine b02 fun K hK => ?_
   simp only [go_sem, s0, s1, b1a h_x7]
   refine hK _ _ ?_
   clear hK K
   simp only [b0f]
   obtain rfl := sI9 hm1
   refine ⟨_, rfl, ?_⟩
   exact ⟨(.rs (nxs h.nx) 0 (List.length l14)), s0, (by first | (simp only [go_sem]; done) | rfl), (by first | (simp only [go_sem]; done) | rfl), (b2p (by simp only [go_sem, b8n Q17]) (by first | rfl | simp only [go_sem]) (by simp only [go_sem]))⟩
  ·rw [b0p hc9] at hm1
   simp only [b1b, b1e, b1d, b0f]
   obtain rfl := sI9 hm1
   obtain rfl := hb5 _ rfl
   try dsimp only at hm0
   exact J2 l_5 v5 _ _ s5 Q17 hm0
theorem d1a (hf : Has O "(newel/control.plant).breach" x__control_plant__breach) (d1c : c8c O) (d08 : c78 O) (d1b : c8b O) : c8a O := by
 intro m assume never heard_n heard_a heard_b heard heard_z heard_h r hm0
 unfold b7u at hm0
 refine b1h hf rfl (b0a (.agg _ (b0a (b0c fun a _ => b00 a) (b0a (b0c fun a _ => b00 a) (b0a (b0c fun a _ => b1r a) (b0a (b0c fun a _ => b1t a) (b0a (b0c fun a _ => b1s a) b0l)))))) (b0a (b0c fun a _ => b2l a) (b0a (b0c fun a _ => b2l a) (b0a heard_z b0l)))) (.tup _ (b0a (b0c fun a _ => b13 a) (b0a (b0e _) b0l))) ?_
 refine b1f (fun t h => t 0 = .agg [.fs 1 (List.map eS m.Plant.Machine.Inputs), .fs 1 (List.map eS m.Plant.Machine.Outputs), .fs 2 (List.map b0m m.Plant.Machine.Counters), .fs 2 (List.map b0n m.Plant.Machine.States), .fs 4 (List.map b0k m.Plant.Machine.Rules)] /\ t 1 = .fs 1 (List.map b0t assume) /\ t 2 = .fs 1 (List.map b0t never) /\ t 3 = .fn heard_n heard_a heard_b) ⟨rfl, rfl, rfl, rfl⟩ fun t h ⟨s0, s1, s2, s3⟩ => ?_
 simp only [x__control_plant__breach]
 refine b0b fun K hK => ?_
 simp only [go_sem, s0, s2]
 refine hK _ _ ?_
 clear hK K
 obtain ⟨y2, h_y2, hm0⟩ := b0g hm0
 refine b0b fun K hK => ?_
 simp only [go_sem, s1, s3]
 refine b03 (d1c m assume heard_n heard_a heard_b heard heard_z heard_h _ h_y2) ?_
 simp only [go_sem]
 refine hK _ _ ?_
 clear hK K
 refine b0v ?_
 refine c99 (s := 10) (id := h.nx) (n := 1) (cs := [.fp [.fs 3 (List.map b1y y2.places), .fs 1 (List.map eI y2.from_), .fs 1 (List.map eI y2.by_), .fs 1 (List.map b21 y2.next)] 0]) (by simp only [go_sem]) (by simp only [go_sem]) (b0a (.fp _ _ (b0a (b0c fun a _ => b4s a) (b0a (b0c fun a _ => b13 a) (b0a (b0c fun a _ => b13 a) (b0a (b0c fun a _ => b8e a) b0l))))) b0l) ?_
 obtain ⟨y6, h_y6, hm0⟩ := b0g hm0
 refine b0b fun K hK => ?_
 simp only [go_sem]
 refine b03 (d08 y2 "(newel/control.plant).breach$1" [] [.fp [.fs 1 (List.map eS m.Plant.Machine.Inputs), .fs 1 (List.map eS m.Plant.Machine.Outputs), .fs 2 (List.map b0m m.Plant.Machine.Counters), .fs 2 (List.map b0n m.Plant.Machine.States), .fs 4 (List.map b0k m.Plant.Machine.Rules)] 0, .fp [.fs 1 (List.map b0t never)] 0, .fp [.fp [.fs 3 (List.map b1y y2.places), .fs 1 (List.map eI y2.from_), .fs 1 (List.map eI y2.by_), .fs 1 (List.map b21 y2.next)] 0] 0] (fun z5 => b9a z5 m never y2) (.fn _ _ _ b0l (b0a (.fp _ _ (b0a (b0c fun a _ => b00 a) (b0a (b0c fun a _ => b00 a) (b0a (b0c fun a _ => b1r a) (b0a (b0c fun a _ => b1t a) (b0a (b0c fun a _ => b1s a) b0l)))))) (b0a (.fp _ _ (b0a (b0c fun a _ => b2l a) b0l)) (b0a (.fp _ _ (b0a (.fp _ _ (b0a (b0c fun a _ => b4s a) (b0a (b0c fun a _ => b13 a) (b0a (b0c fun a _ => b13 a) (b0a (b0c fun a _ => b8e a) b0l))))) b0l)) b0l)))) (fun z0 y hz => d1b z0 m never y2 y hz) _ h_y6) ?_
 simp only [go_sem]
 refine hK _ _ ?_
 clear hK K
 simp only [b0x, b0y]
 obtain rfl := sI9 hm0
 exact d0a (by simp only [go_sem]) (by simp only [go_sem]) (b0c fun a _ => b13 a) (b0e _)
theorem d1b (hf : Has O "(newel/control.plant).breach$1" x__control_plant__breachD1) (b6z : c0x O) : c8b O := by
 intro at_ c0 c1 c2 r hm0
 unfold b9a at hm0
 refine b1h hf rfl (b0a (b0e _) (b0a (.fp _ _ (b0a (b0c fun a _ => b00 a) (b0a (b0c fun a _ => b00 a) (b0a (b0c fun a _ => b1r a) (b0a (b0c fun a _ => b1t a) (b0a (b0c fun a _ => b1s a) b0l)))))) (b0a (.fp _ _ (b0a (b0c fun a _ => b2l a) b0l)) (b0a (.fp _ _ (b0a (.fp _ _ (b0a (b0c fun a _ => b4s a) (b0a (b0c fun a _ => b13 a) (b0a (b0c fun a _ => b13 a) (b0a (b0c fun a _ => b8e a) b0l))))) b0l)) b0l)))) (b0e _) ?_
 refine b1f (fun t h => t 0 = I at_ /\ t 1 = .fp [.fs 1 (List.map eS c0.Plant.Machine.Inputs), .fs 1 (List.map eS c0.Plant.Machine.Outputs), .fs 2 (List.map b0m c0.Plant.Machine.Counters), .fs 2 (List.map b0n c0.Plant.Machine.States), .fs 4 (List.map b0k c0.Plant.Machine.Rules)] 0 /\ t 2 = .fp [.fs 1 (List.map b0t c1)] 0 /\ t 3 = .fp [.fp [.fs 3 (List.map b1y c2.places), .fs 1 (List.map eI c2.from_), .fs 1 (List.map eI c2.by_), .fs 1 (List.map b21 c2.next)] 0] 0) ⟨rfl, rfl, rfl, rfl⟩ fun t h ⟨s0, s1, s2, s3⟩ => ?_
 simp only [x__control_plant__breachD1]
 refine b0b fun K hK => ?_
 simp only [go_sem]
 refine hK _ _ ?_
 clear hK K
 obtain ⟨x3, h_x3, hm0⟩ := b0g hm0
 have h_x30 := b06 h_x3
 have h_x31 := b07 h_x3
 obtain ⟨y4, h_y4, hm0⟩ := b0g hm0
 refine b0b fun K hK => ?_
 simp only [go_sem, s0, s1, s2, s3, b1a h_x3]
 refine b03 (b6z c0.Plant c1 x3 0 _ h_y4) ?_
 simp only [go_sem]
 refine hK _ _ ?_
 clear hK K
 simp only [b0x, b0y]
 obtain rfl := sI9 hm0
 exact b04 (by simp only [go_sem]) (b0e _)
theorem d1c (hf : Has O "(newel/control.plant).explore" x__control_plant__explore) (d1f : c8f O) (d1g : c8g O) (d1j : c8j O) : c8c O := by
 intro m assume heard_n heard_a heard_b heard heard_z heard_h r hm0
 unfold c06 at hm0
 refine b1h hf rfl (b0a (.agg _ (b0a (b0c fun a _ => b00 a) (b0a (b0c fun a _ => b00 a) (b0a (b0c fun a _ => b1r a) (b0a (b0c fun a _ => b1t a) (b0a (b0c fun a _ => b1s a) b0l)))))) (b0a (b0c fun a _ => b2l a) (b0a heard_z b0l))) (.fp _ _ (b0a (b0c fun a _ => b4s a) (b0a (b0c fun a _ => b13 a) (b0a (b0c fun a _ => b13 a) (b0a (b0c fun a _ => b8e a) b0l))))) ?_
 refine b1f (fun t h => t 0 = .agg [.fs 1 (List.map eS m.Plant.Machine.Inputs), .fs 1 (List.map eS m.Plant.Machine.Outputs), .fs 2 (List.map b0m m.Plant.Machine.Counters), .fs 2 (List.map b0n m.Plant.Machine.States), .fs 4 (List.map b0k m.Plant.Machine.Rules)] /\ t 1 = .fs 1 (List.map b0t assume) /\ t 2 = .fn heard_n heard_a heard_b) ⟨rfl, rfl, rfl⟩ fun t h ⟨s0, s1, s2⟩ => ?_
 simp only [x__control_plant__explore]
 refine b0b fun K hK => ?_
 simp only [go_sem, s0]
 refine hK _ _ ?_
 clear hK K
 refine b0b fun K hK => ?_
 simp only [go_sem]
 refine hK _ _ ?_
 clear hK K
 refine b0b fun K hK => ?_
 simp only [go_sem]
 refine d8d (O := O) (e := List.map (eM (vks b4t) vI) ([] : List (Place × Int))) rfl ?_
 simp only [go_sem]
 refine d00 (O := O) (fk := (vks b4t)) (fv := vI) (l := ([] : List (Place × Int))) (x := (Place.mk 0 (0, 0))) (v := 0) d9t d2n ?_ ?_ ?_
 ·rfl
 ·simp only [go_sem]
 simp only [go_sem]
 refine hK _ _ ?_
 clear hK K
 refine b0v ?_
 refine b0b fun K hK => ?_
 simp only [go_sem]
 refine hK _ _ ?_
 clear hK K
 refine b0i fun K1 hK1 => ?_
 have J2 : ∀ (w_7_0 : List Place) (w_7_1 : List Int) (w_7_2 : List Int) (w_7_3 : List (List Int)) (i7 : Nat) (i7_1 : Nat) (i7_2 : Nat) (i7_3 : Nat) (v7 : AV) (t : Slots) (h : Heap), t 7 = .rp i7 0 0 -> h.ob i7 = some (4, [[.rs i7_1 0 (List.length w_7_0), .rs i7_2 0 (List.length w_7_1), .rs i7_3 0 (List.length w_7_2), v7]]) -> i7 < h.nx -> h.ob i7_1 = some (3, List.map b1y w_7_0) -> i7_1 < h.nx -> h.ob i7_2 = some (1, List.map eI w_7_1) -> i7_2 < h.nx -> h.ob i7_3 = some (1, List.map eI w_7_2) -> i7_3 < h.nx -> b1o h v7 1 (List.map b21 w_7_3) -> ¬i7 = i7_1 -> ¬i7 = i7_2 -> ¬i7 = i7_3 -> b0s v7 i7 -> ¬i7_1 = i7_2 -> ¬i7_1 = i7_3 -> b0s v7 i7_1 -> ¬i7_2 = i7_3 -> b0s v7 i7_2 -> b0s v7 i7_3 -> c4k w_7_0 w_7_1 w_7_2 w_7_3 = some r -> K1 t h := by
  intro w_7_0 w_7_1 w_7_2 w_7_3 i7 i7_1 i7_2 i7_3 v7 t h s7 Q6 Q4 Qf Qa Qh Q8 Qi Q7 Ql Qc Qg Qj Qm Qn Qo Qq Qp Qr Qs hm0
  refine hK1 _ _ ?_
  unfold c4k at hm0
  refine b0b fun K hK => ?_
  simp only [go_sem, s7]
  refine hK _ _ ?_
  clear hK K
  simp only [b0x, b0y]
  obtain rfl := sI9 hm0
  exact b8b (v := .rp i7 0 0) (by simp only [go_sem]) (d58 (id := i7) (sz := 4) (xs := [.rs i7_1 0 (List.length w_7_0), .rs i7_2 0 (List.length w_7_1), .rs i7_3 0 (List.length w_7_2), v7]) (by simp only [go_sem, Q6]) (.cons (b3e (f := b1y) (l := w_7_0) (id := i7_1) (by simp only [go_sem, Qf]) (by first | rfl | simp only [go_sem, lA9, mA9]) b4s d2p) (.cons (b3e (f := eI) (l := w_7_1) (id := i7_2) (by simp only [go_sem, Qh]) (by first | rfl | simp only [go_sem, lA9, mA9]) b13 b8k) (.cons (b3e (f := eI) (l := w_7_2) (id := i7_3) (by simp only [go_sem, Qi]) (by first | rfl | simp only [go_sem, lA9, mA9]) b13 b8k) (.cons (b8f (f := b21) (l := w_7_3) (b24 Ql (by intro j hj hl; first | rfl | simp only [go_sem, hl, b4i hj Qm, b4i hj Qq, b4i hj Qr, b4i hj Qs]) (by first | omega | exact Nat.le_refl _ | (simp only [go_sem, nxs] <;> omega))) b8e j5j) (.nil))))))
 simp only [b0u]
 obtain ⟨b3, hl3, hm0⟩ := b0g hm0
 refine b1l hl3 (fun | (w_7_0, w_7_1, w_7_2, w_7_3, found_8, at_9), t, h => ∃ i7 : Nat, ∃ i7_1 : Nat, ∃ i7_2 : Nat, ∃ i7_3 : Nat, ∃ v7 : AV, ∃ i8 : Nat, t 1 = .fs 1 (List.map b0t assume) /\ t 2 = .fn heard_n heard_a heard_b /\ t 3 = .fp [.fs 1 (List.map eS m.Plant.Machine.Inputs), .fs 1 (List.map eS m.Plant.Machine.Outputs), .fs 2 (List.map b0m m.Plant.Machine.Counters), .fs 2 (List.map b0n m.Plant.Machine.States), .fs 4 (List.map b0k m.Plant.Machine.Rules)] 0 /\ t 7 = .rp i7 0 0 /\ t 8 = .mp i8 /\ t 9 = I at_9 /\ h.ob i7 = some (4, [[.rs i7_1 0 (List.length w_7_0), .rs i7_2 0 (List.length w_7_1), .rs i7_3 0 (List.length w_7_2), v7]]) /\ i7 < h.nx /\ h.ob i7_1 = some (3, List.map b1y w_7_0) /\ i7_1 < h.nx /\ h.ob i7_2 = some (1, List.map eI w_7_1) /\ i7_2 < h.nx /\ h.ob i7_3 = some (1, List.map eI w_7_2) /\ i7_3 < h.nx /\ b1o h v7 1 (List.map b21 w_7_3) /\ h.ob i8 = some (0, List.map (eM (vks b4t) vI) found_8) /\ i8 < h.nx /\ ¬i7 = i7_1 /\ ¬i7 = i7_2 /\ ¬i7 = i7_3 /\ b0s v7 i7 /\ ¬i7 = i8 /\ ¬i7_1 = i7_2 /\ ¬i7_1 = i7_3 /\ b0s v7 i7_1 /\ ¬i7_1 = i8 /\ ¬i7_2 = i7_3 /\ b0s v7 i7_2 /\ ¬i7_2 = i8 /\ b0s v7 i7_3 /\ ¬i7_3 = i8 /\ b0s v7 i8) ?_ ?_
 ·exact ⟨(nxs (nxs (nxs h.nx))), h.nx, (nxs h.nx), (nxs (nxs h.nx)), (.v (.slice none 0 0)), (nxs (nxs (nxs (nxs h.nx)))), s1, s2, (by first | (simp only [go_sem]; done) | rfl), (by first | (simp only [go_sem]; done) | rfl), (by first | (simp only [go_sem]; done) | rfl), (by first | (simp only [go_sem]; done) | rfl), (by simp only [go_sem]), (by simp only [go_sem]), (by simp only [go_sem]), (by simp only [go_sem]), (by simp only [go_sem]), (by simp only [go_sem]), (by simp only [go_sem]), (by simp only [go_sem]), b98, (by simp only [go_sem]), (by simp only [go_sem]), (by first | first | assumption | omega | (simp only [nxs] <;> omega)), (by first | first | assumption | omega | (simp only [nxs] <;> omega)), (by first | first | assumption | omega | (simp only [nxs] <;> omega)), (by first | exact b1v | exact b1x (by first | assumption | omega | (simp only [nxs] <;> omega)) | assumption | exact b1u (by assumption) (by first | assumption | omega | (simp only [nxs] <;> omega))), (by first | first | assumption | omega | (simp only [nxs] <;> omega)), (by first | first | assumption | omega | (simp only [nxs] <;> omega)), (by first | first | assumption | omega | (simp only [nxs] <;> omega)), (by first | exact b1v | exact b1x (by first | assumption | omega | (simp only [nxs] <;> omega)) | assumption | exact b1u (by assumption) (by first | assumption | omega | (simp only [nxs] <;> omega))), (by first | first | assumption | omega | (simp only [nxs] <;> omega)), (by first | first | assumption | omega | (simp only [nxs] <;> omega)), (by first | exact b1v | exact b1x (by first | assumption | omega | (simp only [nxs] <;> omega)) | assumption | exact b1u (by assumption) (by first | assumption | omega | (simp only [nxs] <;> omega))), (by first | first | assumption | omega | (simp only [nxs] <;> omega)), (by first | exact b1v | exact b1x (by first | assumption | omega | (simp only [nxs] <;> omega)) | assumption | exact b1u (by assumption) (by first | assumption | omega | (simp only [nxs] <;> omega))), (by first | first | assumption | omega | (simp only [nxs] <;> omega)), (by first | exact b1v | exact b1x (by first | assumption | omega | (simp only [nxs] <;> omega)) | assumption | exact b1u (by assumption) (by first | assumption | omega | (simp only [nxs] <;> omega)))⟩
 ·rintro ⟨w_7_0, w_7_1, w_7_2, w_7_3, found_8, at_9⟩ o t h ⟨i7, i7_1, i7_2, i7_3, v7, i8, s1, s2, s3, s7, s8, s9, Q6, Q4, Qf, Qa, Qh, Q8, Qi, Q7, Ql, Q2, Q0, Qc, Qg, Qj, Qm, Qb, Qn, Qo, Qq, Qt, Qp, Qr, Qu, Qs, Qv, Qx⟩ hm1 hb3
  simp only [b9b] at hm1
  rw [g1y]
  refine b0v ?_
  refine b0b fun K hK => ?_
  simp only [go_sem, s7, s9, Q6]
  refine hK _ _ ?_
  clear hK K
  refine b0i fun K4 hK4 => ?_
  simp only [go_sem]
  refine b0j (fun hc5 => ?_) (fun hc5 => ?_)
  ·rw [b0q hc5] at hm1
   simp only [b0r, b0f]
   refine hK4 _ _ ?_
   refine b0i fun K6 hK6 => ?_
   have J7 : ∀ (w_7_0_1 : List Place) (w_7_1_1 : List Int) (w_7_2_1 : List Int) (w_7_3_1 : List (List Int)) (found_8_1 : List (Place × Int)) (i7_4 : Nat) (i7_5 : Nat) (i7_6 : Nat) (i7_7 : Nat) (t : Slots) (h : Heap), t 1 = .fs 1 (List.map b0t assume) -> t 2 = .fn heard_n heard_a heard_b -> t 3 = .fp [.fs 1 (List.map eS m.Plant.Machine.Inputs), .fs 1 (List.map eS m.Plant.Machine.Outputs), .fs 2 (List.map b0m m.Plant.Machine.Counters), .fs 2 (List.map b0n m.Plant.Machine.States), .fs 4 (List.map b0k m.Plant.Machine.Rules)] 0 -> t 7 = .rp i7 0 0 -> t 8 = .mp i8 -> t 9 = I at_9 -> h.ob i7 = some (4, [[.rs i7_4 0 (List.length w_7_0_1), .rs i7_5 0 (List.length w_7_1_1), .rs i7_6 0 (List.length w_7_2_1), .rs i7_7 0 (List.length w_7_3_1)]]) -> i7 < h.nx -> h.ob i7_4 = some (3, List.map b1y w_7_0_1) -> i7_4 < h.nx -> h.ob i7_5 = some (1, List.map eI w_7_1_1) -> i7_5 < h.nx -> h.ob i7_6 = some (1, List.map eI w_7_2_1) -> i7_6 < h.nx -> h.ob i7_7 = some (1, List.map b21 w_7_3_1) -> i7_7 < h.nx -> h.ob i8 = some (0, List.map (eM (vks b4t) vI) found_8_1) -> i8 < h.nx -> ¬i7 = i7_4 -> ¬i7 = i7_5 -> ¬i7 = i7_6 -> ¬i7 = i7_7 -> ¬i7 = i8 -> ¬i7_4 = i7_5 -> ¬i7_4 = i7_6 -> ¬i7_4 = i7_7 -> ¬i7_4 = i8 -> ¬i7_5 = i7_6 -> ¬i7_5 = i7_7 -> ¬i7_5 = i8 -> ¬i7_6 = i7_7 -> ¬i7_6 = i8 -> ¬i7_7 = i8 -> c4l at_9 w_7_0_1 w_7_1_1 w_7_2_1 w_7_3_1 found_8_1 = some o -> K6 t h := by
    try clear s1 s2 s3 s7 s8 s9 Q6 Q4 Qf Qa Qh Q8 Qi Q7 Ql Q2 Q0 Qc Qg Qj Qm Qb Qn Qo Qq Qt Qp Qr Qu Qs Qv Qx
    intro w_7_0_1 w_7_1_1 w_7_2_1 w_7_3_1 found_8_1 i7_4 i7_5 i7_6 i7_7 t h s1 s2 s3 s7 s8 s9 Q6 Q4 Qf Qa Qh Q8 Qi Q7 Q2i Q2j Q2 Q0 Qc Qg Qj Q2k Qb Qn Qo Q2l Qt Qp Q2m Qu Q2n Qv Q2o hm1
    refine hK6 _ _ ?_
    unfold c4l at hm1
    refine b02 fun K hK => ?_
    simp only [go_sem, s9]
    refine hK _ _ ?_
    clear hK K
    simp only [b0f]
    obtain rfl := sI9 hm1
    refine ⟨_, rfl, ?_⟩
    exact ⟨i7, i7_4, i7_5, i7_6, (.rs i7_7 0 (List.length w_7_3_1)), i8, s1, s2, s3, s7, s8, (by first | (simp only [go_sem]; done) | rfl), Q6, Q4, Qf, Qa, Qh, Q8, Qi, Q7, (b2p (by simp only [go_sem, Q2i]) (by first | rfl | simp only [go_sem]) (by simp only [go_sem, Q2j])), Q2, Q0, Qc, Qg, Qj, (by first | exact b1v | exact b1x (by first | assumption | omega | (simp only [nxs] <;> omega)) | assumption | exact b1u (by assumption) (by first | assumption | omega | (simp only [nxs] <;> omega))), Qb, Qn, Qo, (by first | exact b1v | exact b1x (by first | assumption | omega | (simp only [nxs] <;> omega)) | assumption | exact b1u (by assumption) (by first | assumption | omega | (simp only [nxs] <;> omega))), Qt, Qp, (by first | exact b1v | exact b1x (by first | assumption | omega | (simp only [nxs] <;> omega)) | assumption | exact b1u (by assumption) (by first | assumption | omega | (simp only [nxs] <;> omega))), Qu, (by first | exact b1v | exact b1x (by first | assumption | omega | (simp only [nxs] <;> omega)) | assumption | exact b1u (by assumption) (by first | assumption | omega | (simp only [nxs] <;> omega))), Qv, (by first | exact b1v | exact b1x (by first | assumption | omega | (simp only [nxs] <;> omega)) | assumption | exact b1u (by assumption) (by first | assumption | omega | (simp only [nxs] <;> omega)))⟩
   simp only [b0u]
   obtain ⟨x9, h_x9, hm1⟩ := b0g hm1
   have h_x90 := b06 h_x9
   have h_x91 := b07 h_x9
   refine b0b fun K hK => ?_
   simp only [go_sem, s7, s9, Q6, Qf, b47 h_x9, h_x90, h_x91]
   refine hK _ _ ?_
   clear hK K
   obtain ⟨y12, h_y12, hm1⟩ := b0g hm1
   obtain ⟨l13, h_l13, hm1⟩ := b0g hm1
   refine b0b fun K hK => ?_
   simp only [go_sem, s3]
   refine b03 (d1f m.Plant _ h_y12) ?_
   simp only [go_sem]
   refine d8i (f := eI) (z := 0) rfl h_l13 ?_
   simp only [go_sem]
   refine hK _ _ ?_
   clear hK K
   refine b0v ?_
   refine b0b fun K hK => ?_
   simp only [go_sem]
   refine hK _ _ ?_
   clear hK K
   refine b0i fun K14 hK14 => ?_
   have J15 : ∀ (w_7_0_1 : List Place) (w_7_1_1 : List Int) (w_7_2_1 : List Int) (found_8_1 : List (Place × Int)) (row_11 : List Int) (i7_4 : Nat) (i7_5 : Nat) (i7_6 : Nat) (i11 : Nat) (t : Slots) (h : Heap), t 1 = .fs 1 (List.map b0t assume) -> t 2 = .fn heard_n heard_a heard_b -> t 3 = .fp [.fs 1 (List.map eS m.Plant.Machine.Inputs), .fs 1 (List.map eS m.Plant.Machine.Outputs), .fs 2 (List.map b0m m.Plant.Machine.Counters), .fs 2 (List.map b0n m.Plant.Machine.States), .fs 4 (List.map b0k m.Plant.Machine.Rules)] 0 -> t 7 = .rp i7 0 0 -> t 8 = .mp i8 -> t 9 = I at_9 -> t 11 = .rs i11 0 (List.length row_11) -> h.ob i7 = some (4, [[.rs i7_4 0 (List.length w_7_0_1), .rs i7_5 0 (List.length w_7_1_1), .rs i7_6 0 (List.length w_7_2_1), v7]]) -> i7 < h.nx -> h.ob i7_4 = some (3, List.map b1y w_7_0_1) -> i7_4 < h.nx -> h.ob i7_5 = some (1, List.map eI w_7_1_1) -> i7_5 < h.nx -> h.ob i7_6 = some (1, List.map eI w_7_2_1) -> i7_6 < h.nx -> b1o h v7 1 (List.map b21 w_7_3) -> h.ob i8 = some (0, List.map (eM (vks b4t) vI) found_8_1) -> i8 < h.nx -> h.ob i11 = some (1, List.map eI row_11) -> i11 < h.nx -> ¬i7 = i7_4 -> ¬i7 = i7_5 -> ¬i7 = i7_6 -> b0s v7 i7 -> ¬i7 = i8 -> ¬i7 = i11 -> ¬i7_4 = i7_5 -> ¬i7_4 = i7_6 -> b0s v7 i7_4 -> ¬i7_4 = i8 -> ¬i7_4 = i11 -> ¬i7_5 = i7_6 -> b0s v7 i7_5 -> ¬i7_5 = i8 -> ¬i7_5 = i11 -> b0s v7 i7_6 -> ¬i7_6 = i8 -> ¬i7_6 = i11 -> b0s v7 i8 -> b0s v7 i11 -> ¬i8 = i11 -> c4j w_7_3 at_9 w_7_0_1 w_7_1_1 w_7_2_1 found_8_1 row_11 = some o -> K14 t h := by
    try clear s1 s2 s3 s7 s8 s9 Q6 Q4 Qf Qa Qh Q8 Qi Q7 Ql Q2 Q0 Qc Qg Qj Qm Qb Qn Qo Qq Qt Qp Qr Qu Qs Qv Qx
    intro w_7_0_1 w_7_1_1 w_7_2_1 found_8_1 row_11 i7_4 i7_5 i7_6 i11 t h s1 s2 s3 s7 s8 s9 s11 Q6 Q4 Qf Qa Qh Q8 Qi Q7 Ql Q2 Q0 Q1c Q15 Qc Qg Qj Qm Qb Qk Qn Qo Qq Qt Qz Qp Qr Qu Q10 Qs Qv Q11 Qx Q12 Qy hm1
    refine hK14 _ _ ?_
    unfold c4j at hm1
    refine g7g (s := 11) (v := .rs i11 0 (List.length row_11)) (f := eI) (l := row_11) (by simp only [go_sem, s11]) (b2p (by simp only [go_sem, Q1c]) (by simp only [go_sem]) (by simp only [go_sem, Q15])) b13 b8k ?_
    simp only [d53]
    obtain ⟨l17, h_l17, hm1⟩ := b0g hm1
    refine b02 fun K hK => ?_
    simp only [go_sem, s7, Q6, Qk]
    refine b22 (f := b21) (l := w_7_3) (m := ([row_11])) ?_ ?_ ?_ ?_ h_l17 ?_
    ·exact (b24 Ql (by intro j hj hl; first | rfl | simp only [go_sem, hl, b4i hj Q12]) (by first | omega | exact Nat.le_refl _ | (simp only [go_sem, nxs] <;> omega)))
    ·exact (b4j (by simp only [go_sem]) (by simp only [go_sem]))
    ·exact (b4h (by first | exact b1v | exact b1x (by first | omega | (simp only [nxs] <;> omega)) | assumption | exact b1u (by assumption) (by first | omega | (simp only [go_sem, nxs] <;> omega))))
    ·exact (fun _ => by simp)
    simp only [go_sem, Q6, Q4, Qm, Qk]
    refine hK _ _ ?_
    clear hK K
    simp only [b01, b0f]
    exact J7 w_7_0_1 w_7_1_1 w_7_2_1 l17 found_8_1 i7_4 i7_5 i7_6 (nxs h.nx) _ _ s1 s2 s3 s7 s8 s9 (by simp only [go_sem]) (by simp only [go_sem, Q4]) (by simp only [go_sem, Qf, Qa, b1z Qc, Qq, Qz]) (by simp only [go_sem, Qa]) (by simp only [go_sem, Qh, Q8, b1z Qg, Qr, Q10]) (by simp only [go_sem, Q8]) (by simp only [go_sem, Qi, Q7, b1z Qj, Qs, Q11]) (by simp only [go_sem, Q7]) (by simp only [go_sem, Q4, b8n Ql]) (by simp only [go_sem]) (by simp only [go_sem, Q2, Q0, b1z Qb, Qx, Qy]) (by simp only [go_sem, Q0]) Qc Qg Qj (by first | first | assumption | omega | (simp only [nxs] <;> omega)) Qb Qn Qo (by first | first | assumption | omega | (simp only [nxs] <;> omega)) Qt Qp (by first | first | assumption | omega | (simp only [nxs] <;> omega)) Qu (by first | first | assumption | omega | (simp only [nxs] <;> omega)) Qv (by first | first | assumption | omega | (simp only [nxs] <;> omega)) hm1
   simp only [b0u]
   obtain ⟨b18, hl18, hm1⟩ := b0g hm1
   refine b1l hl18 (fun | (w_7_0_1, w_7_1_1, w_7_2_1, found_8_1, row_11, x_47), t, h => ∃ i7_4 : Nat, ∃ i7_5 : Nat, ∃ i7_6 : Nat, ∃ i10 : Nat, ∃ i11 : Nat, t 1 = .fs 1 (List.map b0t assume) /\ t 2 = .fn heard_n heard_a heard_b /\ t 3 = .fp [.fs 1 (List.map eS m.Plant.Machine.Inputs), .fs 1 (List.map eS m.Plant.Machine.Outputs), .fs 2 (List.map b0m m.Plant.Machine.Counters), .fs 2 (List.map b0n m.Plant.Machine.States), .fs 4 (List.map b0k m.Plant.Machine.Rules)] 0 /\ t 7 = .rp i7 0 0 /\ t 8 = .mp i8 /\ t 9 = I at_9 /\ t 10 = .rp i10 0 0 /\ t 11 = .rs i11 0 (List.length row_11) /\ t 46 = I ((List.length l13 : Nat) : Int) /\ t 47 = I x_47 /\ h.ob i7 = some (4, [[.rs i7_4 0 (List.length w_7_0_1), .rs i7_5 0 (List.length w_7_1_1), .rs i7_6 0 (List.length w_7_2_1), v7]]) /\ i7 < h.nx /\ h.ob i7_4 = some (3, List.map b1y w_7_0_1) /\ i7_4 < h.nx /\ h.ob i7_5 = some (1, List.map eI w_7_1_1) /\ i7_5 < h.nx /\ h.ob i7_6 = some (1, List.map eI w_7_2_1) /\ i7_6 < h.nx /\ b1o h v7 1 (List.map b21 w_7_3) /\ h.ob i8 = some (0, List.map (eM (vks b4t) vI) found_8_1) /\ i8 < h.nx /\ h.ob i10 = some (3, [[I x9.State, I x9.Values.1, I x9.Values.2]]) /\ i10 < h.nx /\ h.ob i11 = some (1, List.map eI row_11) /\ i11 < h.nx /\ ¬i7 = i7_4 /\ ¬i7 = i7_5 /\ ¬i7 = i7_6 /\ b0s v7 i7 /\ ¬i7 = i8 /\ ¬i7 = i10 /\ ¬i7 = i11 /\ ¬i7_4 = i7_5 /\ ¬i7_4 = i7_6 /\ b0s v7 i7_4 /\ ¬i7_4 = i8 /\ ¬i7_4 = i10 /\ ¬i7_4 = i11 /\ ¬i7_5 = i7_6 /\ b0s v7 i7_5 /\ ¬i7_5 = i8 /\ ¬i7_5 = i10 /\ ¬i7_5 = i11 /\ b0s v7 i7_6 /\ ¬i7_6 = i8 /\ ¬i7_6 = i10 /\ ¬i7_6 = i11 /\ b0s v7 i8 /\ b0s v7 i10 /\ b0s v7 i11 /\ ¬i8 = i10 /\ ¬i8 = i11 /\ ¬i10 = i11) ?_ ?_
   ·exact ⟨i7_1, i7_2, i7_3, h.nx, (nxs h.nx), s1, s2, s3, s7, s8, s9, (by first | (simp only [go_sem]; done) | rfl), (by first | (simp only [go_sem]; done) | rfl), (by first | (simp only [go_sem]; done) | rfl), (by first | (simp only [go_sem]; done) | rfl), (by simp only [go_sem, Q6, Q4]), (by simp only [go_sem, Q4]), (by simp only [go_sem, Qf, Qa]), (by simp only [go_sem, Qa]), (by simp only [go_sem, Qh, Q8]), (by simp only [go_sem, Q8]), (by simp only [go_sem, Qi, Q7]), (by simp only [go_sem, Q7]), (b24 Ql (by intro j hj hl; first | rfl | simp only [go_sem, hl]) (by first | omega | exact Nat.le_refl _ | (simp only [go_sem, nxs] <;> omega))), (by simp only [go_sem, Q2, Q0]), (by simp only [go_sem, Q0]), (by simp only [go_sem]), (by simp only [go_sem]), (by simp only [go_sem]), (by simp only [go_sem]), Qc, Qg, Qj, Qm, Qb, (by first | first | assumption | omega | (simp only [nxs] <;> omega)), (by first | first | assumption | omega | (simp only [nxs] <;> omega)), Qn, Qo, Qq, Qt, (by first | first | assumption | omega | (simp only [nxs] <;> omega)), (by first | first | assumption | omega | (simp only [nxs] <;> omega)), Qp, Qr, Qu, (by first | first | assumption | omega | (simp only [nxs] <;> omega)), (by first | first | assumption | omega | (simp only [nxs] <;> omega)), Qs, Qv, (by first | first | assumption | omega | (simp only [nxs] <;> omega)), (by first | first | assumption | omega | (simp only [nxs] <;> omega)), Qx, (by first | exact b1v | exact b1x (by first | assumption | omega | (simp only [nxs] <;> omega)) | assumption | exact b1u (by assumption) (by first | assumption | omega | (simp only [nxs] <;> omega))), (by first | exact b1v | exact b1x (by first | assumption | omega | (simp only [nxs] <;> omega)) | assumption | exact b1u (by assumption) (by first | assumption | omega | (simp only [nxs] <;> omega))), (by first | first | assumption | omega | (simp only [nxs] <;> omega)), (by first | first | assumption | omega | (simp only [nxs] <;> omega)), (by first | first | assumption | omega | (simp only [nxs] <;> omega))⟩
   ·try clear s1 s2 s3 s7 s8 s9 Q6 Q4 Qf Qa Qh Q8 Qi Q7 Ql Q2 Q0 Qc Qg Qj Qm Qb Qn Qo Qq Qt Qp Qr Qu Qs Qv Qx
    rintro ⟨w_7_0_1, w_7_1_1, w_7_2_1, found_8_1, row_11, x_47⟩ o t h ⟨i7_4, i7_5, i7_6, i10, i11, s1, s2, s3, s7, s8, s9, s10, s11, s46, s47, Q6, Q4, Qf, Qa, Qh, Q8, Qi, Q7, Ql, Q2, Q0, Q19, Q1a, Q1c, Q15, Qc, Qg, Qj, Qm, Qb, Q1d, Qk, Qn, Qo, Qq, Qt, Q1f, Qz, Qp, Qr, Qu, Q1g, Q10, Qs, Qv, Q1h, Q11, Qx, Q1i, Q12, Q1e, Qy, Q14⟩ hm2 hb18
    simp only [c07] at hm2
    rw [g1x]
    refine b0b fun K hK => ?_
    simp only [go_sem, s46, s47]
    refine hK _ _ ?_
    clear hK K
    refine b0i fun K19 hK19 => ?_
    simp only [go_sem]
    refine b0j (fun hc20 => ?_) (fun hc20 => ?_)
    ·rw [b0q hc20] at hm2
     simp only [b0r, b0f]
     refine hK19 _ _ ?_
     refine b0i fun K21 hK21 => ?_
     have J22 : ∀ (w_7_0_2 : List Place) (w_7_1_2 : List Int) (w_7_2_2 : List Int) (found_8_2 : List (Place × Int)) (row_11_1 : List Int) (i7_7 : Nat) (i7_8 : Nat) (i7_9 : Nat) (t : Slots) (h : Heap), t 1 = .fs 1 (List.map b0t assume) -> t 2 = .fn heard_n heard_a heard_b -> t 3 = .fp [.fs 1 (List.map eS m.Plant.Machine.Inputs), .fs 1 (List.map eS m.Plant.Machine.Outputs), .fs 2 (List.map b0m m.Plant.Machine.Counters), .fs 2 (List.map b0n m.Plant.Machine.States), .fs 4 (List.map b0k m.Plant.Machine.Rules)] 0 -> t 7 = .rp i7 0 0 -> t 8 = .mp i8 -> t 9 = I at_9 -> t 10 = .rp i10 0 0 -> t 11 = .rs i11 0 (List.length row_11_1) -> t 46 = I ((List.length l13 : Nat) : Int) -> t 47 = I x_47 -> h.ob i7 = some (4, [[.rs i7_7 0 (List.length w_7_0_2), .rs i7_8 0 (List.length w_7_1_2), .rs i7_9 0 (List.length w_7_2_2), v7]]) -> i7 < h.nx -> h.ob i7_7 = some (3, List.map b1y w_7_0_2) -> i7_7 < h.nx -> h.ob i7_8 = some (1, List.map eI w_7_1_2) -> i7_8 < h.nx -> h.ob i7_9 = some (1, List.map eI w_7_2_2) -> i7_9 < h.nx -> b1o h v7 1 (List.map b21 w_7_3) -> h.ob i8 = some (0, List.map (eM (vks b4t) vI) found_8_2) -> i8 < h.nx -> h.ob i10 = some (3, [[I x9.State, I x9.Values.1, I x9.Values.2]]) -> i10 < h.nx -> h.ob i11 = some (1, List.map eI row_11_1) -> i11 < h.nx -> ¬i7 = i7_7 -> ¬i7 = i7_8 -> ¬i7 = i7_9 -> b0s v7 i7 -> ¬i7 = i8 -> ¬i7 = i10 -> ¬i7 = i11 -> ¬i7_7 = i7_8 -> ¬i7_7 = i7_9 -> b0s v7 i7_7 -> ¬i7_7 = i8 -> ¬i7_7 = i10 -> ¬i7_7 = i11 -> ¬i7_8 = i7_9 -> b0s v7 i7_8 -> ¬i7_8 = i8 -> ¬i7_8 = i10 -> ¬i7_8 = i11 -> b0s v7 i7_9 -> ¬i7_9 = i8 -> ¬i7_9 = i10 -> ¬i7_9 = i11 -> b0s v7 i8 -> b0s v7 i10 -> b0s v7 i11 -> ¬i8 = i10 -> ¬i8 = i11 -> ¬i10 = i11 -> c08 x_47 w_7_0_2 w_7_1_2 w_7_2_2 found_8_2 row_11_1 = some o -> K21 t h := by
      try clear s1 s2 s3 s7 s8 s9 s10 s11 s46 s47 Q6 Q4 Qf Qa Qh Q8 Qi Q7 Ql Q2 Q0 Q19 Q1a Q1c Q15 Qc Qg Qj Qm Qb Q1d Qk Qn Qo Qq Qt Q1f Qz Qp Qr Qu Q1g Q10 Qs Qv Q1h Q11 Qx Q1i Q12 Q1e Qy Q14
      intro w_7_0_2 w_7_1_2 w_7_2_2 found_8_2 row_11_1 i7_7 i7_8 i7_9 t h s1 s2 s3 s7 s8 s9 s10 s11 s46 s47 Q6 Q4 Qf Qa Qh Q8 Qi Q7 Ql Q2 Q0 Q19 Q1a Q1c Q15 Qc Qg Qj Qm Qb Q1d Qk Qn Qo Qq Qt Q1f Qz Qp Qr Qu Q1g Q10 Qs Qv Q1h Q11 Qx Q1i Q12 Q1e Qy Q14 hm2
      refine hK21 _ _ ?_
      unfold c08 at hm2
      refine b02 fun K hK => ?_
      simp only [go_sem, s47]
      refine hK _ _ ?_
      clear hK K
      simp only [b0f]
      obtain rfl := sI9 hm2
      refine ⟨_, rfl, ?_⟩
      exact ⟨i7_7, i7_8, i7_9, i10, i11, s1, s2, s3, s7, s8, s9, s10, (by first | exact s11 | simp only [go_sem, s11, lA9, mA9]), s46, (by first | (simp only [go_sem]; done) | rfl), Q6, Q4, Qf, Qa, Qh, Q8, Qi, Q7, Ql, Q2, Q0, Q19, Q1a, Q1c, Q15, Qc, Qg, Qj, Qm, Qb, Q1d, Qk, Qn, Qo, Qq, Qt, Q1f, Qz, Qp, Qr, Qu, Q1g, Q10, Qs, Qv, Q1h, Q11, Qx, Q1i, Q12, Q1e, Qy, Q14⟩
     simp only [b0u]
     refine b0b fun K hK => ?_
     simp only [go_sem, s47]
     refine hK _ _ ?_
     clear hK K
     obtain ⟨x24, h_x24, hm2⟩ := b0g hm2
     have h_x240 := b06 h_x24
     have h_x241 := b07 h_x24
     refine b0b fun K hK => ?_
     simp only [go_sem, s11, Q1c, b47 h_x24, h_x240, h_x241]
     refine hK _ _ ?_
     clear hK K
     refine b0v ?_
     obtain ⟨y26, h_y26, hm2⟩ := b0g hm2
     refine b0b fun K hK => ?_
     simp only [go_sem, s1, s3, s10, Q19, Q14]
     refine b03 (d1g m.Plant assume (Place.mk x9.State (x9.Values.1, x9.Values.2)) x_47 _ h_y26) ?_
     simp only [go_sem]
     refine hK _ _ ?_
     clear hK K
     refine b0i fun K27 hK27 => ?_
     simp only [go_sem]
     refine b0j (fun hc28 => ?_) (fun hc28 => ?_)
     ·rw [b0q hc28] at hm2
      simp only [b1b, b1e, b1d, b0f]
      exact J22 w_7_0_1 w_7_1_1 w_7_2_1 found_8_1 (List.set row_11 (Int.toNat x_47) (-1)) i7_4 i7_5 i7_6 _ _ s1 s2 s3 s7 s8 s9 s10 (by first | exact s11 | simp only [go_sem, s11]) s46 s47 (by simp only [go_sem, Q6, Qk]) (by simp only [go_sem, Q4]) (by simp only [go_sem, Qf, Qz]) (by simp only [go_sem, Qa]) (by simp only [go_sem, Qh, Q10]) (by simp only [go_sem, Q8]) (by simp only [go_sem, Qi, Q11]) (by simp only [go_sem, Q7]) (b24 Ql (by intro j hj hl; first | rfl | simp only [go_sem, b4i hj Q12]) (by first | omega | exact Nat.le_refl _ | (simp only [go_sem, nxs] <;> omega))) (by simp only [go_sem, Q2, Qy]) (by simp only [go_sem, Q0]) (by simp only [go_sem, Q19, Q14]) (by simp only [go_sem, Q1a]) (by simp only [go_sem]) (by simp only [go_sem, Q15]) Qc Qg Qj Qm Qb Q1d Qk Qn Qo Qq Qt Q1f Qz Qp Qr Qu Q1g Q10 Qs Qv Q1h Q11 Qx Q1i Q12 Q1e Qy Q14 hm2
     ·rw [b0p hc28] at hm2
      simp only [b0r, b0f]
      refine hK27 _ _ ?_
      obtain ⟨y31, h_y31, hm2⟩ := b0g hm2
      obtain ⟨y32, h_y32, hm2⟩ := b0g hm2
      refine b0b fun K hK => ?_
      simp only [go_sem, s2, s3, s10, Q19, Q14]
      refine c5p (heard_h x_47 _ h_y31) ?_
      simp only [go_sem]
      refine b03 (d1j m.Plant (Place.mk x9.State (x9.Values.1, x9.Values.2)) y31 _ h_y32) ?_
      simp only [go_sem]
      refine hK _ _ ?_
      clear hK K
      refine b0b fun K hK => ?_
      simp only [go_sem, s8]
      refine j3s (O := O) (fk := (vks b4t)) (fv := vI) (l := found_8_1) (x := (Place.mk y32.State (y32.Values.1, y32.Values.2))) (z := 0) j57 d2n ?_ ?_ ?_
      ·rfl
      ·simp only [go_sem, Q2, Q0, Qy]
      simp only [go_sem]
      refine hK _ _ ?_
      clear hK K
      refine b0v ?_
      refine b0b fun K hK => ?_
      simp only [go_sem]
      refine hK _ _ ?_
      clear hK K
      refine b0i fun K33 hK33 => ?_
      have J34 : ∀ (w_7_0_2 : List Place) (w_7_1_2 : List Int) (w_7_2_2 : List Int) (found_8_2 : List (Place × Int)) (to_14 : Int) (i7_7 : Nat) (i7_8 : Nat) (i7_9 : Nat) (t : Slots) (h : Heap), t 1 = .fs 1 (List.map b0t assume) -> t 2 = .fn heard_n heard_a heard_b -> t 3 = .fp [.fs 1 (List.map eS m.Plant.Machine.Inputs), .fs 1 (List.map eS m.Plant.Machine.Outputs), .fs 2 (List.map b0m m.Plant.Machine.Counters), .fs 2 (List.map b0n m.Plant.Machine.States), .fs 4 (List.map b0k m.Plant.Machine.Rules)] 0 -> t 7 = .rp i7 0 0 -> t 8 = .mp i8 -> t 9 = I at_9 -> t 10 = .rp i10 0 0 -> t 11 = .rs i11 0 (List.length (List.set row_11 (Int.toNat x_47) (-1))) -> t 12 = I x_47 -> t 14 = I to_14 -> t 46 = I ((List.length l13 : Nat) : Int) -> t 47 = I x_47 -> h.ob i7 = some (4, [[.rs i7_7 0 (List.length w_7_0_2), .rs i7_8 0 (List.length w_7_1_2), .rs i7_9 0 (List.length w_7_2_2), v7]]) -> i7 < h.nx -> h.ob i7_7 = some (3, List.map b1y w_7_0_2) -> i7_7 < h.nx -> h.ob i7_8 = some (1, List.map eI w_7_1_2) -> i7_8 < h.nx -> h.ob i7_9 = some (1, List.map eI w_7_2_2) -> i7_9 < h.nx -> b1o h v7 1 (List.map b21 w_7_3) -> h.ob i8 = some (0, List.map (eM (vks b4t) vI) found_8_2) -> i8 < h.nx -> h.ob i10 = some (3, [[I x9.State, I x9.Values.1, I x9.Values.2]]) -> i10 < h.nx -> h.ob i11 = some (1, List.map eI (List.set row_11 (Int.toNat x_47) (-1))) -> i11 < h.nx -> ¬i7 = i7_7 -> ¬i7 = i7_8 -> ¬i7 = i7_9 -> b0s v7 i7 -> ¬i7 = i8 -> ¬i7 = i10 -> ¬i7 = i11 -> ¬i7_7 = i7_8 -> ¬i7_7 = i7_9 -> b0s v7 i7_7 -> ¬i7_7 = i8 -> ¬i7_7 = i10 -> ¬i7_7 = i11 -> ¬i7_8 = i7_9 -> b0s v7 i7_8 -> ¬i7_8 = i8 -> ¬i7_8 = i10 -> ¬i7_8 = i11 -> b0s v7 i7_9 -> ¬i7_9 = i8 -> ¬i7_9 = i10 -> ¬i7_9 = i11 -> b0s v7 i8 -> b0s v7 i10 -> b0s v7 i11 -> ¬i8 = i10 -> ¬i8 = i11 -> ¬i10 = i11 -> c09 row_11 x_47 w_7_0_2 w_7_1_2 w_7_2_2 found_8_2 to_14 = some o -> K33 t h := by
       try clear s1 s2 s3 s7 s8 s9 s10 s11 s46 s47 Q6 Q4 Qf Qa Qh Q8 Qi Q7 Ql Q2 Q0 Q19 Q1a Q1c Q15 Qc Qg Qj Qm Qb Q1d Qk Qn Qo Qq Qt Q1f Qz Qp Qr Qu Q1g Q10 Qs Qv Q1h Q11 Qx Q1i Q12 Q1e Qy Q14
       intro w_7_0_2 w_7_1_2 w_7_2_2 found_8_2 to_14 i7_7 i7_8 i7_9 t h s1 s2 s3 s7 s8 s9 s10 s11 s12 s14 s46 s47 Q6 Q4 Qf Qa Qh Q8 Qi Q7 Ql Q2 Q0 Q19 Q1a Q1c Q15 Qc Qg Qj Qm Qb Q1d Qk Qn Qo Qq Qt Q1f Qz Qp Qr Qu Q1g Q10 Qs Qv Q1h Q11 Qx Q1i Q12 Q1e Qy Q14 hm2
       refine hK33 _ _ ?_
       unfold c09 at hm2
       obtain ⟨x36, h_x36, hm2⟩ := b0g hm2
       have h_x360 := b06 h_x36
       have h_x361 := b07 h_x36; (try simp only [List.length_set] at h_x361)
       refine b02 fun K hK => ?_
       simp only [go_sem, s11, s12, s14, Q1c, b47 h_x36, h_x360, h_x361]
       refine hK _ _ ?_
       clear hK K
       simp only [b01, b0f]
       exact J22 w_7_0_2 w_7_1_2 w_7_2_2 found_8_2 (List.set (List.set row_11 (Int.toNat x_47) (-1)) (Int.toNat x_47) to_14) i7_7 i7_8 i7_9 _ _ s1 s2 s3 s7 s8 s9 s10 (by first | exact s11 | simp only [go_sem, s11]) s46 s47 (by simp only [go_sem, Q6, Qk]) (by simp only [go_sem, Q4]) (by simp only [go_sem, Qf, Qz]) (by simp only [go_sem, Qa]) (by simp only [go_sem, Qh, Q10]) (by simp only [go_sem, Q8]) (by simp only [go_sem, Qi, Q11]) (by simp only [go_sem, Q7]) (b24 Ql (by intro j hj hl; first | rfl | simp only [go_sem, b4i hj Q12]) (by first | omega | exact Nat.le_refl _ | (simp only [go_sem, nxs] <;> omega))) (by simp only [go_sem, Q2, Qy]) (by simp only [go_sem, Q0]) (by simp only [go_sem, Q19, Q14]) (by simp only [go_sem, Q1a]) (by simp only [go_sem]) (by simp only [go_sem, Q15]) Qc Qg Qj Qm Qb Q1d Qk Qn Qo Qq Qt Q1f Qz Qp Qr Qu Q1g Q10 Qs Qv Q1h Q11 Qx Q1i Q12 Q1e Qy Q14 hm2
      simp only [go_sem]
      refine b0j (fun hc37 => ?_) (fun hc37 => ?_)
      ·rw [b0q hc37] at hm2
       refine b0b fun K hK => ?_
       simp only [go_sem, s7, Q6, Q4, Qk]
       refine hK _ _ ?_
       clear hK K
       refine b0b fun K hK => ?_
       simp only [go_sem, s8]
       refine d00 (O := O) (fk := (vks b4t)) (fv := vI) (l := found_8_1) (x := (Place.mk y32.State (y32.Values.1, y32.Values.2))) (v := ((List.length w_7_0_1 : Nat) : Int)) d9t d2n ?_ ?_ ?_
       ·rfl
       ·simp only [go_sem, Q2, Q0, Qy]
       simp only [go_sem]
       refine hK _ _ ?_
       clear hK K
       obtain ⟨l41, h_l41, hm2⟩ := b0g hm2
       obtain ⟨l42, h_l42, hm2⟩ := b0g hm2
       obtain ⟨l43, h_l43, hm2⟩ := b0g hm2
       refine b02 fun K hK => ?_
       simp only [go_sem, s7, Q6, Q4, Q0, Qb, Qk]
       refine b22 (f := b1y) (l := w_7_0_1) (m := ([(Place.mk y32.State (y32.Values.1, y32.Values.2))])) ?_ ?_ ?_ ?_ h_l41 ?_
       ·exact (b2p (by simp only [go_sem, Qf, Qa, Qt, Qz]) (by simp only [go_sem]) (by simp only [go_sem, Qa]))
       ·exact (b4j (by simp only [go_sem]) (by simp only [go_sem]))
       ·exact (b4h (by first | exact b1v | exact b1x (by first | omega | (simp only [nxs] <;> omega)) | assumption | exact b1u (by assumption) (by first | omega | (simp only [go_sem, nxs] <;> omega))))
       ·exact (fun _ => by simp)
       simp only [go_sem, s7, s9, Q6, Q4, Qc, Qb, Qk]
       refine b22 (f := eI) (l := w_7_1_1) (m := ([at_9])) ?_ ?_ ?_ ?_ h_l42 ?_
       ·exact (b2p (by simp only [go_sem, Qh, Q8, b1z Qn, Qu, Q10]) (by simp only [go_sem]) (by simp only [go_sem, Q8]))
       ·exact (b4j (by simp only [go_sem]) (by simp only [go_sem]))
       ·exact (b4h (by first | exact b1v | exact b1x (by first | omega | (simp only [nxs] <;> omega)) | assumption | exact b1u (by assumption) (by first | omega | (simp only [go_sem, nxs] <;> omega))))
       ·exact (fun _ => by simp)
       simp only [go_sem, s7, Q6, Q4, Qc, Qg, Qb, Qk]
       refine b22 (f := eI) (l := w_7_2_1) (m := ([x_47])) ?_ ?_ ?_ ?_ h_l43 ?_
       ·exact (b2p (by simp only [go_sem, Qi, Q7, b1z Qo, b1z Qp, Qv, Q11]) (by simp only [go_sem]) (by simp only [go_sem, Q7]))
       ·exact (b4j (by simp only [go_sem]) (by simp only [go_sem]))
       ·exact (b4h (by first | exact b1v | exact b1x (by first | omega | (simp only [nxs] <;> omega)) | assumption | exact b1u (by assumption) (by first | omega | (simp only [go_sem, nxs] <;> omega))))
       ·exact (fun _ => by simp)
       simp only [go_sem, Q6, Q4, Qc, Qg, Qj, Qb, Qk]
       refine hK _ _ ?_
       clear hK K
       simp only [b0f]
       exact J34 l41 l42 l43 (b3p found_8_1 (Place.mk y32.State (y32.Values.1, y32.Values.2)) ((List.length w_7_0_1 : Nat) : Int)) ((List.length w_7_0_1 : Nat) : Int) (nxs (nxs h.nx)) (nxs (nxs (nxs (nxs h.nx)))) (nxs (nxs (nxs (nxs (nxs (nxs h.nx)))))) _ _ s1 s2 s3 s7 s8 s9 s10 (by first | exact s11 | simp only [go_sem, s11]) (by first | (simp only [go_sem]; done) | rfl) (by first | (simp only [go_sem]; done) | rfl) s46 s47 (by simp only [go_sem]) (by simp only [go_sem, Q4]) (by simp only [go_sem, Q4, Q8, Q7]) (by simp only [go_sem]) (by simp only [go_sem, Q4, Q7]) (by simp only [go_sem]) (by simp only [go_sem, Q4]) (by simp only [go_sem]) (b24 Ql (by intro j hj hl; first | rfl | simp only [go_sem, hl, b4i hj Qm, b4i hj Qq, b4i hj Qr, b4i hj Qs, b4i hj Qx, b4i hj Q12]) (by first | omega | exact Nat.le_refl _ | (simp only [go_sem, nxs] <;> omega))) (by simp only [go_sem, Q0, b1z Qb, b1z Qt, b1z Qu, b1z Qv]) (by simp only [go_sem, Q0]) (by simp only [go_sem, Q19, Q1a, b1z Q1d, b1z Q1f, b1z Q1g, b1z Q1h, b1z Q1e, Q14]) (by simp only [go_sem, Q1a]) (by simp only [go_sem, Q15, b1z Qk, b1z Qz, b1z Q10, b1z Q11, b1z Qy]) (by simp only [go_sem, Q15]) (by first | first | assumption | omega | (simp only [nxs] <;> omega)) (by first | first | assumption | omega | (simp only [nxs] <;> omega)) (by first | first | assumption | omega | (simp only [nxs] <;> omega)) Qm Qb Q1d Qk (by first | first | assumption | omega | (simp only [nxs] <;> omega)) (by first | first | assumption | omega | (simp only [nxs] <;> omega)) (by first | exact b1v | exact b1x (by first | assumption | omega | (simp only [nxs] <;> omega)) | assumption | exact b1u (by assumption) (by first | assumption | omega | (simp only [nxs] <;> omega))) (by first | first | assumption | omega | (simp only [nxs] <;> omega)) (by first | first | assumption | omega | (simp only [nxs] <;> omega)) (by first | first | assumption | omega | (simp only [nxs] <;> omega)) (by first | first | assumption | omega | (simp only [nxs] <;> omega)) (by first | exact b1v | exact b1x (by first | assumption | omega | (simp only [nxs] <;> omega)) | assumption | exact b1u (by assumption) (by first | assumption | omega | (simp only [nxs] <;> omega))) (by first | first | assumption | omega | (simp only [nxs] <;> omega)) (by first | first | assumption | omega | (simp only [nxs] <;> omega)) (by first | first | assumption | omega | (simp only [nxs] <;> omega)) (by first | exact b1v | exact b1x (by first | assumption | omega | (simp only [nxs] <;> omega)) | assumption | exact b1u (by assumption) (by first | assumption | omega | (simp only [nxs] <;> omega))) (by first | first | assumption | omega | (simp only [nxs] <;> omega)) (by first | first | assumption | omega | (simp only [nxs] <;> omega)) (by first | first | assumption | omega | (simp only [nxs] <;> omega)) Qx Q1i Q12 Q1e Qy Q14 hm2
      ·rw [b0p hc37] at hm2
       simp only [b0r, b0f]
       exact J34 w_7_0_1 w_7_1_1 w_7_2_1 found_8_1 (b2q found_8_1 (Place.mk y32.State (y32.Values.1, y32.Values.2)) 0) i7_4 i7_5 i7_6 _ _ s1 s2 s3 s7 s8 s9 s10 (by first | exact s11 | simp only [go_sem, s11]) (by first | (simp only [go_sem]; done) | rfl) (by first | (simp only [go_sem]; done) | rfl) s46 s47 (by simp only [go_sem, Q6, Q4, Qk]) (by simp only [go_sem, Q4]) (by simp only [go_sem, Qf, Qa, Qz]) (by simp only [go_sem, Qa]) (by simp only [go_sem, Qh, Q8, Q10]) (by simp only [go_sem, Q8]) (by simp only [go_sem, Qi, Q7, Q11]) (by simp only [go_sem, Q7]) (b24 Ql (by intro j hj hl; first | rfl | simp only [go_sem, hl, b4i hj Q12]) (by first | omega | exact Nat.le_refl _ | (simp only [go_sem, nxs] <;> omega))) (by simp only [go_sem, Q2, Q0, Qy]) (by simp only [go_sem, Q0]) (by simp only [go_sem, Q19, Q1a, Q14]) (by simp only [go_sem, Q1a]) (by simp only [go_sem, Q15]) (by simp only [go_sem, Q15]) Qc Qg Qj Qm Qb Q1d Qk Qn Qo Qq Qt Q1f Qz Qp Qr Qu Q1g Q10 Qs Qv Q1h Q11 Qx Q1i Q12 Q1e Qy Q14 hm2
    ·rw [b0p hc20] at hm2
     simp only [b1b, b1e, b1d, b0f]
     obtain rfl := sI9 hm2
     obtain rfl := hb18 _ rfl
     try dsimp only at hm1
     exact J15 w_7_0_1 w_7_1_1 w_7_2_1 found_8_1 row_11 i7_4 i7_5 i7_6 i11 _ _ s1 s2 s3 s7 s8 s9 (by first | exact s11 | simp only [go_sem, s11, lA9, mA9]) Q6 Q4 Qf Qa Qh Q8 Qi Q7 Ql Q2 Q0 Q1c Q15 Qc Qg Qj Qm Qb Qk Qn Qo Qq Qt Qz Qp Qr Qu Q10 Qs Qv Q11 Qx Q12 Qy hm1
  ·rw [b0p hc5] at hm1
   simp only [b1b, b1e, b1d, b0f]
   obtain rfl := sI9 hm1
   obtain rfl := hb3 _ rfl
   try dsimp only at hm0
   exact J2 w_7_0 w_7_1 w_7_2 w_7_3 i7 i7_1 i7_2 i7_3 v7 _ _ s7 Q6 Q4 Qf Qa Qh Q8 Qi Q7 Ql Qc Qg Qj Qm Qn Qo Qq Qp Qr Qs hm0
theorem d1d (hf : Has O "(newel/newelref04.graph).breach" x__r04_graph__breach) (b60 : c0y O) (d1e : c8e O) : c8d O := by
 intro g m never r hm0
 unfold b7v at hm0
 refine b1h hf rfl (b0a (.agg _ (b0a (b0c fun a _ => b4s a) (b0a (b0c fun a _ => b13 a) (b0a (b0c fun a _ => b13 a) b0l)))) (b0a (.agg _ (b0a (b0c fun a _ => b00 a) (b0a (b0c fun a _ => b00 a) (b0a (b0c fun a _ => b1r a) (b0a (b0c fun a _ => b1t a) (b0a (b0c fun a _ => b1s a) b0l)))))) (b0a (b0c fun a _ => b2l a) b0l))) (.tup _ (b0a (b0c fun a _ => b13 a) (b0a (b0e _) b0l))) ?_
 refine b1f (fun t h => t 0 = .agg [.fs 3 (List.map b1y g.places), .fs 1 (List.map eI g.back), .fs 1 (List.map eI g.input)] /\ t 1 = .agg [.fs 1 (List.map eS m.Inputs), .fs 1 (List.map eS m.Outputs), .fs 2 (List.map b0m m.Counters), .fs 2 (List.map b0n m.States), .fs 4 (List.map b0k m.Rules)] /\ t 2 = .fs 1 (List.map b0t never)) ⟨rfl, rfl, rfl⟩ fun t h ⟨s0, s1, s2⟩ => ?_
 simp only [x__r04_graph__breach]
 refine b0b fun K hK => ?_
 simp only [go_sem, s0, s1]
 refine hK _ _ ?_
 clear hK K
 refine b0v ?_
 refine b0b fun K hK => ?_
 simp only [go_sem]
 refine hK _ _ ?_
 clear hK K
 refine b0i fun K1 hK1 => ?_
 have J2 : ∀ (t : Slots) (h : Heap), c4n = some r -> K1 t h := by
  intro t h hm0
  refine hK1 _ _ ?_
  unfold c4n at hm0
  refine b0b fun K hK => ?_
  simp only [go_sem]
  refine hK _ _ ?_
  clear hK K
  simp only [b0x, b0y]
  obtain rfl := sI9 hm0
  exact d48 (v := .v (.slice none 0 0)) (u := B false) (by simp only [go_sem]) (by simp only [go_sem]) (.nil _) (.refl _ (b0e _))
 simp only [b0u]
 obtain ⟨b3, hl3, hm0⟩ := b0g hm0
 refine b1l hl3 (fun | i_8, t, h => t 2 = .fs 1 (List.map b0t never) /\ t 3 = .fp [.fs 3 (List.map b1y g.places), .fs 1 (List.map eI g.back), .fs 1 (List.map eI g.input)] 0 /\ t 4 = .fp [.fs 1 (List.map eS m.Inputs), .fs 1 (List.map eS m.Outputs), .fs 2 (List.map b0m m.Counters), .fs 2 (List.map b0n m.States), .fs 4 (List.map b0k m.Rules)] 0 /\ t 8 = I i_8) ?_ ?_
 ·exact ⟨s2, (by first | (simp only [go_sem]; done) | rfl), (by first | (simp only [go_sem]; done) | rfl), (by first | (simp only [go_sem]; done) | rfl)⟩
 ·rintro i_8 o t h ⟨s2, s3, s4, s8⟩ hm1 hb3
  simp only [c4m] at hm1
  rw [g1z]
  refine b0v ?_
  refine b0b fun K hK => ?_
  simp only [go_sem, s3, s8]
  refine hK _ _ ?_
  clear hK K
  refine b0i fun K4 hK4 => ?_
  simp only [go_sem]
  refine b0j (fun hc5 => ?_) (fun hc5 => ?_)
  ·rw [b0q hc5] at hm1
   simp only [b0r, b0f]
   refine hK4 _ _ ?_
   refine b0i fun K6 hK6 => ?_
   simp only [b0u]
   obtain ⟨x9, h_x9, hm1⟩ := b0g hm1
   have h_x90 := b06 h_x9
   have h_x91 := b07 h_x9
   obtain ⟨y10, h_y10, hm1⟩ := b0g hm1
   refine b0b fun K hK => ?_
   simp only [go_sem, s2, s3, s4, s8, b1a h_x9, h_x91]
   refine b03 (b60 m x9 0 never _ h_y10) ?_
   simp only [go_sem]
   refine hK _ _ ?_
   clear hK K
   simp only [go_sem]
   refine b0j (fun hc11 => ?_) (fun hc11 => ?_)
   ·rw [b0q hc11] at hm1
    obtain ⟨y13, h_y13, hm1⟩ := b0g hm1
    refine b0b fun K hK => ?_
    simp only [go_sem, s3, s8]
    refine b03 (d1e g i_8 _ h_y13) ?_
    simp only [go_sem]
    refine hK _ _ ?_
    clear hK K
    simp only [b0x, b1n, b2b, b0y]
    obtain rfl := sI9 hm1
    obtain rfl := hb3 _ rfl
    try dsimp only at hm0
    obtain rfl := sI9 hm0
    exact d0a (by simp only [go_sem]) (by simp only [go_sem]) (b0c fun a _ => b13 a) (b0e _)
   ·rw [b0p hc11] at hm1
    simp only [b0r, b01, b0f]
    refine hK6 _ _ ?_
    refine b02 fun K hK => ?_
    simp only [go_sem, s8]
    refine hK _ _ ?_
    clear hK K
    simp only [b0f]
    obtain rfl := sI9 hm1
    refine ⟨_, rfl, ?_⟩
    exact ⟨s2, s3, s4, (by first | (simp only [go_sem]; done) | rfl)⟩
  ·rw [b0p hc5] at hm1
   simp only [b1b, b1e, b1d, b0f]
   obtain rfl := sI9 hm1
   obtain rfl := hb3 _ rfl
   try dsimp only at hm0
   exact J2  _ _  hm0
theorem d1e (hf : Has O "(newel/newelref04.graph).run" x__r04_graph__run) : c8e O := by
 intro g i r hm0
 unfold b5c at hm0
 refine b1h hf rfl (b0a (.agg _ (b0a (b0c fun a _ => b4s a) (b0a (b0c fun a _ => b13 a) (b0a (b0c fun a _ => b13 a) b0l)))) (b0a (b0e _) b0l)) (b0c fun a _ => b13 a) ?_
 refine b1f (fun t h => t 0 = .agg [.fs 3 (List.map b1y g.places), .fs 1 (List.map eI g.back), .fs 1 (List.map eI g.input)] /\ t 1 = I i) ⟨rfl, rfl⟩ fun t h ⟨s0, s1⟩ => ?_
 simp only [x__r04_graph__run]
 refine b0b fun K hK => ?_
 simp only [go_sem, s0]
 refine hK _ _ ?_
 clear hK K
 refine b0b fun K hK => ?_
 simp only [go_sem]
 refine hK _ _ ?_
 clear hK K
 refine b0i fun K1 hK1 => ?_
 have J2 : ∀ (out_5 : List Int) (v5 : AV) (t : Slots) (h : Heap), t 5 = v5 -> b1o h v5 1 (List.map eI out_5) -> c4o out_5 = some r -> K1 t h := by
  intro out_5 v5 t h s5 Q17 hm0
  refine hK1 _ _ ?_
  unfold c4o at hm0
  refine b0b fun K hK => ?_
  simp only [go_sem, s5, b5k v5]
  refine hK _ _ ?_
  clear hK K
  simp only [b0x, b0y]
  obtain rfl := sI9 hm0
  exact b8b (v := v5) (by simp only [go_sem]) (b8f (f := eI) (l := out_5) (b24 Q17 (by intro j hj hl; first | rfl | simp only [go_sem, hl]) (by first | omega | exact Nat.le_refl _ | (simp only [go_sem, nxs] <;> omega))) b13 b8k)
 simp only [b0u]
 obtain ⟨b3, hl3, hm0⟩ := b0g hm0
 refine b1l hl3 (fun | (i_1, out_5), t, h => ∃ v5 : AV, t 1 = I i_1 /\ t 2 = .fp [.fs 3 (List.map b1y g.places), .fs 1 (List.map eI g.back), .fs 1 (List.map eI g.input)] 0 /\ t 5 = v5 /\ b1o h v5 1 (List.map eI out_5)) ?_ ?_
 ·exact ⟨(.v (.slice none 0 0)), s1, (by first | (simp only [go_sem]; done) | rfl), (by first | (simp only [go_sem]; done) | rfl), b98⟩
 ·rintro ⟨i_1, out_5⟩ o t h ⟨v5, s1, s2, s5, Q17⟩ hm1 hb3
  simp only [b7w] at hm1
  rw [g10]
  refine b0v ?_
  refine b0b fun K hK => ?_
  simp only [go_sem, s1]
  refine hK _ _ ?_
  clear hK K
  refine b0i fun K4 hK4 => ?_
  simp only [go_sem]
  refine b0j (fun hc5 => ?_) (fun hc5 => ?_)
  ·rw [b0q hc5] at hm1
   simp only [b0r, b0f]
   refine hK4 _ _ ?_
   refine b0i fun K6 hK6 => ?_
   simp only [b0u]
   obtain ⟨x9, h_x9, hm1⟩ := b0g hm1
   have h_x90 := b06 h_x9
   have h_x91 := b07 h_x9
   obtain ⟨l10, h_l10, hm1⟩ := b0g hm1
   refine b02 fun K hK => ?_
   simp only [go_sem, s1, s2, s5, b1a h_x9, b5k v5]
   refine j1r (f := eI) (l := ([x9])) (m := out_5) ?_ ?_ ?_ h_l10 ?_
   ·exact (b2p (by simp only [go_sem]) (by simp only [go_sem]) (by simp only [go_sem]))
   ·exact (b24 Q17 (by intro j hj hl; first | rfl | simp only [go_sem, hl]) (by first | omega | exact Nat.le_refl _ | (simp only [go_sem, nxs] <;> omega)))
   ·exact (g7m (by first | exact b1v | assumption | exact b1u (by assumption) (by first | omega | (simp only [go_sem, nxs] <;> omega))))
   simp only [go_sem]
   refine hK _ _ ?_
   clear hK K
   simp only [b01, b0f]
   refine hK6 _ _ ?_
   obtain ⟨x12, h_x12, hm1⟩ := b0g hm1
   have h_x120 := b06 h_x12
   have h_x121 := b07 h_x12
   refine b02 fun K hK => ?_
   simp only [go_sem, s1, s2, b1a h_x12]
   refine hK _ _ ?_
   clear hK K
   simp only [b0f]
   obtain rfl := sI9 hm1
   refine ⟨_, rfl, ?_⟩
   exact ⟨(.rs (nxs h.nx) 0 (List.length l10)), (by first | (simp only [go_sem]; done) | rfl), s2, (by first | (simp only [go_sem]; done) | rfl), (b2p (by simp only [go_sem]) (by first | rfl | simp only [go_sem]) (by simp only [go_sem]))⟩
  ·rw [b0p hc5] at hm1
   simp only [b1b, b1e, b1d, b0f]
   obtain rfl := sI9 hm1
   obtain rfl := hb3 _ rfl
   try dsimp only at hm0
   exact J2 out_5 v5 _ _ s5 Q17 hm0
theorem d1f (hf : Has O "(newel/situation.Plant).All" x__situation_Plant__All) : c8f O := by
 intro m r hm0
 unfold c1a at hm0
 refine b1h hf rfl (b0a (.agg _ (b0a (b0c fun a _ => b00 a) (b0a (b0c fun a _ => b00 a) (b0a (b0c fun a _ => b1r a) (b0a (b0c fun a _ => b1t a) (b0a (b0c fun a _ => b1s a) b0l)))))) b0l) (b0e _) ?_
 refine b1f (fun t h => t 0 = .agg [.fs 1 (List.map eS m.Machine.Inputs), .fs 1 (List.map eS m.Machine.Outputs), .fs 2 (List.map b0m m.Machine.Counters), .fs 2 (List.map b0n m.Machine.States), .fs 4 (List.map b0k m.Machine.Rules)]) rfl fun t h s0 => ?_
 simp only [x__situation_Plant__All]
 refine b0b fun K hK => ?_
 simp only [go_sem, s0]
 refine hK _ _ ?_
 clear hK K
 obtain ⟨q2, h_q2, hm0⟩ := b0g hm0
 refine b0b fun K hK => ?_
 simp only [go_sem, b8g h_q2]
 refine hK _ _ ?_
 clear hK K
 simp only [b0x, b0y]
 obtain rfl := sI9 hm0
 exact b04 (by simp only [go_sem]) (b0e _)
theorem d1g (hf : Has O "(newel/situation.Plant).Allowed" x__situation_Plant__Allowed) (b6z : c0x O) : c8g O := by
 intro m assume p input r hm0
 unfold c1b at hm0
 refine b1h hf rfl (b0a (.agg _ (b0a (b0c fun a _ => b00 a) (b0a (b0c fun a _ => b00 a) (b0a (b0c fun a _ => b1r a) (b0a (b0c fun a _ => b1t a) (b0a (b0c fun a _ => b1s a) b0l)))))) (b0a (b0c fun a _ => b2l a) (b0a (.agg _ (b0a (b0e _) (b0a (b0e _) (b0a (b0e _) b0l)))) (b0a (b0e _) b0l)))) (b0e _) ?_
 refine b1f (fun t h => t 0 = .agg [.fs 1 (List.map eS m.Machine.Inputs), .fs 1 (List.map eS m.Machine.Outputs), .fs 2 (List.map b0m m.Machine.Counters), .fs 2 (List.map b0n m.Machine.States), .fs 4 (List.map b0k m.Machine.Rules)] /\ t 1 = .fs 1 (List.map b0t assume) /\ t 2 = .agg [I p.State, I p.Values.1, I p.Values.2] /\ t 3 = I input) ⟨rfl, rfl, rfl, rfl⟩ fun t h ⟨s0, s1, s2, s3⟩ => ?_
 simp only [x__situation_Plant__Allowed]
 refine b0b fun K hK => ?_
 simp only [go_sem, s0, s2]
 refine hK _ _ ?_
 clear hK K
 obtain ⟨c4, h_c4, hm0⟩ := b0g hm0
 refine b2z (fun t h => t 8 = B c4) (fun K hK => ?_) ?_
 ·simp only [go_sem, s1]
  refine b0j (fun hg5 => ?_) (fun hg5 => ?_)
  ·simp only [hg5, eq_self, if_true] at h_c4
   obtain rfl := sI9 h_c4
   simp only [go_sem, hg5]
   exact hK _ _ (by first | (simp only [go_sem]; done) | rfl)
  ·simp only [hg5, if_false, Bool.false_eq_true] at h_c4
   obtain ⟨y3, h_y3, h_c4⟩ := b0g h_c4
   obtain rfl := sI9 h_c4
   simp only [go_sem, s1, s3, hg5]
   refine b03 (b6z m assume p input _ h_y3) ?_
   simp only [go_sem, hg5]
   exact hK _ _ (by first | (simp only [go_sem]; done) | rfl)
 ·rintro t h s8
  simp only [b0x, b0y]
  obtain rfl := sI9 hm0
  exact b04 (by simp only [go_sem, s8]) (b0e _)
theorem b6z (hf : Has O "(newel/situation.Plant).Holds" x__situation_Plant__Holds) (d2h : c9h O) (d1h : c8h O) : c0x O := by
 intro m c p input r hm0
 unfold b7x at hm0
 refine b1h hf rfl (b0a (.agg _ (b0a (b0c fun a _ => b00 a) (b0a (b0c fun a _ => b00 a) (b0a (b0c fun a _ => b1r a) (b0a (b0c fun a _ => b1t a) (b0a (b0c fun a _ => b1s a) b0l)))))) (b0a (b0c fun a _ => b2l a) (b0a (.agg _ (b0a (b0e _) (b0a (b0e _) (b0a (b0e _) b0l)))) (b0a (b0e _) b0l)))) (b0e _) ?_
 refine b1f (fun t h => t 0 = .agg [.fs 1 (List.map eS m.Machine.Inputs), .fs 1 (List.map eS m.Machine.Outputs), .fs 2 (List.map b0m m.Machine.Counters), .fs 2 (List.map b0n m.Machine.States), .fs 4 (List.map b0k m.Machine.Rules)] /\ t 1 = .fs 1 (List.map b0t c) /\ t 2 = .agg [I p.State, I p.Values.1, I p.Values.2] /\ t 3 = I input) ⟨rfl, rfl, rfl, rfl⟩ fun t h ⟨s0, s1, s2, s3⟩ => ?_
 simp only [x__situation_Plant__Holds]
 refine b0b fun K hK => ?_
 simp only [go_sem, s0, s2, s3]
 refine hK _ _ ?_
 clear hK K
 obtain ⟨y4, h_y4, hm0⟩ := b0g hm0
 refine b0b fun K hK => ?_
 simp only [go_sem, s1]
 refine b03 (d2h c "(newel/situation.Plant).Holds$1" [] [.fp [.fs 1 (List.map eS m.Machine.Inputs), .fs 1 (List.map eS m.Machine.Outputs), .fs 2 (List.map b0m m.Machine.Counters), .fs 2 (List.map b0n m.Machine.States), .fs 4 (List.map b0k m.Machine.Rules)] 0, .fp [I p.State, I p.Values.1, I p.Values.2] 0, .fp [I input] 0] (fun z3 => b7y z3 m p input) (.fn _ _ _ b0l (b0a (.fp _ _ (b0a (b0c fun a _ => b00 a) (b0a (b0c fun a _ => b00 a) (b0a (b0c fun a _ => b1r a) (b0a (b0c fun a _ => b1t a) (b0a (b0c fun a _ => b1s a) b0l)))))) (b0a (.fp _ _ (b0a (b0e _) (b0a (b0e _) (b0a (b0e _) b0l)))) (b0a (.fp _ _ (b0a (b0e _) b0l)) b0l)))) (fun z0 y hz => d1h z0 m p input y hz) _ h_y4) ?_
 simp only [go_sem]
 refine hK _ _ ?_
 clear hK K
 simp only [b0x, b0y]
 obtain rfl := sI9 hm0
 exact b04 (by simp only [go_sem]) (b0e _)
theorem d1h (hf : Has O "(newel/situation.Plant).Holds$1" x__situation_Plant__HoldsD1) (b8i : c0z O) (d1i : c8i O) : c8h O := by
 intro t_ c0 c1 c2 r hm0
 unfold b7y at hm0
 refine b1h hf rfl (b0a (b0c fun a _ => c12 a) (b0a (.fp _ _ (b0a (b0c fun a _ => b00 a) (b0a (b0c fun a _ => b00 a) (b0a (b0c fun a _ => b1r a) (b0a (b0c fun a _ => b1t a) (b0a (b0c fun a _ => b1s a) b0l)))))) (b0a (.fp _ _ (b0a (b0e _) (b0a (b0e _) (b0a (b0e _) b0l)))) (b0a (.fp _ _ (b0a (b0e _) b0l)) b0l)))) (b0e _) ?_
 refine b1f (fun t h => t 0 = .fs 4 (List.map b3c t_) /\ t 1 = .fp [.fs 1 (List.map eS c0.Machine.Inputs), .fs 1 (List.map eS c0.Machine.Outputs), .fs 2 (List.map b0m c0.Machine.Counters), .fs 2 (List.map b0n c0.Machine.States), .fs 4 (List.map b0k c0.Machine.Rules)] 0 /\ t 2 = .fp [I c1.State, I c1.Values.1, I c1.Values.2] 0 /\ t 3 = .fp [I c2] 0) ⟨rfl, rfl, rfl, rfl⟩ fun t h ⟨s0, s1, s2, s3⟩ => ?_
 simp only [x__situation_Plant__HoldsD1]
 refine b0b fun K hK => ?_
 simp only [go_sem]
 refine hK _ _ ?_
 clear hK K
 obtain ⟨y4, h_y4, hm0⟩ := b0g hm0
 refine b0b fun K hK => ?_
 simp only [go_sem, s0, s1, s2, s3]
 refine b03 (b8i t_ "(newel/situation.Plant).Holds$1$1" [] [.fp [.fs 1 (List.map eS c0.Machine.Inputs), .fs 1 (List.map eS c0.Machine.Outputs), .fs 2 (List.map b0m c0.Machine.Counters), .fs 2 (List.map b0n c0.Machine.States), .fs 4 (List.map b0k c0.Machine.Rules)] 0, .fp [I c1.State, I c1.Values.1, I c1.Values.2] 0, .fp [I c2] 0] (fun z3 => b7z z3 c0 c1 c2) (.fn _ _ _ b0l (b0a (.fp _ _ (b0a (b0c fun a _ => b00 a) (b0a (b0c fun a _ => b00 a) (b0a (b0c fun a _ => b1r a) (b0a (b0c fun a _ => b1t a) (b0a (b0c fun a _ => b1s a) b0l)))))) (b0a (.fp _ _ (b0a (b0e _) (b0a (b0e _) (b0a (b0e _) b0l)))) (b0a (.fp _ _ (b0a (b0e _) b0l)) b0l)))) (fun z0 y hz => d1i z0 c0 c1 c2 y hz) _ h_y4) ?_
 simp only [go_sem, s1, s2, s3]
 refine hK _ _ ?_
 clear hK K
 simp only [b0x, b0y]
 obtain rfl := sI9 hm0
 exact b04 (by simp only [go_sem]) (b0e _)
theorem d1i (hf : Has O "(newel/situation.Plant).Holds$1$1" x__situation_Plant__HoldsD1D1) (d1k : c8k O) : c8i O := by
 intro x c0 c1 c2 r hm0
 unfold b7z at hm0
 refine b1h hf rfl (b0a (.agg _ (b0a (b0e _) (b0a (b0e _) (b0a (b0e _) (b0a (b0e _) b0l))))) (b0a (.fp _ _ (b0a (b0c fun a _ => b00 a) (b0a (b0c fun a _ => b00 a) (b0a (b0c fun a _ => b1r a) (b0a (b0c fun a _ => b1t a) (b0a (b0c fun a _ => b1s a) b0l)))))) (b0a (.fp _ _ (b0a (b0e _) (b0a (b0e _) (b0a (b0e _) b0l)))) (b0a (.fp _ _ (b0a (b0e _) b0l)) b0l)))) (b0e _) ?_
 refine b1f (fun t h => t 0 = .agg [I x.Kind, I x.Number, I x.Value, B x.Not] /\ t 1 = .fp [.fs 1 (List.map eS c0.Machine.Inputs), .fs 1 (List.map eS c0.Machine.Outputs), .fs 2 (List.map b0m c0.Machine.Counters), .fs 2 (List.map b0n c0.Machine.States), .fs 4 (List.map b0k c0.Machine.Rules)] 0 /\ t 2 = .fp [I c1.State, I c1.Values.1, I c1.Values.2] 0 /\ t 3 = .fp [I c2] 0) ⟨rfl, rfl, rfl, rfl⟩ fun t h ⟨s0, s1, s2, s3⟩ => ?_
 simp only [x__situation_Plant__HoldsD1D1]
 refine b0b fun K hK => ?_
 simp only [go_sem, s0]
 refine hK _ _ ?_
 clear hK K
 obtain ⟨y2, h_y2, hm0⟩ := b0g hm0
 refine b0b fun K hK => ?_
 simp only [go_sem, s1, s2, s3]
 refine b03 (d1k c0 x c1 c2 _ h_y2) ?_
 simp only [go_sem]
 refine hK _ _ ?_
 clear hK K
 simp only [b0x, b0y]
 obtain rfl := sI9 hm0
 exact b04 (by simp only [go_sem]) (b0e _)
theorem d1j (hf : Has O "(newel/situation.Plant).Step" x__situation_Plant__Step) (b6z : c0x O) (d1l : c8l O) : c8j O := by
 intro m p input r hm0
 unfold c1c at hm0
 refine b1h hf rfl (b0a (.agg _ (b0a (b0c fun a _ => b00 a) (b0a (b0c fun a _ => b00 a) (b0a (b0c fun a _ => b1r a) (b0a (b0c fun a _ => b1t a) (b0a (b0c fun a _ => b1s a) b0l)))))) (b0a (.agg _ (b0a (b0e _) (b0a (b0e _) (b0a (b0e _) b0l)))) (b0a (b0e _) b0l))) (.agg _ (b0a (b0e _) (b0a (b0e _) (b0a (b0e _) b0l)))) ?_
 refine b1f (fun t h => t 0 = .agg [.fs 1 (List.map eS m.Machine.Inputs), .fs 1 (List.map eS m.Machine.Outputs), .fs 2 (List.map b0m m.Machine.Counters), .fs 2 (List.map b0n m.Machine.States), .fs 4 (List.map b0k m.Machine.Rules)] /\ t 1 = .agg [I p.State, I p.Values.1, I p.Values.2] /\ t 2 = I input) ⟨rfl, rfl, rfl⟩ fun t h ⟨s0, s1, s2⟩ => ?_
 simp only [x__situation_Plant__Step]
 refine b0b fun K hK => ?_
 simp only [go_sem, s0, s1]
 refine hK _ _ ?_
 clear hK K
 refine b0v ?_
 refine b0b fun K hK => ?_
 simp only [go_sem]
 refine hK _ _ ?_
 clear hK K
 refine b0i fun K1 hK1 => ?_
 have J2 : ∀ (p_4_0 : Int) (p_4_1 : Int) (p_4_2 : Int) (i4 : Nat) (i6 : Nat) (t : Slots) (h : Heap), t 4 = .rp i4 0 0 -> t 6 = .rp i6 0 0 -> h.ob i4 = some (3, [[I p_4_0, I p_4_1, I p_4_2]]) -> i4 < h.nx -> h.ob i6 = some (3, [[I 0, I 0, I 0]]) -> i6 < h.nx -> ¬i4 = i6 -> c4r p_4_0 p_4_1 p_4_2 = some r -> K1 t h := by
  intro p_4_0 p_4_1 p_4_2 i4 i6 t h s4 s6 Q9 Q5 Q3 Q1 Qd hm0
  refine hK1 _ _ ?_
  unfold c4r at hm0
  refine b0b fun K hK => ?_
  simp only [go_sem, s4, s6, Q9, Q3]
  refine hK _ _ ?_
  clear hK K
  simp only [b0x, b0y]
  obtain rfl := sI9 hm0
  exact b9l (id := i6) (m := 3) (cs := [I p_4_0, I p_4_1, I p_4_2]) (by simp only [go_sem, s6]) (by simp only [go_sem]) rfl (.refl _ (.agg _ (b0a (b0e _) (b0a (b0e _) (b0a (b0e _) b0l)))))
 simp only [b0u]
 obtain ⟨b3, hl3, hm0⟩ := b0g hm0
 refine b1l hl3 (fun | x_15, t, h => ∃ i4 : Nat, ∃ i6 : Nat, t 2 = I input /\ t 3 = .fp [.fs 1 (List.map eS m.Machine.Inputs), .fs 1 (List.map eS m.Machine.Outputs), .fs 2 (List.map b0m m.Machine.Counters), .fs 2 (List.map b0n m.Machine.States), .fs 4 (List.map b0k m.Machine.Rules)] 0 /\ t 4 = .rp i4 0 0 /\ t 6 = .rp i6 0 0 /\ t 13 = .fs 4 (List.map b0k m.Machine.Rules) /\ t 14 = I (List.length m.Machine.Rules : Int) /\ t 15 = I x_15 /\ h.ob i4 = some (3, [[I p.State, I p.Values.1, I p.Values.2]]) /\ i4 < h.nx /\ h.ob i6 = some (3, [[I 0, I 0, I 0]]) /\ i6 < h.nx /\ ¬i4 = i6) ?_ ?_
 ·exact ⟨h.nx, (nxs h.nx), s2, (by first | (simp only [go_sem]; done) | rfl), (by first | (simp only [go_sem]; done) | rfl), (by first | (simp only [go_sem]; done) | rfl), (by first | (simp only [go_sem]; done) | rfl), (by first | (simp only [go_sem]; done) | rfl), (by first | (simp only [go_sem]; done) | rfl), (by simp only [go_sem]), (by simp only [go_sem]), (by simp only [go_sem]), (by simp only [go_sem]), (by first | first | assumption | omega | (simp only [nxs] <;> omega))⟩
 ·rintro x_15 o t h ⟨i4, i6, s2, s3, s4, s6, s13, s14, s15, Q9, Q5, Q3, Q1, Qd⟩ hm1 hb3
  simp only [c4p] at hm1
  rw [g12]
  refine b0b fun K hK => ?_
  simp only [go_sem, s14, s15]
  refine hK _ _ ?_
  clear hK K
  refine b0i fun K4 hK4 => ?_
  simp only [go_sem]
  refine b0j (fun hc5 => ?_) (fun hc5 => ?_)
  ·rw [b0q hc5] at hm1
   simp only [b0r, b0f]
   refine hK4 _ _ ?_
   refine b0i fun K6 hK6 => ?_
   have J7 : ∀ (t : Slots) (h : Heap), t 2 = I input -> t 3 = .fp [.fs 1 (List.map eS m.Machine.Inputs), .fs 1 (List.map eS m.Machine.Outputs), .fs 2 (List.map b0m m.Machine.Counters), .fs 2 (List.map b0n m.Machine.States), .fs 4 (List.map b0k m.Machine.Rules)] 0 -> t 4 = .rp i4 0 0 -> t 6 = .rp i6 0 0 -> t 13 = .fs 4 (List.map b0k m.Machine.Rules) -> t 14 = I (List.length m.Machine.Rules : Int) -> t 15 = I x_15 -> h.ob i4 = some (3, [[I p.State, I p.Values.1, I p.Values.2]]) -> i4 < h.nx -> h.ob i6 = some (3, [[I 0, I 0, I 0]]) -> i6 < h.nx -> ¬i4 = i6 -> c4s x_15 = some o -> K6 t h := by
    try clear s2 s3 s4 s6 s13 s14 s15 Q9 Q5 Q3 Q1 Qd
    intro t h s2 s3 s4 s6 s13 s14 s15 Q9 Q5 Q3 Q1 Qd hm1
    refine hK6 _ _ ?_
    unfold c4s at hm1
    refine b02 fun K hK => ?_
    simp only [go_sem, s15]
    refine hK _ _ ?_
    clear hK K
    simp only [b0f]
    obtain rfl := sI9 hm1
    refine ⟨_, rfl, ?_⟩
    exact ⟨i4, i6, s2, s3, s4, s6, s13, s14, (by first | (simp only [go_sem]; done) | rfl), Q9, Q5, Q3, Q1, Qd⟩
   simp only [b0u]
   obtain ⟨x9, h_x9, hm1⟩ := b0g hm1
   have h_x90 := b06 h_x9
   have h_x91 := b07 h_x9
   refine b0b fun K hK => ?_
   simp only [go_sem, s13, s15, b1a h_x9, h_x91]
   refine hK _ _ ?_
   clear hK K
   refine b0v ?_
   obtain ⟨c13, h_c13, hm1⟩ := b0g hm1
   refine b2z (fun t h => ∃ i8 : Nat, t 2 = I input /\ t 3 = .fp [.fs 1 (List.map eS m.Machine.Inputs), .fs 1 (List.map eS m.Machine.Outputs), .fs 2 (List.map b0m m.Machine.Counters), .fs 2 (List.map b0n m.Machine.States), .fs 4 (List.map b0k m.Machine.Rules)] 0 /\ t 4 = .rp i4 0 0 /\ t 6 = .rp i6 0 0 /\ t 8 = .rp i8 0 0 /\ t 13 = .fs 4 (List.map b0k m.Machine.Rules) /\ t 14 = I (List.length m.Machine.Rules : Int) /\ t 15 = I x_15 /\ t 37 = B c13 /\ h.ob i4 = some (3, [[I p.State, I p.Values.1, I p.Values.2]]) /\ i4 < h.nx /\ h.ob i6 = some (3, [[I 0, I 0, I 0]]) /\ i6 < h.nx /\ h.ob i8 = some (4, [[I x9.From, I x9.To, .fs 1 (List.map b0t x9.When), .fs 2 (List.map b2k x9.Sets)]]) /\ i8 < h.nx /\ ¬i4 = i6 /\ ¬i4 = i8 /\ ¬i6 = i8) (fun K hK => ?_) ?_
   ·simp only [go_sem]
    refine b0j (fun hg14 => ?_) (fun hg14 => ?_)
    ·simp only [go_sem, s4, Q9, Q5, hg14]
     refine b0j (fun hg15 => ?_) (fun hg15 => ?_)
     ·simp only [hg14, hg15, eq_self, if_true, Bool.and_true] at h_c13
      obtain rfl := sI9 h_c13
      simp only [go_sem, hg14, hg15]
      exact hK _ _ ⟨h.nx, s2, s3, s4, s6, (by first | (simp only [go_sem]; done) | rfl), s13, s14, s15, (by first | (simp only [go_sem]; done) | rfl), (by simp only [go_sem, Q9, Q5]), (by simp only [go_sem, Q5]), (by simp only [go_sem, Q3, Q1]), (by simp only [go_sem, Q1]), (by simp only [go_sem]), (by simp only [go_sem]), Qd, (by first | first | assumption | omega | (simp only [nxs] <;> omega)), (by first | first | assumption | omega | (simp only [nxs] <;> omega))⟩
     ·simp only [hg14, hg15, if_false, Bool.and_false, Bool.false_eq_true] at h_c13
      obtain ⟨y12, h_y12, h_c13⟩ := b0g h_c13
      obtain rfl := sI9 h_c13
      simp only [go_sem, s2, s3, s4, Q9, Q5, hg14, hg15]
      refine b03 (b6z m x9.When (Place.mk p.State (p.Values.1, p.Values.2)) input _ h_y12) ?_
      simp only [go_sem, hg14, hg15]
      exact hK _ _ ⟨h.nx, s2, s3, s4, s6, (by first | (simp only [go_sem]; done) | rfl), s13, s14, s15, (by first | (simp only [go_sem]; done) | rfl), (by simp only [go_sem, Q9, Q5]), (by simp only [go_sem, Q5]), (by simp only [go_sem, Q3, Q1]), (by simp only [go_sem, Q1]), (by simp only [go_sem]), (by simp only [go_sem]), Qd, (by first | first | assumption | omega | (simp only [nxs] <;> omega)), (by first | first | assumption | omega | (simp only [nxs] <;> omega))⟩
    ·simp only [hg14, if_false, Bool.false_and, Bool.false_eq_true] at h_c13
     obtain ⟨y12, h_y12, h_c13⟩ := b0g h_c13
     obtain rfl := sI9 h_c13
     simp only [go_sem, s2, s3, s4, Q9, Q5, hg14]
     refine b03 (b6z m x9.When (Place.mk p.State (p.Values.1, p.Values.2)) input _ h_y12) ?_
     simp only [go_sem, hg14]
     exact hK _ _ ⟨h.nx, s2, s3, s4, s6, (by first | (simp only [go_sem]; done) | rfl), s13, s14, s15, (by first | (simp only [go_sem]; done) | rfl), (by simp only [go_sem, Q9, Q5]), (by simp only [go_sem, Q5]), (by simp only [go_sem, Q3, Q1]), (by simp only [go_sem, Q1]), (by simp only [go_sem]), (by simp only [go_sem]), Qd, (by first | first | assumption | omega | (simp only [nxs] <;> omega)), (by first | first | assumption | omega | (simp only [nxs] <;> omega))⟩
   ·try clear s2 s3 s4 s6 s13 s14 s15 Q9 Q5 Q3 Q1 Qd
    rintro t h ⟨i8, s2, s3, s4, s6, s8, s13, s14, s15, s37, Q9, Q5, Q3, Q1, Q2, Q0, Qd, Q1b, Qe⟩
    refine b0i fun K16 hK16 => ?_
    simp only [go_sem, s37]
    refine b0j (fun hc17 => ?_) (fun hc17 => ?_)
    ·rw [b0q hc17] at hm1
     simp only [b1b, b1e, b1d, b0f]
     exact J7  _ _ s2 s3 s4 s6 s13 s14 s15 Q9 Q5 Q3 Q1 Qd hm1
    ·rw [b0p hc17] at hm1
     simp only [b0r, b0f]
     refine hK16 _ _ ?_
     refine b0v ?_
     refine b0b fun K hK => ?_
     simp only [go_sem, s8, Q2]
     refine hK _ _ ?_
     clear hK K
     refine b0i fun K18 hK18 => ?_
     have J19 : ∀ (p_4_0 : Int) (p_4_1 : Int) (p_4_2 : Int) (t : Slots) (h : Heap), t 4 = .rp i4 0 0 -> t 6 = .rp i6 0 0 -> t 8 = .rp i8 0 0 -> h.ob i4 = some (3, [[I p_4_0, I p_4_1, I p_4_2]]) -> i4 < h.nx -> h.ob i6 = some (3, [[I 0, I 0, I 0]]) -> i6 < h.nx -> h.ob i8 = some (4, [[I x9.From, I x9.To, .fs 1 (List.map b0t x9.When), .fs 2 (List.map b2k x9.Sets)]]) -> i8 < h.nx -> ¬i4 = i6 -> ¬i4 = i8 -> ¬i6 = i8 -> c4q x9 p_4_0 p_4_1 p_4_2 = some o -> K18 t h := by
      try clear s2 s3 s4 s6 s8 s13 s14 s15 s37 Q9 Q5 Q3 Q1 Q2 Q0 Qd Q1b Qe
      intro p_4_0 p_4_1 p_4_2 t h s4 s6 s8 Q9 Q5 Q3 Q1 Q2 Q0 Qd Q1b Qe hm1
      refine hK18 _ _ ?_
      unfold c4q at hm1
      refine b0b fun K hK => ?_
      simp only [go_sem, s4, s8, Q9, Q2]
      refine hK _ _ ?_
      clear hK K
      simp only [b1b, b1e, b1d, c0a, b0f, Nat.reduceEqDiff, nF9]
      obtain rfl := sI9 hm1
      obtain rfl := hb3 _ rfl
      try dsimp only at hm0
      exact J2 x9.To p_4_1 p_4_2 i4 i6 _ _ s4 s6 (by simp only [go_sem]) (by simp only [go_sem, Q5]) (by simp only [go_sem, Q3, b1z Qd]) (by simp only [go_sem, Q1]) Qd hm0
     simp only [b0u]
     obtain ⟨b20, hl20, hm1⟩ := b0g hm1
     refine b1l hl20 (fun | (p_4_0, p_4_1, p_4_2, x_41), t, h => t 3 = .fp [.fs 1 (List.map eS m.Machine.Inputs), .fs 1 (List.map eS m.Machine.Outputs), .fs 2 (List.map b0m m.Machine.Counters), .fs 2 (List.map b0n m.Machine.States), .fs 4 (List.map b0k m.Machine.Rules)] 0 /\ t 4 = .rp i4 0 0 /\ t 6 = .rp i6 0 0 /\ t 8 = .rp i8 0 0 /\ t 39 = .fs 2 (List.map b2k x9.Sets) /\ t 40 = I (List.length x9.Sets : Int) /\ t 41 = I x_41 /\ h.ob i4 = some (3, [[I p_4_0, I p_4_1, I p_4_2]]) /\ i4 < h.nx /\ h.ob i6 = some (3, [[I 0, I 0, I 0]]) /\ i6 < h.nx /\ h.ob i8 = some (4, [[I x9.From, I x9.To, .fs 1 (List.map b0t x9.When), .fs 2 (List.map b2k x9.Sets)]]) /\ i8 < h.nx /\ ¬i4 = i6 /\ ¬i4 = i8 /\ ¬i6 = i8) ?_ ?_
     ·exact ⟨s3, s4, s6, s8, (by first | (simp only [go_sem]; done) | rfl), (by first | (simp only [go_sem]; done) | rfl), (by first | (simp only [go_sem]; done) | rfl), Q9, Q5, Q3, Q1, Q2, Q0, Qd, Q1b, Qe⟩
     ·try clear s2 s3 s4 s6 s8 s13 s14 s15 s37 Q9 Q5 Q3 Q1 Q2 Q0 Qd Q1b Qe
      rintro ⟨p_4_0, p_4_1, p_4_2, x_41⟩ o t h ⟨s3, s4, s6, s8, s39, s40, s41, Q9, Q5, Q3, Q1, Q2, Q0, Qd, Q1b, Qe⟩ hm2 hb20
      simp only [c1d] at hm2
      rw [g11]
      refine b0b fun K hK => ?_
      simp only [go_sem, s40, s41]
      refine hK _ _ ?_
      clear hK K
      refine b0i fun K21 hK21 => ?_
      simp only [go_sem]
      refine b0j (fun hc22 => ?_) (fun hc22 => ?_)
      ·rw [b0q hc22] at hm2
       simp only [b0r, b0f]
       refine hK21 _ _ ?_
       refine b0i fun K23 hK23 => ?_
       simp only [b0u]
       obtain ⟨x25, h_x25, hm2⟩ := b0g hm2
       have h_x250 := b06 h_x25
       have h_x251 := b07 h_x25
       refine b0b fun K hK => ?_
       simp only [go_sem, s39, s41, b1a h_x25, h_x251]
       refine hK _ _ ?_
       clear hK K
       obtain ⟨y27, h_y27, hm2⟩ := b0g hm2
       refine b9j (fun t h => t 3 = .fp [.fs 1 (List.map eS m.Machine.Inputs), .fs 1 (List.map eS m.Machine.Outputs), .fs 2 (List.map b0m m.Machine.Counters), .fs 2 (List.map b0n m.Machine.States), .fs 4 (List.map b0k m.Machine.Rules)] 0 /\ t 4 = .rp i4 0 0 /\ t 6 = .rp i6 0 0 /\ t 8 = .rp i8 0 0 /\ t 39 = .fs 2 (List.map b2k x9.Sets) /\ t 40 = I (List.length x9.Sets : Int) /\ t 41 = I x_41 /\ h.ob i4 = some (3, [[I y27.State, I y27.Values.1, I y27.Values.2]]) /\ i4 < h.nx /\ h.ob i6 = some (3, [[I 0, I 0, I 0]]) /\ i6 < h.nx /\ h.ob i8 = some (4, [[I x9.From, I x9.To, .fs 1 (List.map b0t x9.When), .fs 2 (List.map b2k x9.Sets)]]) /\ i8 < h.nx /\ ¬i4 = i6 /\ ¬i4 = i8 /\ ¬i6 = i8) (fun K hK => ?_) ?_
       ·simp only [go_sem, s3, s4]
        refine d7n (d1l m x25 (Place.mk p_4_0 (p_4_1, p_4_2)) i4 _ (by simp only [go_sem, Q9, Q5]) (by first | omega | simp only [go_sem, Q5]) _ h_y27) ?_
        rintro _ hq_y27 ⟨rfl, ob_y27, fr_y27, fx_y27⟩
        have lw_y270 : i4 < hq_y27.nx := Nat.lt_of_lt_of_le (by first | omega | simp only [go_sem, Q5]) fx_y27
        have lw_y271 : i6 < hq_y27.nx := Nat.lt_of_lt_of_le (by first | omega | simp only [go_sem, Q1]) fx_y27
        have lw_y272 : i8 < hq_y27.nx := Nat.lt_of_lt_of_le (by first | omega | simp only [go_sem, Q0]) fx_y27
        have lw_y273 : h.nx < hq_y27.nx := Nat.lt_of_lt_of_le (by first | omega | simp only [go_sem]) fx_y27
        simp only [go_sem]
        exact hK _ _ ⟨s3, s4, s6, s8, s39, s40, s41, (by simp only [go_sem, ob_y27]), (by first | omega | simp only [go_sem, Q5]), (by simp only [go_sem, Q3, Q1, b1z Qd, fr_y27]), (by first | omega | simp only [go_sem, Q1]), (by simp only [go_sem, Q2, Q0, b1z Q1b, fr_y27]), (by first | omega | simp only [go_sem, Q0]), Qd, Q1b, Qe⟩
       ·try clear s3 s4 s6 s8 s39 s40 s41 Q9 Q5 Q3 Q1 Q2 Q0 Qd Q1b Qe
        rintro t h ⟨s3, s4, s6, s8, s39, s40, s41, Q9, Q5, Q3, Q1, Q2, Q0, Qd, Q1b, Qe⟩
        simp only [b01, b0f]
        refine hK23 _ _ ?_
        refine b02 fun K hK => ?_
        simp only [go_sem, s41]
        refine hK _ _ ?_
        clear hK K
        simp only [b0f]
        obtain rfl := sI9 hm2
        refine ⟨_, rfl, ?_⟩
        exact ⟨s3, s4, s6, s8, s39, s40, (by first | (simp only [go_sem]; done) | rfl), Q9, Q5, Q3, Q1, Q2, Q0, Qd, Q1b, Qe⟩
      ·rw [b0p hc22] at hm2
       simp only [b1b, b1e, b1d, b0f]
       obtain rfl := sI9 hm2
       obtain rfl := hb20 _ rfl
       try dsimp only at hm1
       exact J19 p_4_0 p_4_1 p_4_2 _ _ s4 s6 s8 Q9 Q5 Q3 Q1 Q2 Q0 Qd Q1b Qe hm1
  ·rw [b0p hc5] at hm1
   simp only [b1b, b1e, b1d, b0f]
   obtain rfl := sI9 hm1
   obtain rfl := hb3 _ rfl
   try dsimp only at hm0
   exact J2 p.State p.Values.1 p.Values.2 i4 i6 _ _ s4 s6 Q9 Q5 Q3 Q1 Qd hm0
theorem d1k (hf : Has O "(newel/situation.Plant).literal" x__situation_Plant__literal) : c8k O := by
 intro m x p input r hm0
 unfold b70 at hm0
 refine b1h hf rfl (b0a (.agg _ (b0a (b0c fun a _ => b00 a) (b0a (b0c fun a _ => b00 a) (b0a (b0c fun a _ => b1r a) (b0a (b0c fun a _ => b1t a) (b0a (b0c fun a _ => b1s a) b0l)))))) (b0a (.agg _ (b0a (b0e _) (b0a (b0e _) (b0a (b0e _) (b0a (b0e _) b0l))))) (b0a (.agg _ (b0a (b0e _) (b0a (b0e _) (b0a (b0e _) b0l)))) (b0a (b0e _) b0l)))) (b0e _) ?_
 refine b1f (fun t h => t 0 = .agg [.fs 1 (List.map eS m.Machine.Inputs), .fs 1 (List.map eS m.Machine.Outputs), .fs 2 (List.map b0m m.Machine.Counters), .fs 2 (List.map b0n m.Machine.States), .fs 4 (List.map b0k m.Machine.Rules)] /\ t 1 = .agg [I x.Kind, I x.Number, I x.Value, B x.Not] /\ t 2 = .agg [I p.State, I p.Values.1, I p.Values.2] /\ t 3 = I input) ⟨rfl, rfl, rfl, rfl⟩ fun t h ⟨s0, s1, s2, s3⟩ => ?_
 simp only [x__situation_Plant__literal]
 refine b0b fun K hK => ?_
 simp only [go_sem, s0, s1, s2]
 refine hK _ _ ?_
 clear hK K
 refine b0b fun K hK => ?_
 simp only [go_sem]
 refine hK _ _ ?_
 clear hK K
 refine b0v ?_
 refine b0b fun K hK => ?_
 simp only [go_sem]
 refine hK _ _ ?_
 clear hK K
 refine b0i fun K1 hK1 => ?_
 have J2 : ∀ (holds_9 : Bool) (t : Slots) (h : Heap), t 5 = .fp [I x.Kind, I x.Number, I x.Value, B x.Not] 0 -> t 9 = B holds_9 -> b6l x holds_9 = some r -> K1 t h := by
  intro holds_9 t h s5 s9 hm0
  refine hK1 _ _ ?_
  unfold b6l at hm0
  refine b0b fun K hK => ?_
  simp only [go_sem, s5, s9]
  refine hK _ _ ?_
  clear hK K
  simp only [b0x, b0y]
  obtain rfl := sI9 hm0
  exact b04 (by simp only [go_sem]) (b0e _)
 simp only [b0u]
 refine b0b fun K hK => ?_
 simp only [go_sem]
 refine hK _ _ ?_
 clear hK K
 simp only [go_sem]
 refine b0j (fun hc3 => ?_) (fun hc3 => ?_)
 ·rw [b0q hc3] at hm0
  obtain ⟨q5, h_q5, hm0⟩ := b0g hm0
  refine b02 fun K hK => ?_
  simp only [go_sem, s3, c5n h_q5]
  refine hK _ _ ?_
  clear hK K
  simp only [b01, b0f]
  exact J2 (decide ((b6o q5 1) = 1)) _ _ (by first | (simp only [go_sem]; done) | rfl) (by first | (simp only [go_sem]; done) | rfl) hm0
 ·rw [b0p hc3] at hm0
  refine b0b fun K hK => ?_
  simp only [go_sem]
  refine hK _ _ ?_
  clear hK K
  simp only [go_sem]
  refine b0j (fun hc6 => ?_) (fun hc6 => ?_)
  ·rw [b0q hc6] at hm0
   obtain ⟨x8, h_x8, hm0⟩ := b0g hm0
   have ha_x8 : ∀ v : Int, List.take (1 + Int.toNat (x.Number)) [I p.State, I p.Values.1, I p.Values.2] ++ [I v] ++ List.drop (1 + Int.toNat (x.Number)) [I p.Values.1, I p.Values.2] = [I p.State, I (b1k (x.Number) 0 v p.Values.1), I (b1k (x.Number) 1 v p.Values.2)] := fun v => (c0n (cs := [I p.State, I p.Values.1, I p.Values.2]) (off := 1) (v := v) h_x8 rfl).trans (by rw [c0m h_x8]; rfl)
   have hb_x8 : 1 + Int.toNat (x.Number) + 1 <= 3 := Nat.le_trans (Nat.add_le_add_left (b9t h_x8) 1) (by simp)
   refine b02 fun K hK => ?_
   simp only [go_sem, d74 (n := 2) (l := [p.Values.1, p.Values.2]) h_x8 rfl, b9v (cs := [I p.State, I p.Values.1, I p.Values.2]) (off := 1) h_x8 rfl]
   refine hK _ _ ?_
   clear hK K
   simp only [b01, b0f]
   exact J2 (decide (x.Value <= x8)) _ _ (by first | (simp only [go_sem]; done) | rfl) (by first | (simp only [go_sem]; done) | rfl) hm0
  ·rw [b0p hc6] at hm0
   refine b0b fun K hK => ?_
   simp only [go_sem]
   refine hK _ _ ?_
   clear hK K
   simp only [go_sem]
   refine b0j (fun hc9 => ?_) (fun hc9 => ?_)
   ·rw [b0q hc9] at hm0
    refine b02 fun K hK => ?_
    simp only [go_sem]
    refine hK _ _ ?_
    clear hK K
    simp only [b01, b0f]
    exact J2 (decide (p.State = x.Number)) _ _ (by first | (simp only [go_sem]; done) | rfl) (by first | (simp only [go_sem]; done) | rfl) hm0
   ·rw [b0p hc9] at hm0
    refine b0b fun K hK => ?_
    simp only [go_sem]
    refine hK _ _ ?_
    clear hK K
    simp only [go_sem]
    refine b0j (fun hc10 => ?_) (fun hc10 => ?_)
    ·rw [b0q hc10] at hm0
     obtain ⟨x13, h_x13, hm0⟩ := b0g hm0
     have h_x130 := b06 h_x13
     have h_x131 := b07 h_x13
     obtain ⟨q14, h_q14, hm0⟩ := b0g hm0
     refine b02 fun K hK => ?_
     simp only [go_sem, b1a h_x13, c5n h_q14]
     refine hK _ _ ?_
     clear hK K
     simp only [b01, b0f]
     exact J2 (decide ((b6o q14 1) = 1)) _ _ (by first | (simp only [go_sem]; done) | rfl) (by first | (simp only [go_sem]; done) | rfl) hm0
    ·rw [b0p hc10] at hm0
     simp only [b0r, b01, b0f]
     exact J2 false _ _ (by first | (simp only [go_sem]; done) | rfl) (by first | (simp only [go_sem]; done) | rfl) hm0
theorem d1l (hf : Has O "(newel/situation.Plant).set" x__situation_Plant__set) : c8l O := by
 intro m s p i_2 h0 ob_p2 lt_p2 r hm0
 unfold c1e at hm0
 refine d6f hf rfl ?_
 refine b1f (fun t h => t 0 = .agg [.fs 1 (List.map eS m.Machine.Inputs), .fs 1 (List.map eS m.Machine.Outputs), .fs 2 (List.map b0m m.Machine.Counters), .fs 2 (List.map b0n m.Machine.States), .fs 4 (List.map b0k m.Machine.Rules)] /\ t 1 = .agg [I s.Kind, I s.Counter] /\ t 2 = .rp i_2 0 0 /\ h.ob i_2 = some (3, [[I p.State, I p.Values.1, I p.Values.2]]) /\ i_2 < h.nx /\ (∀ j, j < h0.nx -> ¬j = i_2 -> h.ob j = h0.ob j) /\ h0.nx <= h.nx) ⟨rfl, rfl, rfl, ob_p2, lt_p2, fun _ _ _ => rfl, Nat.le_refl _⟩ fun t h ⟨s0, s1, s2, ob_p2, lt_p2, fr, fx⟩ => ?_
 simp only [x__situation_Plant__set]
 refine b0b fun K hK => ?_
 simp only [go_sem, s0, s1]
 refine hK _ _ ?_
 clear hK K
 obtain ⟨x2, h_x2, hm0⟩ := b0g hm0
 have ha_x2 : ∀ v : Int, List.take (1 + Int.toNat (s.Counter)) [I p.State, I p.Values.1, I p.Values.2] ++ [I v] ++ List.drop (1 + Int.toNat (s.Counter)) [I p.Values.1, I p.Values.2] = [I p.State, I (b1k (s.Counter) 0 v p.Values.1), I (b1k (s.Counter) 1 v p.Values.2)] := fun v => (c0n (cs := [I p.State, I p.Values.1, I p.Values.2]) (off := 1) (v := v) h_x2 rfl).trans (by rw [c0m h_x2]; rfl)
 have hb_x2 : 1 + Int.toNat (s.Counter) + 1 <= 3 := Nat.le_trans (Nat.add_le_add_left (b9t h_x2) 1) (by simp)
 refine b0b fun K hK => ?_
 simp only [go_sem, s2, ob_p2, c5r (n := 2) (l := [p.Values.1, p.Values.2]) h_x2 rfl]
 refine hK _ _ ?_
 clear hK K
 refine b0b fun K hK => ?_
 simp only [go_sem]
 refine hK _ _ ?_
 clear hK K
 simp only [b0u]
 refine b0b fun K hK => ?_
 simp only [go_sem]
 refine hK _ _ ?_
 clear hK K
 simp only [go_sem]
 refine b0j (fun hc3 => ?_) (fun hc3 => ?_)
 ·rw [b0q hc3] at hm0
  refine b02 fun K hK => ?_
  simp only [go_sem, ob_p2, ha_x2, hb_x2]
  refine hK _ _ ?_
  clear hK K
  simp only [b01]
  obtain rfl := sI9 hm0
  exact c3f (Post := fun v h => v = .tup [] /\ h.ob i_2 = some (3, [[I ((Place.mk p.State (b1k s.Counter 0 0 p.Values.1, b1k s.Counter 1 0 p.Values.2)).State), I (((Place.mk p.State (b1k s.Counter 0 0 p.Values.1, b1k s.Counter 1 0 p.Values.2)).Values).1), I (((Place.mk p.State (b1k s.Counter 0 0 p.Values.1, b1k s.Counter 1 0 p.Values.2)).Values).2)]]) /\ (∀ j, j < h0.nx -> ¬j = i_2 -> h.ob j = h0.ob j) /\ h0.nx <= h.nx) ⟨rfl, (by simp only [go_sem]), (by intro j hj hx0; first | exact fr j hj hx0 | (refine Eq.trans ?_ (fr j hj hx0); first | rfl | simp only [go_sem, hx0])), (by first | exact fx | omega | (simp only [go_sem, nxs] <;> omega))⟩
 ·rw [b0p hc3] at hm0
  refine b0b fun K hK => ?_
  simp only [go_sem]
  refine hK _ _ ?_
  clear hK K
  simp only [go_sem]
  refine b0j (fun hc4 => ?_) (fun hc4 => ?_)
  ·rw [b0q hc4] at hm0
   obtain ⟨x6, h_x6, hm0⟩ := b0g hm0
   have h_x60 := b06 h_x6
   have h_x61 := b07 h_x6
   refine b02 fun K hK => ?_
   simp only [go_sem, ob_p2, b1a h_x6, b9v (cs := [I p.State, I p.Values.1, I p.Values.2]) (off := 1) h_x2 rfl, ha_x2, hb_x2]
   refine hK _ _ ?_
   clear hK K
   simp only [b01]
   obtain rfl := sI9 hm0
   exact c3f (Post := fun v h => v = .tup [] /\ h.ob i_2 = some (3, [[I ((Place.mk p.State (b1k s.Counter 0 (mn (wr (x2 + 1)) x6.Max) p.Values.1, b1k s.Counter 1 (mn (wr (x2 + 1)) x6.Max) p.Values.2)).State), I (((Place.mk p.State (b1k s.Counter 0 (mn (wr (x2 + 1)) x6.Max) p.Values.1, b1k s.Counter 1 (mn (wr (x2 + 1)) x6.Max) p.Values.2)).Values).1), I (((Place.mk p.State (b1k s.Counter 0 (mn (wr (x2 + 1)) x6.Max) p.Values.1, b1k s.Counter 1 (mn (wr (x2 + 1)) x6.Max) p.Values.2)).Values).2)]]) /\ (∀ j, j < h0.nx -> ¬j = i_2 -> h.ob j = h0.ob j) /\ h0.nx <= h.nx) ⟨rfl, (by simp only [go_sem]), (by intro j hj hx0; first | exact fr j hj hx0 | (refine Eq.trans ?_ (fr j hj hx0); first | rfl | simp only [go_sem, hx0])), (by first | exact fx | omega | (simp only [go_sem, nxs] <;> omega))⟩
  ·rw [b0p hc4] at hm0
   refine b0b fun K hK => ?_
   simp only [go_sem]
   refine hK _ _ ?_
   clear hK K
   simp only [go_sem]
   refine b0j (fun hc7 => ?_) (fun hc7 => ?_)
   ·rw [b0q hc7] at hm0
    refine b02 fun K hK => ?_
    simp only [go_sem, ob_p2, b9v (cs := [I p.State, I p.Values.1, I p.Values.2]) (off := 1) h_x2 rfl, ha_x2, hb_x2]
    refine hK _ _ ?_
    clear hK K
    simp only [b01]
    obtain rfl := sI9 hm0
    exact c3f (Post := fun v h => v = .tup [] /\ h.ob i_2 = some (3, [[I ((Place.mk p.State (b1k s.Counter 0 (mx (wr (x2 - 1)) 0) p.Values.1, b1k s.Counter 1 (mx (wr (x2 - 1)) 0) p.Values.2)).State), I (((Place.mk p.State (b1k s.Counter 0 (mx (wr (x2 - 1)) 0) p.Values.1, b1k s.Counter 1 (mx (wr (x2 - 1)) 0) p.Values.2)).Values).1), I (((Place.mk p.State (b1k s.Counter 0 (mx (wr (x2 - 1)) 0) p.Values.1, b1k s.Counter 1 (mx (wr (x2 - 1)) 0) p.Values.2)).Values).2)]]) /\ (∀ j, j < h0.nx -> ¬j = i_2 -> h.ob j = h0.ob j) /\ h0.nx <= h.nx) ⟨rfl, (by simp only [go_sem]), (by intro j hj hx0; first | exact fr j hj hx0 | (refine Eq.trans ?_ (fr j hj hx0); first | rfl | simp only [go_sem, hx0])), (by first | exact fx | omega | (simp only [go_sem, nxs] <;> omega))⟩
   ·rw [b0p hc7] at hm0
    simp only [b0r, b01]
    obtain rfl := sI9 hm0
    exact c3f (Post := fun v h => v = .tup [] /\ h.ob i_2 = some (3, [[I ((Place.mk p.State (p.Values.1, p.Values.2)).State), I (((Place.mk p.State (p.Values.1, p.Values.2)).Values).1), I (((Place.mk p.State (p.Values.1, p.Values.2)).Values).2)]]) /\ (∀ j, j < h0.nx -> ¬j = i_2 -> h.ob j = h0.ob j) /\ h0.nx <= h.nx) ⟨rfl, ob_p2, fr, fx⟩
theorem d1m (hf : Has O "newel/control.Check" x_control_Check) (d16 : c86 O) : c8m O := by
 intro m r hm0
 unfold c1m at hm0
 refine b1h hf rfl (b0a (.agg _ (b0a (b0c fun a _ => b00 a) (b0a (b0c fun a _ => b00 a) (b0a (b0c fun a _ => b1r a) (b0a (b0c fun a _ => b1t a) (b0a (b0c fun a _ => b1s a) b0l)))))) b0l) (b0e _) ?_
 refine b1f (fun t h => t 0 = .agg [.fs 1 (List.map eS m.Inputs), .fs 1 (List.map eS m.Outputs), .fs 2 (List.map b0m m.Counters), .fs 2 (List.map b0n m.States), .fs 4 (List.map b0k m.Rules)]) rfl fun t h s0 => ?_
 simp only [x_control_Check]
 refine b0b fun K hK => ?_
 simp only [go_sem, s0]
 refine hK _ _ ?_
 clear hK K
 obtain ⟨y2, h_y2, hm0⟩ := b0g hm0
 refine b0b fun K hK => ?_
 simp only [go_sem]
 refine b03 (d16 m _ h_y2) ?_
 simp only [go_sem]
 refine hK _ _ ?_
 clear hK K
 simp only [b0x, b0y]
 obtain rfl := sI9 hm0
 exact b04 (by simp only [go_sem]) (b0e _)
theorem d1n (hf : Has O "newel/control.Stuck" x_control_Stuck) (d1p : c8p O) (d1q : c8q O) (d1a : c8a O) (d1o : c8o O) : c8n O := by
 intro m assume never r hm0
 unfold c1n at hm0
 refine b1h hf rfl (b0a (.agg _ (b0a (b0c fun a _ => b00 a) (b0a (b0c fun a _ => b00 a) (b0a (b0c fun a _ => b1r a) (b0a (b0c fun a _ => b1t a) (b0a (b0c fun a _ => b1s a) b0l)))))) (b0a (b0c fun a _ => b2l a) (b0a (b0c fun a _ => b2l a) b0l))) (.tup _ (b0a (b0e _) (b0a (b0e _) (b0a (b0c fun a _ => b13 a) (b0a (b0e _) (b0a (b0e _) b0l)))))) ?_
 refine b1f (fun t h => t 0 = .agg [.fs 1 (List.map eS m.Inputs), .fs 1 (List.map eS m.Outputs), .fs 2 (List.map b0m m.Counters), .fs 2 (List.map b0n m.States), .fs 4 (List.map b0k m.Rules)] /\ t 1 = .fs 1 (List.map b0t assume) /\ t 2 = .fs 1 (List.map b0t never)) ⟨rfl, rfl, rfl⟩ fun t h ⟨s0, s1, s2⟩ => ?_
 simp only [x_control_Stuck]
 refine b0b fun K hK => ?_
 simp only [go_sem, s0]
 refine hK _ _ ?_
 clear hK K
 refine b0v ?_
 obtain ⟨y2, h_y2, hm0⟩ := b0g hm0
 refine b0b fun K hK => ?_
 simp only [go_sem, s1, s2]
 refine c5o ?_ (d1p m ([assume, never]) _ h_y2) (.v _) ?_
 ·exact .cons (.refl _ (.agg _ (b0a (b0c fun a _ => b00 a) (b0a (b0c fun a _ => b00 a) (b0a (b0c fun a _ => b1r a) (b0a (b0c fun a _ => b1t a) (b0a (b0c fun a _ => b1s a) b0l))))))) (.cons (b3e (f := b41) (l := ([assume, never])) (id := h.nx) (by simp only [go_sem]) (by first | rfl | simp only [go_sem, lA9, mA9]) c5d d9c) (.nil))
 simp only [go_sem]
 refine hK _ _ ?_
 clear hK K
 refine b0v ?_
 refine b0b fun K hK => ?_
 simp only [go_sem]
 refine hK _ _ ?_
 clear hK K
 refine b0i fun K3 hK3 => ?_
 simp only [go_sem]
 refine b0j (fun hc4 => ?_) (fun hc4 => ?_)
 ·rw [b0q hc4] at hm0
  refine b0b fun K hK => ?_
  simp only [go_sem]
  refine hK _ _ ?_
  clear hK K
  simp only [b0x, b1n, b0y]
  obtain rfl := sI9 hm0
  exact c1s (v := I 0) (u := I 0) (x := .v (.slice none 0 0)) (q := B false) (i := I y2) (by simp only [go_sem]) (by simp only [go_sem]) (by simp only [go_sem]) (by simp only [go_sem]) (by simp only [go_sem]) (.refl _ (b0e _)) (.refl _ (b0e _)) (.nil _) (.refl _ (b0e _)) (.refl _ (b0e _))
 ·rw [b0p hc4] at hm0
  simp only [b0r, b0f]
  refine hK3 _ _ ?_
  refine b0v ?_
  refine b0b fun K hK => ?_
  simp only [go_sem]
  refine hK _ _ ?_
  clear hK K
  refine b0i fun K5 hK5 => ?_
  have J6 : ∀ (t : Slots) (h : Heap), c41 = some r -> K5 t h := by
   intro t h hm0
   refine hK5 _ _ ?_
   unfold c41 at hm0
   refine b0b fun K hK => ?_
   simp only [go_sem]
   refine hK _ _ ?_
   clear hK K
   simp only [b0x, b0y]
   obtain rfl := sI9 hm0
   exact c1s (v := I 0) (u := I 0) (x := .v (.slice none 0 0)) (q := B false) (i := I 0) (by simp only [go_sem]) (by simp only [go_sem]) (by simp only [go_sem]) (by simp only [go_sem]) (by simp only [go_sem]) (.refl _ (b0e _)) (.refl _ (b0e _)) (.nil _) (.refl _ (b0e _)) (.refl _ (b0e _))
  simp only [b0u]
  obtain ⟨b7, hl7, hm0⟩ := b0g hm0
  refine b1l hl7 (fun | x_24, t, h => t 1 = .fs 1 (List.map b0t assume) /\ t 2 = .fs 1 (List.map b0t never) /\ t 3 = .fp [.fs 1 (List.map eS m.Inputs), .fs 1 (List.map eS m.Outputs), .fs 2 (List.map b0m m.Counters), .fs 2 (List.map b0n m.States), .fs 4 (List.map b0k m.Rules)] 0 /\ t 23 = I (List.length m.Inputs : Int) /\ t 24 = I x_24) ?_ ?_
  ·exact ⟨s1, s2, (by first | (simp only [go_sem]; done) | rfl), (by first | (simp only [go_sem]; done) | rfl), (by first | (simp only [go_sem]; done) | rfl)⟩
  ·rintro x_24 o t h ⟨s1, s2, s3, s23, s24⟩ hm1 hb7
   simp only [b9i] at hm1
   rw [g14]
   refine b0b fun K hK => ?_
   simp only [go_sem, s23, s24]
   refine hK _ _ ?_
   clear hK K
   refine b0i fun K8 hK8 => ?_
   simp only [go_sem]
   refine b0j (fun hc9 => ?_) (fun hc9 => ?_)
   ·rw [b0q hc9] at hm1
    simp only [b0r, b0f]
    refine hK8 _ _ ?_
    refine b0i fun K10 hK10 => ?_
    have J11 : ∀ (t : Slots) (h : Heap), t 1 = .fs 1 (List.map b0t assume) -> t 2 = .fs 1 (List.map b0t never) -> t 3 = .fp [.fs 1 (List.map eS m.Inputs), .fs 1 (List.map eS m.Outputs), .fs 2 (List.map b0m m.Counters), .fs 2 (List.map b0n m.States), .fs 4 (List.map b0k m.Rules)] 0 -> t 23 = I (List.length m.Inputs : Int) -> t 24 = I x_24 -> c40 x_24 = some o -> K10 t h := by
     intro t h s1 s2 s3 s23 s24 hm1
     refine hK10 _ _ ?_
     unfold c40 at hm1
     refine b02 fun K hK => ?_
     simp only [go_sem, s24]
     refine hK _ _ ?_
     clear hK K
     simp only [b0f]
     obtain rfl := sI9 hm1
     refine ⟨_, rfl, ?_⟩
     exact ⟨s1, s2, s3, s23, (by first | (simp only [go_sem]; done) | rfl)⟩
    simp only [b0u]
    refine b0v ?_
    refine b0b fun K hK => ?_
    simp only [go_sem, s24]
    refine hK _ _ ?_
    clear hK K
    refine c99 (s := 11) (id := h.nx) (n := 1) (cs := [I x_24]) (by simp only [go_sem]) (by simp only [go_sem]) (b0a (b0e _) b0l) ?_
    refine b0b fun K hK => ?_
    simp only [go_sem]
    refine hK _ _ ?_
    clear hK K
    simp only [b0u]
    obtain ⟨b12, hl12, hm1⟩ := b0g hm1
    refine b1l hl12 (fun | x_27, t, h => t 1 = .fs 1 (List.map b0t assume) /\ t 2 = .fs 1 (List.map b0t never) /\ t 3 = .fp [.fs 1 (List.map eS m.Inputs), .fs 1 (List.map eS m.Outputs), .fs 2 (List.map b0m m.Counters), .fs 2 (List.map b0n m.States), .fs 4 (List.map b0k m.Rules)] 0 /\ t 11 = .fp [I x_24] 0 /\ t 23 = I (List.length m.Inputs : Int) /\ t 24 = I x_24 /\ t 27 = I x_27) ?_ ?_
    ·exact ⟨s1, s2, s3, (by first | (simp only [go_sem]; done) | rfl), s23, s24, (by first | (simp only [go_sem]; done) | rfl)⟩
    ·rintro x_27 o t h ⟨s1, s2, s3, s11, s23, s24, s27⟩ hm2 hb12
     simp only [b79] at hm2
     rw [g13]
     refine b0b fun K hK => ?_
     simp only [go_sem, s27]
     refine hK _ _ ?_
     clear hK K
     refine b0i fun K13 hK13 => ?_
     simp only [go_sem]
     refine b0j (fun hc14 => ?_) (fun hc14 => ?_)
     ·rw [b0q hc14] at hm2
      simp only [b0r, b0f]
      refine hK13 _ _ ?_
      refine b0i fun K15 hK15 => ?_
      simp only [b0u]
      refine b0v ?_
      refine b0b fun K hK => ?_
      simp only [go_sem, s27]
      refine hK _ _ ?_
      clear hK K
      refine c99 (s := 12) (id := h.nx) (n := 1) (cs := [I x_27]) (by simp only [go_sem]) (by simp only [go_sem]) (b0a (b0e _) b0l) ?_
      obtain ⟨y19, h_y19, hm2⟩ := b0g hm2
      refine b0b fun K hK => ?_
      simp only [go_sem, s3]
      refine b03 (d1q m) ?_
      simp only [go_sem, s1, s2, s11]
      refine b03 (d1a (b5g m) assume never "newel/control.Stuck$1" [] [.fp [I x_24] 0, .fp [I x_27] 0] (fun z18 => b5s z18 x_24 x_27) (.fn _ _ _ b0l (b0a (.fp _ _ (b0a (b0e _) b0l)) (b0a (.fp _ _ (b0a (b0e _) b0l)) b0l))) (fun z0 y hz => d1o z0 x_24 x_27 y hz) _ h_y19) ?_
      simp only [go_sem, s11]
      refine hK _ _ ?_
      clear hK K
      refine b0b fun K hK => ?_
      simp only [go_sem]
      refine hK _ _ ?_
      clear hK K
      simp only [go_sem]
      refine b0j (fun hc20 => ?_) (fun hc20 => ?_)
      ·rw [b0q hc20] at hm2
       refine b0b fun K hK => ?_
       simp only [go_sem, s11]
       refine hK _ _ ?_
       clear hK K
       simp only [b0x, b1n, b2b, b0y]
       obtain rfl := sI9 hm2
       obtain rfl := hb12 _ rfl
       try dsimp only at hm1
       obtain rfl := sI9 hm1
       obtain rfl := hb7 _ rfl
       try dsimp only at hm0
       obtain rfl := sI9 hm0
       exact d49 (by simp only [go_sem]) (by simp only [go_sem]) (by simp only [go_sem]) (by simp only [go_sem]) (by simp only [go_sem]) (b0e _) (b0e _) (b0c fun a _ => b13 a) (b0e _) (b0e _)
      ·rw [b0p hc20] at hm2
       simp only [b0r, b01, b0f]
       refine hK15 _ _ ?_
       refine b02 fun K hK => ?_
       simp only [go_sem, s27]
       refine hK _ _ ?_
       clear hK K
       simp only [b0f]
       obtain rfl := sI9 hm2
       refine ⟨_, rfl, ?_⟩
       exact ⟨s1, s2, s3, s11, s23, s24, (by first | (simp only [go_sem]; done) | rfl)⟩
     ·rw [b0p hc14] at hm2
      simp only [b1b, b1e, b1d, b01, b0f]
      obtain rfl := sI9 hm2
      obtain rfl := hb12 _ rfl
      try dsimp only at hm1
      exact J11  _ _ s1 s2 s3 s23 s24 hm1
   ·rw [b0p hc9] at hm1
    simp only [b1b, b1e, b1d, b0f]
    obtain rfl := sI9 hm1
    obtain rfl := hb7 _ rfl
    try dsimp only at hm0
    exact J6  _ _  hm0
theorem d1o (hf : Has O "newel/control.Stuck$1" x_control_StuckD1) : c8o O := by
 intro n c0 c1 r hm0
 unfold b5s at hm0
 refine b1h hf rfl (b0a (b0e _) (b0a (.fp _ _ (b0a (b0e _) b0l)) (b0a (.fp _ _ (b0a (b0e _) b0l)) b0l))) (b0e _) ?_
 refine b1f (fun t h => t 0 = I n /\ t 1 = .fp [I c0] 0 /\ t 2 = .fp [I c1] 0) ⟨rfl, rfl, rfl⟩ fun t h ⟨s0, s1, s2⟩ => ?_
 simp only [x_control_StuckD1]
 refine b0b fun K hK => ?_
 simp only [go_sem]
 refine hK _ _ ?_
 clear hK K
 obtain ⟨q3, h_q3, hm0⟩ := b0g hm0
 obtain ⟨q4, h_q4, hm0⟩ := b0g hm0
 refine b0b fun K hK => ?_
 simp only [go_sem, s0, s1, s2, b8g h_q3, b8g h_q4]
 refine hK _ _ ?_
 clear hK K
 simp only [b0x, b0y]
 obtain rfl := sI9 hm0
 exact b04 (by simp only [go_sem]) (b0e _)
theorem d1p (hf : Has O "newel/control.check" x_control_check) (d1m : c8m O) (c2d : c36 O) : c8p O := by
 intro m conds r hm0
 unfold c1o at hm0
 refine b1h hf rfl (b0a (.agg _ (b0a (b0c fun a _ => b00 a) (b0a (b0c fun a _ => b00 a) (b0a (b0c fun a _ => b1r a) (b0a (b0c fun a _ => b1t a) (b0a (b0c fun a _ => b1s a) b0l)))))) (b0a (b0c fun a _ => c5d a) b0l)) (b0e _) ?_
 refine b1f (fun t h => t 0 = .agg [.fs 1 (List.map eS m.Inputs), .fs 1 (List.map eS m.Outputs), .fs 2 (List.map b0m m.Counters), .fs 2 (List.map b0n m.States), .fs 4 (List.map b0k m.Rules)] /\ t 1 = .fs 1 (List.map b41 conds)) ⟨rfl, rfl⟩ fun t h ⟨s0, s1⟩ => ?_
 simp only [x_control_check]
 refine b0b fun K hK => ?_
 simp only [go_sem, s0]
 refine hK _ _ ?_
 clear hK K
 refine b0v ?_
 obtain ⟨y2, h_y2, hm0⟩ := b0g hm0
 refine b0b fun K hK => ?_
 simp only [go_sem]
 refine b03 (d1m m _ h_y2) ?_
 simp only [go_sem]
 refine hK _ _ ?_
 clear hK K
 refine b0v ?_
 refine b0b fun K hK => ?_
 simp only [go_sem]
 refine hK _ _ ?_
 clear hK K
 refine b0i fun K3 hK3 => ?_
 simp only [go_sem]
 refine b0j (fun hc4 => ?_) (fun hc4 => ?_)
 ·rw [b0q hc4] at hm0
  refine b0b fun K hK => ?_
  simp only [go_sem]
  refine hK _ _ ?_
  clear hK K
  simp only [b0x, b1n, b0y]
  obtain rfl := sI9 hm0
  exact b04 (by simp only [go_sem]) (b0e _)
 ·rw [b0p hc4] at hm0
  simp only [b0r, b0f]
  refine hK3 _ _ ?_
  refine b0v ?_
  refine b0b fun K hK => ?_
  simp only [go_sem, s1]
  refine hK _ _ ?_
  clear hK K
  refine b0i fun K5 hK5 => ?_
  have J6 : ∀ (t : Slots) (h : Heap), c97 = some r -> K5 t h := by
   intro t h hm0
   refine hK5 _ _ ?_
   unfold c97 at hm0
   refine b0b fun K hK => ?_
   simp only [go_sem]
   refine hK _ _ ?_
   clear hK K
   simp only [b0x, b0y]
   obtain rfl := sI9 hm0
   exact b04 (by simp only [go_sem]) (b0e _)
  simp only [b0u]
  obtain ⟨b7, hl7, hm0⟩ := b0g hm0
  refine b1l hl7 (fun | x_15, t, h => t 2 = .fp [.fs 1 (List.map eS m.Inputs), .fs 1 (List.map eS m.Outputs), .fs 2 (List.map b0m m.Counters), .fs 2 (List.map b0n m.States), .fs 4 (List.map b0k m.Rules)] 0 /\ t 13 = .fs 1 (List.map b41 conds) /\ t 14 = I (List.length conds : Int) /\ t 15 = I x_15) ?_ ?_
  ·exact ⟨(by first | (simp only [go_sem]; done) | rfl), (by first | (simp only [go_sem]; done) | rfl), (by first | (simp only [go_sem]; done) | rfl), (by first | (simp only [go_sem]; done) | rfl)⟩
  ·rintro x_15 o t h ⟨s2, s13, s14, s15⟩ hm1 hb7
   simp only [c1p] at hm1
   rw [g15]
   refine b0b fun K hK => ?_
   simp only [go_sem, s14, s15]
   refine hK _ _ ?_
   clear hK K
   refine b0i fun K8 hK8 => ?_
   simp only [go_sem]
   refine b0j (fun hc9 => ?_) (fun hc9 => ?_)
   ·rw [b0q hc9] at hm1
    simp only [b0r, b0f]
    refine hK8 _ _ ?_
    refine b0i fun K10 hK10 => ?_
    simp only [b0u]
    obtain ⟨x12, h_x12, hm1⟩ := b0g hm1
    have h_x120 := b06 h_x12
    have h_x121 := b07 h_x12
    refine b0b fun K hK => ?_
    simp only [go_sem, s13, s15, b1a h_x12, h_x121]
    refine hK _ _ ?_
    clear hK K
    obtain ⟨y14, h_y14, hm1⟩ := b0g hm1
    refine b0b fun K hK => ?_
    simp only [go_sem, s2]
    refine b03 (c2d m x12 _ h_y14) ?_
    simp only [go_sem]
    refine hK _ _ ?_
    clear hK K
    simp only [go_sem]
    refine b0j (fun hc15 => ?_) (fun hc15 => ?_)
    ·rw [b0q hc15] at hm1
     refine b0b fun K hK => ?_
     simp only [go_sem]
     refine hK _ _ ?_
     clear hK K
     simp only [b0x, b1n, b2b, b0y]
     obtain rfl := sI9 hm1
     obtain rfl := hb7 _ rfl
     try dsimp only at hm0
     obtain rfl := sI9 hm0
     exact b04 (by simp only [go_sem]) (b0e _)
    ·rw [b0p hc15] at hm1
     simp only [b0r, b01, b0f]
     refine hK10 _ _ ?_
     refine b02 fun K hK => ?_
     simp only [go_sem, s15]
     refine hK _ _ ?_
     clear hK K
     simp only [b0f]
     obtain rfl := sI9 hm1
     refine ⟨_, rfl, ?_⟩
     exact ⟨s2, s13, s14, (by first | (simp only [go_sem]; done) | rfl)⟩
   ·rw [b0p hc9] at hm1
    simp only [b1b, b1e, b1d, b0f]
    obtain rfl := sI9 hm1
    obtain rfl := hb7 _ rfl
    try dsimp only at hm0
    exact J6  _ _  hm0
theorem d1q (hf : Has O "newel/control.of" x_control_of) : c8q O := by
 intro m
 generalize hm0 : b5g m = r
 unfold b5g at hm0
 refine b1h hf rfl (b0a (.agg _ (b0a (b0c fun a _ => b00 a) (b0a (b0c fun a _ => b00 a) (b0a (b0c fun a _ => b1r a) (b0a (b0c fun a _ => b1t a) (b0a (b0c fun a _ => b1s a) b0l)))))) b0l) (.agg _ (b0a (b0c fun a _ => b00 a) (b0a (b0c fun a _ => b00 a) (b0a (b0c fun a _ => b1r a) (b0a (b0c fun a _ => b1t a) (b0a (b0c fun a _ => b1s a) b0l)))))) ?_
 refine b1f (fun t h => t 0 = .agg [.fs 1 (List.map eS m.Inputs), .fs 1 (List.map eS m.Outputs), .fs 2 (List.map b0m m.Counters), .fs 2 (List.map b0n m.States), .fs 4 (List.map b0k m.Rules)]) rfl fun t h s0 => ?_
 simp only [x_control_of]
 refine b0b fun K hK => ?_
 simp only [go_sem, s0]
 refine hK _ _ ?_
 clear hK K
 refine b0b fun K hK => ?_
 simp only [go_sem]
 refine hK _ _ ?_
 clear hK K
 simp only [b0x, b0y]
 obtain rfl := hm0
 exact b9l (id := h.nx) (m := 5) (cs := [.fs 1 (List.map eS m.Inputs), .fs 1 (List.map eS m.Outputs), .fs 2 (List.map b0m m.Counters), .fs 2 (List.map b0n m.States), .fs 4 (List.map b0k m.Rules)]) (by simp only [go_sem]) (by simp only [go_sem]) rfl (.refl _ (.agg _ (b0a (b0c fun a _ => b00 a) (b0a (b0c fun a _ => b00 a) (b0a (b0c fun a _ => b1r a) (b0a (b0c fun a _ => b1t a) (b0a (b0c fun a _ => b1s a) b0l)))))))
theorem j48 (hf : Has O "newel/newellaw04.ControlStucks" x_l04_ControlStucks) (d1r : c8r O) (k_l04_works : d4b O) (d1v : c8v O) (b92 : c33 O) (d1n : c8n O) (d1y : c8y O) (d1s : c8s O) : d4a O := by
 intro m c r hm0
 unfold c2f at hm0
 refine b1h hf rfl (b0a (.agg _ (b0a (b0c fun a _ => b00 a) (b0a (b0c fun a _ => b00 a) (b0a (b0c fun a _ => b1r a) (b0a (b0c fun a _ => b1t a) (b0a (b0c fun a _ => b1s a) b0l)))))) (b0a (.agg _ (b0a (b0c fun a _ => b2l a) (b0a (b0c fun a _ => b2l a) b0l))) b0l)) (b0e _) ?_
 refine b1f (fun t h => t 0 = .agg [.fs 1 (List.map eS m.Inputs), .fs 1 (List.map eS m.Outputs), .fs 2 (List.map b0m m.Counters), .fs 2 (List.map b0n m.States), .fs 4 (List.map b0k m.Rules)] /\ t 1 = .agg [.fs 1 (List.map b0t c.Assume), .fs 1 (List.map b0t c.Never)]) ⟨rfl, rfl⟩ fun t h ⟨s0, s1⟩ => ?_
 simp only [x_l04_ControlStucks]
 refine b0b fun K hK => ?_
 simp only [go_sem, s0, s1]
 refine hK _ _ ?_
 clear hK K
 refine b0v ?_
 obtain ⟨y2, h_y2, hm0⟩ := b0g hm0
 refine b0b fun K hK => ?_
 simp only [go_sem]
 refine b03 (d1r m _ h_y2) ?_
 simp only [go_sem]
 refine hK _ _ ?_
 clear hK K
 refine b0i fun K3 hK3 => ?_
 simp only [go_sem]
 refine b0j (fun hc4 => ?_) (fun hc4 => ?_)
 ·rw [b0q hc4] at hm0
  obtain ⟨y6, h_y6, hm0⟩ := b0g hm0
  refine b0b fun K hK => ?_
  simp only [go_sem]
  refine b03 (k_l04_works  _ h_y6) ?_
  simp only [go_sem]
  refine hK _ _ ?_
  clear hK K
  simp only [b0x, b1n, b0y]
  obtain rfl := sI9 hm0
  exact b04 (by simp only [go_sem]) (b0e _)
 ·rw [b0p hc4] at hm0
  simp only [b0r, b0f]
  refine hK3 _ _ ?_
  obtain ⟨y11, h_y11, hm0⟩ := b0g hm0
  obtain ⟨y12, h_y12, hm0⟩ := b0g hm0
  obtain ⟨y13, h_y13, hm0⟩ := b0g hm0
  obtain ⟨y14, h_y14, hm0⟩ := b0g hm0
  refine b0b fun K hK => ?_
  simp only [go_sem]
  refine b03 (d1v m _ h_y11) ?_
  simp only [go_sem]
  refine b03 (b92 c.Assume _ h_y12) ?_
  simp only [go_sem]
  refine b03 (b92 c.Never _ h_y13) ?_
  simp only [go_sem]
  refine b03 (d1n y11 y12 y13 _ h_y14) ?_
  simp only [go_sem]
  refine hK _ _ ?_
  clear hK K
  obtain ⟨y16, h_y16, hm0⟩ := b0g hm0
  refine b0b fun K hK => ?_
  simp only [go_sem]
  refine b03 (d1y m c.Assume c.Never _ h_y16) ?_
  simp only [go_sem]
  refine hK _ _ ?_
  clear hK K
  obtain ⟨c22, h_c22, hm0⟩ := b0g hm0
  obtain ⟨c24, h_c24, hm0⟩ := b0g hm0
  refine b2z (fun t h => t 4 = B c24) (fun K hK => ?_) ?_
  ·simp only [go_sem]
   refine b0j (fun hg25 => ?_) (fun hg25 => ?_)
   ·simp only [go_sem, hg25]
    refine b0j (fun hg26 => ?_) (fun hg26 => ?_)
    ·simp only [hg25, hg26, eq_self, if_true, Bool.and_true] at h_c22
     obtain ⟨y21, h_y21, h_c22⟩ := b0g h_c22
     obtain rfl := sI9 h_c22
     simp only [go_sem, hg25, hg26]
     refine b03 (d1s y14.2.2.1 y16.2.2.1 _ h_y21) ?_
     simp only [go_sem, hg25, hg26]
     refine b0j (fun hg27 => ?_) (fun hg27 => ?_)
     ·simp only [go_sem, hg25, hg26, hg27]
      refine b0j (fun hg28 => ?_) (fun hg28 => ?_)
      ·simp only [go_sem, hg25, hg26, hg27, hg28]
       refine b0j (fun hg29 => ?_) (fun hg29 => ?_)
       ·simp only [hg27, hg28, hg29, eq_self, if_true, Bool.and_true] at h_c24
        obtain ⟨y23, h_y23, h_c24⟩ := b0g h_c24
        obtain rfl := sI9 h_c24
        simp only [go_sem, hg25, hg26, hg27, hg28, hg29]
        refine b03 (k_l04_works  _ h_y23) ?_
        simp only [go_sem, hg25, hg26, hg27, hg28, hg29]
        exact hK _ _ (by first | (simp only [go_sem]; done) | rfl)
       ·simp only [hg27, hg28, hg29, if_false, Bool.and_true, Bool.and_false, Bool.false_eq_true] at h_c24
        obtain rfl := sI9 h_c24
        simp only [go_sem, hg25, hg26, hg27, hg28, hg29]
        exact hK _ _ (by first | (simp only [go_sem]; done) | rfl)
      ·simp only [hg27, hg28, if_false, Bool.false_and, Bool.and_false, Bool.false_eq_true] at h_c24
       obtain rfl := sI9 h_c24
       simp only [go_sem, hg25, hg26, hg27, hg28]
       exact hK _ _ (by first | (simp only [go_sem]; done) | rfl)
     ·simp only [hg27, if_false, Bool.false_and, Bool.false_eq_true] at h_c24
      obtain rfl := sI9 h_c24
      simp only [go_sem, hg25, hg26, hg27]
      exact hK _ _ (by first | (simp only [go_sem]; done) | rfl)
    ·simp only [hg25, hg26, if_false, Bool.and_false, Bool.false_eq_true] at h_c22
     obtain rfl := sI9 h_c22
     simp only [if_false, Bool.false_and, Bool.false_eq_true] at h_c24
     obtain rfl := sI9 h_c24
     simp only [go_sem, hg25, hg26]
     exact hK _ _ (by first | (simp only [go_sem]; done) | rfl)
   ·simp only [hg25, if_false, Bool.false_and, Bool.false_eq_true] at h_c22
    obtain rfl := sI9 h_c22
    simp only [if_false, Bool.false_and, Bool.false_eq_true] at h_c24
    obtain rfl := sI9 h_c24
    simp only [go_sem, hg25]
    exact hK _ _ (by first | (simp only [go_sem]; done) | rfl)
  ·rintro t h s4
   simp only [b0x, b0y]
   obtain rfl := sI9 hm0
   exact b04 (by simp only [go_sem, s4]) (b0e _)
theorem d1r (hf : Has O "newel/newellaw04.Wide" x_l04_Wide) (c2b : c32 O) : c8r O := by
 intro m r hm0
 unfold b8j at hm0
 refine b1h hf rfl (b0a (.agg _ (b0a (b0c fun a _ => b00 a) (b0a (b0c fun a _ => b00 a) (b0a (b0c fun a _ => b1r a) (b0a (b0c fun a _ => b1t a) (b0a (b0c fun a _ => b1s a) b0l)))))) b0l) (b0e _) ?_
 refine b1f (fun t h => t 0 = .agg [.fs 1 (List.map eS m.Inputs), .fs 1 (List.map eS m.Outputs), .fs 2 (List.map b0m m.Counters), .fs 2 (List.map b0n m.States), .fs 4 (List.map b0k m.Rules)]) rfl fun t h s0 => ?_
 simp only [x_l04_Wide]
 refine b0b fun K hK => ?_
 simp only [go_sem, s0]
 refine hK _ _ ?_
 clear hK K
 refine b0v ?_
 obtain ⟨y2, h_y2, hm0⟩ := b0g hm0
 refine b0b fun K hK => ?_
 simp only [go_sem]
 refine b03 (c2b m _ h_y2) ?_
 simp only [go_sem]
 refine hK _ _ ?_
 clear hK K
 refine b0i fun K3 hK3 => ?_
 simp only [go_sem]
 refine b0j (fun hc4 => ?_) (fun hc4 => ?_)
 ·rw [b0q hc4] at hm0
  refine b0b fun K hK => ?_
  simp only [go_sem]
  refine hK _ _ ?_
  clear hK K
  simp only [b0x, b1n, b0y]
  obtain rfl := sI9 hm0
  exact b04 (by simp only [go_sem]) (b0e _)
 ·rw [b0p hc4] at hm0
  simp only [b0r, b0f]
  refine hK3 _ _ ?_
  refine b0b fun K hK => ?_
  simp only [go_sem]
  refine hK _ _ ?_
  clear hK K
  refine b0v ?_
  refine b0b fun K hK => ?_
  simp only [go_sem]
  refine hK _ _ ?_
  clear hK K
  refine b0i fun K5 hK5 => ?_
  have J6 : ∀ (places_3 : Int) (t : Slots) (h : Heap), t 1 = .fp [.fs 1 (List.map eS m.Inputs), .fs 1 (List.map eS m.Outputs), .fs 2 (List.map b0m m.Counters), .fs 2 (List.map b0n m.States), .fs 4 (List.map b0k m.Rules)] 0 -> t 3 = I places_3 -> d2o m places_3 = some r -> K5 t h := by
   intro places_3 t h s1 s3 hm0
   refine hK5 _ _ ?_
   unfold d2o at hm0
   refine b2z (fun t h => t 2 = B ((decide (3 < (List.length m.Inputs : Int))) || (decide (80 < places_3)))) (fun K hK => ?_) ?_
   ·simp only [go_sem, s1]
    refine b0j (fun hg7 => ?_) (fun hg7 => ?_)
    ·simp only [go_sem, hg7]
     exact hK _ _ (by first | (simp only [go_sem, hg7]; done) | rfl)
    ·simp only [go_sem, s3, hg7]
     exact hK _ _ (by first | (simp only [go_sem, hg7]; done) | rfl)
   ·rintro t h s2
    simp only [b0x, b0y]
    obtain rfl := sI9 hm0
    exact b04 (by simp only [go_sem, s2]) (b0e _)
  simp only [b0u]
  obtain ⟨b8, hl8, hm0⟩ := b0g hm0
  refine b1l hl8 (fun | (places_3, i_4), t, h => t 1 = .fp [.fs 1 (List.map eS m.Inputs), .fs 1 (List.map eS m.Outputs), .fs 2 (List.map b0m m.Counters), .fs 2 (List.map b0n m.States), .fs 4 (List.map b0k m.Rules)] 0 /\ t 3 = I places_3 /\ t 4 = I i_4) ?_ ?_
  ·exact ⟨(by first | (simp only [go_sem]; done) | rfl), (by first | (simp only [go_sem]; done) | rfl), (by first | (simp only [go_sem]; done) | rfl)⟩
  ·rintro ⟨places_3, i_4⟩ o t h ⟨s1, s3, s4⟩ hm1 hb8
   simp only [c2g] at hm1
   rw [g16]
   refine b0v ?_
   refine b0b fun K hK => ?_
   simp only [go_sem, s1, s4]
   refine hK _ _ ?_
   clear hK K
   refine b0i fun K9 hK9 => ?_
   simp only [go_sem]
   refine b0j (fun hc10 => ?_) (fun hc10 => ?_)
   ·rw [b0q hc10] at hm1
    simp only [b0r, b0f]
    refine hK9 _ _ ?_
    refine b0i fun K11 hK11 => ?_
    simp only [b0u]
    obtain ⟨x13, h_x13, hm1⟩ := b0g hm1
    have h_x130 := b06 h_x13
    have h_x131 := b07 h_x13
    refine b02 fun K hK => ?_
    simp only [go_sem, s1, s3, s4, b1a h_x13, h_x131]
    refine hK _ _ ?_
    clear hK K
    simp only [b01, b0f]
    refine hK11 _ _ ?_
    refine b02 fun K hK => ?_
    simp only [go_sem, s4]
    refine hK _ _ ?_
    clear hK K
    simp only [b0f]
    obtain rfl := sI9 hm1
    refine ⟨_, rfl, ?_⟩
    exact ⟨s1, (by first | (simp only [go_sem]; done) | rfl), (by first | (simp only [go_sem]; done) | rfl)⟩
   ·rw [b0p hc10] at hm1
    simp only [b1b, b1e, b1d, b0f]
    obtain rfl := sI9 hm1
    obtain rfl := hb8 _ rfl
    try dsimp only at hm0
    exact J6 places_3 _ _ s1 s3 hm0
theorem d1s (hf : Has O "newel/newellaw04.sameInts" x_l04_sameInts) : c8s O := by
 intro a b r hm0
 unfold c2h at hm0
 refine b1h hf rfl (b0a (b0c fun a _ => b13 a) (b0a (b0c fun a _ => b13 a) b0l)) (b0e _) ?_
 refine b1f (fun t h => t 0 = .fs 1 (List.map eI a) /\ t 1 = .fs 1 (List.map eI b)) ⟨rfl, rfl⟩ fun t h ⟨s0, s1⟩ => ?_
 simp only [x_l04_sameInts]
 refine b0b fun K hK => ?_
 simp only [go_sem]
 refine hK _ _ ?_
 clear hK K
 refine b0v ?_
 refine b0b fun K hK => ?_
 simp only [go_sem, s0, s1]
 refine hK _ _ ?_
 clear hK K
 refine b0i fun K1 hK1 => ?_
 simp only [go_sem]
 refine b0j (fun hc2 => ?_) (fun hc2 => ?_)
 ·rw [b0q hc2] at hm0
  refine b0b fun K hK => ?_
  simp only [go_sem]
  refine hK _ _ ?_
  clear hK K
  simp only [b0x, b1n, b0y]
  obtain rfl := sI9 hm0
  exact b04 (by simp only [go_sem]) (b0e _)
 ·rw [b0p hc2] at hm0
  simp only [b0r, b0f]
  refine hK1 _ _ ?_
  refine b0v ?_
  refine b0b fun K hK => ?_
  simp only [go_sem]
  refine hK _ _ ?_
  clear hK K
  refine b0i fun K3 hK3 => ?_
  have J4 : ∀ (t : Slots) (h : Heap), c50 = some r -> K3 t h := by
   intro t h hm0
   refine hK3 _ _ ?_
   unfold c50 at hm0
   refine b0b fun K hK => ?_
   simp only [go_sem]
   refine hK _ _ ?_
   clear hK K
   simp only [b0x, b0y]
   obtain rfl := sI9 hm0
   exact b04 (by simp only [go_sem]) (b0e _)
  simp only [b0u]
  obtain ⟨b5, hl5, hm0⟩ := b0g hm0
  refine b1l hl5 (fun | i_5, t, h => t 0 = .fs 1 (List.map eI a) /\ t 1 = .fs 1 (List.map eI b) /\ t 5 = I i_5) ?_ ?_
  ·exact ⟨s0, s1, (by first | (simp only [go_sem]; done) | rfl)⟩
  ·rintro i_5 o t h ⟨s0, s1, s5⟩ hm1 hb5
   simp only [c2i] at hm1
   rw [g17]
   refine b0v ?_
   refine b0b fun K hK => ?_
   simp only [go_sem, s0, s5]
   refine hK _ _ ?_
   clear hK K
   refine b0i fun K6 hK6 => ?_
   simp only [go_sem]
   refine b0j (fun hc7 => ?_) (fun hc7 => ?_)
   ·rw [b0q hc7] at hm1
    simp only [b0r, b0f]
    refine hK6 _ _ ?_
    refine b0i fun K8 hK8 => ?_
    simp only [b0u]
    obtain ⟨x11, h_x11, hm1⟩ := b0g hm1
    have h_x110 := b06 h_x11
    have h_x111 := b07 h_x11
    obtain ⟨x12, h_x12, hm1⟩ := b0g hm1
    have h_x120 := b06 h_x12
    have h_x121 := b07 h_x12
    refine b0b fun K hK => ?_
    simp only [go_sem, s0, s1, s5, b1a h_x11, h_x111, b1a h_x12]
    refine hK _ _ ?_
    clear hK K
    simp only [go_sem]
    refine b0j (fun hc13 => ?_) (fun hc13 => ?_)
    ·rw [b0q hc13] at hm1
     refine b0b fun K hK => ?_
     simp only [go_sem]
     refine hK _ _ ?_
     clear hK K
     simp only [b0x, b1n, b2b, b0y]
     obtain rfl := sI9 hm1
     obtain rfl := hb5 _ rfl
     try dsimp only at hm0
     obtain rfl := sI9 hm0
     exact b04 (by simp only [go_sem]) (b0e _)
    ·rw [b0p hc13] at hm1
     simp only [b0r, b01, b0f]
     refine hK8 _ _ ?_
     refine b02 fun K hK => ?_
     simp only [go_sem, s5]
     refine hK _ _ ?_
     clear hK K
     simp only [b0f]
     obtain rfl := sI9 hm1
     refine ⟨_, rfl, ?_⟩
     exact ⟨s0, s1, (by first | (simp only [go_sem]; done) | rfl)⟩
   ·rw [b0p hc7] at hm1
    simp only [b1b, b1e, b1d, b0f]
    obtain rfl := sI9 hm1
    obtain rfl := hb5 _ rfl
    try dsimp only at hm0
    exact J4  _ _  hm0
theorem d1t (hf : Has O "newel/newelref04.Allows" x_r04_Allows) (b60 : c0y O) : c8t O := by
 intro m p input assume r hm0
 unfold c2p at hm0
 refine b1h hf rfl (b0a (.agg _ (b0a (b0c fun a _ => b00 a) (b0a (b0c fun a _ => b00 a) (b0a (b0c fun a _ => b1r a) (b0a (b0c fun a _ => b1t a) (b0a (b0c fun a _ => b1s a) b0l)))))) (b0a (.agg _ (b0a (b0e _) (b0a (b0e _) (b0a (b0e _) b0l)))) (b0a (b0e _) (b0a (b0c fun a _ => b2l a) b0l)))) (b0e _) ?_
 refine b1f (fun t h => t 0 = .agg [.fs 1 (List.map eS m.Inputs), .fs 1 (List.map eS m.Outputs), .fs 2 (List.map b0m m.Counters), .fs 2 (List.map b0n m.States), .fs 4 (List.map b0k m.Rules)] /\ t 1 = .agg [I p.State, I p.Values.1, I p.Values.2] /\ t 2 = I input /\ t 3 = .fs 1 (List.map b0t assume)) ⟨rfl, rfl, rfl, rfl⟩ fun t h ⟨s0, s1, s2, s3⟩ => ?_
 simp only [x_r04_Allows]
 refine b0b fun K hK => ?_
 simp only [go_sem, s0, s1]
 refine hK _ _ ?_
 clear hK K
 obtain ⟨c4, h_c4, hm0⟩ := b0g hm0
 refine b2z (fun t h => t 8 = B c4) (fun K hK => ?_) ?_
 ·simp only [go_sem, s3]
  refine b0j (fun hg5 => ?_) (fun hg5 => ?_)
  ·simp only [hg5, eq_self, if_true] at h_c4
   obtain rfl := sI9 h_c4
   simp only [go_sem, hg5]
   exact hK _ _ (by first | (simp only [go_sem]; done) | rfl)
  ·simp only [hg5, if_false, Bool.false_eq_true] at h_c4
   obtain ⟨y3, h_y3, h_c4⟩ := b0g h_c4
   obtain rfl := sI9 h_c4
   simp only [go_sem, s2, s3, hg5]
   refine b03 (b60 m p input assume _ h_y3) ?_
   simp only [go_sem, hg5]
   exact hK _ _ (by first | (simp only [go_sem]; done) | rfl)
 ·rintro t h s8
  simp only [b0x, b0y]
  obtain rfl := sI9 hm0
  exact b04 (by simp only [go_sem, s8]) (b0e _)
theorem c2b (hf : Has O "newel/newelref04.Check" x_r04_Check) (b4f : c35 O) (d14 : c84 O) (d1z : c8z O) (c2c : c34 O) : c32 O := by
 intro m r hm0
 unfold c0b at hm0
 refine b1h hf rfl (b0a (.agg _ (b0a (b0c fun a _ => b00 a) (b0a (b0c fun a _ => b00 a) (b0a (b0c fun a _ => b1r a) (b0a (b0c fun a _ => b1t a) (b0a (b0c fun a _ => b1s a) b0l)))))) b0l) (b0e _) ?_
 refine b1f (fun t h => t 0 = .agg [.fs 1 (List.map eS m.Inputs), .fs 1 (List.map eS m.Outputs), .fs 2 (List.map b0m m.Counters), .fs 2 (List.map b0n m.States), .fs 4 (List.map b0k m.Rules)]) rfl fun t h s0 => ?_
 simp only [x_r04_Check]
 refine b0b fun K hK => ?_
 simp only [go_sem, s0]
 refine hK _ _ ?_
 clear hK K
 refine b0v ?_
 refine b2z (fun t h => t 1 = .fp [.fs 1 (List.map eS m.Inputs), .fs 1 (List.map eS m.Outputs), .fs 2 (List.map b0m m.Counters), .fs 2 (List.map b0n m.States), .fs 4 (List.map b0k m.Rules)] 0 /\ t 39 = B (((((decide (4 < (List.length m.Inputs : Int))) || (decide (6 < (List.length m.Outputs : Int)))) || (decide (2 < (List.length m.Counters : Int)))) || (!(b15 (List.length m.States : Int) 1 12))) || (decide (40 < (List.length m.Rules : Int))))) (fun K hK => ?_) ?_
 ·simp only [go_sem]
  refine b0j (fun hg1 => ?_) (fun hg1 => ?_)
  ·simp only [go_sem, hg1]
   exact hK _ _ ⟨(by first | (simp only [go_sem]; done) | rfl), (by first | (simp only [go_sem, hg1]; done) | rfl)⟩
  ·simp only [go_sem, hg1]
   refine b0j (fun hg2 => ?_) (fun hg2 => ?_)
   ·simp only [go_sem, hg1, hg2]
    exact hK _ _ ⟨(by first | (simp only [go_sem]; done) | rfl), (by first | (simp only [go_sem, hg1, hg2]; done) | rfl)⟩
   ·simp only [go_sem, hg1, hg2]
    refine b0j (fun hg3 => ?_) (fun hg3 => ?_)
    ·simp only [go_sem, hg1, hg2, hg3]
     exact hK _ _ ⟨(by first | (simp only [go_sem]; done) | rfl), (by first | (simp only [go_sem, hg1, hg2, hg3]; done) | rfl)⟩
    ·simp only [go_sem, hg1, hg2, hg3]
     refine b03 (b4f (List.length m.States : Int) 1 12) ?_
     simp only [go_sem, hg1, hg2, hg3]
     refine b0j (fun hg4 => ?_) (fun hg4 => ?_)
     ·simp only [go_sem, hg1, hg2, hg3, hg4]
      exact hK _ _ ⟨(by first | (simp only [go_sem]; done) | rfl), (by first | (simp only [go_sem, hg1, hg2, hg3, hg4]; done) | rfl)⟩
     ·simp only [go_sem, hg1, hg2, hg3, hg4]
      exact hK _ _ ⟨(by first | (simp only [go_sem]; done) | rfl), (by first | (simp only [go_sem, hg1, hg2, hg3, hg4]; done) | rfl)⟩
 ·rintro t h ⟨s1, s39⟩
  refine b0i fun K5 hK5 => ?_
  simp only [go_sem, s39]
  refine b0j (fun hc6 => ?_) (fun hc6 => ?_)
  ·rw [b0q hc6] at hm0
   refine b0b fun K hK => ?_
   simp only [go_sem]
   refine hK _ _ ?_
   clear hK K
   simp only [b0x, b1n, b0y]
   obtain rfl := sI9 hm0
   exact b04 (by simp only [go_sem]) (b0e _)
  ·rw [b0p hc6] at hm0
   simp only [b0r, b0f]
   refine hK5 _ _ ?_
   obtain ⟨y8, h_y8, hm0⟩ := b0g hm0
   refine b0b fun K hK => ?_
   simp only [go_sem, s1]
   refine b03 (d14 m _ h_y8) ?_
   simp only [go_sem]
   refine hK _ _ ?_
   clear hK K
   refine b0v ?_
   refine b0b fun K hK => ?_
   simp only [go_sem]
   refine hK _ _ ?_
   clear hK K
   refine b0i fun K9 hK9 => ?_
   have J10 : ∀ (t : Slots) (h : Heap), t 1 = .fp [.fs 1 (List.map eS m.Inputs), .fs 1 (List.map eS m.Outputs), .fs 2 (List.map b0m m.Counters), .fs 2 (List.map b0n m.States), .fs 4 (List.map b0k m.Rules)] 0 -> c6j m = some r -> K9 t h := by
    intro t h s1 hm0
    refine hK9 _ _ ?_
    unfold c6j at hm0
    refine b0v ?_
    refine b0b fun K hK => ?_
    simp only [go_sem]
    refine hK _ _ ?_
    clear hK K
    refine b0i fun K11 hK11 => ?_
    have J12 : ∀ (t : Slots) (h : Heap), t 1 = .fp [.fs 1 (List.map eS m.Inputs), .fs 1 (List.map eS m.Outputs), .fs 2 (List.map b0m m.Counters), .fs 2 (List.map b0n m.States), .fs 4 (List.map b0k m.Rules)] 0 -> c6k m = some r -> K11 t h := by
     intro t h s1 hm0
     refine hK11 _ _ ?_
     unfold c6k at hm0
     refine b0v ?_
     refine b0b fun K hK => ?_
     simp only [go_sem]
     refine hK _ _ ?_
     clear hK K
     refine b0i fun K13 hK13 => ?_
     have J14 : ∀ (t : Slots) (h : Heap), t 1 = .fp [.fs 1 (List.map eS m.Inputs), .fs 1 (List.map eS m.Outputs), .fs 2 (List.map b0m m.Counters), .fs 2 (List.map b0n m.States), .fs 4 (List.map b0k m.Rules)] 0 -> c6l m = some r -> K13 t h := by
      intro t h s1 hm0
      refine hK13 _ _ ?_
      unfold c6l at hm0
      refine b0v ?_
      refine b0b fun K hK => ?_
      simp only [go_sem]
      refine hK _ _ ?_
      clear hK K
      refine b0i fun K15 hK15 => ?_
      have J16 : ∀ (t : Slots) (h : Heap), d3c = some r -> K15 t h := by
       intro t h hm0
       refine hK15 _ _ ?_
       unfold d3c at hm0
       refine b0b fun K hK => ?_
       simp only [go_sem]
       refine hK _ _ ?_
       clear hK K
       simp only [b0x, b0y]
       obtain rfl := sI9 hm0
       exact b04 (by simp only [go_sem]) (b0e _)
      simp only [b0u]
      obtain ⟨b17, hl17, hm0⟩ := b0g hm0
      refine b1l hl17 (fun | i_8, t, h => t 1 = .fp [.fs 1 (List.map eS m.Inputs), .fs 1 (List.map eS m.Outputs), .fs 2 (List.map b0m m.Counters), .fs 2 (List.map b0n m.States), .fs 4 (List.map b0k m.Rules)] 0 /\ t 8 = I i_8) ?_ ?_
      ·exact ⟨s1, (by first | (simp only [go_sem]; done) | rfl)⟩
      ·rintro i_8 o t h ⟨s1, s8⟩ hm1 hb17
       simp only [b8q] at hm1
       rw [g2e]
       refine b0v ?_
       refine b0b fun K hK => ?_
       simp only [go_sem, s1, s8]
       refine hK _ _ ?_
       clear hK K
       refine b0i fun K18 hK18 => ?_
       simp only [go_sem]
       refine b0j (fun hc19 => ?_) (fun hc19 => ?_)
       ·rw [b0q hc19] at hm1
        simp only [b0r, b0f]
        refine hK18 _ _ ?_
        refine b0i fun K20 hK20 => ?_
        have J21 : ∀ (t : Slots) (h : Heap), t 1 = .fp [.fs 1 (List.map eS m.Inputs), .fs 1 (List.map eS m.Outputs), .fs 2 (List.map b0m m.Counters), .fs 2 (List.map b0n m.States), .fs 4 (List.map b0k m.Rules)] 0 -> t 8 = I i_8 -> c6m i_8 = some o -> K20 t h := by
         intro t h s1 s8 hm1
         refine hK20 _ _ ?_
         unfold c6m at hm1
         refine b02 fun K hK => ?_
         simp only [go_sem, s8]
         refine hK _ _ ?_
         clear hK K
         simp only [b0f]
         obtain rfl := sI9 hm1
         refine ⟨_, rfl, ?_⟩
         exact ⟨s1, (by first | (simp only [go_sem]; done) | rfl)⟩
        simp only [b0u]
        obtain ⟨x23, h_x23, hm1⟩ := b0g hm1
        have h_x230 := b06 h_x23
        have h_x231 := b07 h_x23
        refine b0b fun K hK => ?_
        simp only [go_sem, s1, s8, b1a h_x23, h_x231]
        refine hK _ _ ?_
        clear hK K
        refine b0v ?_
        obtain ⟨c27, h_c27, hm1⟩ := b0g hm1
        refine b2z (fun t h => ∃ i9 : Nat, t 1 = .fp [.fs 1 (List.map eS m.Inputs), .fs 1 (List.map eS m.Outputs), .fs 2 (List.map b0m m.Counters), .fs 2 (List.map b0n m.States), .fs 4 (List.map b0k m.Rules)] 0 /\ t 8 = I i_8 /\ t 9 = .rp i9 0 0 /\ t 154 = B (c27 || (decide (4 < (List.length x23.Sets : Int)))) /\ h.ob i9 = some (4, [[I x23.From, I x23.To, .fs 1 (List.map b0t x23.When), .fs 2 (List.map b2k x23.Sets)]]) /\ i9 < h.nx) (fun K hK => ?_) ?_
        ·simp only [go_sem, s1]
         refine b03 (b4f x23.From (-1) (wr ((List.length m.States : Int) - 1))) ?_
         simp only [go_sem]
         refine b0j (fun hg28 => ?_) (fun hg28 => ?_)
         ·simp only [hg28, eq_self, if_true, Bool.true_or] at h_c27
          obtain rfl := sI9 h_c27
          simp only [go_sem, hg28]
          exact hK _ _ ⟨h.nx, s1, s8, (by first | (simp only [go_sem]; done) | rfl), (by first | (simp only [go_sem]; done) | rfl), (by simp only [go_sem]), (by simp only [go_sem])⟩
         ·simp only [go_sem, s1, hg28]
          refine b03 (b4f x23.To 0 (wr ((List.length m.States : Int) - 1))) ?_
          simp only [go_sem, hg28]
          refine b0j (fun hg29 => ?_) (fun hg29 => ?_)
          ·simp only [hg28, hg29, eq_self, if_true, Bool.or_true] at h_c27
           obtain rfl := sI9 h_c27
           simp only [go_sem, hg28, hg29]
           exact hK _ _ ⟨h.nx, s1, s8, (by first | (simp only [go_sem]; done) | rfl), (by first | (simp only [go_sem]; done) | rfl), (by simp only [go_sem]), (by simp only [go_sem])⟩
          ·simp only [hg28, hg29, if_false, Bool.or_false, Bool.false_eq_true] at h_c27
           obtain ⟨y26, h_y26, h_c27⟩ := b0g h_c27
           obtain rfl := sI9 h_c27
           simp only [go_sem, s1, hg28, hg29]
           refine b03 (c2c m x23.When false _ h_y26) ?_
           simp only [go_sem, hg28, hg29]
           refine b0j (fun hg30 => ?_) (fun hg30 => ?_)
           ·simp only [go_sem, hg28, hg29, hg30]
            exact hK _ _ ⟨h.nx, s1, s8, (by first | (simp only [go_sem]; done) | rfl), (by first | (simp only [go_sem, hg30]; done) | rfl), (by simp only [go_sem]), (by simp only [go_sem])⟩
           ·simp only [go_sem, hg28, hg29, hg30]
            exact hK _ _ ⟨h.nx, s1, s8, (by first | (simp only [go_sem]; done) | rfl), (by first | (simp only [go_sem, hg30]; done) | rfl), (by simp only [go_sem]), (by simp only [go_sem])⟩
        ·rintro t h ⟨i9, s1, s8, s9, s154, Qw, Q13⟩
         refine b0i fun K31 hK31 => ?_
         simp only [go_sem, s154]
         refine b0j (fun hc32 => ?_) (fun hc32 => ?_)
         ·rw [b0q hc32] at hm1
          refine b0b fun K hK => ?_
          simp only [go_sem]
          refine hK _ _ ?_
          clear hK K
          simp only [b0x, b1n, b2b, b0y]
          obtain rfl := sI9 hm1
          obtain rfl := hb17 _ rfl
          try dsimp only at hm0
          obtain rfl := sI9 hm0
          exact b04 (by simp only [go_sem]) (b0e _)
         ·rw [b0p hc32] at hm1
          simp only [b0r, b0f]
          refine hK31 _ _ ?_
          refine b0b fun K hK => ?_
          simp only [go_sem]
          refine hK _ _ ?_
          clear hK K
          simp only [b0u]
          obtain ⟨b33, hl33, hm1⟩ := b0g hm1
          refine b1l hl33 (fun | k_10, t, h => t 1 = .fp [.fs 1 (List.map eS m.Inputs), .fs 1 (List.map eS m.Outputs), .fs 2 (List.map b0m m.Counters), .fs 2 (List.map b0n m.States), .fs 4 (List.map b0k m.Rules)] 0 /\ t 8 = I i_8 /\ t 9 = .rp i9 0 0 /\ t 10 = I k_10 /\ h.ob i9 = some (4, [[I x23.From, I x23.To, .fs 1 (List.map b0t x23.When), .fs 2 (List.map b2k x23.Sets)]]) /\ i9 < h.nx) ?_ ?_
          ·exact ⟨s1, s8, s9, (by first | (simp only [go_sem]; done) | rfl), Qw, Q13⟩
          ·rintro k_10 o t h ⟨s1, s8, s9, s10, Qw, Q13⟩ hm2 hb33
           simp only [c2u] at hm2
           rw [g2d]
           refine b0v ?_
           refine b0b fun K hK => ?_
           simp only [go_sem, s9, s10, Qw]
           refine hK _ _ ?_
           clear hK K
           refine b0i fun K34 hK34 => ?_
           simp only [go_sem]
           refine b0j (fun hc35 => ?_) (fun hc35 => ?_)
           ·rw [b0q hc35] at hm2
            simp only [b0r, b0f]
            refine hK34 _ _ ?_
            refine b0i fun K36 hK36 => ?_
            simp only [b0u]
            obtain ⟨x38, h_x38, hm2⟩ := b0g hm2
            have h_x380 := b06 h_x38
            have h_x381 := b07 h_x38
            refine b2z (fun t h => t 1 = .fp [.fs 1 (List.map eS m.Inputs), .fs 1 (List.map eS m.Outputs), .fs 2 (List.map b0m m.Counters), .fs 2 (List.map b0n m.States), .fs 4 (List.map b0k m.Rules)] 0 /\ t 8 = I i_8 /\ t 9 = .rp i9 0 0 /\ t 10 = I k_10 /\ t 183 = B ((!(b15 x38.Kind 1 3)) || (!(b15 x38.Counter 0 (wr ((List.length m.Counters : Int) - 1))))) /\ h.ob i9 = some (4, [[I x23.From, I x23.To, .fs 1 (List.map b0t x23.When), .fs 2 (List.map b2k x23.Sets)]]) /\ i9 < h.nx) (fun K hK => ?_) ?_
            ·simp only [go_sem, s9, s10, Qw, b1a h_x38, h_x381]
             refine b03 (b4f x38.Kind 1 3) ?_
             simp only [go_sem]
             refine b0j (fun hg39 => ?_) (fun hg39 => ?_)
             ·simp only [go_sem, hg39]
              exact hK _ _ ⟨s1, s8, s9, s10, (by first | (simp only [go_sem, hg39]; done) | rfl), Qw, Q13⟩
             ·simp only [go_sem, s1, s9, s10, Qw, b1a h_x38, hg39]
              refine b03 (b4f x38.Counter 0 (wr ((List.length m.Counters : Int) - 1))) ?_
              simp only [go_sem, hg39]
              exact hK _ _ ⟨s1, s8, s9, s10, (by first | (simp only [go_sem, hg39]; done) | rfl), Qw, Q13⟩
            ·rintro t h ⟨s1, s8, s9, s10, s183, Qw, Q13⟩
             simp only [go_sem, s183]
             refine b0j (fun hc40 => ?_) (fun hc40 => ?_)
             ·rw [b0q hc40] at hm2
              refine b0b fun K hK => ?_
              simp only [go_sem]
              refine hK _ _ ?_
              clear hK K
              simp only [b0x, b1n, b2b, b0y]
              obtain rfl := sI9 hm2
              obtain rfl := hb33 _ rfl
              try dsimp only at hm1
              obtain rfl := sI9 hm1
              obtain rfl := hb17 _ rfl
              try dsimp only at hm0
              obtain rfl := sI9 hm0
              exact b04 (by simp only [go_sem]) (b0e _)
             ·rw [b0p hc40] at hm2
              simp only [b0r, b01, b0f]
              refine hK36 _ _ ?_
              refine b02 fun K hK => ?_
              simp only [go_sem, s10]
              refine hK _ _ ?_
              clear hK K
              simp only [b0f]
              obtain rfl := sI9 hm2
              refine ⟨_, rfl, ?_⟩
              exact ⟨s1, s8, s9, (by first | (simp only [go_sem]; done) | rfl), Qw, Q13⟩
           ·rw [b0p hc35] at hm2
            simp only [b1b, b1e, b1d, b01, b0f]
            obtain rfl := sI9 hm2
            obtain rfl := hb33 _ rfl
            try dsimp only at hm1
            exact J21  _ _ s1 s8 hm1
       ·rw [b0p hc19] at hm1
        simp only [b1b, b1e, b1d, b0f]
        obtain rfl := sI9 hm1
        obtain rfl := hb17 _ rfl
        try dsimp only at hm0
        exact J16  _ _  hm0
     simp only [b0u]
     obtain ⟨b43, hl43, hm0⟩ := b0g hm0
     refine b1l hl43 (fun | i_7, t, h => t 1 = .fp [.fs 1 (List.map eS m.Inputs), .fs 1 (List.map eS m.Outputs), .fs 2 (List.map b0m m.Counters), .fs 2 (List.map b0n m.States), .fs 4 (List.map b0k m.Rules)] 0 /\ t 7 = I i_7) ?_ ?_
     ·exact ⟨s1, (by first | (simp only [go_sem]; done) | rfl)⟩
     ·rintro i_7 o t h ⟨s1, s7⟩ hm1 hb43
      simp only [c2t] at hm1
      rw [g2c]
      refine b0v ?_
      refine b0b fun K hK => ?_
      simp only [go_sem, s1, s7]
      refine hK _ _ ?_
      clear hK K
      refine b0i fun K44 hK44 => ?_
      simp only [go_sem]
      refine b0j (fun hc45 => ?_) (fun hc45 => ?_)
      ·rw [b0q hc45] at hm1
       simp only [b0r, b0f]
       refine hK44 _ _ ?_
       refine b0i fun K46 hK46 => ?_
       simp only [b0u]
       obtain ⟨x49, h_x49, hm1⟩ := b0g hm1
       have h_x490 := b06 h_x49
       have h_x491 := b07 h_x49
       obtain ⟨q50, h_q50, hm1⟩ := b0g hm1
       refine b0b fun K hK => ?_
       simp only [go_sem, s1, s7, b1a h_x49, h_x491, b8g h_q50]
       refine b03 (b4f x49.Shows 0 (wr (q50 - 1))) ?_
       simp only [go_sem]
       refine hK _ _ ?_
       clear hK K
       simp only [go_sem]
       refine b0j (fun hc51 => ?_) (fun hc51 => ?_)
       ·rw [b0q hc51] at hm1
        refine b0b fun K hK => ?_
        simp only [go_sem]
        refine hK _ _ ?_
        clear hK K
        simp only [b0x, b1n, b2b, b0y]
        obtain rfl := sI9 hm1
        obtain rfl := hb43 _ rfl
        try dsimp only at hm0
        obtain rfl := sI9 hm0
        exact b04 (by simp only [go_sem]) (b0e _)
       ·rw [b0p hc51] at hm1
        simp only [b0r, b01, b0f]
        refine hK46 _ _ ?_
        refine b02 fun K hK => ?_
        simp only [go_sem, s7]
        refine hK _ _ ?_
        clear hK K
        simp only [b0f]
        obtain rfl := sI9 hm1
        refine ⟨_, rfl, ?_⟩
        exact ⟨s1, (by first | (simp only [go_sem]; done) | rfl)⟩
      ·rw [b0p hc45] at hm1
       simp only [b1b, b1e, b1d, b0f]
       obtain rfl := sI9 hm1
       obtain rfl := hb43 _ rfl
       try dsimp only at hm0
       exact J14  _ _ s1 hm0
    simp only [b0u]
    obtain ⟨b53, hl53, hm0⟩ := b0g hm0
    refine b1l hl53 (fun | i_6, t, h => t 1 = .fp [.fs 1 (List.map eS m.Inputs), .fs 1 (List.map eS m.Outputs), .fs 2 (List.map b0m m.Counters), .fs 2 (List.map b0n m.States), .fs 4 (List.map b0k m.Rules)] 0 /\ t 6 = I i_6) ?_ ?_
    ·exact ⟨s1, (by first | (simp only [go_sem]; done) | rfl)⟩
    ·rintro i_6 o t h ⟨s1, s6⟩ hm1 hb53
     simp only [c2s] at hm1
     rw [g2b]
     refine b0v ?_
     refine b0b fun K hK => ?_
     simp only [go_sem, s1, s6]
     refine hK _ _ ?_
     clear hK K
     refine b0i fun K54 hK54 => ?_
     simp only [go_sem]
     refine b0j (fun hc55 => ?_) (fun hc55 => ?_)
     ·rw [b0q hc55] at hm1
      simp only [b0r, b0f]
      refine hK54 _ _ ?_
      refine b0i fun K56 hK56 => ?_
      simp only [b0u]
      obtain ⟨x58, h_x58, hm1⟩ := b0g hm1
      have h_x580 := b06 h_x58
      have h_x581 := b07 h_x58
      refine b0b fun K hK => ?_
      simp only [go_sem, s1, s6, b1a h_x58, h_x581]
      refine b03 (b4f x58.Max 1 7) ?_
      simp only [go_sem]
      refine hK _ _ ?_
      clear hK K
      simp only [go_sem]
      refine b0j (fun hc59 => ?_) (fun hc59 => ?_)
      ·rw [b0q hc59] at hm1
       refine b0b fun K hK => ?_
       simp only [go_sem]
       refine hK _ _ ?_
       clear hK K
       simp only [b0x, b1n, b2b, b0y]
       obtain rfl := sI9 hm1
       obtain rfl := hb53 _ rfl
       try dsimp only at hm0
       obtain rfl := sI9 hm0
       exact b04 (by simp only [go_sem]) (b0e _)
      ·rw [b0p hc59] at hm1
       simp only [b0r, b01, b0f]
       refine hK56 _ _ ?_
       refine b02 fun K hK => ?_
       simp only [go_sem, s6]
       refine hK _ _ ?_
       clear hK K
       simp only [b0f]
       obtain rfl := sI9 hm1
       refine ⟨_, rfl, ?_⟩
       exact ⟨s1, (by first | (simp only [go_sem]; done) | rfl)⟩
     ·rw [b0p hc55] at hm1
      simp only [b1b, b1e, b1d, b0f]
      obtain rfl := sI9 hm1
      obtain rfl := hb53 _ rfl
      try dsimp only at hm0
      exact J12  _ _ s1 hm0
   simp only [b0u]
   obtain ⟨b61, hl61, hm0⟩ := b0g hm0
   refine b1l hl61 (fun | i_4, t, h => t 1 = .fp [.fs 1 (List.map eS m.Inputs), .fs 1 (List.map eS m.Outputs), .fs 2 (List.map b0m m.Counters), .fs 2 (List.map b0n m.States), .fs 4 (List.map b0k m.Rules)] 0 /\ t 3 = .fs 1 (List.map eS y8) /\ t 4 = I i_4) ?_ ?_
   ·exact ⟨s1, (by first | (simp only [go_sem]; done) | rfl), (by first | (simp only [go_sem]; done) | rfl)⟩
   ·rintro i_4 o t h ⟨s1, s3, s4⟩ hm1 hb61
    simp only [b7f] at hm1
    rw [g2a]
    refine b0v ?_
    refine b0b fun K hK => ?_
    simp only [go_sem, s3, s4]
    refine hK _ _ ?_
    clear hK K
    refine b0i fun K62 hK62 => ?_
    simp only [go_sem]
    refine b0j (fun hc63 => ?_) (fun hc63 => ?_)
    ·rw [b0q hc63] at hm1
     simp only [b0r, b0f]
     refine hK62 _ _ ?_
     refine b0i fun K64 hK64 => ?_
     have J65 : ∀ (t : Slots) (h : Heap), t 1 = .fp [.fs 1 (List.map eS m.Inputs), .fs 1 (List.map eS m.Outputs), .fs 2 (List.map b0m m.Counters), .fs 2 (List.map b0n m.States), .fs 4 (List.map b0k m.Rules)] 0 -> t 3 = .fs 1 (List.map eS y8) -> t 4 = I i_4 -> c6n i_4 = some o -> K64 t h := by
      intro t h s1 s3 s4 hm1
      refine hK64 _ _ ?_
      unfold c6n at hm1
      refine b02 fun K hK => ?_
      simp only [go_sem, s4]
      refine hK _ _ ?_
      clear hK K
      simp only [b0f]
      obtain rfl := sI9 hm1
      refine ⟨_, rfl, ?_⟩
      exact ⟨s1, s3, (by first | (simp only [go_sem]; done) | rfl)⟩
     simp only [b0u]
     refine b0v ?_
     obtain ⟨x69, h_x69, hm1⟩ := b0g hm1
     have h_x690 := b06 h_x69
     have h_x691 := b07 h_x69
     obtain ⟨c71, h_c71, hm1⟩ := b0g hm1
     refine b2z (fun t h => t 1 = .fp [.fs 1 (List.map eS m.Inputs), .fs 1 (List.map eS m.Outputs), .fs 2 (List.map b0m m.Counters), .fs 2 (List.map b0n m.States), .fs 4 (List.map b0k m.Rules)] 0 /\ t 3 = .fs 1 (List.map eS y8) /\ t 4 = I i_4 /\ t 61 = B c71) (fun K hK => ?_) ?_
     ·simp only [go_sem, s3, s4, b1a h_x69, h_x691]
      refine b0j (fun hg72 => ?_) (fun hg72 => ?_)
      ·simp only [hg72, eq_self, if_true] at h_c71
       obtain rfl := sI9 h_c71
       simp only [go_sem, hg72]
       exact hK _ _ ⟨s1, s3, s4, (by first | (simp only [go_sem]; done) | rfl)⟩
      ·simp only [hg72, if_false, Bool.false_eq_true] at h_c71
       obtain ⟨y70, h_y70, h_c71⟩ := b0g h_c71
       obtain rfl := sI9 h_c71
       simp only [go_sem, s3, s4, b1a h_x69, hg72]
       refine b03 (d1z x69 _ h_y70) ?_
       simp only [go_sem, hg72]
       exact hK _ _ ⟨s1, s3, s4, (by first | (simp only [go_sem]; done) | rfl)⟩
     ·rintro t h ⟨s1, s3, s4, s61⟩
      refine b0i fun K73 hK73 => ?_
      simp only [go_sem, s61]
      refine b0j (fun hc74 => ?_) (fun hc74 => ?_)
      ·rw [b0q hc74] at hm1
       refine b0b fun K hK => ?_
       simp only [go_sem]
       refine hK _ _ ?_
       clear hK K
       simp only [b0x, b1n, b2b, b0y]
       obtain rfl := sI9 hm1
       obtain rfl := hb61 _ rfl
       try dsimp only at hm0
       obtain rfl := sI9 hm0
       exact b04 (by simp only [go_sem]) (b0e _)
      ·rw [b0p hc74] at hm1
       simp only [b0r, b0f]
       refine hK73 _ _ ?_
       refine b0b fun K hK => ?_
       simp only [go_sem]
       refine hK _ _ ?_
       clear hK K
       simp only [b0u]
       obtain ⟨b75, hl75, hm1⟩ := b0g hm1
       refine b1l hl75 (fun | k_5, t, h => t 1 = .fp [.fs 1 (List.map eS m.Inputs), .fs 1 (List.map eS m.Outputs), .fs 2 (List.map b0m m.Counters), .fs 2 (List.map b0n m.States), .fs 4 (List.map b0k m.Rules)] 0 /\ t 3 = .fs 1 (List.map eS y8) /\ t 4 = I i_4 /\ t 5 = I k_5) ?_ ?_
       ·exact ⟨s1, s3, s4, (by first | (simp only [go_sem]; done) | rfl)⟩
       ·rintro k_5 o t h ⟨s1, s3, s4, s5⟩ hm2 hb75
        simp only [b8p] at hm2
        rw [g19]
        refine b0v ?_
        refine b0b fun K hK => ?_
        simp only [go_sem, s4, s5]
        refine hK _ _ ?_
        clear hK K
        refine b0i fun K76 hK76 => ?_
        simp only [go_sem]
        refine b0j (fun hc77 => ?_) (fun hc77 => ?_)
        ·rw [b0q hc77] at hm2
         simp only [b0r, b0f]
         refine hK76 _ _ ?_
         refine b0i fun K78 hK78 => ?_
         simp only [b0u]
         obtain ⟨x81, h_x81, hm2⟩ := b0g hm2
         have h_x810 := b06 h_x81
         have h_x811 := b07 h_x81
         obtain ⟨x82, h_x82, hm2⟩ := b0g hm2
         have h_x820 := b06 h_x82
         have h_x821 := b07 h_x82
         refine b0b fun K hK => ?_
         simp only [go_sem, s3, s4, s5, b1a h_x81, b1a h_x82]
         refine hK _ _ ?_
         clear hK K
         simp only [go_sem]
         refine b0j (fun hc83 => ?_) (fun hc83 => ?_)
         ·rw [b0q hc83] at hm2
          refine b0b fun K hK => ?_
          simp only [go_sem]
          refine hK _ _ ?_
          clear hK K
          simp only [b0x, b1n, b2b, b0y]
          obtain rfl := sI9 hm2
          obtain rfl := hb75 _ rfl
          try dsimp only at hm1
          obtain rfl := sI9 hm1
          obtain rfl := hb61 _ rfl
          try dsimp only at hm0
          obtain rfl := sI9 hm0
          exact b04 (by simp only [go_sem]) (b0e _)
         ·rw [b0p hc83] at hm2
          simp only [b0r, b01, b0f]
          refine hK78 _ _ ?_
          refine b02 fun K hK => ?_
          simp only [go_sem, s5]
          refine hK _ _ ?_
          clear hK K
          simp only [b0f]
          obtain rfl := sI9 hm2
          refine ⟨_, rfl, ?_⟩
          exact ⟨s1, s3, s4, (by first | (simp only [go_sem]; done) | rfl)⟩
        ·rw [b0p hc77] at hm2
         simp only [b1b, b1e, b1d, b01, b0f]
         obtain rfl := sI9 hm2
         obtain rfl := hb75 _ rfl
         try dsimp only at hm1
         exact J65  _ _ s1 s3 s4 hm1
    ·rw [b0p hc63] at hm1
     simp only [b1b, b1e, b1d, b0f]
     obtain rfl := sI9 hm1
     obtain rfl := hb61 _ rfl
     try dsimp only at hm0
     exact J10  _ _ s1 hm0
theorem d1u (hf : Has O "newel/newelref04.CheckConds" x_r04_CheckConds) (c2b : c32 O) (c2c : c34 O) : c8u O := by
 intro m l r hm0
 unfold c2q at hm0
 refine b1h hf rfl (b0a (.agg _ (b0a (b0c fun a _ => b00 a) (b0a (b0c fun a _ => b00 a) (b0a (b0c fun a _ => b1r a) (b0a (b0c fun a _ => b1t a) (b0a (b0c fun a _ => b1s a) b0l)))))) (b0a (b0c fun a _ => c5d a) b0l)) (b0e _) ?_
 refine b1f (fun t h => t 0 = .agg [.fs 1 (List.map eS m.Inputs), .fs 1 (List.map eS m.Outputs), .fs 2 (List.map b0m m.Counters), .fs 2 (List.map b0n m.States), .fs 4 (List.map b0k m.Rules)] /\ t 1 = .fs 1 (List.map b41 l)) ⟨rfl, rfl⟩ fun t h ⟨s0, s1⟩ => ?_
 simp only [x_r04_CheckConds]
 refine b0b fun K hK => ?_
 simp only [go_sem, s0]
 refine hK _ _ ?_
 clear hK K
 obtain ⟨y2, h_y2, hm0⟩ := b0g hm0
 refine b0b fun K hK => ?_
 simp only [go_sem]
 refine b03 (c2b m _ h_y2) ?_
 simp only [go_sem]
 refine hK _ _ ?_
 clear hK K
 refine b0v ?_
 refine b0b fun K hK => ?_
 simp only [go_sem]
 refine hK _ _ ?_
 clear hK K
 refine b0i fun K3 hK3 => ?_
 simp only [go_sem]
 refine b0j (fun hc4 => ?_) (fun hc4 => ?_)
 ·rw [b0q hc4] at hm0
  refine b0b fun K hK => ?_
  simp only [go_sem]
  refine hK _ _ ?_
  clear hK K
  simp only [b0x, b1n, b0y]
  obtain rfl := sI9 hm0
  exact b04 (by simp only [go_sem]) (b0e _)
 ·rw [b0p hc4] at hm0
  simp only [b0r, b0f]
  refine hK3 _ _ ?_
  refine b0v ?_
  refine b0b fun K hK => ?_
  simp only [go_sem]
  refine hK _ _ ?_
  clear hK K
  refine b0i fun K5 hK5 => ?_
  have J6 : ∀ (t : Slots) (h : Heap), d3b = some r -> K5 t h := by
   intro t h hm0
   refine hK5 _ _ ?_
   unfold d3b at hm0
   refine b0b fun K hK => ?_
   simp only [go_sem]
   refine hK _ _ ?_
   clear hK K
   simp only [b0x, b0y]
   obtain rfl := sI9 hm0
   exact b04 (by simp only [go_sem]) (b0e _)
  simp only [b0u]
  obtain ⟨b7, hl7, hm0⟩ := b0g hm0
  refine b1l hl7 (fun | i_6, t, h => t 1 = .fs 1 (List.map b41 l) /\ t 2 = .fp [.fs 1 (List.map eS m.Inputs), .fs 1 (List.map eS m.Outputs), .fs 2 (List.map b0m m.Counters), .fs 2 (List.map b0n m.States), .fs 4 (List.map b0k m.Rules)] 0 /\ t 6 = I i_6) ?_ ?_
  ·exact ⟨s1, (by first | (simp only [go_sem]; done) | rfl), (by first | (simp only [go_sem]; done) | rfl)⟩
  ·rintro i_6 o t h ⟨s1, s2, s6⟩ hm1 hb7
   simp only [c2r] at hm1
   rw [g18]
   refine b0v ?_
   refine b0b fun K hK => ?_
   simp only [go_sem, s1, s6]
   refine hK _ _ ?_
   clear hK K
   refine b0i fun K8 hK8 => ?_
   simp only [go_sem]
   refine b0j (fun hc9 => ?_) (fun hc9 => ?_)
   ·rw [b0q hc9] at hm1
    simp only [b0r, b0f]
    refine hK8 _ _ ?_
    refine b0i fun K10 hK10 => ?_
    simp only [b0u]
    obtain ⟨x13, h_x13, hm1⟩ := b0g hm1
    have h_x130 := b06 h_x13
    have h_x131 := b07 h_x13
    obtain ⟨y14, h_y14, hm1⟩ := b0g hm1
    refine b0b fun K hK => ?_
    simp only [go_sem, s1, s2, s6, b1a h_x13, h_x131]
    refine b03 (c2c m x13 true _ h_y14) ?_
    simp only [go_sem]
    refine hK _ _ ?_
    clear hK K
    simp only [go_sem]
    refine b0j (fun hc15 => ?_) (fun hc15 => ?_)
    ·rw [b0q hc15] at hm1
     refine b0b fun K hK => ?_
     simp only [go_sem]
     refine hK _ _ ?_
     clear hK K
     simp only [b0x, b1n, b2b, b0y]
     obtain rfl := sI9 hm1
     obtain rfl := hb7 _ rfl
     try dsimp only at hm0
     obtain rfl := sI9 hm0
     exact b04 (by simp only [go_sem]) (b0e _)
    ·rw [b0p hc15] at hm1
     simp only [b0r, b01, b0f]
     refine hK10 _ _ ?_
     refine b02 fun K hK => ?_
     simp only [go_sem, s6]
     refine hK _ _ ?_
     clear hK K
     simp only [b0f]
     obtain rfl := sI9 hm1
     refine ⟨_, rfl, ?_⟩
     exact ⟨s1, s2, (by first | (simp only [go_sem]; done) | rfl)⟩
   ·rw [b0p hc9] at hm1
    simp only [b1b, b1e, b1d, b0f]
    obtain rfl := sI9 hm1
    obtain rfl := hb7 _ rfl
    try dsimp only at hm0
    exact J6  _ _  hm0
theorem d1v (hf : Has O "newel/newelref04.Copy" x_r04_Copy) (b92 : c33 O) : c8v O := by
 intro m r hm0
 unfold c2v at hm0
 refine b1h hf rfl (b0a (.agg _ (b0a (b0c fun a _ => b00 a) (b0a (b0c fun a _ => b00 a) (b0a (b0c fun a _ => b1r a) (b0a (b0c fun a _ => b1t a) (b0a (b0c fun a _ => b1s a) b0l)))))) b0l) (.agg _ (b0a (b0c fun a _ => b00 a) (b0a (b0c fun a _ => b00 a) (b0a (b0c fun a _ => b1r a) (b0a (b0c fun a _ => b1t a) (b0a (b0c fun a _ => b1s a) b0l)))))) ?_
 refine b1f (fun t h => t 0 = .agg [.fs 1 (List.map eS m.Inputs), .fs 1 (List.map eS m.Outputs), .fs 2 (List.map b0m m.Counters), .fs 2 (List.map b0n m.States), .fs 4 (List.map b0k m.Rules)]) rfl fun t h s0 => ?_
 simp only [x_r04_Copy]
 refine b0b fun K hK => ?_
 simp only [go_sem, s0]
 refine hK _ _ ?_
 clear hK K
 obtain ⟨l5, h_l5, hm0⟩ := b0g hm0
 obtain ⟨l6, h_l6, hm0⟩ := b0g hm0
 obtain ⟨l7, h_l7, hm0⟩ := b0g hm0
 obtain ⟨l8, h_l8, hm0⟩ := b0g hm0
 refine b0b fun K hK => ?_
 simp only [go_sem]
 refine b22 (f := eS) (l := ([])) (m := m.Inputs) ?_ ?_ ?_ ?_ h_l5 ?_
 ·exact (b2p (by simp only [go_sem]) (by simp only [go_sem]) (by simp only [go_sem]))
 ·exact b7b
 ·exact b69
 ·exact (fun e => by cases e)
 simp only [go_sem]
 refine b22 (f := eS) (l := ([])) (m := m.Outputs) ?_ ?_ ?_ ?_ h_l6 ?_
 ·exact (b2p (by simp only [go_sem]) (by simp only [go_sem]) (by simp only [go_sem]))
 ·exact b7b
 ·exact b69
 ·exact (fun e => by cases e)
 simp only [go_sem]
 refine b22 (f := b0m) (l := ([])) (m := m.Counters) ?_ ?_ ?_ ?_ h_l7 ?_
 ·exact (b2p (by simp only [go_sem]) (by simp only [go_sem]) (by simp only [go_sem]))
 ·exact b7b
 ·exact b69
 ·exact (fun e => by cases e)
 simp only [go_sem]
 refine b22 (f := b0n) (l := ([])) (m := m.States) ?_ ?_ ?_ ?_ h_l8 ?_
 ·exact (b2p (by simp only [go_sem]) (by simp only [go_sem]) (by simp only [go_sem]))
 ·exact b7b
 ·exact b69
 ·exact (fun e => by cases e)
 simp only [go_sem]
 refine hK _ _ ?_
 clear hK K
 refine b0v ?_
 refine b0b fun K hK => ?_
 simp only [go_sem]
 refine hK _ _ ?_
 clear hK K
 refine b0i fun K9 hK9 => ?_
 have J10 : ∀ (o_3_4 : List Rule) (i2 : Nat) (i3 : Nat) (i3_1 : Nat) (i3_2 : Nat) (i3_3 : Nat) (i3_4 : Nat) (v3 : AV) (t : Slots) (h : Heap), t 2 = .rp i2 0 0 -> t 3 = .rp i3 0 0 -> h.ob i2 = some (5, [[.v (.slice none 0 0), .v (.slice none 0 0), .v (.slice none 0 0), .v (.slice none 0 0), .v (.slice none 0 0)]]) -> i2 < h.nx -> h.ob i3 = some (5, [[.rs i3_1 0 (List.length l5), .rs i3_2 0 (List.length l6), .rs i3_3 0 (List.length l7), .rs i3_4 0 (List.length l8), v3]]) -> i3 < h.nx -> h.ob i3_1 = some (1, List.map eS l5) -> i3_1 < h.nx -> h.ob i3_2 = some (1, List.map eS l6) -> i3_2 < h.nx -> h.ob i3_3 = some (2, List.map b0m l7) -> i3_3 < h.nx -> h.ob i3_4 = some (2, List.map b0n l8) -> i3_4 < h.nx -> b1o h v3 4 (List.map b0k o_3_4) -> ¬i2 = i3 -> ¬i2 = i3_1 -> ¬i2 = i3_2 -> ¬i2 = i3_3 -> ¬i2 = i3_4 -> b0s v3 i2 -> ¬i3 = i3_1 -> ¬i3 = i3_2 -> ¬i3 = i3_3 -> ¬i3 = i3_4 -> b0s v3 i3 -> ¬i3_1 = i3_2 -> ¬i3_1 = i3_3 -> ¬i3_1 = i3_4 -> b0s v3 i3_1 -> ¬i3_2 = i3_3 -> ¬i3_2 = i3_4 -> b0s v3 i3_2 -> ¬i3_3 = i3_4 -> b0s v3 i3_3 -> b0s v3 i3_4 -> c6p l5 l6 l7 l8 o_3_4 = some r -> K9 t h := by
  intro o_3_4 i2 i3 i3_1 i3_2 i3_3 i3_4 v3 t h s2 s3 Q1n Q1o Q1l Q1j Q1p Q1q Q1r Q1s Q1t Q1u Q1v Q1w Q1m Q1x Q1y Q1z Q20 Q21 Q22 Q23 Q24 Q25 Q26 Q27 Q28 Q29 Q2a Q2b Q2c Q2d Q2e Q2f Q2g Q2h hm0
  refine hK9 _ _ ?_
  unfold c6p at hm0
  refine b0b fun K hK => ?_
  simp only [go_sem, s2, s3, Q1n, Q1l]
  refine hK _ _ ?_
  clear hK K
  simp only [b0x, b0y]
  obtain rfl := sI9 hm0
  exact b9l (id := i2) (m := 5) (cs := [.rs i3_1 0 (List.length l5), .rs i3_2 0 (List.length l6), .rs i3_3 0 (List.length l7), .rs i3_4 0 (List.length l8), v3]) (by simp only [go_sem, s2]) (by simp only [go_sem]) rfl (d57 (.cons (b3e (f := eS) (l := l5) (id := i3_1) (by simp only [go_sem, Q1p, b1z Q1y]) (by first | rfl | simp only [go_sem, lA9, mA9]) b00 c2j) (.cons (b3e (f := eS) (l := l6) (id := i3_2) (by simp only [go_sem, Q1r, b1z Q1z]) (by first | rfl | simp only [go_sem, lA9, mA9]) b00 c2j) (.cons (b3e (f := b0m) (l := l7) (id := i3_3) (by simp only [go_sem, Q1t, b1z Q20]) (by first | rfl | simp only [go_sem, lA9, mA9]) b1r j5i) (.cons (b3e (f := b0n) (l := l8) (id := i3_4) (by simp only [go_sem, Q1v, b1z Q21]) (by first | rfl | simp only [go_sem, lA9, mA9]) b1t j5n) (.cons (b8f (f := b0k) (l := o_3_4) (b24 Q1m (by intro j hj hl; first | rfl | simp only [go_sem, b4i hj Q22]) (by first | omega | exact Nat.le_refl _ | (simp only [go_sem, nxs] <;> omega))) b1s j5l) (.nil)))))))
 simp only [b0u]
 obtain ⟨b11, hl11, hm0⟩ := b0g hm0
 refine b1l hl11 (fun | (o_3_4, i_4), t, h => ∃ i2 : Nat, ∃ i3 : Nat, ∃ i3_1 : Nat, ∃ i3_2 : Nat, ∃ i3_3 : Nat, ∃ i3_4 : Nat, ∃ v3 : AV, t 1 = .fp [.fs 1 (List.map eS m.Inputs), .fs 1 (List.map eS m.Outputs), .fs 2 (List.map b0m m.Counters), .fs 2 (List.map b0n m.States), .fs 4 (List.map b0k m.Rules)] 0 /\ t 2 = .rp i2 0 0 /\ t 3 = .rp i3 0 0 /\ t 4 = I i_4 /\ h.ob i2 = some (5, [[.v (.slice none 0 0), .v (.slice none 0 0), .v (.slice none 0 0), .v (.slice none 0 0), .v (.slice none 0 0)]]) /\ i2 < h.nx /\ h.ob i3 = some (5, [[.rs i3_1 0 (List.length l5), .rs i3_2 0 (List.length l6), .rs i3_3 0 (List.length l7), .rs i3_4 0 (List.length l8), v3]]) /\ i3 < h.nx /\ h.ob i3_1 = some (1, List.map eS l5) /\ i3_1 < h.nx /\ h.ob i3_2 = some (1, List.map eS l6) /\ i3_2 < h.nx /\ h.ob i3_3 = some (2, List.map b0m l7) /\ i3_3 < h.nx /\ h.ob i3_4 = some (2, List.map b0n l8) /\ i3_4 < h.nx /\ b1o h v3 4 (List.map b0k o_3_4) /\ ¬i2 = i3 /\ ¬i2 = i3_1 /\ ¬i2 = i3_2 /\ ¬i2 = i3_3 /\ ¬i2 = i3_4 /\ b0s v3 i2 /\ ¬i3 = i3_1 /\ ¬i3 = i3_2 /\ ¬i3 = i3_3 /\ ¬i3 = i3_4 /\ b0s v3 i3 /\ ¬i3_1 = i3_2 /\ ¬i3_1 = i3_3 /\ ¬i3_1 = i3_4 /\ b0s v3 i3_1 /\ ¬i3_2 = i3_3 /\ ¬i3_2 = i3_4 /\ b0s v3 i3_2 /\ ¬i3_3 = i3_4 /\ b0s v3 i3_3 /\ b0s v3 i3_4) ?_ ?_
 ·exact ⟨h.nx, (nxs (nxs (nxs (nxs (nxs (nxs (nxs (nxs (nxs h.nx))))))))), (nxs (nxs h.nx)), (nxs (nxs (nxs (nxs h.nx)))), (nxs (nxs (nxs (nxs (nxs (nxs h.nx)))))), (nxs (nxs (nxs (nxs (nxs (nxs (nxs (nxs h.nx)))))))), (.v (.slice none 0 0)), (by first | (simp only [go_sem]; done) | rfl), (by first | (simp only [go_sem]; done) | rfl), (by first | (simp only [go_sem]; done) | rfl), (by first | (simp only [go_sem]; done) | rfl), (by simp only [go_sem]), (by simp only [go_sem]), (by simp only [go_sem]), (by simp only [go_sem]), (by simp only [go_sem]), (by simp only [go_sem]), (by simp only [go_sem]), (by simp only [go_sem]), (by simp only [go_sem]), (by simp only [go_sem]), (by simp only [go_sem]), (by simp only [go_sem]), b98, (by first | first | assumption | omega | (simp only [nxs] <;> omega)), (by first | first | assumption | omega | (simp only [nxs] <;> omega)), (by first | first | assumption | omega | (simp only [nxs] <;> omega)), (by first | first | assumption | omega | (simp only [nxs] <;> omega)), (by first | first | assumption | omega | (simp only [nxs] <;> omega)), (by first | exact b1v | exact b1x (by first | assumption | omega | (simp only [nxs] <;> omega)) | assumption | exact b1u (by assumption) (by first | assumption | omega | (simp only [nxs] <;> omega))), (by first | first | assumption | omega | (simp only [nxs] <;> omega)), (by first | first | assumption | omega | (simp only [nxs] <;> omega)), (by first | first | assumption | omega | (simp only [nxs] <;> omega)), (by first | first | assumption | omega | (simp only [nxs] <;> omega)), (by first | exact b1v | exact b1x (by first | assumption | omega | (simp only [nxs] <;> omega)) | assumption | exact b1u (by assumption) (by first | assumption | omega | (simp only [nxs] <;> omega))), (by first | first | assumption | omega | (simp only [nxs] <;> omega)), (by first | first | assumption | omega | (simp only [nxs] <;> omega)), (by first | first | assumption | omega | (simp only [nxs] <;> omega)), (by first | exact b1v | exact b1x (by first | assumption | omega | (simp only [nxs] <;> omega)) | assumption | exact b1u (by assumption) (by first | assumption | omega | (simp only [nxs] <;> omega))), (by first | first | assumption | omega | (simp only [nxs] <;> omega)), (by first | first | assumption | omega | (simp only [nxs] <;> omega)), (by first | exact b1v | exact b1x (by first | assumption | omega | (simp only [nxs] <;> omega)) | assumption | exact b1u (by assumption) (by first | assumption | omega | (simp only [nxs] <;> omega))), (by first | first | assumption | omega | (simp only [nxs] <;> omega)), (by first | exact b1v | exact b1x (by first | assumption | omega | (simp only [nxs] <;> omega)) | assumption | exact b1u (by assumption) (by first | assumption | omega | (simp only [nxs] <;> omega))), (by first | exact b1v | exact b1x (by first | assumption | omega | (simp only [nxs] <;> omega)) | assumption | exact b1u (by assumption) (by first | assumption | omega | (simp only [nxs] <;> omega)))⟩
 ·rintro ⟨o_3_4, i_4⟩ o t h ⟨i2, i3, i3_1, i3_2, i3_3, i3_4, v3, s1, s2, s3, s4, Q1n, Q1o, Q1l, Q1j, Q1p, Q1q, Q1r, Q1s, Q1t, Q1u, Q1v, Q1w, Q1m, Q1x, Q1y, Q1z, Q20, Q21, Q22, Q23, Q24, Q25, Q26, Q27, Q28, Q29, Q2a, Q2b, Q2c, Q2d, Q2e, Q2f, Q2g, Q2h⟩ hm1 hb11
  simp only [c2x] at hm1
  rw [g2g]
  refine b0v ?_
  refine b0b fun K hK => ?_
  simp only [go_sem, s1, s4]
  refine hK _ _ ?_
  clear hK K
  refine b0i fun K12 hK12 => ?_
  simp only [go_sem]
  refine b0j (fun hc13 => ?_) (fun hc13 => ?_)
  ·rw [b0q hc13] at hm1
   simp only [b0r, b0f]
   refine hK12 _ _ ?_
   refine b0i fun K14 hK14 => ?_
   simp only [b0u]
   obtain ⟨x16, h_x16, hm1⟩ := b0g hm1
   have h_x160 := b06 h_x16
   have h_x161 := b07 h_x16
   refine b0b fun K hK => ?_
   simp only [go_sem, s1, s4, b1a h_x16, h_x161]
   refine hK _ _ ?_
   clear hK K
   obtain ⟨y18, h_y18, hm1⟩ := b0g hm1
   refine b0b fun K hK => ?_
   simp only [go_sem]
   refine b03 (b92 x16.When _ h_y18) ?_
   simp only [go_sem]
   refine hK _ _ ?_
   clear hK K
   obtain ⟨l20, h_l20, hm1⟩ := b0g hm1
   refine b0b fun K hK => ?_
   simp only [go_sem]
   refine b22 (f := b2k) (l := ([])) (m := x16.Sets) ?_ ?_ ?_ ?_ h_l20 ?_
   ·exact (b2p (by simp only [go_sem]) (by simp only [go_sem]) (by simp only [go_sem]))
   ·exact b7b
   ·exact b69
   ·exact (fun e => by cases e)
   simp only [go_sem]
   refine hK _ _ ?_
   clear hK K
   refine g7f (s := 5) (v := .rp h.nx 0 0) (y := .fp [I x16.From, I x16.To, .fs 1 (List.map b0t y18), .fs 2 (List.map b2k l20)] 0) (fun j => j == h.nx || j == (nxs (nxs h.nx))) (by simp only [go_sem]) (d58 (id := h.nx) (sz := 4) (xs := [I x16.From, I x16.To, .fs 1 (List.map b0t y18), .rs (nxs (nxs h.nx)) 0 (List.length l20)]) (by rw [c6a (by simp)]; simp only [go_sem]) (.cons (.refl _ (b0e _)) (.cons (.refl _ (b0e _)) (.cons (.refl _ (b0c fun a _ => b2l a)) (.cons (b3e (f := b2k) (l := l20) (id := (nxs (nxs h.nx))) (by rw [c6a (by simp)]; simp only [go_sem]) (by first | rfl | simp only [go_sem, lA9, mA9]) d0r j5m) (.nil)))))) (.fp _ _ (b0a (b0e _) (b0a (b0e _) (b0a (b0c fun a _ => b2l a) (b0a (b0c fun a _ => d0r a) b0l))))) ?_
   obtain ⟨l22, h_l22, hm1⟩ := b0g hm1
   refine b02 fun K hK => ?_
   simp only [go_sem, s3, Q1l, Q1j, oF9, bF9, ne_eq, nF9, and_self]
   refine b22 (f := b0k) (l := o_3_4) (m := ([(Rule.mk x16.From x16.To y18 l20)])) ?_ ?_ ?_ ?_ h_l22 ?_
   ·exact (b24 Q1m (by intro j hj hl; first | rfl | simp only [go_sem, hl, oF9, bF9, ne_eq, nF9, and_self]) (by first | omega | exact Nat.le_refl _ | (simp only [go_sem, nxs] <;> omega)))
   ·exact (b4j (by simp only [go_sem]) (by simp only [go_sem]))
   ·exact (b4h (by first | exact b1v | exact b1x (by first | omega | (simp only [nxs] <;> omega)) | assumption | exact b1u (by assumption) (by first | omega | (simp only [go_sem, nxs] <;> omega))))
   ·exact (fun _ => by simp)
   simp only [go_sem, s3, Q1l, Q1j, Q27, oF9, bF9, ne_eq, nF9, and_self]
   refine hK _ _ ?_
   clear hK K
   simp only [b01, b0f]
   refine hK14 _ _ ?_
   refine b02 fun K hK => ?_
   simp only [go_sem, s4, nF9]
   refine hK _ _ ?_
   clear hK K
   simp only [b0f]
   obtain rfl := sI9 hm1
   refine ⟨_, rfl, ?_⟩
   exact ⟨i2, i3, i3_1, i3_2, i3_3, i3_4, (.rs (nxs (nxs (nxs (nxs h.nx)))) 0 (List.length l22)), s1, s2, s3, (by first | (simp only [go_sem]; done) | rfl), (by simp only [go_sem, oF9, bF9, ne_eq, nF9, and_self, Q1n, Q1o, Q1x, Q22]), (by simp only [go_sem, Q1o]), (by simp only [go_sem]), (by simp only [go_sem, Q1j]), (by simp only [go_sem, oF9, bF9, ne_eq, nF9, and_self, Q1p, Q1q, b1z Q23, Q2b]), (by simp only [go_sem, Q1q]), (by simp only [go_sem, oF9, bF9, ne_eq, nF9, and_self, Q1r, Q1s, b1z Q24, Q2e]), (by simp only [go_sem, Q1s]), (by simp only [go_sem, oF9, bF9, ne_eq, nF9, and_self, Q1t, Q1u, b1z Q25, Q2g]), (by simp only [go_sem, Q1u]), (by simp only [go_sem, oF9, bF9, ne_eq, nF9, and_self, Q1v, Q1w, b1z Q26, Q2h]), (by simp only [go_sem, Q1w]), (b2p (by simp only [go_sem, nF9, Q1j, b8n Q1m]) (by first | rfl | simp only [go_sem]) (by simp only [go_sem])), Q1x, Q1y, Q1z, Q20, Q21, (by first | exact b1v | exact b1x (by first | assumption | omega | (simp only [nxs] <;> omega)) | assumption | exact b1u (by assumption) (by first | assumption | omega | (simp only [nxs] <;> omega))), Q23, Q24, Q25, Q26, (by first | exact b1v | exact b1x (by first | assumption | omega | (simp only [nxs] <;> omega)) | assumption | exact b1u (by assumption) (by first | assumption | omega | (simp only [nxs] <;> omega))), Q28, Q29, Q2a, (by first | exact b1v | exact b1x (by first | assumption | omega | (simp only [nxs] <;> omega)) | assumption | exact b1u (by assumption) (by first | assumption | omega | (simp only [nxs] <;> omega))), Q2c, Q2d, (by first | exact b1v | exact b1x (by first | assumption | omega | (simp only [nxs] <;> omega)) | assumption | exact b1u (by assumption) (by first | assumption | omega | (simp only [nxs] <;> omega))), Q2f, (by first | exact b1v | exact b1x (by first | assumption | omega | (simp only [nxs] <;> omega)) | assumption | exact b1u (by assumption) (by first | assumption | omega | (simp only [nxs] <;> omega))), (by first | exact b1v | exact b1x (by first | assumption | omega | (simp only [nxs] <;> omega)) | assumption | exact b1u (by assumption) (by first | assumption | omega | (simp only [nxs] <;> omega)))⟩
  ·rw [b0p hc13] at hm1
   simp only [b1b, b1e, b1d, b0f]
   obtain rfl := sI9 hm1
   obtain rfl := hb11 _ rfl
   try dsimp only at hm0
   exact J10 o_3_4 i2 i3 i3_1 i3_2 i3_3 i3_4 v3 _ _ s2 s3 Q1n Q1o Q1l Q1j Q1p Q1q Q1r Q1s Q1t Q1u Q1v Q1w Q1m Q1x Q1y Q1z Q20 Q21 Q22 Q23 Q24 Q25 Q26 Q27 Q28 Q29 Q2a Q2b Q2c Q2d Q2e Q2f Q2g Q2h hm0
theorem b92 (hf : Has O "newel/newelref04.CopyCond" x_r04_CopyCond) : c33 O := by
 intro c r hm0
 unfold b8r at hm0
 refine b1h hf rfl (b0a (b0c fun a _ => b2l a) b0l) (b0c fun a _ => b2l a) ?_
 refine b1f (fun t h => t 0 = .fs 1 (List.map b0t c)) rfl fun t h s0 => ?_
 simp only [x_r04_CopyCond]
 refine b0b fun K hK => ?_
 simp only [go_sem]
 refine hK _ _ ?_
 clear hK K
 refine b0b fun K hK => ?_
 simp only [go_sem]
 refine hK _ _ ?_
 clear hK K
 refine b0v ?_
 refine b0b fun K hK => ?_
 simp only [go_sem]
 refine hK _ _ ?_
 clear hK K
 refine b0i fun K1 hK1 => ?_
 have J2 : ∀ (o_3 : List (List Literal)) (v3 : AV) (t : Slots) (h : Heap), t 3 = v3 -> b1o h v3 1 (List.map b0t o_3) -> c6o o_3 = some r -> K1 t h := by
  intro o_3 v3 t h s3 Q1k hm0
  refine hK1 _ _ ?_
  unfold c6o at hm0
  refine b0b fun K hK => ?_
  simp only [go_sem, s3, b5k v3]
  refine hK _ _ ?_
  clear hK K
  simp only [b0x, b0y]
  obtain rfl := sI9 hm0
  exact b8b (v := v3) (by simp only [go_sem]) (b8f (f := b0t) (l := o_3) (b24 Q1k (by intro j hj hl; first | rfl | simp only [go_sem, hl]) (by first | omega | exact Nat.le_refl _ | (simp only [go_sem, nxs] <;> omega))) b2l d9d)
 simp only [b0u]
 obtain ⟨b3, hl3, hm0⟩ := b0g hm0
 refine b1l hl3 (fun | (o_3, i_4), t, h => ∃ v3 : AV, t 0 = .fs 1 (List.map b0t c) /\ t 3 = v3 /\ t 4 = I i_4 /\ b1o h v3 1 (List.map b0t o_3)) ?_ ?_
 ·exact ⟨(.v (.slice none 0 0)), s0, (by first | (simp only [go_sem]; done) | rfl), (by first | (simp only [go_sem]; done) | rfl), b98⟩
 ·rintro ⟨o_3, i_4⟩ o t h ⟨v3, s0, s3, s4, Q1k⟩ hm1 hb3
  simp only [c2w] at hm1
  rw [g2f]
  refine b0v ?_
  refine b0b fun K hK => ?_
  simp only [go_sem, s0, s4]
  refine hK _ _ ?_
  clear hK K
  refine b0i fun K4 hK4 => ?_
  simp only [go_sem]
  refine b0j (fun hc5 => ?_) (fun hc5 => ?_)
  ·rw [b0q hc5] at hm1
   simp only [b0r, b0f]
   refine hK4 _ _ ?_
   refine b0i fun K6 hK6 => ?_
   simp only [b0u]
   obtain ⟨x10, h_x10, hm1⟩ := b0g hm1
   have h_x100 := b06 h_x10
   have h_x101 := b07 h_x10
   obtain ⟨l11, h_l11, hm1⟩ := b0g hm1
   obtain ⟨l12, h_l12, hm1⟩ := b0g hm1
   refine b0b fun K hK => ?_
   simp only [go_sem, s0, s3, s4, b1a h_x10, h_x101, b5k v3]
   refine b22 (f := b3c) (l := ([])) (m := x10) ?_ ?_ ?_ ?_ h_l11 ?_
   ·exact (b2p (by simp only [go_sem]) (by simp only [go_sem]) (by simp only [go_sem]))
   ·exact b7b
   ·exact b69
   ·exact (fun e => by cases e)
   simp only [go_sem]
   refine d6l (f := b0t) (l := o_3) (a := l11) (raw := [.rs (nxs h.nx) 0 (List.length l11)]) ?_ ?_ ?_ h_l12 ?_
   ·exact (b24 Q1k (by intro j hj hl; first | rfl | simp only [go_sem, hl]) (by first | omega | exact Nat.le_refl _ | (simp only [go_sem, nxs] <;> omega)))
   ·exact (by simp only [go_sem])
   ·exact (by first | exact b1v | exact b1x (by first | omega | (simp only [nxs] <;> omega)) | assumption | exact b1u (by assumption) (by first | omega | (simp only [go_sem, nxs] <;> omega)))
   simp only [go_sem]
   refine hK _ _ ?_
   clear hK K
   refine g7i ?_
   refine g7h (id := (nxs (nxs (nxs h.nx)))) (sz := 1) (f := b0t) (l := o_3) (a := l11) (raw := [.rs (nxs h.nx) 0 (List.length l11)]) (fun j => j == (nxs h.nx)) (by simp only [go_sem, b8n Q1k]) (by first | (simp; done) | (simp [nxs] <;> omega)) (.cons (b3e (f := b3c) (l := l11) (id := (nxs h.nx)) (by rw [c6a (by simp)]; simp only [go_sem, b8n Q1k]) (by first | rfl | simp only [go_sem, lA9, mA9]) c12 j5k) (.nil)) b2l d9d ?_
   rw [<- (b71 h_l12).2]
   simp only [b0r, b01, b0f]
   refine hK6 _ _ ?_
   refine b02 fun K hK => ?_
   simp only [go_sem, s4, nF9]
   refine hK _ _ ?_
   clear hK K
   simp only [b0f]
   obtain rfl := sI9 hm1
   refine ⟨_, rfl, ?_⟩
   exact ⟨(.rs (nxs (nxs (nxs h.nx))) 0 (List.length l12)), s0, (by first | (simp only [go_sem]; done) | rfl), (by first | (simp only [go_sem]; done) | rfl), (b2p (by simp only [go_sem]) (by first | rfl | simp only [go_sem]) (by simp only [go_sem]))⟩
  ·rw [b0p hc5] at hm1
   simp only [b1b, b1e, b1d, b0f]
   obtain rfl := sI9 hm1
   obtain rfl := hb3 _ rfl
   try dsimp only at hm0
   exact J2 o_3 v3 _ _ s3 Q1k hm0
theorem d1w (hf : Has O "newel/newelref04.Heard" x_r04_Heard) : c8w O := by
 intro x input value r hm0
 unfold b49 at hm0
 refine b1h hf rfl (b0a (b0e _) (b0a (b0e _) (b0a (b0e _) b0l))) (b0e _) ?_
 refine b1f (fun t h => t 0 = I x /\ t 1 = I input /\ t 2 = I value) ⟨rfl, rfl, rfl⟩ fun t h ⟨s0, s1, s2⟩ => ?_
 simp only [x_r04_Heard]
 refine b0b fun K hK => ?_
 simp only [go_sem]
 refine hK _ _ ?_
 clear hK K
 refine b0v ?_
 refine b0b fun K hK => ?_
 simp only [go_sem, s1]
 refine hK _ _ ?_
 clear hK K
 refine b0i fun K1 hK1 => ?_
 simp only [go_sem]
 refine b0j (fun hc2 => ?_) (fun hc2 => ?_)
 ·rw [b0q hc2] at hm0
  refine b0b fun K hK => ?_
  simp only [go_sem, s0]
  refine hK _ _ ?_
  clear hK K
  simp only [b0x, b1n, b0y]
  obtain rfl := sI9 hm0
  exact b04 (by simp only [go_sem]) (b0e _)
 ·rw [b0p hc2] at hm0
  simp only [b0r, b0f]
  refine hK1 _ _ ?_
  obtain ⟨q4, h_q4, hm0⟩ := b0g hm0
  refine b0b fun K hK => ?_
  simp only [go_sem, s1, b8g h_q4]
  refine hK _ _ ?_
  clear hK K
  refine b0v ?_
  refine b0b fun K hK => ?_
  simp only [go_sem, s2]
  refine hK _ _ ?_
  clear hK K
  refine b0i fun K5 hK5 => ?_
  simp only [go_sem]
  refine b0j (fun hc6 => ?_) (fun hc6 => ?_)
  ·rw [b0q hc6] at hm0
   refine b0b fun K hK => ?_
   simp only [go_sem, s0]
   refine hK _ _ ?_
   clear hK K
   simp only [b0x, b1n, b0y]
   obtain rfl := sI9 hm0
   exact b04 (by simp only [go_sem]) (b0e _)
  ·rw [b0p hc6] at hm0
   simp only [b0r, b0f]
   refine hK5 _ _ ?_
   refine b0b fun K hK => ?_
   simp only [go_sem, s0]
   refine hK _ _ ?_
   clear hK K
   simp only [b0x, b0y]
   obtain rfl := sI9 hm0
   exact b04 (by simp only [go_sem]) (b0e _)
theorem b60 (hf : Has O "newel/newelref04.Holds" x_r04_Holds) (d13 : c83 O) : c0y O := by
 intro m p input c r hm0
 unfold b8s at hm0
 refine b1h hf rfl (b0a (.agg _ (b0a (b0c fun a _ => b00 a) (b0a (b0c fun a _ => b00 a) (b0a (b0c fun a _ => b1r a) (b0a (b0c fun a _ => b1t a) (b0a (b0c fun a _ => b1s a) b0l)))))) (b0a (.agg _ (b0a (b0e _) (b0a (b0e _) (b0a (b0e _) b0l)))) (b0a (b0e _) (b0a (b0c fun a _ => b2l a) b0l)))) (b0e _) ?_
 refine b1f (fun t h => t 0 = .agg [.fs 1 (List.map eS m.Inputs), .fs 1 (List.map eS m.Outputs), .fs 2 (List.map b0m m.Counters), .fs 2 (List.map b0n m.States), .fs 4 (List.map b0k m.Rules)] /\ t 1 = .agg [I p.State, I p.Values.1, I p.Values.2] /\ t 2 = I input /\ t 3 = .fs 1 (List.map b0t c)) ⟨rfl, rfl, rfl, rfl⟩ fun t h ⟨s0, s1, s2, s3⟩ => ?_
 simp only [x_r04_Holds]
 refine b0b fun K hK => ?_
 simp only [go_sem, s0, s1]
 refine hK _ _ ?_
 clear hK K
 refine b0v ?_
 refine b0b fun K hK => ?_
 simp only [go_sem]
 refine hK _ _ ?_
 clear hK K
 refine b0i fun K1 hK1 => ?_
 have J2 : ∀ (t : Slots) (h : Heap), d3d = some r -> K1 t h := by
  intro t h hm0
  refine hK1 _ _ ?_
  unfold d3d at hm0
  refine b0b fun K hK => ?_
  simp only [go_sem]
  refine hK _ _ ?_
  clear hK K
  simp only [b0x, b0y]
  obtain rfl := sI9 hm0
  exact b04 (by simp only [go_sem]) (b0e _)
 simp only [b0u]
 obtain ⟨b3, hl3, hm0⟩ := b0g hm0
 refine b1l hl3 (fun | i_9, t, h => t 2 = I input /\ t 3 = .fs 1 (List.map b0t c) /\ t 4 = .fp [.fs 1 (List.map eS m.Inputs), .fs 1 (List.map eS m.Outputs), .fs 2 (List.map b0m m.Counters), .fs 2 (List.map b0n m.States), .fs 4 (List.map b0k m.Rules)] 0 /\ t 5 = .fp [I p.State, I p.Values.1, I p.Values.2] 0 /\ t 9 = I i_9) ?_ ?_
 ·exact ⟨s2, s3, (by first | (simp only [go_sem]; done) | rfl), (by first | (simp only [go_sem]; done) | rfl), (by first | (simp only [go_sem]; done) | rfl)⟩
 ·rintro i_9 o t h ⟨s2, s3, s4, s5, s9⟩ hm1 hb3
  simp only [c2y] at hm1
  rw [g2h]
  refine b0v ?_
  refine b0b fun K hK => ?_
  simp only [go_sem, s3, s9]
  refine hK _ _ ?_
  clear hK K
  refine b0i fun K4 hK4 => ?_
  simp only [go_sem]
  refine b0j (fun hc5 => ?_) (fun hc5 => ?_)
  ·rw [b0q hc5] at hm1
   simp only [b0r, b0f]
   refine hK4 _ _ ?_
   refine b0i fun K6 hK6 => ?_
   have J7 : ∀ (t : Slots) (h : Heap), t 2 = I input -> t 3 = .fs 1 (List.map b0t c) -> t 4 = .fp [.fs 1 (List.map eS m.Inputs), .fs 1 (List.map eS m.Outputs), .fs 2 (List.map b0m m.Counters), .fs 2 (List.map b0n m.States), .fs 4 (List.map b0k m.Rules)] 0 -> t 5 = .fp [I p.State, I p.Values.1, I p.Values.2] 0 -> t 9 = I i_9 -> c6q i_9 = some o -> K6 t h := by
    intro t h s2 s3 s4 s5 s9 hm1
    refine hK6 _ _ ?_
    unfold c6q at hm1
    refine b02 fun K hK => ?_
    simp only [go_sem, s9]
    refine hK _ _ ?_
    clear hK K
    simp only [b0f]
    obtain rfl := sI9 hm1
    refine ⟨_, rfl, ?_⟩
    exact ⟨s2, s3, s4, s5, (by first | (simp only [go_sem]; done) | rfl)⟩
   simp only [b0u]
   refine b0b fun K hK => ?_
   simp only [go_sem]
   refine hK _ _ ?_
   clear hK K
   refine b0v ?_
   refine b0b fun K hK => ?_
   simp only [go_sem]
   refine hK _ _ ?_
   clear hK K
   refine b0i fun K8 hK8 => ?_
   have J9 : ∀ (all_10 : Bool) (t : Slots) (h : Heap), t 2 = I input -> t 3 = .fs 1 (List.map b0t c) -> t 4 = .fp [.fs 1 (List.map eS m.Inputs), .fs 1 (List.map eS m.Outputs), .fs 2 (List.map b0m m.Counters), .fs 2 (List.map b0n m.States), .fs 4 (List.map b0k m.Rules)] 0 -> t 5 = .fp [I p.State, I p.Values.1, I p.Values.2] 0 -> t 9 = I i_9 -> t 10 = B all_10 -> c6r i_9 all_10 = some o -> K8 t h := by
    intro all_10 t h s2 s3 s4 s5 s9 s10 hm1
    refine hK8 _ _ ?_
    unfold c6r at hm1
    refine b0b fun K hK => ?_
    simp only [go_sem, s10]
    refine hK _ _ ?_
    clear hK K
    simp only [go_sem]
    refine b0j (fun hc10 => ?_) (fun hc10 => ?_)
    ·rw [b0q hc10] at hm1
     refine b0b fun K hK => ?_
     simp only [go_sem]
     refine hK _ _ ?_
     clear hK K
     simp only [b0x, b1n, b2b, b0y]
     obtain rfl := sI9 hm1
     obtain rfl := hb3 _ rfl
     try dsimp only at hm0
     obtain rfl := sI9 hm0
     exact b04 (by simp only [go_sem]) (b0e _)
    ·rw [b0p hc10] at hm1
     simp only [b0r, b01, b0f]
     exact J7  _ _ s2 s3 s4 s5 s9 hm1
   simp only [b0u]
   obtain ⟨b11, hl11, hm1⟩ := b0g hm1
   refine b1l hl11 (fun | (all_10, k_11), t, h => t 2 = I input /\ t 3 = .fs 1 (List.map b0t c) /\ t 4 = .fp [.fs 1 (List.map eS m.Inputs), .fs 1 (List.map eS m.Outputs), .fs 2 (List.map b0m m.Counters), .fs 2 (List.map b0n m.States), .fs 4 (List.map b0k m.Rules)] 0 /\ t 5 = .fp [I p.State, I p.Values.1, I p.Values.2] 0 /\ t 9 = I i_9 /\ t 10 = B all_10 /\ t 11 = I k_11) ?_ ?_
   ·exact ⟨s2, s3, s4, s5, s9, (by first | (simp only [go_sem]; done) | rfl), (by first | (simp only [go_sem]; done) | rfl)⟩
   ·rintro ⟨all_10, k_11⟩ o t h ⟨s2, s3, s4, s5, s9, s10, s11⟩ hm2 hb11
    simp only [c2z] at hm2
    rw [g2i]
    refine b0v ?_
    obtain ⟨x13, h_x13, hm2⟩ := b0g hm2
    have h_x130 := b06 h_x13
    have h_x131 := b07 h_x13
    refine b0b fun K hK => ?_
    simp only [go_sem, s3, s9, s11, b1a h_x13]
    refine hK _ _ ?_
    clear hK K
    refine b0i fun K14 hK14 => ?_
    simp only [go_sem]
    refine b0j (fun hc15 => ?_) (fun hc15 => ?_)
    ·rw [b0q hc15] at hm2
     simp only [b0r, b0f]
     refine hK14 _ _ ?_
     refine b0i fun K16 hK16 => ?_
     simp only [b0u]
     obtain ⟨c22, h_c22, hm2⟩ := b0g hm2
     refine b9j (fun t h => t 2 = I input /\ t 3 = .fs 1 (List.map b0t c) /\ t 4 = .fp [.fs 1 (List.map eS m.Inputs), .fs 1 (List.map eS m.Outputs), .fs 2 (List.map b0m m.Counters), .fs 2 (List.map b0n m.States), .fs 4 (List.map b0k m.Rules)] 0 /\ t 5 = .fp [I p.State, I p.Values.1, I p.Values.2] 0 /\ t 9 = I i_9 /\ t 10 = B c22 /\ t 11 = I k_11) (fun K hK => ?_) ?_
     ·simp only [go_sem, s10]
      refine b0j (fun hg23 => ?_) (fun hg23 => ?_)
      ·simp only [hg23, eq_self, if_true] at h_c22
       obtain ⟨x20, h_x20, h_c22⟩ := b0g h_c22
       have h_x200 := b06 h_x20
       have h_x201 := b07 h_x20
       obtain ⟨y21, h_y21, h_c22⟩ := b0g h_c22
       obtain rfl := sI9 h_c22
       simp only [go_sem, s2, s3, s4, s5, s9, s11, b1a h_x20, h_x201, b1a h_x13, hg23]
       refine b03 (d13 m p input x20 _ h_y21) ?_
       simp only [go_sem, h_x201, hg23]
       exact hK _ _ ⟨s2, s3, s4, s5, s9, (by first | (simp only [go_sem]; done) | rfl), s11⟩
      ·simp only [hg23, if_false, Bool.false_eq_true] at h_c22
       obtain rfl := sI9 h_c22
       simp only [go_sem, hg23]
       exact hK _ _ ⟨s2, s3, s4, s5, s9, (by first | (simp only [go_sem]; done) | rfl), s11⟩
     ·rintro t h ⟨s2, s3, s4, s5, s9, s10, s11⟩
      simp only [b01, b0f]
      refine hK16 _ _ ?_
      refine b02 fun K hK => ?_
      simp only [go_sem, s11]
      refine hK _ _ ?_
      clear hK K
      simp only [b0f]
      obtain rfl := sI9 hm2
      refine ⟨_, rfl, ?_⟩
      exact ⟨s2, s3, s4, s5, s9, s10, (by first | (simp only [go_sem]; done) | rfl)⟩
    ·rw [b0p hc15] at hm2
     simp only [b1b, b1e, b1d, b0f]
     obtain rfl := sI9 hm2
     obtain rfl := hb11 _ rfl
     try dsimp only at hm1
     exact J9 all_10 _ _ s2 s3 s4 s5 s9 s10 hm1
  ·rw [b0p hc5] at hm1
   simp only [b1b, b1e, b1d, b0f]
   obtain rfl := sI9 hm1
   obtain rfl := hb3 _ rfl
   try dsimp only at hm0
   exact J2  _ _  hm0
theorem d1x (hf : Has O "newel/newelref04.Next" x_r04_Next) (b60 : c0y O) : c8x O := by
 intro m p input r hm0
 unfold c20 at hm0
 refine b1h hf rfl (b0a (.agg _ (b0a (b0c fun a _ => b00 a) (b0a (b0c fun a _ => b00 a) (b0a (b0c fun a _ => b1r a) (b0a (b0c fun a _ => b1t a) (b0a (b0c fun a _ => b1s a) b0l)))))) (b0a (.agg _ (b0a (b0e _) (b0a (b0e _) (b0a (b0e _) b0l)))) (b0a (b0e _) b0l))) (.agg _ (b0a (b0e _) (b0a (b0e _) (b0a (b0e _) b0l)))) ?_
 refine b1f (fun t h => t 0 = .agg [.fs 1 (List.map eS m.Inputs), .fs 1 (List.map eS m.Outputs), .fs 2 (List.map b0m m.Counters), .fs 2 (List.map b0n m.States), .fs 4 (List.map b0k m.Rules)] /\ t 1 = .agg [I p.State, I p.Values.1, I p.Values.2] /\ t 2 = I input) ⟨rfl, rfl, rfl⟩ fun t h ⟨s0, s1, s2⟩ => ?_
 simp only [x_r04_Next]
 refine b0b fun K hK => ?_
 simp only [go_sem, s0, s1]
 refine hK _ _ ?_
 clear hK K
 refine b0v ?_
 refine b0b fun K hK => ?_
 simp only [go_sem]
 refine hK _ _ ?_
 clear hK K
 refine b0i fun K1 hK1 => ?_
 have J2 : ∀ (i6 : Nat) (t : Slots) (h : Heap), t 4 = .fp [I p.State, I p.Values.1, I p.Values.2] 0 -> t 6 = .rp i6 0 0 -> h.ob i6 = some (3, [[I 0, I 0, I 0]]) -> i6 < h.nx -> c6u p = some r -> K1 t h := by
  intro i6 t h s4 s6 Q3 Q1 hm0
  refine hK1 _ _ ?_
  unfold c6u at hm0
  refine b0b fun K hK => ?_
  simp only [go_sem, s4, s6, Q3]
  refine hK _ _ ?_
  clear hK K
  simp only [b0x, b0y]
  obtain rfl := sI9 hm0
  exact b9l (id := i6) (m := 3) (cs := [I p.State, I p.Values.1, I p.Values.2]) (by simp only [go_sem, s6]) (by simp only [go_sem]) rfl (.refl _ (.agg _ (b0a (b0e _) (b0a (b0e _) (b0a (b0e _) b0l)))))
 simp only [b0u]
 obtain ⟨b3, hl3, hm0⟩ := b0g hm0
 refine b1l hl3 (fun | i_7, t, h => ∃ i6 : Nat, t 2 = I input /\ t 3 = .fp [.fs 1 (List.map eS m.Inputs), .fs 1 (List.map eS m.Outputs), .fs 2 (List.map b0m m.Counters), .fs 2 (List.map b0n m.States), .fs 4 (List.map b0k m.Rules)] 0 /\ t 4 = .fp [I p.State, I p.Values.1, I p.Values.2] 0 /\ t 6 = .rp i6 0 0 /\ t 7 = I i_7 /\ h.ob i6 = some (3, [[I 0, I 0, I 0]]) /\ i6 < h.nx) ?_ ?_
 ·exact ⟨h.nx, s2, (by first | (simp only [go_sem]; done) | rfl), (by first | (simp only [go_sem]; done) | rfl), (by first | (simp only [go_sem]; done) | rfl), (by first | (simp only [go_sem]; done) | rfl), (by simp only [go_sem]), (by simp only [go_sem])⟩
 ·rintro i_7 o t h ⟨i6, s2, s3, s4, s6, s7, Q3, Q1⟩ hm1 hb3
  simp only [c6s] at hm1
  rw [g2k]
  refine b0v ?_
  refine b0b fun K hK => ?_
  simp only [go_sem, s3, s7]
  refine hK _ _ ?_
  clear hK K
  refine b0i fun K4 hK4 => ?_
  simp only [go_sem]
  refine b0j (fun hc5 => ?_) (fun hc5 => ?_)
  ·rw [b0q hc5] at hm1
   simp only [b0r, b0f]
   refine hK4 _ _ ?_
   refine b0i fun K6 hK6 => ?_
   have J7 : ∀ (t : Slots) (h : Heap), t 2 = I input -> t 3 = .fp [.fs 1 (List.map eS m.Inputs), .fs 1 (List.map eS m.Outputs), .fs 2 (List.map b0m m.Counters), .fs 2 (List.map b0n m.States), .fs 4 (List.map b0k m.Rules)] 0 -> t 4 = .fp [I p.State, I p.Values.1, I p.Values.2] 0 -> t 6 = .rp i6 0 0 -> t 7 = I i_7 -> h.ob i6 = some (3, [[I 0, I 0, I 0]]) -> i6 < h.nx -> c6v i_7 = some o -> K6 t h := by
    intro t h s2 s3 s4 s6 s7 Q3 Q1 hm1
    refine hK6 _ _ ?_
    unfold c6v at hm1
    refine b02 fun K hK => ?_
    simp only [go_sem, s7]
    refine hK _ _ ?_
    clear hK K
    simp only [b0f]
    obtain rfl := sI9 hm1
    refine ⟨_, rfl, ?_⟩
    exact ⟨i6, s2, s3, s4, s6, (by first | (simp only [go_sem]; done) | rfl), Q3, Q1⟩
   simp only [b0u]
   obtain ⟨x9, h_x9, hm1⟩ := b0g hm1
   have h_x90 := b06 h_x9
   have h_x91 := b07 h_x9
   refine b0b fun K hK => ?_
   simp only [go_sem, s3, s7, b1a h_x9, h_x91]
   refine hK _ _ ?_
   clear hK K
   refine b0v ?_
   obtain ⟨c13, h_c13, hm1⟩ := b0g hm1
   refine b2z (fun t h => ∃ i8 : Nat, t 2 = I input /\ t 3 = .fp [.fs 1 (List.map eS m.Inputs), .fs 1 (List.map eS m.Outputs), .fs 2 (List.map b0m m.Counters), .fs 2 (List.map b0n m.States), .fs 4 (List.map b0k m.Rules)] 0 /\ t 4 = .fp [I p.State, I p.Values.1, I p.Values.2] 0 /\ t 6 = .rp i6 0 0 /\ t 7 = I i_7 /\ t 8 = .rp i8 0 0 /\ t 42 = B c13 /\ h.ob i6 = some (3, [[I 0, I 0, I 0]]) /\ i6 < h.nx /\ h.ob i8 = some (4, [[I x9.From, I x9.To, .fs 1 (List.map b0t x9.When), .fs 2 (List.map b2k x9.Sets)]]) /\ i8 < h.nx /\ ¬i6 = i8) (fun K hK => ?_) ?_
   ·simp only [go_sem]
    refine b0j (fun hg14 => ?_) (fun hg14 => ?_)
    ·simp only [go_sem, s4, hg14]
     refine b0j (fun hg15 => ?_) (fun hg15 => ?_)
     ·simp only [hg14, hg15, eq_self, if_true, Bool.and_true] at h_c13
      obtain rfl := sI9 h_c13
      simp only [go_sem, hg14, hg15]
      exact hK _ _ ⟨h.nx, s2, s3, s4, s6, s7, (by first | (simp only [go_sem]; done) | rfl), (by first | (simp only [go_sem]; done) | rfl), (by simp only [go_sem, Q3, Q1]), (by simp only [go_sem, Q1]), (by simp only [go_sem]), (by simp only [go_sem]), (by first | first | assumption | omega | (simp only [nxs] <;> omega))⟩
     ·simp only [hg14, hg15, if_false, Bool.and_false, Bool.false_eq_true] at h_c13
      obtain ⟨y12, h_y12, h_c13⟩ := b0g h_c13
      obtain rfl := sI9 h_c13
      simp only [go_sem, s2, s3, s4, hg14, hg15]
      refine b03 (b60 m p input x9.When _ h_y12) ?_
      simp only [go_sem, hg14, hg15]
      exact hK _ _ ⟨h.nx, s2, s3, s4, s6, s7, (by first | (simp only [go_sem]; done) | rfl), (by first | (simp only [go_sem]; done) | rfl), (by simp only [go_sem, Q3, Q1]), (by simp only [go_sem, Q1]), (by simp only [go_sem]), (by simp only [go_sem]), (by first | first | assumption | omega | (simp only [nxs] <;> omega))⟩
    ·simp only [hg14, if_false, Bool.false_and, Bool.false_eq_true] at h_c13
     obtain ⟨y12, h_y12, h_c13⟩ := b0g h_c13
     obtain rfl := sI9 h_c13
     simp only [go_sem, s2, s3, s4, hg14]
     refine b03 (b60 m p input x9.When _ h_y12) ?_
     simp only [go_sem, hg14]
     exact hK _ _ ⟨h.nx, s2, s3, s4, s6, s7, (by first | (simp only [go_sem]; done) | rfl), (by first | (simp only [go_sem]; done) | rfl), (by simp only [go_sem, Q3, Q1]), (by simp only [go_sem, Q1]), (by simp only [go_sem]), (by simp only [go_sem]), (by first | first | assumption | omega | (simp only [nxs] <;> omega))⟩
   ·rintro t h ⟨i8, s2, s3, s4, s6, s7, s8, s42, Q3, Q1, Q2, Q0, Qe⟩
    refine b0i fun K16 hK16 => ?_
    simp only [go_sem, s42]
    refine b0j (fun hc17 => ?_) (fun hc17 => ?_)
    ·rw [b0q hc17] at hm1
     simp only [b1b, b1e, b1d, b0f]
     exact J7  _ _ s2 s3 s4 s6 s7 Q3 Q1 hm1
    ·rw [b0p hc17] at hm1
     simp only [b0r, b0f]
     refine hK16 _ _ ?_
     refine b0b fun K hK => ?_
     simp only [go_sem, s4]
     refine hK _ _ ?_
     clear hK K
     refine b0v ?_
     refine b0b fun K hK => ?_
     simp only [go_sem]
     refine hK _ _ ?_
     clear hK K
     refine b0i fun K18 hK18 => ?_
     have J19 : ∀ (q_9_1 : Int) (q_9_2 : Int) (i9 : Nat) (t : Slots) (h : Heap), t 6 = .rp i6 0 0 -> t 8 = .rp i8 0 0 -> t 9 = .rp i9 0 0 -> h.ob i6 = some (3, [[I 0, I 0, I 0]]) -> i6 < h.nx -> h.ob i8 = some (4, [[I x9.From, I x9.To, .fs 1 (List.map b0t x9.When), .fs 2 (List.map b2k x9.Sets)]]) -> i8 < h.nx -> h.ob i9 = some (3, [[I p.State, I q_9_1, I q_9_2]]) -> i9 < h.nx -> ¬i6 = i8 -> ¬i6 = i9 -> ¬i8 = i9 -> c6t x9 q_9_1 q_9_2 = some o -> K18 t h := by
      try clear s2 s3 s4 s6 s7 s8 s42 Q3 Q1 Q2 Q0 Qe
      intro q_9_1 q_9_2 i9 t h s6 s8 s9 Q3 Q1 Q2 Q0 Qw Q13 Qe Q16 Q18 hm1
      refine hK18 _ _ ?_
      unfold c6t at hm1
      refine b0b fun K hK => ?_
      simp only [go_sem, s8, s9, Q2, Qw]
      refine hK _ _ ?_
      clear hK K
      refine b0b fun K hK => ?_
      simp only [go_sem, s6, s9, Q3, Q16]
      refine hK _ _ ?_
      clear hK K
      simp only [b0x, b1n, b2b, b0y]
      obtain rfl := sI9 hm1
      obtain rfl := hb3 _ rfl
      try dsimp only at hm0
      obtain rfl := sI9 hm0
      exact b9l (id := i6) (m := 3) (cs := [I x9.To, I q_9_1, I q_9_2]) (by simp only [go_sem, s6]) (by simp only [go_sem]) rfl (.refl _ (.agg _ (b0a (b0e _) (b0a (b0e _) (b0a (b0e _) b0l)))))
     simp only [b0u]
     obtain ⟨b20, hl20, hm1⟩ := b0g hm1
     refine b1l hl20 (fun | (q_9_1, q_9_2, k_10), t, h => ∃ i9 : Nat, t 3 = .fp [.fs 1 (List.map eS m.Inputs), .fs 1 (List.map eS m.Outputs), .fs 2 (List.map b0m m.Counters), .fs 2 (List.map b0n m.States), .fs 4 (List.map b0k m.Rules)] 0 /\ t 6 = .rp i6 0 0 /\ t 8 = .rp i8 0 0 /\ t 9 = .rp i9 0 0 /\ t 10 = I k_10 /\ h.ob i6 = some (3, [[I 0, I 0, I 0]]) /\ i6 < h.nx /\ h.ob i8 = some (4, [[I x9.From, I x9.To, .fs 1 (List.map b0t x9.When), .fs 2 (List.map b2k x9.Sets)]]) /\ i8 < h.nx /\ h.ob i9 = some (3, [[I p.State, I q_9_1, I q_9_2]]) /\ i9 < h.nx /\ ¬i6 = i8 /\ ¬i6 = i9 /\ ¬i8 = i9) ?_ ?_
     ·exact ⟨h.nx, s3, s6, s8, (by first | (simp only [go_sem]; done) | rfl), (by first | (simp only [go_sem]; done) | rfl), (by simp only [go_sem, Q3, Q1]), (by simp only [go_sem, Q1]), (by simp only [go_sem, Q2, Q0]), (by simp only [go_sem, Q0]), (by simp only [go_sem]), (by simp only [go_sem]), Qe, (by first | first | assumption | omega | (simp only [nxs] <;> omega)), (by first | first | assumption | omega | (simp only [nxs] <;> omega))⟩
     ·try clear s2 s3 s4 s6 s7 s8 s42 Q3 Q1 Q2 Q0 Qe
      rintro ⟨q_9_1, q_9_2, k_10⟩ o t h ⟨i9, s3, s6, s8, s9, s10, Q3, Q1, Q2, Q0, Qw, Q13, Qe, Q16, Q18⟩ hm2 hb20
      simp only [c21] at hm2
      rw [g2j]
      refine b0v ?_
      refine b0b fun K hK => ?_
      simp only [go_sem, s8, s10, Q2]
      refine hK _ _ ?_
      clear hK K
      refine b0i fun K21 hK21 => ?_
      simp only [go_sem]
      refine b0j (fun hc22 => ?_) (fun hc22 => ?_)
      ·rw [b0q hc22] at hm2
       simp only [b0r, b0f]
       refine hK21 _ _ ?_
       refine b0i fun K23 hK23 => ?_
       have J24 : ∀ (q_9_1_1 : Int) (q_9_2_1 : Int) (t : Slots) (h : Heap), t 3 = .fp [.fs 1 (List.map eS m.Inputs), .fs 1 (List.map eS m.Outputs), .fs 2 (List.map b0m m.Counters), .fs 2 (List.map b0n m.States), .fs 4 (List.map b0k m.Rules)] 0 -> t 6 = .rp i6 0 0 -> t 8 = .rp i8 0 0 -> t 9 = .rp i9 0 0 -> t 10 = I k_10 -> h.ob i6 = some (3, [[I 0, I 0, I 0]]) -> i6 < h.nx -> h.ob i8 = some (4, [[I x9.From, I x9.To, .fs 1 (List.map b0t x9.When), .fs 2 (List.map b2k x9.Sets)]]) -> i8 < h.nx -> h.ob i9 = some (3, [[I p.State, I q_9_1_1, I q_9_2_1]]) -> i9 < h.nx -> ¬i6 = i8 -> ¬i6 = i9 -> ¬i8 = i9 -> b8t k_10 q_9_1_1 q_9_2_1 = some o -> K23 t h := by
        try clear s3 s6 s8 s9 s10 Q3 Q1 Q2 Q0 Qw Q13 Qe Q16 Q18
        intro q_9_1_1 q_9_2_1 t h s3 s6 s8 s9 s10 Q3 Q1 Q2 Q0 Qw Q13 Qe Q16 Q18 hm2
        refine hK23 _ _ ?_
        unfold b8t at hm2
        refine b02 fun K hK => ?_
        simp only [go_sem, s10]
        refine hK _ _ ?_
        clear hK K
        simp only [b0f]
        obtain rfl := sI9 hm2
        refine ⟨_, rfl, ?_⟩
        exact ⟨i9, s3, s6, s8, s9, (by first | (simp only [go_sem]; done) | rfl), Q3, Q1, Q2, Q0, Qw, Q13, Qe, Q16, Q18⟩
       simp only [b0u]
       obtain ⟨x26, h_x26, hm2⟩ := b0g hm2
       have h_x260 := b06 h_x26
       have h_x261 := b07 h_x26
       refine b0b fun K hK => ?_
       simp only [go_sem, s8, s10, Q2, b1a h_x26, h_x261]
       refine hK _ _ ?_
       clear hK K
       refine b0b fun K hK => ?_
       simp only [go_sem, s8, s10, Q2, b1a h_x26]
       refine hK _ _ ?_
       clear hK K
       simp only [b0u]
       refine b0b fun K hK => ?_
       simp only [go_sem]
       refine hK _ _ ?_
       clear hK K
       simp only [go_sem]
       refine b0j (fun hc27 => ?_) (fun hc27 => ?_)
       ·rw [b0q hc27] at hm2
        obtain ⟨x29, h_x29, hm2⟩ := b0g hm2
        have ha_x29 : ∀ v : Int, List.take (1 + Int.toNat (x26.Counter)) [I p.State, I q_9_1, I q_9_2] ++ [I v] ++ List.drop (1 + Int.toNat (x26.Counter)) [I q_9_1, I q_9_2] = [I p.State, I (b1k (x26.Counter) 0 v q_9_1), I (b1k (x26.Counter) 1 v q_9_2)] := fun v => (c0n (cs := [I p.State, I q_9_1, I q_9_2]) (off := 1) (v := v) h_x29 rfl).trans (by rw [c0m h_x29]; rfl)
        have hb_x29 : 1 + Int.toNat (x26.Counter) + 1 <= 3 := Nat.le_trans (Nat.add_le_add_left (b9t h_x29) 1) (by simp)
        refine b02 fun K hK => ?_
        simp only [go_sem, s9, Qw, c5r (n := 2) (l := [q_9_1, q_9_2]) h_x29 rfl, ha_x29, hb_x29]
        refine hK _ _ ?_
        clear hK K
        simp only [b01, b0f]
        exact J24 (b1k x26.Counter 0 0 q_9_1) (b1k x26.Counter 1 0 q_9_2) _ _ s3 s6 s8 s9 s10 (by simp only [go_sem, Q3, Q16]) (by simp only [go_sem, Q1]) (by simp only [go_sem, Q2, Q18]) (by simp only [go_sem, Q0]) (by simp only [go_sem]) (by simp only [go_sem, Q13]) Qe Q16 Q18 hm2
       ·rw [b0p hc27] at hm2
        refine b0b fun K hK => ?_
        simp only [go_sem]
        refine hK _ _ ?_
        clear hK K
        simp only [go_sem]
        refine b0j (fun hc30 => ?_) (fun hc30 => ?_)
        ·rw [b0q hc30] at hm2
         obtain ⟨x33, h_x33, hm2⟩ := b0g hm2
         have ha_x33 : ∀ v : Int, List.take (1 + Int.toNat (x26.Counter)) [I p.State, I q_9_1, I q_9_2] ++ [I v] ++ List.drop (1 + Int.toNat (x26.Counter)) [I q_9_1, I q_9_2] = [I p.State, I (b1k (x26.Counter) 0 v q_9_1), I (b1k (x26.Counter) 1 v q_9_2)] := fun v => (c0n (cs := [I p.State, I q_9_1, I q_9_2]) (off := 1) (v := v) h_x33 rfl).trans (by rw [c0m h_x33]; rfl)
         have hb_x33 : 1 + Int.toNat (x26.Counter) + 1 <= 3 := Nat.le_trans (Nat.add_le_add_left (b9t h_x33) 1) (by simp)
         obtain ⟨x34, h_x34, hm2⟩ := b0g hm2
         have h_x340 := b06 h_x34
         have h_x341 := b07 h_x34
         refine b02 fun K hK => ?_
         simp only [go_sem, s3, s9, Qw, c5r (n := 2) (l := [q_9_1, q_9_2]) h_x33 rfl, b9v (cs := [I p.State, I q_9_1, I q_9_2]) (off := 1) h_x33 rfl, ha_x33, hb_x33, b1a h_x34]
         refine hK _ _ ?_
         clear hK K
         simp only [b01, b0f]
         exact J24 (b1k x26.Counter 0 (mn (wr (x33 + 1)) x34.Max) q_9_1) (b1k x26.Counter 1 (mn (wr (x33 + 1)) x34.Max) q_9_2) _ _ s3 s6 s8 s9 s10 (by simp only [go_sem, Q3, Q16]) (by simp only [go_sem, Q1]) (by simp only [go_sem, Q2, Q18]) (by simp only [go_sem, Q0]) (by simp only [go_sem]) (by simp only [go_sem, Q13]) Qe Q16 Q18 hm2
        ·rw [b0p hc30] at hm2
         refine b0b fun K hK => ?_
         simp only [go_sem]
         refine hK _ _ ?_
         clear hK K
         simp only [go_sem]
         refine b0j (fun hc35 => ?_) (fun hc35 => ?_)
         ·rw [b0q hc35] at hm2
          obtain ⟨x37, h_x37, hm2⟩ := b0g hm2
          have ha_x37 : ∀ v : Int, List.take (1 + Int.toNat (x26.Counter)) [I p.State, I q_9_1, I q_9_2] ++ [I v] ++ List.drop (1 + Int.toNat (x26.Counter)) [I q_9_1, I q_9_2] = [I p.State, I (b1k (x26.Counter) 0 v q_9_1), I (b1k (x26.Counter) 1 v q_9_2)] := fun v => (c0n (cs := [I p.State, I q_9_1, I q_9_2]) (off := 1) (v := v) h_x37 rfl).trans (by rw [c0m h_x37]; rfl)
          have hb_x37 : 1 + Int.toNat (x26.Counter) + 1 <= 3 := Nat.le_trans (Nat.add_le_add_left (b9t h_x37) 1) (by simp)
          refine b02 fun K hK => ?_
          simp only [go_sem, s9, Qw, c5r (n := 2) (l := [q_9_1, q_9_2]) h_x37 rfl, b9v (cs := [I p.State, I q_9_1, I q_9_2]) (off := 1) h_x37 rfl, ha_x37, hb_x37]
          refine hK _ _ ?_
          clear hK K
          simp only [b01, b0f]
          exact J24 (b1k x26.Counter 0 (mx (wr (x37 - 1)) 0) q_9_1) (b1k x26.Counter 1 (mx (wr (x37 - 1)) 0) q_9_2) _ _ s3 s6 s8 s9 s10 (by simp only [go_sem, Q3, Q16]) (by simp only [go_sem, Q1]) (by simp only [go_sem, Q2, Q18]) (by simp only [go_sem, Q0]) (by simp only [go_sem]) (by simp only [go_sem, Q13]) Qe Q16 Q18 hm2
         ·rw [b0p hc35] at hm2
          simp only [b0r, b01, b0f]
          exact J24 q_9_1 q_9_2 _ _ s3 s6 s8 s9 s10 Q3 Q1 Q2 Q0 Qw Q13 Qe Q16 Q18 hm2
      ·rw [b0p hc22] at hm2
       simp only [b1b, b1e, b1d, b0f]
       obtain rfl := sI9 hm2
       obtain rfl := hb20 _ rfl
       try dsimp only at hm1
       exact J19 q_9_1 q_9_2 i9 _ _ s6 s8 s9 Q3 Q1 Q2 Q0 Qw Q13 Qe Q16 Q18 hm1
  ·rw [b0p hc5] at hm1
   simp only [b1b, b1e, b1d, b0f]
   obtain rfl := sI9 hm1
   obtain rfl := hb3 _ rfl
   try dsimp only at hm0
   exact J2 i6 _ _ s4 s6 Q3 Q1 hm0
theorem d1y (hf : Has O "newel/newelref04.Stuck" x_r04_Stuck) (d1u : c8u O) (d11 : c81 O) (d1d : c8d O) : c8y O := by
 intro m assume never r hm0
 unfold c23 at hm0
 refine b1h hf rfl (b0a (.agg _ (b0a (b0c fun a _ => b00 a) (b0a (b0c fun a _ => b00 a) (b0a (b0c fun a _ => b1r a) (b0a (b0c fun a _ => b1t a) (b0a (b0c fun a _ => b1s a) b0l)))))) (b0a (b0c fun a _ => b2l a) (b0a (b0c fun a _ => b2l a) b0l))) (.tup _ (b0a (b0e _) (b0a (b0e _) (b0a (b0c fun a _ => b13 a) (b0a (b0e _) (b0a (b0e _) b0l)))))) ?_
 refine b1f (fun t h => t 0 = .agg [.fs 1 (List.map eS m.Inputs), .fs 1 (List.map eS m.Outputs), .fs 2 (List.map b0m m.Counters), .fs 2 (List.map b0n m.States), .fs 4 (List.map b0k m.Rules)] /\ t 1 = .fs 1 (List.map b0t assume) /\ t 2 = .fs 1 (List.map b0t never)) ⟨rfl, rfl, rfl⟩ fun t h ⟨s0, s1, s2⟩ => ?_
 simp only [x_r04_Stuck]
 refine b0b fun K hK => ?_
 simp only [go_sem, s0]
 refine hK _ _ ?_
 clear hK K
 obtain ⟨y2, h_y2, hm0⟩ := b0g hm0
 refine b0b fun K hK => ?_
 simp only [go_sem, s1, s2]
 refine c5o ?_ (d1u m ([assume, never]) _ h_y2) (.v _) ?_
 ·exact .cons (.refl _ (.agg _ (b0a (b0c fun a _ => b00 a) (b0a (b0c fun a _ => b00 a) (b0a (b0c fun a _ => b1r a) (b0a (b0c fun a _ => b1t a) (b0a (b0c fun a _ => b1s a) b0l))))))) (.cons (b3e (f := b41) (l := ([assume, never])) (id := h.nx) (by simp only [go_sem]) (by first | rfl | simp only [go_sem, lA9, mA9]) c5d d9c) (.nil))
 simp only [go_sem]
 refine hK _ _ ?_
 clear hK K
 refine b0v ?_
 refine b0b fun K hK => ?_
 simp only [go_sem]
 refine hK _ _ ?_
 clear hK K
 refine b0i fun K3 hK3 => ?_
 simp only [go_sem]
 refine b0j (fun hc4 => ?_) (fun hc4 => ?_)
 ·rw [b0q hc4] at hm0
  refine b0b fun K hK => ?_
  simp only [go_sem]
  refine hK _ _ ?_
  clear hK K
  simp only [b0x, b1n, b0y]
  obtain rfl := sI9 hm0
  exact c1s (v := I 0) (u := I 0) (x := .v (.slice none 0 0)) (q := B false) (i := I y2) (by simp only [go_sem]) (by simp only [go_sem]) (by simp only [go_sem]) (by simp only [go_sem]) (by simp only [go_sem]) (.refl _ (b0e _)) (.refl _ (b0e _)) (.nil _) (.refl _ (b0e _)) (.refl _ (b0e _))
 ·rw [b0p hc4] at hm0
  simp only [b0r, b0f]
  refine hK3 _ _ ?_
  refine b0v ?_
  refine b0b fun K hK => ?_
  simp only [go_sem]
  refine hK _ _ ?_
  clear hK K
  refine b0i fun K5 hK5 => ?_
  have J6 : ∀ (t : Slots) (h : Heap), c6x = some r -> K5 t h := by
   intro t h hm0
   refine hK5 _ _ ?_
   unfold c6x at hm0
   refine b0b fun K hK => ?_
   simp only [go_sem]
   refine hK _ _ ?_
   clear hK K
   simp only [b0x, b0y]
   obtain rfl := sI9 hm0
   exact c1s (v := I 0) (u := I 0) (x := .v (.slice none 0 0)) (q := B false) (i := I 0) (by simp only [go_sem]) (by simp only [go_sem]) (by simp only [go_sem]) (by simp only [go_sem]) (by simp only [go_sem]) (.refl _ (b0e _)) (.refl _ (b0e _)) (.nil _) (.refl _ (b0e _)) (.refl _ (b0e _))
  simp only [b0u]
  obtain ⟨b7, hl7, hm0⟩ := b0g hm0
  refine b1l hl7 (fun | i_12, t, h => t 1 = .fs 1 (List.map b0t assume) /\ t 2 = .fs 1 (List.map b0t never) /\ t 3 = .fp [.fs 1 (List.map eS m.Inputs), .fs 1 (List.map eS m.Outputs), .fs 2 (List.map b0m m.Counters), .fs 2 (List.map b0n m.States), .fs 4 (List.map b0k m.Rules)] 0 /\ t 12 = I i_12) ?_ ?_
  ·exact ⟨s1, s2, (by first | (simp only [go_sem]; done) | rfl), (by first | (simp only [go_sem]; done) | rfl)⟩
  ·rintro i_12 o t h ⟨s1, s2, s3, s12⟩ hm1 hb7
   simp only [c0c] at hm1
   rw [g2m]
   refine b0v ?_
   refine b0b fun K hK => ?_
   simp only [go_sem, s3, s12]
   refine hK _ _ ?_
   clear hK K
   refine b0i fun K8 hK8 => ?_
   simp only [go_sem]
   refine b0j (fun hc9 => ?_) (fun hc9 => ?_)
   ·rw [b0q hc9] at hm1
    simp only [b0r, b0f]
    refine hK8 _ _ ?_
    refine b0i fun K10 hK10 => ?_
    have J11 : ∀ (t : Slots) (h : Heap), t 1 = .fs 1 (List.map b0t assume) -> t 2 = .fs 1 (List.map b0t never) -> t 3 = .fp [.fs 1 (List.map eS m.Inputs), .fs 1 (List.map eS m.Outputs), .fs 2 (List.map b0m m.Counters), .fs 2 (List.map b0n m.States), .fs 4 (List.map b0k m.Rules)] 0 -> t 12 = I i_12 -> c6w i_12 = some o -> K10 t h := by
     intro t h s1 s2 s3 s12 hm1
     refine hK10 _ _ ?_
     unfold c6w at hm1
     refine b02 fun K hK => ?_
     simp only [go_sem, s12]
     refine hK _ _ ?_
     clear hK K
     simp only [b0f]
     obtain rfl := sI9 hm1
     refine ⟨_, rfl, ?_⟩
     exact ⟨s1, s2, s3, (by first | (simp only [go_sem]; done) | rfl)⟩
    simp only [b0u]
    refine b0b fun K hK => ?_
    simp only [go_sem]
    refine hK _ _ ?_
    clear hK K
    simp only [b0u]
    obtain ⟨b12, hl12, hm1⟩ := b0g hm1
    refine b1l hl12 (fun | value_13, t, h => t 1 = .fs 1 (List.map b0t assume) /\ t 2 = .fs 1 (List.map b0t never) /\ t 3 = .fp [.fs 1 (List.map eS m.Inputs), .fs 1 (List.map eS m.Outputs), .fs 2 (List.map b0m m.Counters), .fs 2 (List.map b0n m.States), .fs 4 (List.map b0k m.Rules)] 0 /\ t 12 = I i_12 /\ t 13 = I value_13) ?_ ?_
    ·exact ⟨s1, s2, s3, s12, (by first | (simp only [go_sem]; done) | rfl)⟩
    ·rintro value_13 o t h ⟨s1, s2, s3, s12, s13⟩ hm2 hb12
     simp only [b8u] at hm2
     rw [g2l]
     refine b0v ?_
     refine b0b fun K hK => ?_
     simp only [go_sem, s13]
     refine hK _ _ ?_
     clear hK K
     refine b0i fun K13 hK13 => ?_
     simp only [go_sem]
     refine b0j (fun hc14 => ?_) (fun hc14 => ?_)
     ·rw [b0q hc14] at hm2
      simp only [b0r, b0f]
      refine hK13 _ _ ?_
      refine b0i fun K15 hK15 => ?_
      simp only [b0u]
      obtain ⟨y17, h_y17, hm2⟩ := b0g hm2
      refine b0b fun K hK => ?_
      simp only [go_sem, s1, s3, s12, s13]
      refine b03 (d11 m assume i_12 value_13 _ h_y17) ?_
      simp only [go_sem]
      refine hK _ _ ?_
      clear hK K
      obtain ⟨y19, h_y19, hm2⟩ := b0g hm2
      refine b0b fun K hK => ?_
      simp only [go_sem, s2, s3]
      refine b03 (d1d y17 m never _ h_y19) ?_
      simp only [go_sem]
      refine hK _ _ ?_
      clear hK K
      refine b0b fun K hK => ?_
      simp only [go_sem]
      refine hK _ _ ?_
      clear hK K
      simp only [go_sem]
      refine b0j (fun hc20 => ?_) (fun hc20 => ?_)
      ·rw [b0q hc20] at hm2
       refine b0b fun K hK => ?_
       simp only [go_sem, s12, s13]
       refine hK _ _ ?_
       clear hK K
       simp only [b0x, b1n, b2b, b0y]
       obtain rfl := sI9 hm2
       obtain rfl := hb12 _ rfl
       try dsimp only at hm1
       obtain rfl := sI9 hm1
       obtain rfl := hb7 _ rfl
       try dsimp only at hm0
       obtain rfl := sI9 hm0
       exact d49 (by simp only [go_sem]) (by simp only [go_sem]) (by simp only [go_sem]) (by simp only [go_sem]) (by simp only [go_sem]) (b0e _) (b0e _) (b0c fun a _ => b13 a) (b0e _) (b0e _)
      ·rw [b0p hc20] at hm2
       simp only [b0r, b01, b0f]
       refine hK15 _ _ ?_
       refine b02 fun K hK => ?_
       simp only [go_sem, s13]
       refine hK _ _ ?_
       clear hK K
       simp only [b0f]
       obtain rfl := sI9 hm2
       refine ⟨_, rfl, ?_⟩
       exact ⟨s1, s2, s3, s12, (by first | (simp only [go_sem]; done) | rfl)⟩
     ·rw [b0p hc14] at hm2
      simp only [b1b, b1e, b1d, b01, b0f]
      obtain rfl := sI9 hm2
      obtain rfl := hb12 _ rfl
      try dsimp only at hm1
      exact J11  _ _ s1 s2 s3 s12 hm1
   ·rw [b0p hc9] at hm1
    simp only [b1b, b1e, b1d, b0f]
    obtain rfl := sI9 hm1
    obtain rfl := hb7 _ rfl
    try dsimp only at hm0
    exact J6  _ _  hm0
theorem d10 (hf : Has O "newel/newelref04.all" x_r04_all) : c80 O := by
 intro m r hm0
 unfold c29 at hm0
 refine b1h hf rfl (b0a (.agg _ (b0a (b0c fun a _ => b00 a) (b0a (b0c fun a _ => b00 a) (b0a (b0c fun a _ => b1r a) (b0a (b0c fun a _ => b1t a) (b0a (b0c fun a _ => b1s a) b0l)))))) b0l) (b0e _) ?_
 refine b1f (fun t h => t 0 = .agg [.fs 1 (List.map eS m.Inputs), .fs 1 (List.map eS m.Outputs), .fs 2 (List.map b0m m.Counters), .fs 2 (List.map b0n m.States), .fs 4 (List.map b0k m.Rules)]) rfl fun t h s0 => ?_
 simp only [x_r04_all]
 refine b0b fun K hK => ?_
 simp only [go_sem, s0]
 refine hK _ _ ?_
 clear hK K
 obtain ⟨q2, h_q2, hm0⟩ := b0g hm0
 refine b0b fun K hK => ?_
 simp only [go_sem, b8g h_q2]
 refine hK _ _ ?_
 clear hK K
 simp only [b0x, b0y]
 obtain rfl := sI9 hm0
 exact b04 (by simp only [go_sem]) (b0e _)
theorem d17 (hf : Has O "newel/situation.Check$1" x_situation_CheckD1) : c87 O := by
 intro x
 generalize hm0 : b7k x = r
 unfold b7k at hm0
 refine b1h hf rfl (b0a (.agg _ (b0a (b0e _) (b0a (b0e _) (b0a (b0e _) (b0a (b0e _) b0l))))) b0l) (b0e _) ?_
 refine b1f (fun t h => t 0 = .agg [I x.Kind, I x.Number, I x.Value, B x.Not]) rfl fun t h s0 => ?_
 simp only [x_situation_CheckD1]
 refine b0b fun K hK => ?_
 simp only [go_sem, s0]
 refine hK _ _ ?_
 clear hK K
 refine b0b fun K hK => ?_
 simp only [go_sem]
 refine hK _ _ ?_
 clear hK K
 simp only [b0x, b0y]
 obtain rfl := hm0
 exact b04 (by simp only [go_sem]) (b0e _)
end Go.Nw.KM
