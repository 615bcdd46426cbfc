/- That the texts make what their models say: printed by a program. -/
import Derived.Test.YtfahaljhgfjooaaDoorKM
set_option linter.all false
namespace Go.Nw.KM
open Go.Nw.Ctl
set_option maxHeartbeats 4000000
variable {O : Orac} [MapsOk O]
theorem d2w (hf : Has O "(newel/situation.Plant).All" x__situation_Plant__All) : c9y O := by
 intro m r hm0
 unfold c1y at hm0
 refine b1i hf rfl (b0a (fM _) b0j) (b0e _) ?_
 refine b1c (fun t h => t 0 = .agg (vM m.Machine)) rfl fun t h s0 => ?_
 simp only [x__situation_Plant__All]
 refine b0b fun K hK => ?_
 simp only [go_sem, s0]
 refine hK _ _ ?_
 clear hK K
 obtain ⟨q2, h_q2, hm0⟩ := b0g hm0
 refine b0b fun K hK => ?_
 simp only [go_sem, c21 h_q2]
 refine hK _ _ ?_
 clear hK K
 simp only [b0x, b0y]
 obtain rfl := sI9 hm0
 exact b04 (by simp only [go_sem]) (b0e _)
theorem d2x (hf : Has O "(newel/situation.Plant).Allowed" x__situation_Plant__Allowed) (b52 : b89 O) : c9z O := by
 intro m assume p input r hm0
 unfold c1z at hm0
 refine b1i hf rfl (b0a (fM _) (b0a (b0c fun a _ => b2j a) (b0a (.agg _ (b0a (b0e _) (b0a (b0e _) (b0a (b0e _) b0j)))) (b0a (b0e _) b0j)))) (b0e _) ?_
 refine b1c (fun t h => t 0 = .agg (vM m.Machine) /\ t 1 = .fs 1 (List.map b0t assume) /\ t 2 = .agg [I p.State, I p.Values.1, I p.Values.2] /\ t 3 = I input) ⟨rfl, rfl, rfl, rfl⟩ fun t h ⟨s0, s1, s2, s3⟩ => ?_
 simp only [x__situation_Plant__Allowed]
 refine b0b fun K hK => ?_
 simp only [go_sem, s0, s2]
 refine hK _ _ ?_
 clear hK K
 obtain ⟨c4, h_c4, hm0⟩ := b0g hm0
 refine b2p (fun t h => t 8 = B c4) (fun K hK => ?_) ?_
 ·simp only [go_sem, s1]
  refine b0k (fun hg5 => ?_) (fun hg5 => ?_)
  ·simp only [hg5, eq_self, if_true] at h_c4
   obtain rfl := sI9 h_c4
   simp only [go_sem, hg5]
   exact hK _ _ (by first | (simp only [go_sem]; done) | rfl)
  ·simp only [hg5, if_false, fT9] at h_c4
   obtain ⟨y3, h_y3, h_c4⟩ := b0g h_c4
   obtain rfl := sI9 h_c4
   simp only [go_sem, s1, s3, hg5]
   refine b01 (b52 m assume p input _ h_y3) ?_
   simp only [go_sem, hg5]
   exact hK _ _ (by first | (simp only [go_sem]; done) | rfl)
 ·rintro t h s8
  simp only [b0x, b0y]
  obtain rfl := sI9 hm0
  exact b04 (by simp only [go_sem, s8]) (b0e _)
theorem b52 (hf : Has O "(newel/situation.Plant).Holds" x__situation_Plant__Holds) (d3t : d0w O) (d2y : c90 O) : b89 O := by
 intro m c p input r hm0
 unfold b6v at hm0
 refine b1i hf rfl (b0a (fM _) (b0a (b0c fun a _ => b2j a) (b0a (.agg _ (b0a (b0e _) (b0a (b0e _) (b0a (b0e _) b0j)))) (b0a (b0e _) b0j)))) (b0e _) ?_
 refine b1c (fun t h => t 0 = .agg (vM m.Machine) /\ t 1 = .fs 1 (List.map b0t c) /\ t 2 = .agg [I p.State, I p.Values.1, I p.Values.2] /\ t 3 = I input) ⟨rfl, rfl, rfl, rfl⟩ fun t h ⟨s0, s1, s2, s3⟩ => ?_
 simp only [x__situation_Plant__Holds]
 refine b0b fun K hK => ?_
 simp only [go_sem, s0, s2, s3]
 refine hK _ _ ?_
 clear hK K
 obtain ⟨y4, h_y4, hm0⟩ := b0g hm0
 refine b0b fun K hK => ?_
 simp only [go_sem, s1]
 refine b01 (d3t c "(newel/situation.Plant).Holds$1" [] [.fp (vM m.Machine) 0, .fp [I p.State, I p.Values.1, I p.Values.2] 0, .fp [I input] 0] (fun z3 => b74 z3 m p input) (.fn _ _ _ b0j (b0a (.fp _ _ (b0a (b0c fun a _ => b0z a) (b0a (b0c fun a _ => b0z a) (b0a (b0c fun a _ => b1q a) (b0a (b0c fun a _ => b1s a) (b0a (b0c fun a _ => b1r a) b0j)))))) (b0a (.fp _ _ (b0a (b0e _) (b0a (b0e _) (b0a (b0e _) b0j)))) (b0a (.fp _ _ (b0a (b0e _) b0j)) b0j)))) (fun z0 y hz => d2y z0 m p input y hz) _ h_y4) ?_
 simp only [go_sem]
 refine hK _ _ ?_
 clear hK K
 simp only [b0x, b0y]
 obtain rfl := sI9 hm0
 exact b04 (by simp only [go_sem]) (b0e _)
theorem d2y (hf : Has O "(newel/situation.Plant).Holds$1" x__situation_Plant__HoldsD1) (b8n : c1o O) (d2z : c91 O) : c90 O := by
 intro t_ c0 c1 c2 r hm0
 unfold b74 at hm0
 refine b1i hf rfl (b0a (b0c fun a _ => c2w a) (b0a (.fp _ _ (b0a (b0c fun a _ => b0z a) (b0a (b0c fun a _ => b0z a) (b0a (b0c fun a _ => b1q a) (b0a (b0c fun a _ => b1s a) (b0a (b0c fun a _ => b1r a) b0j)))))) (b0a (.fp _ _ (b0a (b0e _) (b0a (b0e _) (b0a (b0e _) b0j)))) (b0a (.fp _ _ (b0a (b0e _) b0j)) b0j)))) (b0e _) ?_
 refine b1c (fun t h => t 0 = .fs 4 (List.map b3k t_) /\ t 1 = .fp (vM c0.Machine) 0 /\ t 2 = .fp [I c1.State, I c1.Values.1, I c1.Values.2] 0 /\ t 3 = .fp [I c2] 0) ⟨rfl, rfl, rfl, rfl⟩ fun t h ⟨s0, s1, s2, s3⟩ => ?_
 simp only [x__situation_Plant__HoldsD1]
 refine b0b fun K hK => ?_
 simp only [go_sem]
 refine hK _ _ ?_
 clear hK K
 obtain ⟨y4, h_y4, hm0⟩ := b0g hm0
 refine b0b fun K hK => ?_
 simp only [go_sem, s0, s1, s2, s3]
 refine b01 (b8n t_ "(newel/situation.Plant).Holds$1$1" [] [.fp (vM c0.Machine) 0, .fp [I c1.State, I c1.Values.1, I c1.Values.2] 0, .fp [I c2] 0] (fun z3 => b76 z3 c0 c1 c2) (.fn _ _ _ b0j (b0a (.fp _ _ (b0a (b0c fun a _ => b0z a) (b0a (b0c fun a _ => b0z a) (b0a (b0c fun a _ => b1q a) (b0a (b0c fun a _ => b1s a) (b0a (b0c fun a _ => b1r a) b0j)))))) (b0a (.fp _ _ (b0a (b0e _) (b0a (b0e _) (b0a (b0e _) b0j)))) (b0a (.fp _ _ (b0a (b0e _) b0j)) b0j)))) (fun z0 y hz => d2z z0 c0 c1 c2 y hz) _ h_y4) ?_
 simp only [go_sem, s1, s2, s3]
 refine hK _ _ ?_
 clear hK K
 simp only [b0x, b0y]
 obtain rfl := sI9 hm0
 exact b04 (by simp only [go_sem]) (b0e _)
theorem d2z (hf : Has O "(newel/situation.Plant).Holds$1$1" x__situation_Plant__HoldsD1D1) (d21 : c93 O) : c91 O := by
 intro x c0 c1 c2 r hm0
 unfold b76 at hm0
 refine b1i hf rfl (b0a (.agg _ (b0a (b0e _) (b0a (b0e _) (b0a (b0e _) (b0a (b0e _) b0j))))) (b0a (.fp _ _ (b0a (b0c fun a _ => b0z a) (b0a (b0c fun a _ => b0z a) (b0a (b0c fun a _ => b1q a) (b0a (b0c fun a _ => b1s a) (b0a (b0c fun a _ => b1r a) b0j)))))) (b0a (.fp _ _ (b0a (b0e _) (b0a (b0e _) (b0a (b0e _) b0j)))) (b0a (.fp _ _ (b0a (b0e _) b0j)) b0j)))) (b0e _) ?_
 refine b1c (fun t h => t 0 = .agg [I x.Kind, I x.Number, I x.Value, B x.Not] /\ t 1 = .fp (vM c0.Machine) 0 /\ t 2 = .fp [I c1.State, I c1.Values.1, I c1.Values.2] 0 /\ t 3 = .fp [I c2] 0) ⟨rfl, rfl, rfl, rfl⟩ fun t h ⟨s0, s1, s2, s3⟩ => ?_
 simp only [x__situation_Plant__HoldsD1D1]
 refine b0b fun K hK => ?_
 simp only [go_sem, s0]
 refine hK _ _ ?_
 clear hK K
 obtain ⟨y2, h_y2, hm0⟩ := b0g hm0
 refine b0b fun K hK => ?_
 simp only [go_sem, s1, s2, s3]
 refine b01 (d21 c0 x c1 c2 _ h_y2) ?_
 simp only [go_sem]
 refine hK _ _ ?_
 clear hK K
 simp only [b0x, b0y]
 obtain rfl := sI9 hm0
 exact b04 (by simp only [go_sem]) (b0e _)
theorem o8g (hf : Has O "(newel/situation.Plant).Place" x__situation_Plant__Place) (b4q : c5u O) : o8b O := by
 intro m p r hm0
 unfold o7s at hm0
 refine b1i hf rfl (b0a (fM _) (b0a (.agg _ (b0a (b0e _) (b0a (b0e _) (b0a (b0e _) b0j)))) b0j)) (b0e _) ?_
 refine b1c (fun t h => t 0 = .agg (vM m.Machine) /\ t 1 = .agg [I p.State, I p.Values.1, I p.Values.2]) ⟨rfl, rfl⟩ fun t h ⟨s0, s1⟩ => ?_
 simp only [x__situation_Plant__Place]
 refine b0b fun K hK => ?_
 simp only [go_sem, s0, s1]
 refine hK _ _ ?_
 clear hK K
 refine b0v ?_
 refine b0b fun K hK => ?_
 simp only [go_sem]
 refine hK _ _ ?_
 clear hK K
 refine b0i fun K1 hK1 => ?_
 have J2 : ∀ (t : Slots) (h : Heap), t 2 = .fp (vM m.Machine) 0 -> t 3 = .fp [I p.State, I p.Values.1, I p.Values.2] 0 -> o73 m p = some r -> K1 t h := by
  intro t h s2 s3 hm0
  refine hK1 _ _ ?_
  unfold o73 at hm0
  refine b0b fun K hK => ?_
  simp only [go_sem, s2, s3]
  refine b01 (b4q p.State 0 (wr ((List.length m.Machine.States : Int) - 1))) ?_
  simp only [go_sem]
  refine hK _ _ ?_
  clear hK K
  simp only [b0x, b0y]
  obtain rfl := sI9 hm0
  exact b04 (by simp only [go_sem]) (b0e _)
 simp only [b0u]
 obtain ⟨b3, hl3, hm0⟩ := b0g hm0
 refine b1j hl3 (fun | x_10, t, h => t 2 = .fp (vM m.Machine) 0 /\ t 3 = .fp [I p.State, I p.Values.1, I p.Values.2] 0 /\ t 9 = .agg [I p.Values.1, I p.Values.2] /\ t 10 = I x_10) ?_ ?_
 ·exact ⟨(by first | (simp only [go_sem]; done) | rfl), (by first | (simp only [go_sem]; done) | rfl), (by first | (simp only [go_sem]; done) | rfl), (by first | (simp only [go_sem]; done) | rfl)⟩
 ·rintro x_10 o t h ⟨s2, s3, s9, s10⟩ hm1 hb3
  simp only [o7t] at hm1
  rw [o8u]
  refine b0b fun K hK => ?_
  simp only [go_sem, s10]
  refine hK _ _ ?_
  clear hK K
  refine b0i fun K4 hK4 => ?_
  simp only [go_sem]
  refine b0k (fun hc5 => ?_) (fun hc5 => ?_)
  ·rw [b0r hc5] at hm1
   simp only [b0s, b0f]
   refine hK4 _ _ ?_
   refine b0i fun K6 hK6 => ?_
   simp only [b0u]
   obtain ⟨x8, h_x8, hm1⟩ := b0g hm1
   have ha_x8 : ∀ v : Int, List.take (Int.toNat (x_10)) [I p.Values.1, I p.Values.2] ++ [I v] ++ List.drop (Int.toNat (x_10)) [I p.Values.2] = [I (b1n (x_10) 0 v p.Values.1), I (b1n (x_10) 1 v p.Values.2)] := fun v => (o9p (cs := [I p.Values.1, I p.Values.2]) (v := v) h_x8 rfl).trans (by rw [c1d h_x8]; rfl)
   have hb_x8 : Int.toNat (x_10) + 1 <= 2 := Nat.le_trans (c0a h_x8) (by simp)
   refine b0b fun K hK => ?_
   simp only [go_sem, s9, s10, o9i (n := 2) (l := [p.Values.1, p.Values.2]) (cs := [I p.Values.1, I p.Values.2]) h_x8 rfl rfl]
   refine hK _ _ ?_
   clear hK K
   refine b0b fun K hK => ?_
   simp only [go_sem]
   refine hK _ _ ?_
   clear hK K
   refine b0v ?_
   refine b0b fun K hK => ?_
   simp only [go_sem, s2]
   refine hK _ _ ?_
   clear hK K
   refine b0i fun K9 hK9 => ?_
   have J10 : ∀ (most_7 : Int) (t : Slots) (h : Heap), t 2 = .fp (vM m.Machine) 0 -> t 3 = .fp [I p.State, I p.Values.1, I p.Values.2] 0 -> t 6 = I x8 -> t 7 = I most_7 -> t 9 = .agg [I p.Values.1, I p.Values.2] -> t 10 = I x_10 -> o7u x_10 x8 most_7 = some o -> K9 t h := by
    intro most_7 t h s2 s3 s6 s7 s9 s10 hm1
    refine hK9 _ _ ?_
    unfold o7u at hm1
    refine b0b fun K hK => ?_
    simp only [go_sem, s6, s7]
    refine b01 (b4q x8 0 most_7) ?_
    simp only [go_sem]
    refine hK _ _ ?_
    clear hK K
    simp only [go_sem]
    refine b0k (fun hc11 => ?_) (fun hc11 => ?_)
    ·rw [b0r hc11] at hm1
     refine b0b fun K hK => ?_
     simp only [go_sem]
     refine hK _ _ ?_
     clear hK K
     simp only [b0x, b1p, b2e, b0y]
     obtain rfl := sI9 hm1
     obtain rfl := hb3 _ rfl
     try dsimp only at hm0
     obtain rfl := sI9 hm0
     exact b04 (by simp only [go_sem]) (b0e _)
    ·rw [b0q hc11] at hm1
     simp only [b0s, b02, b0f]
     refine hK6 _ _ ?_
     refine b03 fun K hK => ?_
     simp only [go_sem, s10]
     refine hK _ _ ?_
     clear hK K
     simp only [b0f]
     obtain rfl := sI9 hm1
     refine ⟨_, rfl, ?_⟩
     exact ⟨s2, s3, s9, (by first | (simp only [go_sem]; done) | rfl)⟩
   simp only [go_sem]
   refine b0k (fun hc12 => ?_) (fun hc12 => ?_)
   ·rw [b0r hc12] at hm1
    obtain ⟨x14, h_x14, hm1⟩ := b0g hm1
    have h_x140 := b05 h_x14
    have h_x141 := b06 h_x14
    refine b03 fun K hK => ?_
    simp only [go_sem, s2, b08 h_x14, h_x141]
    refine hK _ _ ?_
    clear hK K
    simp only [b0f]
    exact J10 x14.Max _ _ s2 s3 (by first | (simp only [go_sem]; done) | rfl) (by first | (simp only [go_sem]; done) | rfl) s9 s10 hm1
   ·rw [b0q hc12] at hm1
    simp only [b0s, b0f]
    exact J10 0 _ _ s2 s3 (by first | (simp only [go_sem]; done) | rfl) (by first | (simp only [go_sem]; done) | rfl) s9 s10 hm1
  ·rw [b0q hc5] at hm1
   simp only [b09, b1b, b1a, b0f]
   obtain rfl := sI9 hm1
   obtain rfl := hb3 _ rfl
   try dsimp only at hm0
   exact J2  _ _ s2 s3 hm0
theorem d20 (hf : Has O "(newel/situation.Plant).Step" x__situation_Plant__Step) (b52 : b89 O) (d22 : c94 O) : c92 O := by
 intro m p input r hm0
 unfold c10 at hm0
 refine b1i hf rfl (b0a (fM _) (b0a (.agg _ (b0a (b0e _) (b0a (b0e _) (b0a (b0e _) b0j)))) (b0a (b0e _) b0j))) (.agg _ (b0a (b0e _) (b0a (b0e _) (b0a (b0e _) b0j)))) ?_
 refine b1c (fun t h => t 0 = .agg (vM m.Machine) /\ t 1 = .agg [I p.State, I p.Values.1, I p.Values.2] /\ t 2 = I input) ⟨rfl, rfl, rfl⟩ fun t h ⟨s0, s1, s2⟩ => ?_
 simp only [x__situation_Plant__Step]
 refine b0b fun K hK => ?_
 simp only [go_sem, s0, s1]
 refine hK _ _ ?_
 clear hK K
 refine b0v ?_
 refine b0b fun K hK => ?_
 simp only [go_sem]
 refine hK _ _ ?_
 clear hK K
 refine b0i fun K1 hK1 => ?_
 have J2 : ∀ (p_4_0 : Int) (p_4_1 : Int) (p_4_2 : Int) (i4 : Nat) (i6 : Nat) (t : Slots) (h : Heap), t 4 = .rp i4 0 0 -> t 6 = .rp i6 0 0 -> h.ob i4 = some (3, [[I p_4_0, I p_4_1, I p_4_2]]) -> i4 < h.nx -> h.ob i6 = some (3, [[I 0, I 0, I 0]]) -> i6 < h.nx -> ¬i4 = i6 -> c6h p_4_0 p_4_1 p_4_2 = some r -> K1 t h := by
  intro p_4_0 p_4_1 p_4_2 i4 i6 t h s4 s6 Q5 Q2 Q1 Q0 Q6 hm0
  refine hK1 _ _ ?_
  unfold c6h at hm0
  refine b0b fun K hK => ?_
  simp only [go_sem, s4, s6, Q5, Q1]
  refine hK _ _ ?_
  clear hK K
  simp only [b0x, b0y]
  obtain rfl := sI9 hm0
  exact b90 (id := i6) (m := 3) (cs := [I p_4_0, I p_4_1, I p_4_2]) (by simp only [go_sem, s6]) (by simp only [go_sem]) rfl (.refl _ (.agg _ (b0a (b0e _) (b0a (b0e _) (b0a (b0e _) b0j)))))
 simp only [b0u]
 obtain ⟨b3, hl3, hm0⟩ := b0g hm0
 refine b1j hl3 (fun | x_15, t, h => ∃ i4 : Nat, ∃ i6 : Nat, t 2 = I input /\ t 3 = .fp (vM m.Machine) 0 /\ t 4 = .rp i4 0 0 /\ t 6 = .rp i6 0 0 /\ t 13 = .fs 4 (List.map b0m m.Machine.Rules) /\ t 14 = I (List.length m.Machine.Rules : Int) /\ t 15 = I x_15 /\ h.ob i4 = some (3, [[I p.State, I p.Values.1, I p.Values.2]]) /\ i4 < h.nx /\ h.ob i6 = some (3, [[I 0, I 0, I 0]]) /\ i6 < h.nx /\ ¬i4 = i6) ?_ ?_
 ·exact ⟨h.nx, (nxs h.nx), s2, (by first | (simp only [go_sem]; done) | rfl), (by first | (simp only [go_sem]; done) | rfl), (by first | (simp only [go_sem]; done) | rfl), (by first | (simp only [go_sem]; done) | rfl), (by first | (simp only [go_sem]; done) | rfl), (by first | (simp only [go_sem]; done) | rfl), (by simp only [go_sem]), (by simp only [go_sem]), (by simp only [go_sem]), (by simp only [go_sem]), (by first | first | assumption | omega | (simp only [nxs] <;> omega))⟩
 ·rintro x_15 o t h ⟨i4, i6, s2, s3, s4, s6, s13, s14, s15, Q5, Q2, Q1, Q0, Q6⟩ hm1 hb3
  simp only [c6f] at hm1
  rw [g37]
  refine b0b fun K hK => ?_
  simp only [go_sem, s14, s15]
  refine hK _ _ ?_
  clear hK K
  refine b0i fun K4 hK4 => ?_
  simp only [go_sem]
  refine b0k (fun hc5 => ?_) (fun hc5 => ?_)
  ·rw [b0r hc5] at hm1
   simp only [b0s, b0f]
   refine hK4 _ _ ?_
   refine b0i fun K6 hK6 => ?_
   have J7 : ∀ (t : Slots) (h : Heap), t 2 = I input -> t 3 = .fp (vM m.Machine) 0 -> t 4 = .rp i4 0 0 -> t 6 = .rp i6 0 0 -> t 13 = .fs 4 (List.map b0m m.Machine.Rules) -> t 14 = I (List.length m.Machine.Rules : Int) -> t 15 = I x_15 -> h.ob i4 = some (3, [[I p.State, I p.Values.1, I p.Values.2]]) -> i4 < h.nx -> h.ob i6 = some (3, [[I 0, I 0, I 0]]) -> i6 < h.nx -> ¬i4 = i6 -> c6i x_15 = some o -> K6 t h := by
    try clear s2 s3 s4 s6 s13 s14 s15 Q5 Q2 Q1 Q0 Q6
    intro t h s2 s3 s4 s6 s13 s14 s15 Q5 Q2 Q1 Q0 Q6 hm1
    refine hK6 _ _ ?_
    unfold c6i at hm1
    refine b03 fun K hK => ?_
    simp only [go_sem, s15]
    refine hK _ _ ?_
    clear hK K
    simp only [b0f]
    obtain rfl := sI9 hm1
    refine ⟨_, rfl, ?_⟩
    exact ⟨i4, i6, s2, s3, s4, s6, s13, s14, (by first | (simp only [go_sem]; done) | rfl), Q5, Q2, Q1, Q0, Q6⟩
   simp only [b0u]
   obtain ⟨x9, h_x9, hm1⟩ := b0g hm1
   have h_x90 := b05 h_x9
   have h_x91 := b06 h_x9
   refine b0b fun K hK => ?_
   simp only [go_sem, s13, s15, b08 h_x9, h_x91]
   refine hK _ _ ?_
   clear hK K
   refine b0v ?_
   obtain ⟨c13, h_c13, hm1⟩ := b0g hm1
   refine b2p (fun t h => ∃ i8 : Nat, t 2 = I input /\ t 3 = .fp (vM m.Machine) 0 /\ t 4 = .rp i4 0 0 /\ t 6 = .rp i6 0 0 /\ t 8 = .rp i8 0 0 /\ t 13 = .fs 4 (List.map b0m m.Machine.Rules) /\ t 14 = I (List.length m.Machine.Rules : Int) /\ t 15 = I x_15 /\ t 37 = B c13 /\ h.ob i4 = some (3, [[I p.State, I p.Values.1, I p.Values.2]]) /\ i4 < h.nx /\ h.ob i6 = some (3, [[I 0, I 0, I 0]]) /\ i6 < h.nx /\ h.ob i8 = some (4, [[I x9.From, I x9.To, .fs 1 (List.map b0t x9.When), .fs 2 (List.map b2o x9.Sets)]]) /\ i8 < h.nx /\ ¬i4 = i6 /\ ¬i4 = i8 /\ ¬i6 = i8) (fun K hK => ?_) ?_
   ·simp only [go_sem]
    refine b0k (fun hg14 => ?_) (fun hg14 => ?_)
    ·simp only [go_sem, s4, Q5, Q2, hg14]
     refine b0k (fun hg15 => ?_) (fun hg15 => ?_)
     ·simp only [hg14, hg15, eq_self, if_true, Bool.and_true] at h_c13
      obtain rfl := sI9 h_c13
      simp only [go_sem, hg14, hg15]
      exact hK _ _ ⟨h.nx, s2, s3, s4, s6, (by first | (simp only [go_sem]; done) | rfl), s13, s14, s15, (by first | (simp only [go_sem]; done) | rfl), (by simp only [go_sem, Q5, Q2]), (by simp only [go_sem, Q2]), (by simp only [go_sem, Q1, Q0]), (by simp only [go_sem, Q0]), (by simp only [go_sem]), (by simp only [go_sem]), Q6, (by first | first | assumption | omega | (simp only [nxs] <;> omega)), (by first | first | assumption | omega | (simp only [nxs] <;> omega))⟩
     ·simp only [hg14, hg15, if_false, Bool.and_false, fT9] at h_c13
      obtain ⟨y12, h_y12, h_c13⟩ := b0g h_c13
      obtain rfl := sI9 h_c13
      simp only [go_sem, s2, s3, s4, Q5, Q2, hg14, hg15]
      refine b01 (b52 m x9.When (Place.mk p.State (p.Values.1, p.Values.2)) input _ h_y12) ?_
      simp only [go_sem, hg14, hg15]
      exact hK _ _ ⟨h.nx, s2, s3, s4, s6, (by first | (simp only [go_sem]; done) | rfl), s13, s14, s15, (by first | (simp only [go_sem]; done) | rfl), (by simp only [go_sem, Q5, Q2]), (by simp only [go_sem, Q2]), (by simp only [go_sem, Q1, Q0]), (by simp only [go_sem, Q0]), (by simp only [go_sem]), (by simp only [go_sem]), Q6, (by first | first | assumption | omega | (simp only [nxs] <;> omega)), (by first | first | assumption | omega | (simp only [nxs] <;> omega))⟩
    ·simp only [hg14, if_false, Bool.false_and, fT9] at h_c13
     obtain ⟨y12, h_y12, h_c13⟩ := b0g h_c13
     obtain rfl := sI9 h_c13
     simp only [go_sem, s2, s3, s4, Q5, Q2, hg14]
     refine b01 (b52 m x9.When (Place.mk p.State (p.Values.1, p.Values.2)) input _ h_y12) ?_
     simp only [go_sem, hg14]
     exact hK _ _ ⟨h.nx, s2, s3, s4, s6, (by first | (simp only [go_sem]; done) | rfl), s13, s14, s15, (by first | (simp only [go_sem]; done) | rfl), (by simp only [go_sem, Q5, Q2]), (by simp only [go_sem, Q2]), (by simp only [go_sem, Q1, Q0]), (by simp only [go_sem, Q0]), (by simp only [go_sem]), (by simp only [go_sem]), Q6, (by first | first | assumption | omega | (simp only [nxs] <;> omega)), (by first | first | assumption | omega | (simp only [nxs] <;> omega))⟩
   ·try clear s2 s3 s4 s6 s13 s14 s15 Q5 Q2 Q1 Q0 Q6
    rintro t h ⟨i8, s2, s3, s4, s6, s8, s13, s14, s15, s37, Q5, Q2, Q1, Q0, Q3, Q4, Q6, Qh, Q7⟩
    refine b0i fun K16 hK16 => ?_
    simp only [go_sem, s37]
    refine b0k (fun hc17 => ?_) (fun hc17 => ?_)
    ·rw [b0r hc17] at hm1
     simp only [b09, b1b, b1a, b0f]
     exact J7  _ _ s2 s3 s4 s6 s13 s14 s15 Q5 Q2 Q1 Q0 Q6 hm1
    ·rw [b0q hc17] at hm1
     simp only [b0s, b0f]
     refine hK16 _ _ ?_
     refine b0v ?_
     refine b0b fun K hK => ?_
     simp only [go_sem, s8, Q3]
     refine hK _ _ ?_
     clear hK K
     refine b0i fun K18 hK18 => ?_
     have J19 : ∀ (p_4_0 : Int) (p_4_1 : Int) (p_4_2 : Int) (t : Slots) (h : Heap), t 4 = .rp i4 0 0 -> t 6 = .rp i6 0 0 -> t 8 = .rp i8 0 0 -> h.ob i4 = some (3, [[I p_4_0, I p_4_1, I p_4_2]]) -> i4 < h.nx -> h.ob i6 = some (3, [[I 0, I 0, I 0]]) -> i6 < h.nx -> h.ob i8 = some (4, [[I x9.From, I x9.To, .fs 1 (List.map b0t x9.When), .fs 2 (List.map b2o x9.Sets)]]) -> i8 < h.nx -> ¬i4 = i6 -> ¬i4 = i8 -> ¬i6 = i8 -> c6g x9 p_4_0 p_4_1 p_4_2 = some o -> K18 t h := by
      try clear s2 s3 s4 s6 s8 s13 s14 s15 s37 Q5 Q2 Q1 Q0 Q3 Q4 Q6 Qh Q7
      intro p_4_0 p_4_1 p_4_2 t h s4 s6 s8 Q5 Q2 Q1 Q0 Q3 Q4 Q6 Qh Q7 hm1
      refine hK18 _ _ ?_
      unfold c6g at hm1
      refine b0b fun K hK => ?_
      simp only [go_sem, s4, s8, Q5, Q3]
      refine hK _ _ ?_
      clear hK K
      simp only [b09, b1b, b1a, c0s, b0f, Nat.reduceEqDiff, nF9]
      obtain rfl := sI9 hm1
      obtain rfl := hb3 _ rfl
      try dsimp only at hm0
      exact J2 x9.To p_4_1 p_4_2 i4 i6 _ _ s4 s6 (by simp only [go_sem]) (by simp only [go_sem, Q2]) (by simp only [go_sem, Q1, b1z Q6]) (by simp only [go_sem, Q0]) Q6 hm0
     simp only [b0u]
     obtain ⟨b20, hl20, hm1⟩ := b0g hm1
     refine b1j hl20 (fun | (p_4_0, p_4_1, p_4_2, x_41), t, h => t 3 = .fp (vM m.Machine) 0 /\ t 4 = .rp i4 0 0 /\ t 6 = .rp i6 0 0 /\ t 8 = .rp i8 0 0 /\ t 39 = .fs 2 (List.map b2o x9.Sets) /\ t 40 = I (List.length x9.Sets : Int) /\ t 41 = I x_41 /\ h.ob i4 = some (3, [[I p_4_0, I p_4_1, I p_4_2]]) /\ i4 < h.nx /\ h.ob i6 = some (3, [[I 0, I 0, I 0]]) /\ i6 < h.nx /\ h.ob i8 = some (4, [[I x9.From, I x9.To, .fs 1 (List.map b0t x9.When), .fs 2 (List.map b2o x9.Sets)]]) /\ i8 < h.nx /\ ¬i4 = i6 /\ ¬i4 = i8 /\ ¬i6 = i8) ?_ ?_
     ·exact ⟨s3, s4, s6, s8, (by first | (simp only [go_sem]; done) | rfl), (by first | (simp only [go_sem]; done) | rfl), (by first | (simp only [go_sem]; done) | rfl), Q5, Q2, Q1, Q0, Q3, Q4, Q6, Qh, Q7⟩
     ·try clear s2 s3 s4 s6 s8 s13 s14 s15 s37 Q5 Q2 Q1 Q0 Q3 Q4 Q6 Qh Q7
      rintro ⟨p_4_0, p_4_1, p_4_2, x_41⟩ o t h ⟨s3, s4, s6, s8, s39, s40, s41, Q5, Q2, Q1, Q0, Q3, Q4, Q6, Qh, Q7⟩ hm2 hb20
      simp only [c11] at hm2
      rw [g36]
      refine b0b fun K hK => ?_
      simp only [go_sem, s40, s41]
      refine hK _ _ ?_
      clear hK K
      refine b0i fun K21 hK21 => ?_
      simp only [go_sem]
      refine b0k (fun hc22 => ?_) (fun hc22 => ?_)
      ·rw [b0r hc22] at hm2
       simp only [b0s, b0f]
       refine hK21 _ _ ?_
       refine b0i fun K23 hK23 => ?_
       simp only [b0u]
       obtain ⟨x25, h_x25, hm2⟩ := b0g hm2
       have h_x250 := b05 h_x25
       have h_x251 := b06 h_x25
       refine b0b fun K hK => ?_
       simp only [go_sem, s39, s41, b08 h_x25, h_x251]
       refine hK _ _ ?_
       clear hK K
       obtain ⟨y27, h_y27, hm2⟩ := b0g hm2
       refine b9y (fun t h => t 3 = .fp (vM m.Machine) 0 /\ t 4 = .rp i4 0 0 /\ t 6 = .rp i6 0 0 /\ t 8 = .rp i8 0 0 /\ t 39 = .fs 2 (List.map b2o x9.Sets) /\ t 40 = I (List.length x9.Sets : Int) /\ t 41 = I x_41 /\ h.ob i4 = some (3, [[I y27.State, I y27.Values.1, I y27.Values.2]]) /\ i4 < h.nx /\ h.ob i6 = some (3, [[I 0, I 0, I 0]]) /\ i6 < h.nx /\ h.ob i8 = some (4, [[I x9.From, I x9.To, .fs 1 (List.map b0t x9.When), .fs 2 (List.map b2o x9.Sets)]]) /\ i8 < h.nx /\ ¬i4 = i6 /\ ¬i4 = i8 /\ ¬i6 = i8) (fun K hK => ?_) ?_
       ·simp only [go_sem, s3, s4]
        refine d9m (d22 m x25 (Place.mk p_4_0 (p_4_1, p_4_2)) i4 _ (by simp only [go_sem, Q5, Q2]) (by first | omega | simp only [go_sem, Q2]) _ h_y27) ?_
        rintro _ hq_y27 ⟨rfl, ob_y27, fr_y27, fx_y27⟩
        have lw_y270 : i4 < hq_y27.nx := Nat.lt_of_lt_of_le (by first | omega | simp only [go_sem, Q2]) fx_y27
        have lw_y271 : i6 < hq_y27.nx := Nat.lt_of_lt_of_le (by first | omega | simp only [go_sem, Q0]) fx_y27
        have lw_y272 : i8 < hq_y27.nx := Nat.lt_of_lt_of_le (by first | omega | simp only [go_sem, Q4]) fx_y27
        have lw_y273 : h.nx < hq_y27.nx := Nat.lt_of_lt_of_le (by first | omega | simp only [go_sem]) fx_y27
        simp only [go_sem]
        exact hK _ _ ⟨s3, s4, s6, s8, s39, s40, s41, (by simp only [go_sem, ob_y27]), (by first | omega | simp only [go_sem, Q2]), (by simp only [go_sem, Q1, Q0, b1z Q6, fr_y27]), (by first | omega | simp only [go_sem, Q0]), (by simp only [go_sem, Q3, Q4, b1z Qh, fr_y27]), (by first | omega | simp only [go_sem, Q4]), Q6, Qh, Q7⟩
       ·try clear s3 s4 s6 s8 s39 s40 s41 Q5 Q2 Q1 Q0 Q3 Q4 Q6 Qh Q7
        rintro t h ⟨s3, s4, s6, s8, s39, s40, s41, Q5, Q2, Q1, Q0, Q3, Q4, Q6, Qh, Q7⟩
        simp only [b02, b0f]
        refine hK23 _ _ ?_
        refine b03 fun K hK => ?_
        simp only [go_sem, s41]
        refine hK _ _ ?_
        clear hK K
        simp only [b0f]
        obtain rfl := sI9 hm2
        refine ⟨_, rfl, ?_⟩
        exact ⟨s3, s4, s6, s8, s39, s40, (by first | (simp only [go_sem]; done) | rfl), Q5, Q2, Q1, Q0, Q3, Q4, Q6, Qh, Q7⟩
      ·rw [b0q hc22] at hm2
       simp only [b09, b1b, b1a, b0f]
       obtain rfl := sI9 hm2
       obtain rfl := hb20 _ rfl
       try dsimp only at hm1
       exact J19 p_4_0 p_4_1 p_4_2 _ _ s4 s6 s8 Q5 Q2 Q1 Q0 Q3 Q4 Q6 Qh Q7 hm1
  ·rw [b0q hc5] at hm1
   simp only [b09, b1b, b1a, b0f]
   obtain rfl := sI9 hm1
   obtain rfl := hb3 _ rfl
   try dsimp only at hm0
   exact J2 p.State p.Values.1 p.Values.2 i4 i6 _ _ s4 s6 Q5 Q2 Q1 Q0 Q6 hm0
theorem d21 (hf : Has O "(newel/situation.Plant).literal" x__situation_Plant__literal) : c93 O := by
 intro m x p input r hm0
 unfold b77 at hm0
 refine b1i hf rfl (b0a (fM _) (b0a (.agg _ (b0a (b0e _) (b0a (b0e _) (b0a (b0e _) (b0a (b0e _) b0j))))) (b0a (.agg _ (b0a (b0e _) (b0a (b0e _) (b0a (b0e _) b0j)))) (b0a (b0e _) b0j)))) (b0e _) ?_
 refine b1c (fun t h => t 0 = .agg (vM m.Machine) /\ t 1 = .agg [I x.Kind, I x.Number, I x.Value, B x.Not] /\ t 2 = .agg [I p.State, I p.Values.1, I p.Values.2] /\ t 3 = I input) ⟨rfl, rfl, rfl, rfl⟩ fun t h ⟨s0, s1, s2, s3⟩ => ?_
 simp only [x__situation_Plant__literal]
 refine b0b fun K hK => ?_
 simp only [go_sem, s0, s1, s2]
 refine hK _ _ ?_
 clear hK K
 refine b0b fun K hK => ?_
 simp only [go_sem]
 refine hK _ _ ?_
 clear hK K
 refine b0v ?_
 refine b0b fun K hK => ?_
 simp only [go_sem]
 refine hK _ _ ?_
 clear hK K
 refine b0i fun K1 hK1 => ?_
 have J2 : ∀ (holds_9 : Bool) (t : Slots) (h : Heap), t 5 = .fp [I x.Kind, I x.Number, I x.Value, B x.Not] 0 -> t 9 = B holds_9 -> b6w x holds_9 = some r -> K1 t h := by
  intro holds_9 t h s5 s9 hm0
  refine hK1 _ _ ?_
  unfold b6w at hm0
  refine b0b fun K hK => ?_
  simp only [go_sem, s5, s9]
  refine hK _ _ ?_
  clear hK K
  simp only [b0x, b0y]
  obtain rfl := sI9 hm0
  exact b04 (by simp only [go_sem]) (b0e _)
 simp only [b0u]
 refine b0b fun K hK => ?_
 simp only [go_sem]
 refine hK _ _ ?_
 clear hK K
 simp only [go_sem]
 refine b0k (fun hc3 => ?_) (fun hc3 => ?_)
 ·rw [b0r hc3] at hm0
  obtain ⟨q5, h_q5, hm0⟩ := b0g hm0
  refine b03 fun K hK => ?_
  simp only [go_sem, s3, c7d h_q5]
  refine hK _ _ ?_
  clear hK K
  simp only [b02, b0f]
  exact J2 (decide ((b6y q5 1) = 1)) _ _ (by first | (simp only [go_sem]; done) | rfl) (by first | (simp only [go_sem]; done) | rfl) hm0
 ·rw [b0q hc3] at hm0
  refine b0b fun K hK => ?_
  simp only [go_sem]
  refine hK _ _ ?_
  clear hK K
  simp only [go_sem]
  refine b0k (fun hc6 => ?_) (fun hc6 => ?_)
  ·rw [b0r hc6] at hm0
   obtain ⟨x8, h_x8, hm0⟩ := b0g hm0
   have ha_x8 : ∀ v : Int, List.take (1 + Int.toNat (x.Number)) [I p.State, I p.Values.1, I p.Values.2] ++ [I v] ++ List.drop (1 + Int.toNat (x.Number)) [I p.Values.1, I p.Values.2] = [I p.State, I (b1n (x.Number) 0 v p.Values.1), I (b1n (x.Number) 1 v p.Values.2)] := fun v => (c1e (cs := [I p.State, I p.Values.1, I p.Values.2]) (off := 1) (v := v) h_x8 rfl).trans (by rw [c1d h_x8]; rfl)
   have hb_x8 : 1 + Int.toNat (x.Number) + 1 <= 3 := Nat.le_trans (Nat.add_le_add_left (c0a h_x8) 1) (by simp)
   refine b03 fun K hK => ?_
   simp only [go_sem, d94 (n := 2) (l := [p.Values.1, p.Values.2]) h_x8 rfl, c0c (cs := [I p.State, I p.Values.1, I p.Values.2]) (off := 1) h_x8 rfl]
   refine hK _ _ ?_
   clear hK K
   simp only [b02, b0f]
   exact J2 (decide (x.Value <= x8)) _ _ (by first | (simp only [go_sem]; done) | rfl) (by first | (simp only [go_sem]; done) | rfl) hm0
  ·rw [b0q hc6] at hm0
   refine b0b fun K hK => ?_
   simp only [go_sem]
   refine hK _ _ ?_
   clear hK K
   simp only [go_sem]
   refine b0k (fun hc9 => ?_) (fun hc9 => ?_)
   ·rw [b0r hc9] at hm0
    refine b03 fun K hK => ?_
    simp only [go_sem]
    refine hK _ _ ?_
    clear hK K
    simp only [b02, b0f]
    exact J2 (decide (p.State = x.Number)) _ _ (by first | (simp only [go_sem]; done) | rfl) (by first | (simp only [go_sem]; done) | rfl) hm0
   ·rw [b0q hc9] at hm0
    refine b0b fun K hK => ?_
    simp only [go_sem]
    refine hK _ _ ?_
    clear hK K
    simp only [go_sem]
    refine b0k (fun hc10 => ?_) (fun hc10 => ?_)
    ·rw [b0r hc10] at hm0
     obtain ⟨x13, h_x13, hm0⟩ := b0g hm0
     have h_x130 := b05 h_x13
     have h_x131 := b06 h_x13
     obtain ⟨q14, h_q14, hm0⟩ := b0g hm0
     refine b03 fun K hK => ?_
     simp only [go_sem, b08 h_x13, c7d h_q14]
     refine hK _ _ ?_
     clear hK K
     simp only [b02, b0f]
     exact J2 (decide ((b6y q14 1) = 1)) _ _ (by first | (simp only [go_sem]; done) | rfl) (by first | (simp only [go_sem]; done) | rfl) hm0
    ·rw [b0q hc10] at hm0
     simp only [b0s, b02, b0f]
     exact J2 false _ _ (by first | (simp only [go_sem]; done) | rfl) (by first | (simp only [go_sem]; done) | rfl) hm0
theorem d22 (hf : Has O "(newel/situation.Plant).set" x__situation_Plant__set) : c94 O := by
 intro m s p i_2 h0 ob_p2 lt_p2 r hm0
 unfold c12 at hm0
 refine d8g hf rfl ?_
 refine b1c (fun t h => t 0 = .agg (vM m.Machine) /\ t 1 = .agg [I s.Kind, I s.Counter] /\ t 2 = .rp i_2 0 0 /\ h.ob i_2 = some (3, [[I p.State, I p.Values.1, I p.Values.2]]) /\ i_2 < h.nx /\ (∀ j, j < h0.nx -> ¬j = i_2 -> h.ob j = h0.ob j) /\ h0.nx <= h.nx) ⟨rfl, rfl, rfl, ob_p2, lt_p2, fun _ _ _ => rfl, Nat.le_refl _⟩ fun t h ⟨s0, s1, s2, ob_p2, lt_p2, fr, fx⟩ => ?_
 simp only [x__situation_Plant__set]
 refine b0b fun K hK => ?_
 simp only [go_sem, s0, s1]
 refine hK _ _ ?_
 clear hK K
 obtain ⟨x2, h_x2, hm0⟩ := b0g hm0
 have ha_x2 : ∀ v : Int, List.take (1 + Int.toNat (s.Counter)) [I p.State, I p.Values.1, I p.Values.2] ++ [I v] ++ List.drop (1 + Int.toNat (s.Counter)) [I p.Values.1, I p.Values.2] = [I p.State, I (b1n (s.Counter) 0 v p.Values.1), I (b1n (s.Counter) 1 v p.Values.2)] := fun v => (c1e (cs := [I p.State, I p.Values.1, I p.Values.2]) (off := 1) (v := v) h_x2 rfl).trans (by rw [c1d h_x2]; rfl)
 have hb_x2 : 1 + Int.toNat (s.Counter) + 1 <= 3 := Nat.le_trans (Nat.add_le_add_left (c0a h_x2) 1) (by simp)
 refine b0b fun K hK => ?_
 simp only [go_sem, s2, ob_p2, c7f (n := 2) (l := [p.Values.1, p.Values.2]) h_x2 rfl]
 refine hK _ _ ?_
 clear hK K
 refine b0b fun K hK => ?_
 simp only [go_sem]
 refine hK _ _ ?_
 clear hK K
 simp only [b0u]
 refine b0b fun K hK => ?_
 simp only [go_sem]
 refine hK _ _ ?_
 clear hK K
 simp only [go_sem]
 refine b0k (fun hc3 => ?_) (fun hc3 => ?_)
 ·rw [b0r hc3] at hm0
  refine b03 fun K hK => ?_
  simp only [go_sem, ob_p2, ha_x2, hb_x2]
  refine hK _ _ ?_
  clear hK K
  simp only [b02]
  obtain rfl := sI9 hm0
  exact c4o (Post := fun v h => v = .tup [] /\ h.ob i_2 = some (3, [[I ((Place.mk p.State (b1n s.Counter 0 0 p.Values.1, b1n s.Counter 1 0 p.Values.2)).State), I (((Place.mk p.State (b1n s.Counter 0 0 p.Values.1, b1n s.Counter 1 0 p.Values.2)).Values).1), I (((Place.mk p.State (b1n s.Counter 0 0 p.Values.1, b1n s.Counter 1 0 p.Values.2)).Values).2)]]) /\ (∀ j, j < h0.nx -> ¬j = i_2 -> h.ob j = h0.ob j) /\ h0.nx <= h.nx) ⟨rfl, (by simp only [go_sem]), (by intro j hj hx0; first | exact fr j hj hx0 | (refine Eq.trans ?_ (fr j hj hx0); first | rfl | simp only [go_sem, hx0])), (by first | exact fx | omega | (simp only [go_sem, nxs] <;> omega))⟩
 ·rw [b0q hc3] at hm0
  refine b0b fun K hK => ?_
  simp only [go_sem]
  refine hK _ _ ?_
  clear hK K
  simp only [go_sem]
  refine b0k (fun hc4 => ?_) (fun hc4 => ?_)
  ·rw [b0r hc4] at hm0
   obtain ⟨x6, h_x6, hm0⟩ := b0g hm0
   have h_x60 := b05 h_x6
   have h_x61 := b06 h_x6
   refine b03 fun K hK => ?_
   simp only [go_sem, ob_p2, b08 h_x6, c0c (cs := [I p.State, I p.Values.1, I p.Values.2]) (off := 1) h_x2 rfl, ha_x2, hb_x2]
   refine hK _ _ ?_
   clear hK K
   simp only [b02]
   obtain rfl := sI9 hm0
   exact c4o (Post := fun v h => v = .tup [] /\ h.ob i_2 = some (3, [[I ((Place.mk p.State (b1n s.Counter 0 (mn (wr (x2 + 1)) x6.Max) p.Values.1, b1n s.Counter 1 (mn (wr (x2 + 1)) x6.Max) p.Values.2)).State), I (((Place.mk p.State (b1n s.Counter 0 (mn (wr (x2 + 1)) x6.Max) p.Values.1, b1n s.Counter 1 (mn (wr (x2 + 1)) x6.Max) p.Values.2)).Values).1), I (((Place.mk p.State (b1n s.Counter 0 (mn (wr (x2 + 1)) x6.Max) p.Values.1, b1n s.Counter 1 (mn (wr (x2 + 1)) x6.Max) p.Values.2)).Values).2)]]) /\ (∀ j, j < h0.nx -> ¬j = i_2 -> h.ob j = h0.ob j) /\ h0.nx <= h.nx) ⟨rfl, (by simp only [go_sem]), (by intro j hj hx0; first | exact fr j hj hx0 | (refine Eq.trans ?_ (fr j hj hx0); first | rfl | simp only [go_sem, hx0])), (by first | exact fx | omega | (simp only [go_sem, nxs] <;> omega))⟩
  ·rw [b0q hc4] at hm0
   refine b0b fun K hK => ?_
   simp only [go_sem]
   refine hK _ _ ?_
   clear hK K
   simp only [go_sem]
   refine b0k (fun hc7 => ?_) (fun hc7 => ?_)
   ·rw [b0r hc7] at hm0
    refine b03 fun K hK => ?_
    simp only [go_sem, ob_p2, c0c (cs := [I p.State, I p.Values.1, I p.Values.2]) (off := 1) h_x2 rfl, ha_x2, hb_x2]
    refine hK _ _ ?_
    clear hK K
    simp only [b02]
    obtain rfl := sI9 hm0
    exact c4o (Post := fun v h => v = .tup [] /\ h.ob i_2 = some (3, [[I ((Place.mk p.State (b1n s.Counter 0 (mx (wr (x2 - 1)) 0) p.Values.1, b1n s.Counter 1 (mx (wr (x2 - 1)) 0) p.Values.2)).State), I (((Place.mk p.State (b1n s.Counter 0 (mx (wr (x2 - 1)) 0) p.Values.1, b1n s.Counter 1 (mx (wr (x2 - 1)) 0) p.Values.2)).Values).1), I (((Place.mk p.State (b1n s.Counter 0 (mx (wr (x2 - 1)) 0) p.Values.1, b1n s.Counter 1 (mx (wr (x2 - 1)) 0) p.Values.2)).Values).2)]]) /\ (∀ j, j < h0.nx -> ¬j = i_2 -> h.ob j = h0.ob j) /\ h0.nx <= h.nx) ⟨rfl, (by simp only [go_sem]), (by intro j hj hx0; first | exact fr j hj hx0 | (refine Eq.trans ?_ (fr j hj hx0); first | rfl | simp only [go_sem, hx0])), (by first | exact fx | omega | (simp only [go_sem, nxs] <;> omega))⟩
   ·rw [b0q hc7] at hm0
    simp only [b0s, b02]
    obtain rfl := sI9 hm0
    exact c4o (Post := fun v h => v = .tup [] /\ h.ob i_2 = some (3, [[I ((Place.mk p.State (p.Values.1, p.Values.2)).State), I (((Place.mk p.State (p.Values.1, p.Values.2)).Values).1), I (((Place.mk p.State (p.Values.1, p.Values.2)).Values).2)]]) /\ (∀ j, j < h0.nx -> ¬j = i_2 -> h.ob j = h0.ob j) /\ h0.nx <= h.nx) ⟨rfl, ob_p2, fr, fx⟩
theorem d24 (hf : Has O "newel/control.Check" x_control_Check) (d3h : d0k O) : c96 O := by
 intro m r hm0
 unfold c2f at hm0
 refine b1i hf rfl (b0a (fM _) b0j) (b0e _) ?_
 refine b1c (fun t h => t 0 = .agg (vM m)) rfl fun t h s0 => ?_
 simp only [x_control_Check]
 refine b0b fun K hK => ?_
 simp only [go_sem, s0]
 refine hK _ _ ?_
 clear hK K
 obtain ⟨y2, h_y2, hm0⟩ := b0g hm0
 refine b0b fun K hK => ?_
 simp only [go_sem]
 refine b01 (d3h m _ h_y2) ?_
 simp only [go_sem]
 refine hK _ _ ?_
 clear hK K
 simp only [b0x, b0y]
 obtain rfl := sI9 hm0
 exact b04 (by simp only [go_sem]) (b0e _)
theorem o8h (hf : Has O "newel/control.Proves" x_control_Proves) (c3e : c5g O) (c3f : c5h O) (o8g : o8b O) (b52 : b89 O) (d2w : c9y O) (d2x : c9z O) (d20 : c92 O) : o8c O := by
 intro m assume never l r hm0
 unfold o7v at hm0
 refine b1i hf rfl (b0a (fM _) (b0a (b0c fun a _ => b2j a) (b0a (b0c fun a _ => b2j a) (b0a (b0c fun a _ => b44 a) b0j)))) (.tup _ (b0a (b0e _) (b0a (b0e _) (b0a (b0e _) b0j)))) ?_
 refine b1c (fun t h => t 0 = .agg (vM m) /\ t 1 = .fs 1 (List.map b0t assume) /\ t 2 = .fs 1 (List.map b0t never) /\ t 3 = .fs 3 (List.map b1g l)) ⟨rfl, rfl, rfl, rfl⟩ fun t h ⟨s0, s1, s2, s3⟩ => ?_
 simp only [x_control_Proves]
 refine b0b fun K hK => ?_
 simp only [go_sem, s0]
 refine hK _ _ ?_
 clear hK K
 refine b0v ?_
 obtain ⟨y2, h_y2, hm0⟩ := b0g hm0
 refine b0b fun K hK => ?_
 simp only [go_sem, s1, s2]
 refine b8l ?_ (c3e m ([assume, never]) _ h_y2) (.v _) ?_
 ·exact .cons (.refl _ (fM _)) (.cons (b29 (f := b4v) (l := ([assume, never])) (id := h.nx) (by simp only [go_sem]) (by first | rfl | simp only [go_sem, lA9, mA9]) b97 c7o) (.nil))
 simp only [go_sem]
 refine hK _ _ ?_
 clear hK K
 refine b0v ?_
 refine b0b fun K hK => ?_
 simp only [go_sem]
 refine hK _ _ ?_
 clear hK K
 refine b0i fun K3 hK3 => ?_
 simp only [go_sem]
 refine b0k (fun hc4 => ?_) (fun hc4 => ?_)
 ·rw [b0r hc4] at hm0
  refine b0b fun K hK => ?_
  simp only [go_sem]
  refine hK _ _ ?_
  clear hK K
  simp only [b0x, b1p, b0y]
  obtain rfl := sI9 hm0
  exact c6t (by simp only [go_sem]) (by simp only [go_sem]) (by simp only [go_sem]) (b0e _) (b0e _) (b0e _)
 ·rw [b0q hc4] at hm0
  simp only [b0s, b0f]
  refine hK3 _ _ ?_
  refine b0v ?_
  refine b0b fun K hK => ?_
  simp only [go_sem, s3]
  refine hK _ _ ?_
  clear hK K
  refine b0i fun K5 hK5 => ?_
  simp only [go_sem]
  refine b0k (fun hc6 => ?_) (fun hc6 => ?_)
  ·rw [b0r hc6] at hm0
   refine b0b fun K hK => ?_
   simp only [go_sem]
   refine hK _ _ ?_
   clear hK K
   simp only [b0x, b1p, b0y]
   obtain rfl := sI9 hm0
   exact c6t (by simp only [go_sem]) (by simp only [go_sem]) (by simp only [go_sem]) (b0e _) (b0e _) (b0e _)
  ·rw [b0q hc6] at hm0
   simp only [b0s, b0f]
   refine hK5 _ _ ?_
   refine b0b fun K hK => ?_
   simp only [go_sem]
   refine b01 (c3f m) ?_
   simp only [go_sem]
   refine hK _ _ ?_
   clear hK K
   refine b0b fun K hK => ?_
   simp only [go_sem]
   refine g0d (O := O) (e := List.map (eM (vks b47) vI) ([] : List (Place × Int))) rfl ?_
   simp only [go_sem]
   refine hK _ _ ?_
   clear hK K
   refine b0v ?_
   refine b0b fun K hK => ?_
   simp only [go_sem, s3]
   refine hK _ _ ?_
   clear hK K
   refine b0i fun K7 hK7 => ?_
   have J8 : ∀ (listed_12 : List (Place × Int)) (i11 : Nat) (i12 : Nat) (t : Slots) (h : Heap), t 1 = .fs 1 (List.map b0t assume) -> t 2 = .fs 1 (List.map b0t never) -> t 3 = .fs 3 (List.map b1g l) -> t 11 = .rp i11 0 0 -> t 12 = .mp i12 -> h.ob i11 = some (5, [[.fs 1 (List.map eS ((((b3h m).Plant).Machine).Inputs)), .fs 1 (List.map eS ((((b3h m).Plant).Machine).Outputs)), .fs 2 (List.map b0o ((((b3h m).Plant).Machine).Counters)), .fs 2 (List.map b0p ((((b3h m).Plant).Machine).States)), .fs 4 (List.map b0m ((((b3h m).Plant).Machine).Rules))]]) -> i11 < h.nx -> h.ob i12 = some (0, List.map (eM (vks b47) vI) listed_12) -> i12 < h.nx -> ¬i11 = i12 -> o76 m assume never l listed_12 = some r -> K7 t h := by
    intro listed_12 i11 i12 t h s1 s2 s3 s11 s12 Q8 Q9 Qa Qb Qc hm0
    refine hK7 _ _ ?_
    unfold o76 at hm0
    refine b0v ?_
    refine b0b fun K hK => ?_
    simp only [go_sem, s3]
    refine hK _ _ ?_
    clear hK K
    refine b0i fun K9 hK9 => ?_
    have J10 : ∀ (t : Slots) (h : Heap), t 3 = .fs 3 (List.map b1g l) -> t 12 = .mp i12 -> h.ob i12 = some (0, List.map (eM (vks b47) vI) listed_12) -> i12 < h.nx -> o74 l listed_12 = some r -> K9 t h := by
     try clear s1 s2 s3 s11 s12 Q8 Q9 Qa Qb Qc
     intro t h s3 s12 Qa Qb hm0
     refine hK9 _ _ ?_
     unfold o74 at hm0
     refine b0v ?_
     refine b0b fun K hK => ?_
     simp only [go_sem, s12]
     refine j5x (O := O) (fk := (vks b47)) (fv := vI) (l := listed_12) (x := (Place.mk 0 (0, 0))) (z := 0) j8c d30 ?_ ?_ ?_
     ·rfl
     ·simp only [go_sem, Qa]
     simp only [go_sem]
     refine hK _ _ ?_
     clear hK K
     refine b0v ?_
     refine b0b fun K hK => ?_
     simp only [go_sem]
     refine hK _ _ ?_
     clear hK K
     refine b0i fun K11 hK11 => ?_
     simp only [go_sem]
     refine b0k (fun hc12 => ?_) (fun hc12 => ?_)
     ·rw [b0r hc12] at hm0
      refine b0b fun K hK => ?_
      simp only [go_sem, s3]
      refine hK _ _ ?_
      clear hK K
      simp only [b0x, b1p, b0y]
      obtain rfl := sI9 hm0
      exact c6t (by simp only [go_sem]) (by simp only [go_sem]) (by simp only [go_sem]) (b0e _) (b0e _) (b0e _)
     ·rw [b0q hc12] at hm0
      simp only [b0s, b0f]
      refine hK11 _ _ ?_
      refine b0b fun K hK => ?_
      simp only [go_sem]
      refine hK _ _ ?_
      clear hK K
      simp only [b0x, b0y]
      obtain rfl := sI9 hm0
      exact c6t (by simp only [go_sem]) (by simp only [go_sem]) (by simp only [go_sem]) (b0e _) (b0e _) (b0e _)
    simp only [b0u]
    obtain ⟨b13, hl13, hm0⟩ := b0g hm0
    refine b1j hl13 (fun | x_54, t, h => t 1 = .fs 1 (List.map b0t assume) /\ t 2 = .fs 1 (List.map b0t never) /\ t 3 = .fs 3 (List.map b1g l) /\ t 11 = .rp i11 0 0 /\ t 12 = .mp i12 /\ t 52 = .fs 3 (List.map b1g l) /\ t 53 = I (List.length l : Int) /\ t 54 = I x_54 /\ h.ob i11 = some (5, [[.fs 1 (List.map eS ((((b3h m).Plant).Machine).Inputs)), .fs 1 (List.map eS ((((b3h m).Plant).Machine).Outputs)), .fs 2 (List.map b0o ((((b3h m).Plant).Machine).Counters)), .fs 2 (List.map b0p ((((b3h m).Plant).Machine).States)), .fs 4 (List.map b0m ((((b3h m).Plant).Machine).Rules))]]) /\ i11 < h.nx /\ h.ob i12 = some (0, List.map (eM (vks b47) vI) listed_12) /\ i12 < h.nx /\ ¬i11 = i12) ?_ ?_
    ·exact ⟨s1, s2, s3, s11, s12, (by first | (simp only [go_sem]; done) | rfl), (by first | (simp only [go_sem]; done) | rfl), (by first | (simp only [go_sem]; done) | rfl), Q8, Q9, Qa, Qb, Qc⟩
    ·try clear s1 s2 s3 s11 s12 Q8 Q9 Qa Qb Qc
     rintro x_54 o t h ⟨s1, s2, s3, s11, s12, s52, s53, s54, Q8, Q9, Qa, Qb, Qc⟩ hm1 hb13
     simp only [o7q] at hm1
     rw [o8x]
     refine b0b fun K hK => ?_
     simp only [go_sem, s53, s54]
     refine hK _ _ ?_
     clear hK K
     refine b0i fun K14 hK14 => ?_
     simp only [go_sem]
     refine b0k (fun hc15 => ?_) (fun hc15 => ?_)
     ·rw [b0r hc15] at hm1
      simp only [b0s, b0f]
      refine hK14 _ _ ?_
      refine b0i fun K16 hK16 => ?_
      have J17 : ∀ (t : Slots) (h : Heap), t 1 = .fs 1 (List.map b0t assume) -> t 2 = .fs 1 (List.map b0t never) -> t 3 = .fs 3 (List.map b1g l) -> t 11 = .rp i11 0 0 -> t 12 = .mp i12 -> t 52 = .fs 3 (List.map b1g l) -> t 53 = I (List.length l : Int) -> t 54 = I x_54 -> h.ob i11 = some (5, [[.fs 1 (List.map eS ((((b3h m).Plant).Machine).Inputs)), .fs 1 (List.map eS ((((b3h m).Plant).Machine).Outputs)), .fs 2 (List.map b0o ((((b3h m).Plant).Machine).Counters)), .fs 2 (List.map b0p ((((b3h m).Plant).Machine).States)), .fs 4 (List.map b0m ((((b3h m).Plant).Machine).Rules))]]) -> i11 < h.nx -> h.ob i12 = some (0, List.map (eM (vks b47) vI) listed_12) -> i12 < h.nx -> ¬i11 = i12 -> o75 x_54 = some o -> K16 t h := by
       try clear s1 s2 s3 s11 s12 s52 s53 s54 Q8 Q9 Qa Qb Qc
       intro t h s1 s2 s3 s11 s12 s52 s53 s54 Q8 Q9 Qa Qb Qc hm1
       refine hK16 _ _ ?_
       unfold o75 at hm1
       refine b03 fun K hK => ?_
       simp only [go_sem, s54]
       refine hK _ _ ?_
       clear hK K
       simp only [b0f]
       obtain rfl := sI9 hm1
       refine ⟨_, rfl, ?_⟩
       exact ⟨s1, s2, s3, s11, s12, s52, s53, (by first | (simp only [go_sem]; done) | rfl), Q8, Q9, Qa, Qb, Qc⟩
      simp only [b0u]
      obtain ⟨x19, h_x19, hm1⟩ := b0g hm1
      have h_x190 := b05 h_x19
      have h_x191 := b06 h_x19
      refine b0b fun K hK => ?_
      simp only [go_sem, s52, s54, b08 h_x19, h_x191]
      refine hK _ _ ?_
      clear hK K
      refine b0v ?_
      obtain ⟨y21, h_y21, hm1⟩ := b0g hm1
      refine b0b fun K hK => ?_
      simp only [go_sem, s2, s11, Q8, Q9]
      refine b01 (b52 (situation_Plant.mk (((b3h m).Plant).Machine)) never (Place.mk x19.State (x19.Values.1, x19.Values.2)) 0 _ h_y21) ?_
      simp only [go_sem]
      refine hK _ _ ?_
      clear hK K
      refine b0i fun K22 hK22 => ?_
      simp only [go_sem]
      refine b0k (fun hc23 => ?_) (fun hc23 => ?_)
      ·rw [b0r hc23] at hm1
       refine b0b fun K hK => ?_
       simp only [go_sem]
       refine hK _ _ ?_
       clear hK K
       simp only [b0x, b1p, b2e, b0y]
       obtain rfl := sI9 hm1
       obtain rfl := hb13 _ rfl
       try dsimp only at hm0
       obtain rfl := sI9 hm0
       exact c6t (by simp only [go_sem]) (by simp only [go_sem]) (by simp only [go_sem]) (b0e _) (b0e _) (b0e _)
      ·rw [b0q hc23] at hm1
       simp only [b0s, b0f]
       refine hK22 _ _ ?_
       obtain ⟨y25, h_y25, hm1⟩ := b0g hm1
       refine b0b fun K hK => ?_
       simp only [go_sem, s11, Q8, Q9]
       refine b01 (d2w (situation_Plant.mk (((b3h m).Plant).Machine)) _ h_y25) ?_
       simp only [go_sem]
       refine hK _ _ ?_
       clear hK K
       simp only [b0u]
       obtain ⟨b26, hl26, hm1⟩ := b0g hm1
       refine b1j hl26 (fun | x_68, t, h => ∃ i16 : Nat, t 1 = .fs 1 (List.map b0t assume) /\ t 2 = .fs 1 (List.map b0t never) /\ t 3 = .fs 3 (List.map b1g l) /\ t 11 = .rp i11 0 0 /\ t 12 = .mp i12 /\ t 15 = I x_54 /\ t 16 = .rp i16 0 0 /\ t 52 = .fs 3 (List.map b1g l) /\ t 53 = I (List.length l : Int) /\ t 54 = I x_54 /\ t 67 = I y25 /\ t 68 = I x_68 /\ h.ob i11 = some (5, [[.fs 1 (List.map eS ((((b3h m).Plant).Machine).Inputs)), .fs 1 (List.map eS ((((b3h m).Plant).Machine).Outputs)), .fs 2 (List.map b0o ((((b3h m).Plant).Machine).Counters)), .fs 2 (List.map b0p ((((b3h m).Plant).Machine).States)), .fs 4 (List.map b0m ((((b3h m).Plant).Machine).Rules))]]) /\ i11 < h.nx /\ h.ob i12 = some (0, List.map (eM (vks b47) vI) listed_12) /\ i12 < h.nx /\ h.ob i16 = some (3, [[I x19.State, I x19.Values.1, I x19.Values.2]]) /\ i16 < h.nx /\ ¬i11 = i12 /\ ¬i11 = i16 /\ ¬i12 = i16) ?_ ?_
       ·exact ⟨h.nx, s1, s2, s3, s11, s12, (by first | (simp only [go_sem]; done) | rfl), (by first | (simp only [go_sem]; done) | rfl), s52, s53, s54, (by first | (simp only [go_sem]; done) | rfl), (by first | (simp only [go_sem]; done) | rfl), (by simp only [go_sem, Q8, Q9]), (by simp only [go_sem, Q9]), (by simp only [go_sem, Qa, Qb]), (by simp only [go_sem, Qb]), (by simp only [go_sem]), (by simp only [go_sem]), Qc, (by first | first | assumption | omega | (simp only [nxs] <;> omega)), (by first | first | assumption | omega | (simp only [nxs] <;> omega))⟩
       ·try clear s1 s2 s3 s11 s12 s52 s53 s54 Q8 Q9 Qa Qb Qc
        rintro x_68 o t h ⟨i16, s1, s2, s3, s11, s12, s15, s16, s52, s53, s54, s67, s68, Q8, Q9, Qa, Qb, Qi, Ql, Qc, Qm, Qn⟩ hm2 hb26
        simp only [l33] at hm2
        rw [o8w]
        refine b0b fun K hK => ?_
        simp only [go_sem, s67, s68]
        refine hK _ _ ?_
        clear hK K
        refine b0i fun K27 hK27 => ?_
        simp only [go_sem]
        refine b0k (fun hc28 => ?_) (fun hc28 => ?_)
        ·rw [b0r hc28] at hm2
         simp only [b0s, b0f]
         refine hK27 _ _ ?_
         refine b0i fun K29 hK29 => ?_
         have J30 : ∀ (t : Slots) (h : Heap), t 1 = .fs 1 (List.map b0t assume) -> t 2 = .fs 1 (List.map b0t never) -> t 3 = .fs 3 (List.map b1g l) -> t 11 = .rp i11 0 0 -> t 12 = .mp i12 -> t 15 = I x_54 -> t 16 = .rp i16 0 0 -> t 52 = .fs 3 (List.map b1g l) -> t 53 = I (List.length l : Int) -> t 54 = I x_54 -> t 67 = I y25 -> t 68 = I x_68 -> h.ob i11 = some (5, [[.fs 1 (List.map eS ((((b3h m).Plant).Machine).Inputs)), .fs 1 (List.map eS ((((b3h m).Plant).Machine).Outputs)), .fs 2 (List.map b0o ((((b3h m).Plant).Machine).Counters)), .fs 2 (List.map b0p ((((b3h m).Plant).Machine).States)), .fs 4 (List.map b0m ((((b3h m).Plant).Machine).Rules))]]) -> i11 < h.nx -> h.ob i12 = some (0, List.map (eM (vks b47) vI) listed_12) -> i12 < h.nx -> h.ob i16 = some (3, [[I x19.State, I x19.Values.1, I x19.Values.2]]) -> i16 < h.nx -> ¬i11 = i12 -> ¬i11 = i16 -> ¬i12 = i16 -> o7w x_68 = some o -> K29 t h := by
          try clear s1 s2 s3 s11 s12 s15 s16 s52 s53 s54 s67 s68 Q8 Q9 Qa Qb Qi Ql Qc Qm Qn
          intro t h s1 s2 s3 s11 s12 s15 s16 s52 s53 s54 s67 s68 Q8 Q9 Qa Qb Qi Ql Qc Qm Qn hm2
          refine hK29 _ _ ?_
          unfold o7w at hm2
          refine b03 fun K hK => ?_
          simp only [go_sem, s68]
          refine hK _ _ ?_
          clear hK K
          simp only [b0f]
          obtain rfl := sI9 hm2
          refine ⟨_, rfl, ?_⟩
          exact ⟨i16, s1, s2, s3, s11, s12, s15, s16, s52, s53, s54, s67, (by first | (simp only [go_sem]; done) | rfl), Q8, Q9, Qa, Qb, Qi, Ql, Qc, Qm, Qn⟩
         simp only [b0u]
         refine b0b fun K hK => ?_
         simp only [go_sem, s68]
         refine hK _ _ ?_
         clear hK K
         refine b0v ?_
         obtain ⟨y32, h_y32, hm2⟩ := b0g hm2
         refine b0b fun K hK => ?_
         simp only [go_sem, s1, s11, s16, Q8, Qi]
         refine b01 (d2x (situation_Plant.mk (((b3h m).Plant).Machine)) assume (Place.mk x19.State (x19.Values.1, x19.Values.2)) x_68 _ h_y32) ?_
         simp only [go_sem]
         refine hK _ _ ?_
         clear hK K
         refine b0i fun K33 hK33 => ?_
         simp only [go_sem]
         refine b0k (fun hc34 => ?_) (fun hc34 => ?_)
         ·rw [b0r hc34] at hm2
          simp only [b09, b1b, b1a, b0f]
          exact J30  _ _ s1 s2 s3 s11 s12 s15 s16 s52 s53 s54 s67 s68 Q8 Q9 Qa Qb Qi Ql Qc Qm Qn hm2
         ·rw [b0q hc34] at hm2
          simp only [b0s, b0f]
          refine hK33 _ _ ?_
          obtain ⟨y36, h_y36, hm2⟩ := b0g hm2
          refine b0b fun K hK => ?_
          simp only [go_sem, s11, s12, s16, Q8, Qi]
          refine b01 (d20 (situation_Plant.mk (((b3h m).Plant).Machine)) (Place.mk x19.State (x19.Values.1, x19.Values.2)) x_68 _ h_y36) ?_
          simp only [go_sem]
          refine j5x (O := O) (fk := (vks b47)) (fv := vI) (l := listed_12) (x := y36) (z := 0) j8c d30 ?_ ?_ ?_
          ·rfl
          ·simp only [go_sem, Qa]
          simp only [go_sem]
          refine hK _ _ ?_
          clear hK K
          refine b0b fun K hK => ?_
          simp only [go_sem]
          refine hK _ _ ?_
          clear hK K
          simp only [go_sem]
          refine b0k (fun hc37 => ?_) (fun hc37 => ?_)
          ·rw [b0r hc37] at hm2
           refine b0b fun K hK => ?_
           simp only [go_sem, s15]
           refine hK _ _ ?_
           clear hK K
           simp only [b0x, b1p, b2e, b0y]
           obtain rfl := sI9 hm2
           obtain rfl := hb26 _ rfl
           try dsimp only at hm1
           obtain rfl := sI9 hm1
           obtain rfl := hb13 _ rfl
           try dsimp only at hm0
           obtain rfl := sI9 hm0
           exact c6t (by simp only [go_sem]) (by simp only [go_sem]) (by simp only [go_sem]) (b0e _) (b0e _) (b0e _)
          ·rw [b0q hc37] at hm2
           simp only [b0s, b02, b0f]
           exact J30  _ _ s1 s2 s3 s11 s12 s15 s16 s52 s53 s54 s67 s68 Q8 Q9 Qa Qb Qi Ql Qc Qm Qn hm2
        ·rw [b0q hc28] at hm2
         simp only [b09, b1b, b1a, b02, b0f]
         obtain rfl := sI9 hm2
         obtain rfl := hb26 _ rfl
         try dsimp only at hm1
         exact J17  _ _ s1 s2 s3 s11 s12 s52 s53 s54 Q8 Q9 Qa Qb Qc hm1
     ·rw [b0q hc15] at hm1
      simp only [b09, b1b, b1a, b0f]
      obtain rfl := sI9 hm1
      obtain rfl := hb13 _ rfl
      try dsimp only at hm0
      exact J10  _ _ s3 s12 Qa Qb hm0
   simp only [b0u]
   obtain ⟨b40, hl40, hm0⟩ := b0g hm0
   refine b1j hl40 (fun | (listed_12, x_38), t, h => ∃ i11 : Nat, ∃ i12 : Nat, t 1 = .fs 1 (List.map b0t assume) /\ t 2 = .fs 1 (List.map b0t never) /\ t 3 = .fs 3 (List.map b1g l) /\ t 11 = .rp i11 0 0 /\ t 12 = .mp i12 /\ t 36 = .fs 3 (List.map b1g l) /\ t 37 = I (List.length l : Int) /\ t 38 = I x_38 /\ h.ob i11 = some (5, [[.fs 1 (List.map eS ((((b3h m).Plant).Machine).Inputs)), .fs 1 (List.map eS ((((b3h m).Plant).Machine).Outputs)), .fs 2 (List.map b0o ((((b3h m).Plant).Machine).Counters)), .fs 2 (List.map b0p ((((b3h m).Plant).Machine).States)), .fs 4 (List.map b0m ((((b3h m).Plant).Machine).Rules))]]) /\ i11 < h.nx /\ h.ob i12 = some (0, List.map (eM (vks b47) vI) listed_12) /\ i12 < h.nx /\ ¬i11 = i12) ?_ ?_
   ·exact ⟨(nxs h.nx), (nxs (nxs h.nx)), s1, s2, s3, (by first | (simp only [go_sem]; done) | rfl), (by first | (simp only [go_sem]; done) | rfl), (by first | (simp only [go_sem]; done) | rfl), (by first | (simp only [go_sem]; done) | rfl), (by first | (simp only [go_sem]; done) | rfl), (by simp only [go_sem]), (by simp only [go_sem]), (by simp only [go_sem]), (by simp only [go_sem]), (by first | first | assumption | omega | (simp only [nxs] <;> omega))⟩
   ·rintro ⟨listed_12, x_38⟩ o t h ⟨i11, i12, s1, s2, s3, s11, s12, s36, s37, s38, Q8, Q9, Qa, Qb, Qc⟩ hm1 hb40
    simp only [l43] at hm1
    rw [o8v]
    refine b0b fun K hK => ?_
    simp only [go_sem, s37, s38]
    refine hK _ _ ?_
    clear hK K
    refine b0i fun K41 hK41 => ?_
    simp only [go_sem]
    refine b0k (fun hc42 => ?_) (fun hc42 => ?_)
    ·rw [b0r hc42] at hm1
     simp only [b0s, b0f]
     refine hK41 _ _ ?_
     refine b0i fun K43 hK43 => ?_
     simp only [b0u]
     obtain ⟨x45, h_x45, hm1⟩ := b0g hm1
     have h_x450 := b05 h_x45
     have h_x451 := b06 h_x45
     refine b0b fun K hK => ?_
     simp only [go_sem, s36, s38, b08 h_x45, h_x451]
     refine hK _ _ ?_
     clear hK K
     refine b0v ?_
     obtain ⟨y47, h_y47, hm1⟩ := b0g hm1
     refine b0b fun K hK => ?_
     simp only [go_sem, s11, Q8, Q9]
     refine b01 (o8g (situation_Plant.mk (((b3h m).Plant).Machine)) (Place.mk x45.State (x45.Values.1, x45.Values.2)) _ h_y47) ?_
     simp only [go_sem]
     refine hK _ _ ?_
     clear hK K
     refine b0i fun K48 hK48 => ?_
     simp only [go_sem]
     refine b0k (fun hc49 => ?_) (fun hc49 => ?_)
     ·rw [b0r hc49] at hm1
      refine b0b fun K hK => ?_
      simp only [go_sem]
      refine hK _ _ ?_
      clear hK K
      simp only [b0x, b1p, b2e, b0y]
      obtain rfl := sI9 hm1
      obtain rfl := hb40 _ rfl
      try dsimp only at hm0
      obtain rfl := sI9 hm0
      exact c6t (by simp only [go_sem]) (by simp only [go_sem]) (by simp only [go_sem]) (b0e _) (b0e _) (b0e _)
     ·rw [b0q hc49] at hm1
      simp only [b0s, b0f]
      refine hK48 _ _ ?_
      refine b03 fun K hK => ?_
      simp only [go_sem, s12]
      refine d2i (O := O) (fk := (vks b47)) (fv := vI) (l := listed_12) (x := (Place.mk x45.State (x45.Values.1, x45.Values.2))) (v := x_38) g1t d30 ?_ ?_ ?_
      ·rfl
      ·simp only [go_sem, Qa, Qb]
      simp only [go_sem]
      refine hK _ _ ?_
      clear hK K
      simp only [b02, b0f]
      refine hK43 _ _ ?_
      refine b03 fun K hK => ?_
      simp only [go_sem, s38]
      refine hK _ _ ?_
      clear hK K
      simp only [b0f]
      obtain rfl := sI9 hm1
      refine ⟨_, rfl, ?_⟩
      exact ⟨i11, i12, s1, s2, s3, s11, s12, s36, s37, (by first | (simp only [go_sem]; done) | rfl), (by simp only [go_sem, Q8, Q9, Qc]), (by simp only [go_sem, Q9]), (by simp only [go_sem]), (by simp only [go_sem, Qb]), Qc⟩
    ·rw [b0q hc42] at hm1
     simp only [b09, b1b, b1a, b0f]
     obtain rfl := sI9 hm1
     obtain rfl := hb40 _ rfl
     try dsimp only at hm0
     exact J8 listed_12 i11 i12 _ _ s1 s2 s3 s11 s12 Q8 Q9 Qa Qb Qc hm0
theorem c3e (hf : Has O "newel/control.check" x_control_check) (d24 : c96 O) (c3p : c5t O) : c5g O := by
 intro m conds r hm0
 unfold b9x at hm0
 refine b1i hf rfl (b0a (fM _) (b0a (b0c fun a _ => b97 a) b0j)) (b0e _) ?_
 refine b1c (fun t h => t 0 = .agg (vM m) /\ t 1 = .fs 1 (List.map b4v conds)) ⟨rfl, rfl⟩ fun t h ⟨s0, s1⟩ => ?_
 simp only [x_control_check]
 refine b0b fun K hK => ?_
 simp only [go_sem, s0]
 refine hK _ _ ?_
 clear hK K
 refine b0v ?_
 obtain ⟨y2, h_y2, hm0⟩ := b0g hm0
 refine b0b fun K hK => ?_
 simp only [go_sem]
 refine b01 (d24 m _ h_y2) ?_
 simp only [go_sem]
 refine hK _ _ ?_
 clear hK K
 refine b0v ?_
 refine b0b fun K hK => ?_
 simp only [go_sem]
 refine hK _ _ ?_
 clear hK K
 refine b0i fun K3 hK3 => ?_
 simp only [go_sem]
 refine b0k (fun hc4 => ?_) (fun hc4 => ?_)
 ·rw [b0r hc4] at hm0
  refine b0b fun K hK => ?_
  simp only [go_sem]
  refine hK _ _ ?_
  clear hK K
  simp only [b0x, b1p, b0y]
  obtain rfl := sI9 hm0
  exact b04 (by simp only [go_sem]) (b0e _)
 ·rw [b0q hc4] at hm0
  simp only [b0s, b0f]
  refine hK3 _ _ ?_
  refine b0v ?_
  refine b0b fun K hK => ?_
  simp only [go_sem, s1]
  refine hK _ _ ?_
  clear hK K
  refine b0i fun K5 hK5 => ?_
  have J6 : ∀ (t : Slots) (h : Heap), d1j = some r -> K5 t h := by
   intro t h hm0
   refine hK5 _ _ ?_
   unfold d1j at hm0
   refine b0b fun K hK => ?_
   simp only [go_sem]
   refine hK _ _ ?_
   clear hK K
   simp only [b0x, b0y]
   obtain rfl := sI9 hm0
   exact b04 (by simp only [go_sem]) (b0e _)
  simp only [b0u]
  obtain ⟨b7, hl7, hm0⟩ := b0g hm0
  refine b1j hl7 (fun | x_15, t, h => t 2 = .fp (vM m) 0 /\ t 13 = .fs 1 (List.map b4v conds) /\ t 14 = I (List.length conds : Int) /\ t 15 = I x_15) ?_ ?_
  ·exact ⟨(by first | (simp only [go_sem]; done) | rfl), (by first | (simp only [go_sem]; done) | rfl), (by first | (simp only [go_sem]; done) | rfl), (by first | (simp only [go_sem]; done) | rfl)⟩
  ·rintro x_15 o t h ⟨s2, s13, s14, s15⟩ hm1 hb7
   simp only [c2i] at hm1
   rw [g4b]
   refine b0b fun K hK => ?_
   simp only [go_sem, s14, s15]
   refine hK _ _ ?_
   clear hK K
   refine b0i fun K8 hK8 => ?_
   simp only [go_sem]
   refine b0k (fun hc9 => ?_) (fun hc9 => ?_)
   ·rw [b0r hc9] at hm1
    simp only [b0s, b0f]
    refine hK8 _ _ ?_
    refine b0i fun K10 hK10 => ?_
    simp only [b0u]
    obtain ⟨x12, h_x12, hm1⟩ := b0g hm1
    have h_x120 := b05 h_x12
    have h_x121 := b06 h_x12
    refine b0b fun K hK => ?_
    simp only [go_sem, s13, s15, b08 h_x12, h_x121]
    refine hK _ _ ?_
    clear hK K
    obtain ⟨y14, h_y14, hm1⟩ := b0g hm1
    refine b0b fun K hK => ?_
    simp only [go_sem, s2]
    refine b01 (c3p m x12 _ h_y14) ?_
    simp only [go_sem]
    refine hK _ _ ?_
    clear hK K
    simp only [go_sem]
    refine b0k (fun hc15 => ?_) (fun hc15 => ?_)
    ·rw [b0r hc15] at hm1
     refine b0b fun K hK => ?_
     simp only [go_sem]
     refine hK _ _ ?_
     clear hK K
     simp only [b0x, b1p, b2e, b0y]
     obtain rfl := sI9 hm1
     obtain rfl := hb7 _ rfl
     try dsimp only at hm0
     obtain rfl := sI9 hm0
     exact b04 (by simp only [go_sem]) (b0e _)
    ·rw [b0q hc15] at hm1
     simp only [b0s, b02, b0f]
     refine hK10 _ _ ?_
     refine b03 fun K hK => ?_
     simp only [go_sem, s15]
     refine hK _ _ ?_
     clear hK K
     simp only [b0f]
     obtain rfl := sI9 hm1
     refine ⟨_, rfl, ?_⟩
     exact ⟨s2, s13, s14, (by first | (simp only [go_sem]; done) | rfl)⟩
   ·rw [b0q hc9] at hm1
    simp only [b09, b1b, b1a, b0f]
    obtain rfl := sI9 hm1
    obtain rfl := hb7 _ rfl
    try dsimp only at hm0
    exact J6  _ _  hm0
theorem c3f (hf : Has O "newel/control.of" x_control_of) : c5h O := by
 intro m
 generalize hm0 : b3h m = r
 unfold b3h at hm0
 refine b1i hf rfl (b0a (fM _) b0j) (fM _) ?_
 refine b1c (fun t h => t 0 = .agg (vM m)) rfl fun t h s0 => ?_
 simp only [x_control_of]
 refine b0b fun K hK => ?_
 simp only [go_sem, s0]
 refine hK _ _ ?_
 clear hK K
 refine b0b fun K hK => ?_
 simp only [go_sem]
 refine hK _ _ ?_
 clear hK K
 simp only [b0x, b0y]
 obtain rfl := hm0
 exact b90 (id := h.nx) (m := 5) (cs := (vM m)) (by simp only [go_sem]) (by simp only [go_sem]) rfl (.refl _ (fM _))
theorem o9j (hf : Has O "newel/newellaw04.ControlCertifies" x_l04_ControlCertifies) (d28 : d0a O) (k_l04_works : d5r O) (d3a : d0d O) (c0i : c5m O) (o8h : o8c O) (o8j : o8e O) : o8n O := by
 intro m c l r hm0
 unfold o7x at hm0
 refine b1i hf rfl (b0a (fM _) (b0a (.agg _ (b0a (b0c fun a _ => b2j a) (b0a (b0c fun a _ => b2j a) b0j))) (b0a (b0c fun a _ => b44 a) b0j))) (b0e _) ?_
 refine b1c (fun t h => t 0 = .agg (vM m) /\ t 1 = .agg [.fs 1 (List.map b0t c.Assume), .fs 1 (List.map b0t c.Never)] /\ t 2 = .fs 3 (List.map b1g l)) ⟨rfl, rfl, rfl⟩ fun t h ⟨s0, s1, s2⟩ => ?_
 simp only [x_l04_ControlCertifies]
 refine b0b fun K hK => ?_
 simp only [go_sem, s0, s1]
 refine hK _ _ ?_
 clear hK K
 refine b0v ?_
 obtain ⟨y2, h_y2, hm0⟩ := b0g hm0
 refine b2p (fun t h => t 2 = .fs 3 (List.map b1g l) /\ t 3 = .fp (vM m) 0 /\ t 4 = .fp [.fs 1 (List.map b0t c.Assume), .fs 1 (List.map b0t c.Never)] 0 /\ t 24 = B (y2 || ((decide (200 < (List.length l : Int))) && (decide ((List.length l : Int) <= 1000))))) (fun K hK => ?_) ?_
 ·simp only [go_sem]
  refine b01 (d28 m _ h_y2) ?_
  simp only [go_sem]
  refine b0k (fun hg3 => ?_) (fun hg3 => ?_)
  ·simp only [go_sem, hg3]
   exact hK _ _ ⟨s2, (by first | (simp only [go_sem]; done) | rfl), (by first | (simp only [go_sem]; done) | rfl), (by first | (simp only [go_sem, hg3]; done) | rfl)⟩
  ·simp only [go_sem, s2, hg3]
   refine b0k (fun hg4 => ?_) (fun hg4 => ?_)
   ·simp only [go_sem, s2, hg3, hg4]
    exact hK _ _ ⟨s2, (by first | (simp only [go_sem]; done) | rfl), (by first | (simp only [go_sem]; done) | rfl), (by first | (simp only [go_sem, hg3, hg4]; done) | rfl)⟩
   ·simp only [go_sem, hg3, hg4]
    exact hK _ _ ⟨s2, (by first | (simp only [go_sem]; done) | rfl), (by first | (simp only [go_sem]; done) | rfl), (by first | (simp only [go_sem, hg3, hg4]; done) | rfl)⟩
 ·rintro t h ⟨s2, s3, s4, s24⟩
  refine b0i fun K5 hK5 => ?_
  simp only [go_sem, s24]
  refine b0k (fun hc6 => ?_) (fun hc6 => ?_)
  ·rw [b0r hc6] at hm0
   obtain ⟨y8, h_y8, hm0⟩ := b0g hm0
   refine b0b fun K hK => ?_
   simp only [go_sem]
   refine b01 (k_l04_works  _ h_y8) ?_
   simp only [go_sem]
   refine hK _ _ ?_
   clear hK K
   simp only [b0x, b1p, b0y]
   obtain rfl := sI9 hm0
   exact b04 (by simp only [go_sem]) (b0e _)
  ·rw [b0q hc6] at hm0
   simp only [b0s, b0f]
   refine hK5 _ _ ?_
   obtain ⟨y14, h_y14, hm0⟩ := b0g hm0
   obtain ⟨y15, h_y15, hm0⟩ := b0g hm0
   obtain ⟨y16, h_y16, hm0⟩ := b0g hm0
   obtain ⟨l17, h_l17, hm0⟩ := b0g hm0
   obtain ⟨y18, h_y18, hm0⟩ := b0g hm0
   refine b0b fun K hK => ?_
   simp only [go_sem, s3]
   refine b01 (d3a m _ h_y14) ?_
   simp only [go_sem, s4]
   refine b01 (c0i c.Assume _ h_y15) ?_
   simp only [go_sem, s4]
   refine b01 (c0i c.Never _ h_y16) ?_
   simp only [go_sem, s2]
   refine b3a (f := b1g) (l := ([])) (m := l) ?_ ?_ ?_ ?_ h_l17 ?_
   ·exact (b2v (by simp only [go_sem]) (by simp only [go_sem]) (by simp only [go_sem]))
   ·exact b7j
   ·exact b7i
   ·exact (fun e => by cases e)
   simp only [go_sem]
   refine b8l ?_ (o8h y14 y15 y16 l17 _ h_y18) (.tup _ (o8l (.v _) (o8l (.v _) (o8l (.v _) o9n)))) ?_
   ·exact .cons (.refl _ (fM _)) (.cons (.refl _ (b0c fun a _ => b2j a)) (.cons (.refl _ (b0c fun a _ => b2j a)) (.cons (b29 (f := b1g) (l := l17) (id := (nxs h.nx)) (by simp only [go_sem]) (by first | rfl | simp only [go_sem, lA9, mA9]) b44 d32) (.nil))))
   simp only [go_sem]
   refine hK _ _ ?_
   clear hK K
   obtain ⟨y20, h_y20, hm0⟩ := b0g hm0
   refine b0b fun K hK => ?_
   simp only [go_sem, s2, s3, s4]
   refine b01 (o8j m c.Assume c.Never l _ h_y20) ?_
   simp only [go_sem]
   refine hK _ _ ?_
   clear hK K
   obtain ⟨c24, h_c24, hm0⟩ := b0g hm0
   refine b2p (fun t h => t 6 = B c24) (fun K hK => ?_) ?_
   ·simp only [go_sem]
    refine b0k (fun hg25 => ?_) (fun hg25 => ?_)
    ·simp only [go_sem, hg25]
     refine b0k (fun hg26 => ?_) (fun hg26 => ?_)
     ·simp only [go_sem, hg25, hg26]
      refine b0k (fun hg27 => ?_) (fun hg27 => ?_)
      ·simp only [hg25, hg26, hg27, eq_self, if_true, Bool.and_true] at h_c24
       obtain ⟨y23, h_y23, h_c24⟩ := b0g h_c24
       obtain rfl := sI9 h_c24
       simp only [go_sem, hg25, hg26, hg27]
       refine b01 (k_l04_works  _ h_y23) ?_
       simp only [go_sem, hg25, hg26, hg27]
       exact hK _ _ (by first | (simp only [go_sem]; done) | rfl)
      ·simp only [hg25, hg26, hg27, if_false, Bool.and_true, Bool.and_false, fT9] at h_c24
       obtain rfl := sI9 h_c24
       simp only [go_sem, hg25, hg26, hg27]
       exact hK _ _ (by first | (simp only [go_sem]; done) | rfl)
     ·simp only [hg25, hg26, if_false, Bool.false_and, Bool.and_false, fT9] at h_c24
      obtain rfl := sI9 h_c24
      simp only [go_sem, hg25, hg26]
      exact hK _ _ (by first | (simp only [go_sem]; done) | rfl)
    ·simp only [hg25, if_false, Bool.false_and, fT9] at h_c24
     obtain rfl := sI9 h_c24
     simp only [go_sem, hg25]
     exact hK _ _ (by first | (simp only [go_sem]; done) | rfl)
   ·rintro t h s6
    simp only [b0x, b0y]
    obtain rfl := sI9 hm0
    exact b04 (by simp only [go_sem, s6]) (b0e _)
theorem d28 (hf : Has O "newel/newellaw04.Wide" x_l04_Wide) (c3i : c5k O) : d0a O := by
 intro m r hm0
 unfold b8o at hm0
 refine b1i hf rfl (b0a (fM _) b0j) (b0e _) ?_
 refine b1c (fun t h => t 0 = .agg (vM m)) rfl fun t h s0 => ?_
 simp only [x_l04_Wide]
 refine b0b fun K hK => ?_
 simp only [go_sem, s0]
 refine hK _ _ ?_
 clear hK K
 refine b0v ?_
 obtain ⟨y2, h_y2, hm0⟩ := b0g hm0
 refine b0b fun K hK => ?_
 simp only [go_sem]
 refine b01 (c3i m _ h_y2) ?_
 simp only [go_sem]
 refine hK _ _ ?_
 clear hK K
 refine b0i fun K3 hK3 => ?_
 simp only [go_sem]
 refine b0k (fun hc4 => ?_) (fun hc4 => ?_)
 ·rw [b0r hc4] at hm0
  refine b0b fun K hK => ?_
  simp only [go_sem]
  refine hK _ _ ?_
  clear hK K
  simp only [b0x, b1p, b0y]
  obtain rfl := sI9 hm0
  exact b04 (by simp only [go_sem]) (b0e _)
 ·rw [b0q hc4] at hm0
  simp only [b0s, b0f]
  refine hK3 _ _ ?_
  refine b0b fun K hK => ?_
  simp only [go_sem]
  refine hK _ _ ?_
  clear hK K
  refine b0v ?_
  refine b0b fun K hK => ?_
  simp only [go_sem]
  refine hK _ _ ?_
  clear hK K
  refine b0i fun K5 hK5 => ?_
  have J6 : ∀ (places_3 : Int) (t : Slots) (h : Heap), t 1 = .fp (vM m) 0 -> t 3 = I places_3 -> d31 m places_3 = some r -> K5 t h := by
   intro places_3 t h s1 s3 hm0
   refine hK5 _ _ ?_
   unfold d31 at hm0
   refine b2p (fun t h => t 2 = B ((decide (3 < (List.length m.Inputs : Int))) || (decide (80 < places_3)))) (fun K hK => ?_) ?_
   ·simp only [go_sem, s1]
    refine b0k (fun hg7 => ?_) (fun hg7 => ?_)
    ·simp only [go_sem, hg7]
     exact hK _ _ (by first | (simp only [go_sem, hg7]; done) | rfl)
    ·simp only [go_sem, s3, hg7]
     exact hK _ _ (by first | (simp only [go_sem, hg7]; done) | rfl)
   ·rintro t h s2
    simp only [b0x, b0y]
    obtain rfl := sI9 hm0
    exact b04 (by simp only [go_sem, s2]) (b0e _)
  simp only [b0u]
  obtain ⟨b8, hl8, hm0⟩ := b0g hm0
  refine b1j hl8 (fun | (places_3, i_4), t, h => t 1 = .fp (vM m) 0 /\ t 3 = I places_3 /\ t 4 = I i_4) ?_ ?_
  ·exact ⟨(by first | (simp only [go_sem]; done) | rfl), (by first | (simp only [go_sem]; done) | rfl), (by first | (simp only [go_sem]; done) | rfl)⟩
  ·rintro ⟨places_3, i_4⟩ o t h ⟨s1, s3, s4⟩ hm1 hb8
   simp only [c3s] at hm1
   rw [g4c]
   refine b0v ?_
   refine b0b fun K hK => ?_
   simp only [go_sem, s1, s4]
   refine hK _ _ ?_
   clear hK K
   refine b0i fun K9 hK9 => ?_
   simp only [go_sem]
   refine b0k (fun hc10 => ?_) (fun hc10 => ?_)
   ·rw [b0r hc10] at hm1
    simp only [b0s, b0f]
    refine hK9 _ _ ?_
    refine b0i fun K11 hK11 => ?_
    simp only [b0u]
    obtain ⟨x13, h_x13, hm1⟩ := b0g hm1
    have h_x130 := b05 h_x13
    have h_x131 := b06 h_x13
    refine b03 fun K hK => ?_
    simp only [go_sem, s1, s3, s4, b08 h_x13, h_x131]
    refine hK _ _ ?_
    clear hK K
    simp only [b02, b0f]
    refine hK11 _ _ ?_
    refine b03 fun K hK => ?_
    simp only [go_sem, s4]
    refine hK _ _ ?_
    clear hK K
    simp only [b0f]
    obtain rfl := sI9 hm1
    refine ⟨_, rfl, ?_⟩
    exact ⟨s1, (by first | (simp only [go_sem]; done) | rfl), (by first | (simp only [go_sem]; done) | rfl)⟩
   ·rw [b0q hc10] at hm1
    simp only [b09, b1b, b1a, b0f]
    obtain rfl := sI9 hm1
    obtain rfl := hb8 _ rfl
    try dsimp only at hm0
    exact J6 places_3 _ _ s1 s3 hm0
theorem c3h (hf : Has O "newel/newelref04.Allows" x_r04_Allows) (b54 : b9a O) : c5j O := by
 intro m p input assume r hm0
 unfold c0t at hm0
 refine b1i hf rfl (b0a (fM _) (b0a (.agg _ (b0a (b0e _) (b0a (b0e _) (b0a (b0e _) b0j)))) (b0a (b0e _) (b0a (b0c fun a _ => b2j a) b0j)))) (b0e _) ?_
 refine b1c (fun t h => t 0 = .agg (vM m) /\ t 1 = .agg [I p.State, I p.Values.1, I p.Values.2] /\ t 2 = I input /\ t 3 = .fs 1 (List.map b0t assume)) ⟨rfl, rfl, rfl, rfl⟩ fun t h ⟨s0, s1, s2, s3⟩ => ?_
 simp only [x_r04_Allows]
 refine b0b fun K hK => ?_
 simp only [go_sem, s0, s1]
 refine hK _ _ ?_
 clear hK K
 obtain ⟨c4, h_c4, hm0⟩ := b0g hm0
 refine b2p (fun t h => t 8 = B c4) (fun K hK => ?_) ?_
 ·simp only [go_sem, s3]
  refine b0k (fun hg5 => ?_) (fun hg5 => ?_)
  ·simp only [hg5, eq_self, if_true] at h_c4
   obtain rfl := sI9 h_c4
   simp only [go_sem, hg5]
   exact hK _ _ (by first | (simp only [go_sem]; done) | rfl)
  ·simp only [hg5, if_false, fT9] at h_c4
   obtain ⟨y3, h_y3, h_c4⟩ := b0g h_c4
   obtain rfl := sI9 h_c4
   simp only [go_sem, s2, s3, hg5]
   refine b01 (b54 m p input assume _ h_y3) ?_
   simp only [go_sem, hg5]
   exact hK _ _ (by first | (simp only [go_sem]; done) | rfl)
 ·rintro t h s8
  simp only [b0x, b0y]
  obtain rfl := sI9 hm0
  exact b04 (by simp only [go_sem, s8]) (b0e _)
theorem c3i (hf : Has O "newel/newelref04.Check" x_r04_Check) (b4p : c5r O) (d3f : d0i O) (d3d : d0g O) (c3m : c5p O) : c5k O := by
 intro m r hm0
 unfold c0u at hm0
 refine b1i hf rfl (b0a (fM _) b0j) (b0e _) ?_
 refine b1c (fun t h => t 0 = .agg (vM m)) rfl fun t h s0 => ?_
 simp only [x_r04_Check]
 refine b0b fun K hK => ?_
 simp only [go_sem, s0]
 refine hK _ _ ?_
 clear hK K
 refine b0v ?_
 refine b2p (fun t h => t 1 = .fp (vM m) 0 /\ t 39 = B (((((decide (4 < (List.length m.Inputs : Int))) || (decide (6 < (List.length m.Outputs : Int)))) || (decide (2 < (List.length m.Counters : Int)))) || (!(b2b (List.length m.States : Int) 1 12))) || (decide (40 < (List.length m.Rules : Int))))) (fun K hK => ?_) ?_
 ·simp only [go_sem]
  refine b0k (fun hg1 => ?_) (fun hg1 => ?_)
  ·simp only [go_sem, hg1]
   exact hK _ _ ⟨(by first | (simp only [go_sem]; done) | rfl), (by first | (simp only [go_sem, hg1]; done) | rfl)⟩
  ·simp only [go_sem, hg1]
   refine b0k (fun hg2 => ?_) (fun hg2 => ?_)
   ·simp only [go_sem, hg1, hg2]
    exact hK _ _ ⟨(by first | (simp only [go_sem]; done) | rfl), (by first | (simp only [go_sem, hg1, hg2]; done) | rfl)⟩
   ·simp only [go_sem, hg1, hg2]
    refine b0k (fun hg3 => ?_) (fun hg3 => ?_)
    ·simp only [go_sem, hg1, hg2, hg3]
     exact hK _ _ ⟨(by first | (simp only [go_sem]; done) | rfl), (by first | (simp only [go_sem, hg1, hg2, hg3]; done) | rfl)⟩
    ·simp only [go_sem, hg1, hg2, hg3]
     refine b01 (b4p (List.length m.States : Int) 1 12) ?_
     simp only [go_sem, hg1, hg2, hg3]
     refine b0k (fun hg4 => ?_) (fun hg4 => ?_)
     ·simp only [go_sem, hg1, hg2, hg3, hg4]
      exact hK _ _ ⟨(by first | (simp only [go_sem]; done) | rfl), (by first | (simp only [go_sem, hg1, hg2, hg3, hg4]; done) | rfl)⟩
     ·simp only [go_sem, hg1, hg2, hg3, hg4]
      exact hK _ _ ⟨(by first | (simp only [go_sem]; done) | rfl), (by first | (simp only [go_sem, hg1, hg2, hg3, hg4]; done) | rfl)⟩
 ·rintro t h ⟨s1, s39⟩
  refine b0i fun K5 hK5 => ?_
  simp only [go_sem, s39]
  refine b0k (fun hc6 => ?_) (fun hc6 => ?_)
  ·rw [b0r hc6] at hm0
   refine b0b fun K hK => ?_
   simp only [go_sem]
   refine hK _ _ ?_
   clear hK K
   simp only [b0x, b1p, b0y]
   obtain rfl := sI9 hm0
   exact b04 (by simp only [go_sem]) (b0e _)
  ·rw [b0q hc6] at hm0
   simp only [b0s, b0f]
   refine hK5 _ _ ?_
   obtain ⟨y8, h_y8, hm0⟩ := b0g hm0
   refine b0b fun K hK => ?_
   simp only [go_sem, s1]
   refine b01 (d3f m _ h_y8) ?_
   simp only [go_sem]
   refine hK _ _ ?_
   clear hK K
   refine b0v ?_
   refine b0b fun K hK => ?_
   simp only [go_sem]
   refine hK _ _ ?_
   clear hK K
   refine b0i fun K9 hK9 => ?_
   have J10 : ∀ (t : Slots) (h : Heap), t 1 = .fp (vM m) 0 -> c77 m = some r -> K9 t h := by
    intro t h s1 hm0
    refine hK9 _ _ ?_
    unfold c77 at hm0
    refine b0v ?_
    refine b0b fun K hK => ?_
    simp only [go_sem]
    refine hK _ _ ?_
    clear hK K
    refine b0i fun K11 hK11 => ?_
    have J12 : ∀ (t : Slots) (h : Heap), t 1 = .fp (vM m) 0 -> c78 m = some r -> K11 t h := by
     intro t h s1 hm0
     refine hK11 _ _ ?_
     unfold c78 at hm0
     refine b0v ?_
     refine b0b fun K hK => ?_
     simp only [go_sem]
     refine hK _ _ ?_
     clear hK K
     refine b0i fun K13 hK13 => ?_
     have J14 : ∀ (t : Slots) (h : Heap), t 1 = .fp (vM m) 0 -> c79 m = some r -> K13 t h := by
      intro t h s1 hm0
      refine hK13 _ _ ?_
      unfold c79 at hm0
      refine b0v ?_
      refine b0b fun K hK => ?_
      simp only [go_sem]
      refine hK _ _ ?_
      clear hK K
      refine b0i fun K15 hK15 => ?_
      have J16 : ∀ (t : Slots) (h : Heap), d4p = some r -> K15 t h := by
       intro t h hm0
       refine hK15 _ _ ?_
       unfold d4p at hm0
       refine b0b fun K hK => ?_
       simp only [go_sem]
       refine hK _ _ ?_
       clear hK K
       simp only [b0x, b0y]
       obtain rfl := sI9 hm0
       exact b04 (by simp only [go_sem]) (b0e _)
      simp only [b0u]
      obtain ⟨b17, hl17, hm0⟩ := b0g hm0
      refine b1j hl17 (fun | i_8, t, h => t 1 = .fp (vM m) 0 /\ t 8 = I i_8) ?_ ?_
      ·exact ⟨s1, (by first | (simp only [go_sem]; done) | rfl)⟩
      ·rintro i_8 o t h ⟨s1, s8⟩ hm1 hb17
       simp only [b8v] at hm1
       rw [g4k]
       refine b0v ?_
       refine b0b fun K hK => ?_
       simp only [go_sem, s1, s8]
       refine hK _ _ ?_
       clear hK K
       refine b0i fun K18 hK18 => ?_
       simp only [go_sem]
       refine b0k (fun hc19 => ?_) (fun hc19 => ?_)
       ·rw [b0r hc19] at hm1
        simp only [b0s, b0f]
        refine hK18 _ _ ?_
        refine b0i fun K20 hK20 => ?_
        have J21 : ∀ (t : Slots) (h : Heap), t 1 = .fp (vM m) 0 -> t 8 = I i_8 -> c8a i_8 = some o -> K20 t h := by
         intro t h s1 s8 hm1
         refine hK20 _ _ ?_
         unfold c8a at hm1
         refine b03 fun K hK => ?_
         simp only [go_sem, s8]
         refine hK _ _ ?_
         clear hK K
         simp only [b0f]
         obtain rfl := sI9 hm1
         refine ⟨_, rfl, ?_⟩
         exact ⟨s1, (by first | (simp only [go_sem]; done) | rfl)⟩
        simp only [b0u]
        obtain ⟨x23, h_x23, hm1⟩ := b0g hm1
        have h_x230 := b05 h_x23
        have h_x231 := b06 h_x23
        refine b0b fun K hK => ?_
        simp only [go_sem, s1, s8, b08 h_x23, h_x231]
        refine hK _ _ ?_
        clear hK K
        refine b0v ?_
        obtain ⟨c27, h_c27, hm1⟩ := b0g hm1
        refine b2p (fun t h => ∃ i9 : Nat, t 1 = .fp (vM m) 0 /\ t 8 = I i_8 /\ t 9 = .rp i9 0 0 /\ t 154 = B (c27 || (decide (4 < (List.length x23.Sets : Int)))) /\ h.ob i9 = some (4, [[I x23.From, I x23.To, .fs 1 (List.map b0t x23.When), .fs 2 (List.map b2o x23.Sets)]]) /\ i9 < h.nx) (fun K hK => ?_) ?_
        ·simp only [go_sem, s1]
         refine b01 (b4p x23.From (-1) (wr ((List.length m.States : Int) - 1))) ?_
         simp only [go_sem]
         refine b0k (fun hg28 => ?_) (fun hg28 => ?_)
         ·simp only [hg28, eq_self, if_true, Bool.true_or] at h_c27
          obtain rfl := sI9 h_c27
          simp only [go_sem, hg28]
          exact hK _ _ ⟨h.nx, s1, s8, (by first | (simp only [go_sem]; done) | rfl), (by first | (simp only [go_sem]; done) | rfl), (by simp only [go_sem]), (by simp only [go_sem])⟩
         ·simp only [go_sem, s1, hg28]
          refine b01 (b4p x23.To 0 (wr ((List.length m.States : Int) - 1))) ?_
          simp only [go_sem, hg28]
          refine b0k (fun hg29 => ?_) (fun hg29 => ?_)
          ·simp only [hg28, hg29, eq_self, if_true, Bool.or_true] at h_c27
           obtain rfl := sI9 h_c27
           simp only [go_sem, hg28, hg29]
           exact hK _ _ ⟨h.nx, s1, s8, (by first | (simp only [go_sem]; done) | rfl), (by first | (simp only [go_sem]; done) | rfl), (by simp only [go_sem]), (by simp only [go_sem])⟩
          ·simp only [hg28, hg29, if_false, Bool.or_false, fT9] at h_c27
           obtain ⟨y26, h_y26, h_c27⟩ := b0g h_c27
           obtain rfl := sI9 h_c27
           simp only [go_sem, s1, hg28, hg29]
           refine b01 (c3m m x23.When false _ h_y26) ?_
           simp only [go_sem, hg28, hg29]
           refine b0k (fun hg30 => ?_) (fun hg30 => ?_)
           ·simp only [go_sem, hg28, hg29, hg30]
            exact hK _ _ ⟨h.nx, s1, s8, (by first | (simp only [go_sem]; done) | rfl), (by first | (simp only [go_sem, hg30]; done) | rfl), (by simp only [go_sem]), (by simp only [go_sem])⟩
           ·simp only [go_sem, hg28, hg29, hg30]
            exact hK _ _ ⟨h.nx, s1, s8, (by first | (simp only [go_sem]; done) | rfl), (by first | (simp only [go_sem, hg30]; done) | rfl), (by simp only [go_sem]), (by simp only [go_sem])⟩
        ·rintro t h ⟨i9, s1, s8, s9, s154, Qd, Qe⟩
         refine b0i fun K31 hK31 => ?_
         simp only [go_sem, s154]
         refine b0k (fun hc32 => ?_) (fun hc32 => ?_)
         ·rw [b0r hc32] at hm1
          refine b0b fun K hK => ?_
          simp only [go_sem]
          refine hK _ _ ?_
          clear hK K
          simp only [b0x, b1p, b2e, b0y]
          obtain rfl := sI9 hm1
          obtain rfl := hb17 _ rfl
          try dsimp only at hm0
          obtain rfl := sI9 hm0
          exact b04 (by simp only [go_sem]) (b0e _)
         ·rw [b0q hc32] at hm1
          simp only [b0s, b0f]
          refine hK31 _ _ ?_
          refine b0b fun K hK => ?_
          simp only [go_sem]
          refine hK _ _ ?_
          clear hK K
          simp only [b0u]
          obtain ⟨b33, hl33, hm1⟩ := b0g hm1
          refine b1j hl33 (fun | k_10, t, h => t 1 = .fp (vM m) 0 /\ t 8 = I i_8 /\ t 9 = .rp i9 0 0 /\ t 10 = I k_10 /\ h.ob i9 = some (4, [[I x23.From, I x23.To, .fs 1 (List.map b0t x23.When), .fs 2 (List.map b2o x23.Sets)]]) /\ i9 < h.nx) ?_ ?_
          ·exact ⟨s1, s8, s9, (by first | (simp only [go_sem]; done) | rfl), Qd, Qe⟩
          ·rintro k_10 o t h ⟨s1, s8, s9, s10, Qd, Qe⟩ hm2 hb33
           simp only [c39] at hm2
           rw [g4j]
           refine b0v ?_
           refine b0b fun K hK => ?_
           simp only [go_sem, s9, s10, Qd]
           refine hK _ _ ?_
           clear hK K
           refine b0i fun K34 hK34 => ?_
           simp only [go_sem]
           refine b0k (fun hc35 => ?_) (fun hc35 => ?_)
           ·rw [b0r hc35] at hm2
            simp only [b0s, b0f]
            refine hK34 _ _ ?_
            refine b0i fun K36 hK36 => ?_
            simp only [b0u]
            obtain ⟨x38, h_x38, hm2⟩ := b0g hm2
            have h_x380 := b05 h_x38
            have h_x381 := b06 h_x38
            refine b2p (fun t h => t 1 = .fp (vM m) 0 /\ t 8 = I i_8 /\ t 9 = .rp i9 0 0 /\ t 10 = I k_10 /\ t 183 = B ((!(b2b x38.Kind 1 3)) || (!(b2b x38.Counter 0 (wr ((List.length m.Counters : Int) - 1))))) /\ h.ob i9 = some (4, [[I x23.From, I x23.To, .fs 1 (List.map b0t x23.When), .fs 2 (List.map b2o x23.Sets)]]) /\ i9 < h.nx) (fun K hK => ?_) ?_
            ·simp only [go_sem, s9, s10, Qd, b08 h_x38, h_x381]
             refine b01 (b4p x38.Kind 1 3) ?_
             simp only [go_sem]
             refine b0k (fun hg39 => ?_) (fun hg39 => ?_)
             ·simp only [go_sem, hg39]
              exact hK _ _ ⟨s1, s8, s9, s10, (by first | (simp only [go_sem, hg39]; done) | rfl), Qd, Qe⟩
             ·simp only [go_sem, s1, s9, s10, Qd, b08 h_x38, hg39]
              refine b01 (b4p x38.Counter 0 (wr ((List.length m.Counters : Int) - 1))) ?_
              simp only [go_sem, hg39]
              exact hK _ _ ⟨s1, s8, s9, s10, (by first | (simp only [go_sem, hg39]; done) | rfl), Qd, Qe⟩
            ·rintro t h ⟨s1, s8, s9, s10, s183, Qd, Qe⟩
             simp only [go_sem, s183]
             refine b0k (fun hc40 => ?_) (fun hc40 => ?_)
             ·rw [b0r hc40] at hm2
              refine b0b fun K hK => ?_
              simp only [go_sem]
              refine hK _ _ ?_
              clear hK K
              simp only [b0x, b1p, b2e, b0y]
              obtain rfl := sI9 hm2
              obtain rfl := hb33 _ rfl
              try dsimp only at hm1
              obtain rfl := sI9 hm1
              obtain rfl := hb17 _ rfl
              try dsimp only at hm0
              obtain rfl := sI9 hm0
              exact b04 (by simp only [go_sem]) (b0e _)
             ·rw [b0q hc40] at hm2
              simp only [b0s, b02, b0f]
              refine hK36 _ _ ?_
              refine b03 fun K hK => ?_
              simp only [go_sem, s10]
              refine hK _ _ ?_
              clear hK K
              simp only [b0f]
              obtain rfl := sI9 hm2
              refine ⟨_, rfl, ?_⟩
              exact ⟨s1, s8, s9, (by first | (simp only [go_sem]; done) | rfl), Qd, Qe⟩
           ·rw [b0q hc35] at hm2
            simp only [b09, b1b, b1a, b02, b0f]
            obtain rfl := sI9 hm2
            obtain rfl := hb33 _ rfl
            try dsimp only at hm1
            exact J21  _ _ s1 s8 hm1
       ·rw [b0q hc19] at hm1
        simp only [b09, b1b, b1a, b0f]
        obtain rfl := sI9 hm1
        obtain rfl := hb17 _ rfl
        try dsimp only at hm0
        exact J16  _ _  hm0
     simp only [b0u]
     obtain ⟨b43, hl43, hm0⟩ := b0g hm0
     refine b1j hl43 (fun | i_7, t, h => t 1 = .fp (vM m) 0 /\ t 7 = I i_7) ?_ ?_
     ·exact ⟨s1, (by first | (simp only [go_sem]; done) | rfl)⟩
     ·rintro i_7 o t h ⟨s1, s7⟩ hm1 hb43
      simp only [c37] at hm1
      rw [g4i]
      refine b0v ?_
      refine b0b fun K hK => ?_
      simp only [go_sem, s1, s7]
      refine hK _ _ ?_
      clear hK K
      refine b0i fun K44 hK44 => ?_
      simp only [go_sem]
      refine b0k (fun hc45 => ?_) (fun hc45 => ?_)
      ·rw [b0r hc45] at hm1
       simp only [b0s, b0f]
       refine hK44 _ _ ?_
       refine b0i fun K46 hK46 => ?_
       simp only [b0u]
       obtain ⟨x49, h_x49, hm1⟩ := b0g hm1
       have h_x490 := b05 h_x49
       have h_x491 := b06 h_x49
       obtain ⟨q50, h_q50, hm1⟩ := b0g hm1
       refine b0b fun K hK => ?_
       simp only [go_sem, s1, s7, b08 h_x49, h_x491, c21 h_q50]
       refine b01 (b4p x49.Shows 0 (wr (q50 - 1))) ?_
       simp only [go_sem]
       refine hK _ _ ?_
       clear hK K
       simp only [go_sem]
       refine b0k (fun hc51 => ?_) (fun hc51 => ?_)
       ·rw [b0r hc51] at hm1
        refine b0b fun K hK => ?_
        simp only [go_sem]
        refine hK _ _ ?_
        clear hK K
        simp only [b0x, b1p, b2e, b0y]
        obtain rfl := sI9 hm1
        obtain rfl := hb43 _ rfl
        try dsimp only at hm0
        obtain rfl := sI9 hm0
        exact b04 (by simp only [go_sem]) (b0e _)
       ·rw [b0q hc51] at hm1
        simp only [b0s, b02, b0f]
        refine hK46 _ _ ?_
        refine b03 fun K hK => ?_
        simp only [go_sem, s7]
        refine hK _ _ ?_
        clear hK K
        simp only [b0f]
        obtain rfl := sI9 hm1
        refine ⟨_, rfl, ?_⟩
        exact ⟨s1, (by first | (simp only [go_sem]; done) | rfl)⟩
      ·rw [b0q hc45] at hm1
       simp only [b09, b1b, b1a, b0f]
       obtain rfl := sI9 hm1
       obtain rfl := hb43 _ rfl
       try dsimp only at hm0
       exact J14  _ _ s1 hm0
    simp only [b0u]
    obtain ⟨b53, hl53, hm0⟩ := b0g hm0
    refine b1j hl53 (fun | i_6, t, h => t 1 = .fp (vM m) 0 /\ t 6 = I i_6) ?_ ?_
    ·exact ⟨s1, (by first | (simp only [go_sem]; done) | rfl)⟩
    ·rintro i_6 o t h ⟨s1, s6⟩ hm1 hb53
     simp only [c36] at hm1
     rw [g4h]
     refine b0v ?_
     refine b0b fun K hK => ?_
     simp only [go_sem, s1, s6]
     refine hK _ _ ?_
     clear hK K
     refine b0i fun K54 hK54 => ?_
     simp only [go_sem]
     refine b0k (fun hc55 => ?_) (fun hc55 => ?_)
     ·rw [b0r hc55] at hm1
      simp only [b0s, b0f]
      refine hK54 _ _ ?_
      refine b0i fun K56 hK56 => ?_
      simp only [b0u]
      obtain ⟨x58, h_x58, hm1⟩ := b0g hm1
      have h_x580 := b05 h_x58
      have h_x581 := b06 h_x58
      refine b0b fun K hK => ?_
      simp only [go_sem, s1, s6, b08 h_x58, h_x581]
      refine b01 (b4p x58.Max 1 7) ?_
      simp only [go_sem]
      refine hK _ _ ?_
      clear hK K
      simp only [go_sem]
      refine b0k (fun hc59 => ?_) (fun hc59 => ?_)
      ·rw [b0r hc59] at hm1
       refine b0b fun K hK => ?_
       simp only [go_sem]
       refine hK _ _ ?_
       clear hK K
       simp only [b0x, b1p, b2e, b0y]
       obtain rfl := sI9 hm1
       obtain rfl := hb53 _ rfl
       try dsimp only at hm0
       obtain rfl := sI9 hm0
       exact b04 (by simp only [go_sem]) (b0e _)
      ·rw [b0q hc59] at hm1
       simp only [b0s, b02, b0f]
       refine hK56 _ _ ?_
       refine b03 fun K hK => ?_
       simp only [go_sem, s6]
       refine hK _ _ ?_
       clear hK K
       simp only [b0f]
       obtain rfl := sI9 hm1
       refine ⟨_, rfl, ?_⟩
       exact ⟨s1, (by first | (simp only [go_sem]; done) | rfl)⟩
     ·rw [b0q hc55] at hm1
      simp only [b09, b1b, b1a, b0f]
      obtain rfl := sI9 hm1
      obtain rfl := hb53 _ rfl
      try dsimp only at hm0
      exact J12  _ _ s1 hm0
   simp only [b0u]
   obtain ⟨b61, hl61, hm0⟩ := b0g hm0
   refine b1j hl61 (fun | i_4, t, h => t 1 = .fp (vM m) 0 /\ t 3 = .fs 1 (List.map eS y8) /\ t 4 = I i_4) ?_ ?_
   ·exact ⟨s1, (by first | (simp only [go_sem]; done) | rfl), (by first | (simp only [go_sem]; done) | rfl)⟩
   ·rintro i_4 o t h ⟨s1, s3, s4⟩ hm1 hb61
    simp only [b7n] at hm1
    rw [g4g]
    refine b0v ?_
    refine b0b fun K hK => ?_
    simp only [go_sem, s3, s4]
    refine hK _ _ ?_
    clear hK K
    refine b0i fun K62 hK62 => ?_
    simp only [go_sem]
    refine b0k (fun hc63 => ?_) (fun hc63 => ?_)
    ·rw [b0r hc63] at hm1
     simp only [b0s, b0f]
     refine hK62 _ _ ?_
     refine b0i fun K64 hK64 => ?_
     have J65 : ∀ (t : Slots) (h : Heap), t 1 = .fp (vM m) 0 -> t 3 = .fs 1 (List.map eS y8) -> t 4 = I i_4 -> c8b i_4 = some o -> K64 t h := by
      intro t h s1 s3 s4 hm1
      refine hK64 _ _ ?_
      unfold c8b at hm1
      refine b03 fun K hK => ?_
      simp only [go_sem, s4]
      refine hK _ _ ?_
      clear hK K
      simp only [b0f]
      obtain rfl := sI9 hm1
      refine ⟨_, rfl, ?_⟩
      exact ⟨s1, s3, (by first | (simp only [go_sem]; done) | rfl)⟩
     simp only [b0u]
     refine b0v ?_
     obtain ⟨x69, h_x69, hm1⟩ := b0g hm1
     have h_x690 := b05 h_x69
     have h_x691 := b06 h_x69
     obtain ⟨c71, h_c71, hm1⟩ := b0g hm1
     refine b2p (fun t h => t 1 = .fp (vM m) 0 /\ t 3 = .fs 1 (List.map eS y8) /\ t 4 = I i_4 /\ t 61 = B c71) (fun K hK => ?_) ?_
     ·simp only [go_sem, s3, s4, b08 h_x69, h_x691]
      refine b0k (fun hg72 => ?_) (fun hg72 => ?_)
      ·simp only [hg72, eq_self, if_true] at h_c71
       obtain rfl := sI9 h_c71
       simp only [go_sem, hg72]
       exact hK _ _ ⟨s1, s3, s4, (by first | (simp only [go_sem]; done) | rfl)⟩
      ·simp only [hg72, if_false, fT9] at h_c71
       obtain ⟨y70, h_y70, h_c71⟩ := b0g h_c71
       obtain rfl := sI9 h_c71
       simp only [go_sem, s3, s4, b08 h_x69, hg72]
       refine b01 (d3d x69 _ h_y70) ?_
       simp only [go_sem, hg72]
       exact hK _ _ ⟨s1, s3, s4, (by first | (simp only [go_sem]; done) | rfl)⟩
     ·rintro t h ⟨s1, s3, s4, s61⟩
      refine b0i fun K73 hK73 => ?_
      simp only [go_sem, s61]
      refine b0k (fun hc74 => ?_) (fun hc74 => ?_)
      ·rw [b0r hc74] at hm1
       refine b0b fun K hK => ?_
       simp only [go_sem]
       refine hK _ _ ?_
       clear hK K
       simp only [b0x, b1p, b2e, b0y]
       obtain rfl := sI9 hm1
       obtain rfl := hb61 _ rfl
       try dsimp only at hm0
       obtain rfl := sI9 hm0
       exact b04 (by simp only [go_sem]) (b0e _)
      ·rw [b0q hc74] at hm1
       simp only [b0s, b0f]
       refine hK73 _ _ ?_
       refine b0b fun K hK => ?_
       simp only [go_sem]
       refine hK _ _ ?_
       clear hK K
       simp only [b0u]
       obtain ⟨b75, hl75, hm1⟩ := b0g hm1
       refine b1j hl75 (fun | k_5, t, h => t 1 = .fp (vM m) 0 /\ t 3 = .fs 1 (List.map eS y8) /\ t 4 = I i_4 /\ t 5 = I k_5) ?_ ?_
       ·exact ⟨s1, s3, s4, (by first | (simp only [go_sem]; done) | rfl)⟩
       ·rintro k_5 o t h ⟨s1, s3, s4, s5⟩ hm2 hb75
        simp only [b8u] at hm2
        rw [g4f]
        refine b0v ?_
        refine b0b fun K hK => ?_
        simp only [go_sem, s4, s5]
        refine hK _ _ ?_
        clear hK K
        refine b0i fun K76 hK76 => ?_
        simp only [go_sem]
        refine b0k (fun hc77 => ?_) (fun hc77 => ?_)
        ·rw [b0r hc77] at hm2
         simp only [b0s, b0f]
         refine hK76 _ _ ?_
         refine b0i fun K78 hK78 => ?_
         simp only [b0u]
         obtain ⟨x81, h_x81, hm2⟩ := b0g hm2
         have h_x810 := b05 h_x81
         have h_x811 := b06 h_x81
         obtain ⟨x82, h_x82, hm2⟩ := b0g hm2
         have h_x820 := b05 h_x82
         have h_x821 := b06 h_x82
         refine b0b fun K hK => ?_
         simp only [go_sem, s3, s4, s5, b08 h_x81, b08 h_x82]
         refine hK _ _ ?_
         clear hK K
         simp only [go_sem]
         refine b0k (fun hc83 => ?_) (fun hc83 => ?_)
         ·rw [b0r hc83] at hm2
          refine b0b fun K hK => ?_
          simp only [go_sem]
          refine hK _ _ ?_
          clear hK K
          simp only [b0x, b1p, b2e, b0y]
          obtain rfl := sI9 hm2
          obtain rfl := hb75 _ rfl
          try dsimp only at hm1
          obtain rfl := sI9 hm1
          obtain rfl := hb61 _ rfl
          try dsimp only at hm0
          obtain rfl := sI9 hm0
          exact b04 (by simp only [go_sem]) (b0e _)
         ·rw [b0q hc83] at hm2
          simp only [b0s, b02, b0f]
          refine hK78 _ _ ?_
          refine b03 fun K hK => ?_
          simp only [go_sem, s5]
          refine hK _ _ ?_
          clear hK K
          simp only [b0f]
          obtain rfl := sI9 hm2
          refine ⟨_, rfl, ?_⟩
          exact ⟨s1, s3, s4, (by first | (simp only [go_sem]; done) | rfl)⟩
        ·rw [b0q hc77] at hm2
         simp only [b09, b1b, b1a, b02, b0f]
         obtain rfl := sI9 hm2
         obtain rfl := hb75 _ rfl
         try dsimp only at hm1
         exact J65  _ _ s1 s3 s4 hm1
    ·rw [b0q hc63] at hm1
     simp only [b09, b1b, b1a, b0f]
     obtain rfl := sI9 hm1
     obtain rfl := hb61 _ rfl
     try dsimp only at hm0
     exact J10  _ _ s1 hm0
theorem c3j (hf : Has O "newel/newelref04.CheckConds" x_r04_CheckConds) (c3i : c5k O) (c3m : c5p O) : c5l O := by
 intro m l r hm0
 unfold c0v at hm0
 refine b1i hf rfl (b0a (fM _) (b0a (b0c fun a _ => b97 a) b0j)) (b0e _) ?_
 refine b1c (fun t h => t 0 = .agg (vM m) /\ t 1 = .fs 1 (List.map b4v l)) ⟨rfl, rfl⟩ fun t h ⟨s0, s1⟩ => ?_
 simp only [x_r04_CheckConds]
 refine b0b fun K hK => ?_
 simp only [go_sem, s0]
 refine hK _ _ ?_
 clear hK K
 obtain ⟨y2, h_y2, hm0⟩ := b0g hm0
 refine b0b fun K hK => ?_
 simp only [go_sem]
 refine b01 (c3i m _ h_y2) ?_
 simp only [go_sem]
 refine hK _ _ ?_
 clear hK K
 refine b0v ?_
 refine b0b fun K hK => ?_
 simp only [go_sem]
 refine hK _ _ ?_
 clear hK K
 refine b0i fun K3 hK3 => ?_
 simp only [go_sem]
 refine b0k (fun hc4 => ?_) (fun hc4 => ?_)
 ·rw [b0r hc4] at hm0
  refine b0b fun K hK => ?_
  simp only [go_sem]
  refine hK _ _ ?_
  clear hK K
  simp only [b0x, b1p, b0y]
  obtain rfl := sI9 hm0
  exact b04 (by simp only [go_sem]) (b0e _)
 ·rw [b0q hc4] at hm0
  simp only [b0s, b0f]
  refine hK3 _ _ ?_
  refine b0v ?_
  refine b0b fun K hK => ?_
  simp only [go_sem]
  refine hK _ _ ?_
  clear hK K
  refine b0i fun K5 hK5 => ?_
  have J6 : ∀ (t : Slots) (h : Heap), d4o = some r -> K5 t h := by
   intro t h hm0
   refine hK5 _ _ ?_
   unfold d4o at hm0
   refine b0b fun K hK => ?_
   simp only [go_sem]
   refine hK _ _ ?_
   clear hK K
   simp only [b0x, b0y]
   obtain rfl := sI9 hm0
   exact b04 (by simp only [go_sem]) (b0e _)
  simp only [b0u]
  obtain ⟨b7, hl7, hm0⟩ := b0g hm0
  refine b1j hl7 (fun | i_6, t, h => t 1 = .fs 1 (List.map b4v l) /\ t 2 = .fp (vM m) 0 /\ t 6 = I i_6) ?_ ?_
  ·exact ⟨s1, (by first | (simp only [go_sem]; done) | rfl), (by first | (simp only [go_sem]; done) | rfl)⟩
  ·rintro i_6 o t h ⟨s1, s2, s6⟩ hm1 hb7
   simp only [c35] at hm1
   rw [g4e]
   refine b0v ?_
   refine b0b fun K hK => ?_
   simp only [go_sem, s1, s6]
   refine hK _ _ ?_
   clear hK K
   refine b0i fun K8 hK8 => ?_
   simp only [go_sem]
   refine b0k (fun hc9 => ?_) (fun hc9 => ?_)
   ·rw [b0r hc9] at hm1
    simp only [b0s, b0f]
    refine hK8 _ _ ?_
    refine b0i fun K10 hK10 => ?_
    simp only [b0u]
    obtain ⟨x13, h_x13, hm1⟩ := b0g hm1
    have h_x130 := b05 h_x13
    have h_x131 := b06 h_x13
    obtain ⟨y14, h_y14, hm1⟩ := b0g hm1
    refine b0b fun K hK => ?_
    simp only [go_sem, s1, s2, s6, b08 h_x13, h_x131]
    refine b01 (c3m m x13 true _ h_y14) ?_
    simp only [go_sem]
    refine hK _ _ ?_
    clear hK K
    simp only [go_sem]
    refine b0k (fun hc15 => ?_) (fun hc15 => ?_)
    ·rw [b0r hc15] at hm1
     refine b0b fun K hK => ?_
     simp only [go_sem]
     refine hK _ _ ?_
     clear hK K
     simp only [b0x, b1p, b2e, b0y]
     obtain rfl := sI9 hm1
     obtain rfl := hb7 _ rfl
     try dsimp only at hm0
     obtain rfl := sI9 hm0
     exact b04 (by simp only [go_sem]) (b0e _)
    ·rw [b0q hc15] at hm1
     simp only [b0s, b02, b0f]
     refine hK10 _ _ ?_
     refine b03 fun K hK => ?_
     simp only [go_sem, s6]
     refine hK _ _ ?_
     clear hK K
     simp only [b0f]
     obtain rfl := sI9 hm1
     refine ⟨_, rfl, ?_⟩
     exact ⟨s1, s2, (by first | (simp only [go_sem]; done) | rfl)⟩
   ·rw [b0q hc9] at hm1
    simp only [b09, b1b, b1a, b0f]
    obtain rfl := sI9 hm1
    obtain rfl := hb7 _ rfl
    try dsimp only at hm0
    exact J6  _ _  hm0
theorem d3a (hf : Has O "newel/newelref04.Copy" x_r04_Copy) (c0i : c5m O) : d0d O := by
 intro m r hm0
 unfold c4a at hm0
 refine b1i hf rfl (b0a (fM _) b0j) (fM _) ?_
 refine b1c (fun t h => t 0 = .agg (vM m)) rfl fun t h s0 => ?_
 simp only [x_r04_Copy]
 refine b0b fun K hK => ?_
 simp only [go_sem, s0]
 refine hK _ _ ?_
 clear hK K
 obtain ⟨l5, h_l5, hm0⟩ := b0g hm0
 obtain ⟨l6, h_l6, hm0⟩ := b0g hm0
 obtain ⟨l7, h_l7, hm0⟩ := b0g hm0
 obtain ⟨l8, h_l8, hm0⟩ := b0g hm0
 refine b0b fun K hK => ?_
 simp only [go_sem]
 refine b3a (f := eS) (l := ([])) (m := m.Inputs) ?_ ?_ ?_ ?_ h_l5 ?_
 ·exact (b2v (by simp only [go_sem]) (by simp only [go_sem]) (by simp only [go_sem]))
 ·exact b7j
 ·exact b7i
 ·exact (fun e => by cases e)
 simp only [go_sem]
 refine b3a (f := eS) (l := ([])) (m := m.Outputs) ?_ ?_ ?_ ?_ h_l6 ?_
 ·exact (b2v (by simp only [go_sem]) (by simp only [go_sem]) (by simp only [go_sem]))
 ·exact b7j
 ·exact b7i
 ·exact (fun e => by cases e)
 simp only [go_sem]
 refine b3a (f := b0o) (l := ([])) (m := m.Counters) ?_ ?_ ?_ ?_ h_l7 ?_
 ·exact (b2v (by simp only [go_sem]) (by simp only [go_sem]) (by simp only [go_sem]))
 ·exact b7j
 ·exact b7i
 ·exact (fun e => by cases e)
 simp only [go_sem]
 refine b3a (f := b0p) (l := ([])) (m := m.States) ?_ ?_ ?_ ?_ h_l8 ?_
 ·exact (b2v (by simp only [go_sem]) (by simp only [go_sem]) (by simp only [go_sem]))
 ·exact b7j
 ·exact b7i
 ·exact (fun e => by cases e)
 simp only [go_sem]
 refine hK _ _ ?_
 clear hK K
 refine b0v ?_
 refine b0b fun K hK => ?_
 simp only [go_sem]
 refine hK _ _ ?_
 clear hK K
 refine b0i fun K9 hK9 => ?_
 have J10 : ∀ (o_3_4 : List Rule) (i2 : Nat) (i3 : Nat) (i3_1 : Nat) (i3_2 : Nat) (i3_3 : Nat) (i3_4 : Nat) (v3 : AV) (t : Slots) (h : Heap), t 2 = .rp i2 0 0 -> t 3 = .rp i3 0 0 -> h.ob i2 = some (5, [[.v (.slice none 0 0), .v (.slice none 0 0), .v (.slice none 0 0), .v (.slice none 0 0), .v (.slice none 0 0)]]) -> i2 < h.nx -> h.ob i3 = some (5, [[.rs i3_1 0 (List.length l5), .rs i3_2 0 (List.length l6), .rs i3_3 0 (List.length l7), .rs i3_4 0 (List.length l8), v3]]) -> i3 < h.nx -> h.ob i3_1 = some (1, List.map eS l5) -> i3_1 < h.nx -> h.ob i3_2 = some (1, List.map eS l6) -> i3_2 < h.nx -> h.ob i3_3 = some (2, List.map b0o l7) -> i3_3 < h.nx -> h.ob i3_4 = some (2, List.map b0p l8) -> i3_4 < h.nx -> b2a h v3 4 (List.map b0m o_3_4) -> ¬i2 = i3 -> ¬i2 = i3_1 -> ¬i2 = i3_2 -> ¬i2 = i3_3 -> ¬i2 = i3_4 -> b07 v3 i2 -> ¬i3 = i3_1 -> ¬i3 = i3_2 -> ¬i3 = i3_3 -> ¬i3 = i3_4 -> b07 v3 i3 -> ¬i3_1 = i3_2 -> ¬i3_1 = i3_3 -> ¬i3_1 = i3_4 -> b07 v3 i3_1 -> ¬i3_2 = i3_3 -> ¬i3_2 = i3_4 -> b07 v3 i3_2 -> ¬i3_3 = i3_4 -> b07 v3 i3_3 -> b07 v3 i3_4 -> c8d l5 l6 l7 l8 o_3_4 = some r -> K9 t h := by
  intro o_3_4 i2 i3 i3_1 i3_2 i3_3 i3_4 v3 t h s2 s3 Qq Qr Qo Qj Qs Qt Qu Qv Qw Qx Qy Qz Qp Q10 Q11 Q12 Q13 Q14 Q15 Q16 Q17 Q18 Q19 Q1a Q1b Q1c Q1d Q1e Q1f Q1g Q1h Q1i Q1j Q1k hm0
  refine hK9 _ _ ?_
  unfold c8d at hm0
  refine b0b fun K hK => ?_
  simp only [go_sem, s2, s3, Qq, Qo]
  refine hK _ _ ?_
  clear hK K
  simp only [b0x, b0y]
  obtain rfl := sI9 hm0
  exact b90 (id := i2) (m := 5) (cs := [.rs i3_1 0 (List.length l5), .rs i3_2 0 (List.length l6), .rs i3_3 0 (List.length l7), .rs i3_4 0 (List.length l8), v3]) (by simp only [go_sem, s2]) (by simp only [go_sem]) rfl (d79 (.cons (b29 (f := eS) (l := l5) (id := i3_1) (by simp only [go_sem, Qs, b1z Q11]) (by first | rfl | simp only [go_sem, lA9, mA9]) b0z c3u) (.cons (b29 (f := eS) (l := l6) (id := i3_2) (by simp only [go_sem, Qu, b1z Q12]) (by first | rfl | simp only [go_sem, lA9, mA9]) b0z c3u) (.cons (b29 (f := b0o) (l := l7) (id := i3_3) (by simp only [go_sem, Qw, b1z Q13]) (by first | rfl | simp only [go_sem, lA9, mA9]) b1q j7m) (.cons (b29 (f := b0p) (l := l8) (id := i3_4) (by simp only [go_sem, Qy, b1z Q14]) (by first | rfl | simp only [go_sem, lA9, mA9]) b1s j7r) (.cons (b98 (f := b0m) (l := o_3_4) (b3x Qp (by intro j hj hl; first | rfl | simp only [go_sem, b4s hj Q15]) (by first | omega | exact Nat.le_refl _ | (simp only [go_sem, nxs] <;> omega))) b1r j7p) (.nil)))))))
 simp only [b0u]
 obtain ⟨b11, hl11, hm0⟩ := b0g hm0
 refine b1j hl11 (fun | (o_3_4, i_4), t, h => ∃ i2 : Nat, ∃ i3 : Nat, ∃ i3_1 : Nat, ∃ i3_2 : Nat, ∃ i3_3 : Nat, ∃ i3_4 : Nat, ∃ v3 : AV, t 1 = .fp (vM m) 0 /\ t 2 = .rp i2 0 0 /\ t 3 = .rp i3 0 0 /\ t 4 = I i_4 /\ h.ob i2 = some (5, [[.v (.slice none 0 0), .v (.slice none 0 0), .v (.slice none 0 0), .v (.slice none 0 0), .v (.slice none 0 0)]]) /\ i2 < h.nx /\ h.ob i3 = some (5, [[.rs i3_1 0 (List.length l5), .rs i3_2 0 (List.length l6), .rs i3_3 0 (List.length l7), .rs i3_4 0 (List.length l8), v3]]) /\ i3 < h.nx /\ h.ob i3_1 = some (1, List.map eS l5) /\ i3_1 < h.nx /\ h.ob i3_2 = some (1, List.map eS l6) /\ i3_2 < h.nx /\ h.ob i3_3 = some (2, List.map b0o l7) /\ i3_3 < h.nx /\ h.ob i3_4 = some (2, List.map b0p l8) /\ i3_4 < h.nx /\ b2a h v3 4 (List.map b0m o_3_4) /\ ¬i2 = i3 /\ ¬i2 = i3_1 /\ ¬i2 = i3_2 /\ ¬i2 = i3_3 /\ ¬i2 = i3_4 /\ b07 v3 i2 /\ ¬i3 = i3_1 /\ ¬i3 = i3_2 /\ ¬i3 = i3_3 /\ ¬i3 = i3_4 /\ b07 v3 i3 /\ ¬i3_1 = i3_2 /\ ¬i3_1 = i3_3 /\ ¬i3_1 = i3_4 /\ b07 v3 i3_1 /\ ¬i3_2 = i3_3 /\ ¬i3_2 = i3_4 /\ b07 v3 i3_2 /\ ¬i3_3 = i3_4 /\ b07 v3 i3_3 /\ b07 v3 i3_4) ?_ ?_
 ·exact ⟨h.nx, (nxs (nxs (nxs (nxs (nxs (nxs (nxs (nxs (nxs h.nx))))))))), (nxs (nxs h.nx)), (nxs (nxs (nxs (nxs h.nx)))), (nxs (nxs (nxs (nxs (nxs (nxs h.nx)))))), (nxs (nxs (nxs (nxs (nxs (nxs (nxs (nxs h.nx)))))))), (.v (.slice none 0 0)), (by first | (simp only [go_sem]; done) | rfl), (by first | (simp only [go_sem]; done) | rfl), (by first | (simp only [go_sem]; done) | rfl), (by first | (simp only [go_sem]; done) | rfl), (by simp only [go_sem]), (by simp only [go_sem]), (by simp only [go_sem]), (by simp only [go_sem]), (by simp only [go_sem]), (by simp only [go_sem]), (by simp only [go_sem]), (by simp only [go_sem]), (by simp only [go_sem]), (by simp only [go_sem]), (by simp only [go_sem]), (by simp only [go_sem]), c0o, (by first | first | assumption | omega | (simp only [nxs] <;> omega)), (by first | first | assumption | omega | (simp only [nxs] <;> omega)), (by first | first | assumption | omega | (simp only [nxs] <;> omega)), (by first | first | assumption | omega | (simp only [nxs] <;> omega)), (by first | first | assumption | omega | (simp only [nxs] <;> omega)), (by first | exact b1w | exact b1y (by first | assumption | omega | (simp only [nxs] <;> omega)) | assumption | exact b1v (by assumption) (by first | assumption | omega | (simp only [nxs] <;> omega))), (by first | first | assumption | omega | (simp only [nxs] <;> omega)), (by first | first | assumption | omega | (simp only [nxs] <;> omega)), (by first | first | assumption | omega | (simp only [nxs] <;> omega)), (by first | first | assumption | omega | (simp only [nxs] <;> omega)), (by first | exact b1w | exact b1y (by first | assumption | omega | (simp only [nxs] <;> omega)) | assumption | exact b1v (by assumption) (by first | assumption | omega | (simp only [nxs] <;> omega))), (by first | first | assumption | omega | (simp only [nxs] <;> omega)), (by first | first | assumption | omega | (simp only [nxs] <;> omega)), (by first | first | assumption | omega | (simp only [nxs] <;> omega)), (by first | exact b1w | exact b1y (by first | assumption | omega | (simp only [nxs] <;> omega)) | assumption | exact b1v (by assumption) (by first | assumption | omega | (simp only [nxs] <;> omega))), (by first | first | assumption | omega | (simp only [nxs] <;> omega)), (by first | first | assumption | omega | (simp only [nxs] <;> omega)), (by first | exact b1w | exact b1y (by first | assumption | omega | (simp only [nxs] <;> omega)) | assumption | exact b1v (by assumption) (by first | assumption | omega | (simp only [nxs] <;> omega))), (by first | first | assumption | omega | (simp only [nxs] <;> omega)), (by first | exact b1w | exact b1y (by first | assumption | omega | (simp only [nxs] <;> omega)) | assumption | exact b1v (by assumption) (by first | assumption | omega | (simp only [nxs] <;> omega))), (by first | exact b1w | exact b1y (by first | assumption | omega | (simp only [nxs] <;> omega)) | assumption | exact b1v (by assumption) (by first | assumption | omega | (simp only [nxs] <;> omega)))⟩
 ·rintro ⟨o_3_4, i_4⟩ o t h ⟨i2, i3, i3_1, i3_2, i3_3, i3_4, v3, s1, s2, s3, s4, Qq, Qr, Qo, Qj, Qs, Qt, Qu, Qv, Qw, Qx, Qy, Qz, Qp, Q10, Q11, Q12, Q13, Q14, Q15, Q16, Q17, Q18, Q19, Q1a, Q1b, Q1c, Q1d, Q1e, Q1f, Q1g, Q1h, Q1i, Q1j, Q1k⟩ hm1 hb11
  simp only [c4c] at hm1
  rw [g4m]
  refine b0v ?_
  refine b0b fun K hK => ?_
  simp only [go_sem, s1, s4]
  refine hK _ _ ?_
  clear hK K
  refine b0i fun K12 hK12 => ?_
  simp only [go_sem]
  refine b0k (fun hc13 => ?_) (fun hc13 => ?_)
  ·rw [b0r hc13] at hm1
   simp only [b0s, b0f]
   refine hK12 _ _ ?_
   refine b0i fun K14 hK14 => ?_
   simp only [b0u]
   obtain ⟨x16, h_x16, hm1⟩ := b0g hm1
   have h_x160 := b05 h_x16
   have h_x161 := b06 h_x16
   refine b0b fun K hK => ?_
   simp only [go_sem, s1, s4, b08 h_x16, h_x161]
   refine hK _ _ ?_
   clear hK K
   obtain ⟨y18, h_y18, hm1⟩ := b0g hm1
   refine b0b fun K hK => ?_
   simp only [go_sem]
   refine b01 (c0i x16.When _ h_y18) ?_
   simp only [go_sem]
   refine hK _ _ ?_
   clear hK K
   obtain ⟨l20, h_l20, hm1⟩ := b0g hm1
   refine b0b fun K hK => ?_
   simp only [go_sem]
   refine b3a (f := b2o) (l := ([])) (m := x16.Sets) ?_ ?_ ?_ ?_ h_l20 ?_
   ·exact (b2v (by simp only [go_sem]) (by simp only [go_sem]) (by simp only [go_sem]))
   ·exact b7j
   ·exact b7i
   ·exact (fun e => by cases e)
   simp only [go_sem]
   refine hK _ _ ?_
   clear hK K
   refine d63 (s := 5) (v := .rp h.nx 0 0) (y := .fp [I x16.From, I x16.To, .fs 1 (List.map b0t y18), .fs 2 (List.map b2o l20)] 0) (fun j => j == h.nx || j == (nxs (nxs h.nx))) (by simp only [go_sem]) (c66 (id := h.nx) (sz := 4) (xs := [I x16.From, I x16.To, .fs 1 (List.map b0t y18), .rs (nxs (nxs h.nx)) 0 (List.length l20)]) (by rw [c3x (by simp)]; simp only [go_sem]) (.cons (.refl _ (b0e _)) (.cons (.refl _ (b0e _)) (.cons (.refl _ (b0c fun a _ => b2j a)) (.cons (b29 (f := b2o) (l := l20) (id := (nxs (nxs h.nx))) (by rw [c3x (by simp)]; simp only [go_sem]) (by first | rfl | simp only [go_sem, lA9, mA9]) d14 j7q) (.nil)))))) (.fp _ _ (b0a (b0e _) (b0a (b0e _) (b0a (b0c fun a _ => b2j a) (b0a (b0c fun a _ => d14 a) b0j))))) ?_
   obtain ⟨l22, h_l22, hm1⟩ := b0g hm1
   refine b03 fun K hK => ?_
   simp only [go_sem, s3, Qo, Qj, oF9, bF9, ne_eq, nF9, and_self]
   refine b3a (f := b0m) (l := o_3_4) (m := ([(Rule.mk x16.From x16.To y18 l20)])) ?_ ?_ ?_ ?_ h_l22 ?_
   ·exact (b3x Qp (by intro j hj hl; first | rfl | simp only [go_sem, hl, oF9, bF9, ne_eq, nF9, and_self]) (by first | omega | exact Nat.le_refl _ | (simp only [go_sem, nxs] <;> omega)))
   ·exact (b4t (by simp only [go_sem]) (by simp only [go_sem]))
   ·exact (b4r (by first | exact b1w | exact b1y (by first | omega | (simp only [nxs] <;> omega)) | assumption | exact b1v (by assumption) (by first | omega | (simp only [go_sem, nxs] <;> omega))))
   ·exact (fun _ => by simp)
   simp only [go_sem, s3, Qo, Qj, Q1a, oF9, bF9, ne_eq, nF9, and_self]
   refine hK _ _ ?_
   clear hK K
   simp only [b02, b0f]
   refine hK14 _ _ ?_
   refine b03 fun K hK => ?_
   simp only [go_sem, s4, nF9]
   refine hK _ _ ?_
   clear hK K
   simp only [b0f]
   obtain rfl := sI9 hm1
   refine ⟨_, rfl, ?_⟩
   exact ⟨i2, i3, i3_1, i3_2, i3_3, i3_4, (.rs (nxs (nxs (nxs (nxs h.nx)))) 0 (List.length l22)), s1, s2, s3, (by first | (simp only [go_sem]; done) | rfl), (by simp only [go_sem, oF9, bF9, ne_eq, nF9, and_self, Qq, Qr, Q10, Q15]), (by simp only [go_sem, Qr]), (by simp only [go_sem]), (by simp only [go_sem, Qj]), (by simp only [go_sem, oF9, bF9, ne_eq, nF9, and_self, Qs, Qt, b1z Q16, Q1e]), (by simp only [go_sem, Qt]), (by simp only [go_sem, oF9, bF9, ne_eq, nF9, and_self, Qu, Qv, b1z Q17, Q1h]), (by simp only [go_sem, Qv]), (by simp only [go_sem, oF9, bF9, ne_eq, nF9, and_self, Qw, Qx, b1z Q18, Q1j]), (by simp only [go_sem, Qx]), (by simp only [go_sem, oF9, bF9, ne_eq, nF9, and_self, Qy, Qz, b1z Q19, Q1k]), (by simp only [go_sem, Qz]), (b2v (by simp only [go_sem, nF9, Qj, b8s Qp]) (by first | rfl | simp only [go_sem]) (by simp only [go_sem])), Q10, Q11, Q12, Q13, Q14, (by first | exact b1w | exact b1y (by first | assumption | omega | (simp only [nxs] <;> omega)) | assumption | exact b1v (by assumption) (by first | assumption | omega | (simp only [nxs] <;> omega))), Q16, Q17, Q18, Q19, (by first | exact b1w | exact b1y (by first | assumption | omega | (simp only [nxs] <;> omega)) | assumption | exact b1v (by assumption) (by first | assumption | omega | (simp only [nxs] <;> omega))), Q1b, Q1c, Q1d, (by first | exact b1w | exact b1y (by first | assumption | omega | (simp only [nxs] <;> omega)) | assumption | exact b1v (by assumption) (by first | assumption | omega | (simp only [nxs] <;> omega))), Q1f, Q1g, (by first | exact b1w | exact b1y (by first | assumption | omega | (simp only [nxs] <;> omega)) | assumption | exact b1v (by assumption) (by first | assumption | omega | (simp only [nxs] <;> omega))), Q1i, (by first | exact b1w | exact b1y (by first | assumption | omega | (simp only [nxs] <;> omega)) | assumption | exact b1v (by assumption) (by first | assumption | omega | (simp only [nxs] <;> omega))), (by first | exact b1w | exact b1y (by first | assumption | omega | (simp only [nxs] <;> omega)) | assumption | exact b1v (by assumption) (by first | assumption | omega | (simp only [nxs] <;> omega)))⟩
  ·rw [b0q hc13] at hm1
   simp only [b09, b1b, b1a, b0f]
   obtain rfl := sI9 hm1
   obtain rfl := hb11 _ rfl
   try dsimp only at hm0
   exact J10 o_3_4 i2 i3 i3_1 i3_2 i3_3 i3_4 v3 _ _ s2 s3 Qq Qr Qo Qj Qs Qt Qu Qv Qw Qx Qy Qz Qp Q10 Q11 Q12 Q13 Q14 Q15 Q16 Q17 Q18 Q19 Q1a Q1b Q1c Q1d Q1e Q1f Q1g Q1h Q1i Q1j Q1k hm0
theorem c0i (hf : Has O "newel/newelref04.CopyCond" x_r04_CopyCond) : c5m O := by
 intro c r hm0
 unfold b8w at hm0
 refine b1i hf rfl (b0a (b0c fun a _ => b2j a) b0j) (b0c fun a _ => b2j a) ?_
 refine b1c (fun t h => t 0 = .fs 1 (List.map b0t c)) rfl fun t h s0 => ?_
 simp only [x_r04_CopyCond]
 refine b0b fun K hK => ?_
 simp only [go_sem]
 refine hK _ _ ?_
 clear hK K
 refine b0b fun K hK => ?_
 simp only [go_sem]
 refine hK _ _ ?_
 clear hK K
 refine b0v ?_
 refine b0b fun K hK => ?_
 simp only [go_sem]
 refine hK _ _ ?_
 clear hK K
 refine b0i fun K1 hK1 => ?_
 have J2 : ∀ (o_3 : List (List Literal)) (v3 : AV) (t : Slots) (h : Heap), t 3 = v3 -> b2a h v3 1 (List.map b0t o_3) -> c8c o_3 = some r -> K1 t h := by
  intro o_3 v3 t h s3 Qk hm0
  refine hK1 _ _ ?_
  unfold c8c at hm0
  refine b0b fun K hK => ?_
  simp only [go_sem, s3, b5r v3]
  refine hK _ _ ?_
  clear hK K
  simp only [b0x, b0y]
  obtain rfl := sI9 hm0
  exact b8e (v := v3) (by simp only [go_sem]) (b98 (f := b0t) (l := o_3) (b3x Qk (by intro j hj hl; first | rfl | simp only [go_sem, hl]) (by first | omega | exact Nat.le_refl _ | (simp only [go_sem, nxs] <;> omega))) b2j g1d)
 simp only [b0u]
 obtain ⟨b3, hl3, hm0⟩ := b0g hm0
 refine b1j hl3 (fun | (o_3, i_4), t, h => ∃ v3 : AV, t 0 = .fs 1 (List.map b0t c) /\ t 3 = v3 /\ t 4 = I i_4 /\ b2a h v3 1 (List.map b0t o_3)) ?_ ?_
 ·exact ⟨(.v (.slice none 0 0)), s0, (by first | (simp only [go_sem]; done) | rfl), (by first | (simp only [go_sem]; done) | rfl), c0o⟩
 ·rintro ⟨o_3, i_4⟩ o t h ⟨v3, s0, s3, s4, Qk⟩ hm1 hb3
  simp only [c4b] at hm1
  rw [g4l]
  refine b0v ?_
  refine b0b fun K hK => ?_
  simp only [go_sem, s0, s4]
  refine hK _ _ ?_
  clear hK K
  refine b0i fun K4 hK4 => ?_
  simp only [go_sem]
  refine b0k (fun hc5 => ?_) (fun hc5 => ?_)
  ·rw [b0r hc5] at hm1
   simp only [b0s, b0f]
   refine hK4 _ _ ?_
   refine b0i fun K6 hK6 => ?_
   simp only [b0u]
   obtain ⟨x10, h_x10, hm1⟩ := b0g hm1
   have h_x100 := b05 h_x10
   have h_x101 := b06 h_x10
   obtain ⟨l11, h_l11, hm1⟩ := b0g hm1
   obtain ⟨l12, h_l12, hm1⟩ := b0g hm1
   refine b0b fun K hK => ?_
   simp only [go_sem, s0, s3, s4, b08 h_x10, h_x101, b5r v3]
   refine b3a (f := b3k) (l := ([])) (m := x10) ?_ ?_ ?_ ?_ h_l11 ?_
   ·exact (b2v (by simp only [go_sem]) (by simp only [go_sem]) (by simp only [go_sem]))
   ·exact b7j
   ·exact b7i
   ·exact (fun e => by cases e)
   simp only [go_sem]
   refine j3y (f := b0t) (l := o_3) (a := l11) (raw := [.rs (nxs h.nx) 0 (List.length l11)]) ?_ ?_ ?_ h_l12 ?_
   ·exact (b3x Qk (by intro j hj hl; first | rfl | simp only [go_sem, hl]) (by first | omega | exact Nat.le_refl _ | (simp only [go_sem, nxs] <;> omega)))
   ·exact (by simp only [go_sem])
   ·exact (by first | exact b1w | exact b1y (by first | omega | (simp only [nxs] <;> omega)) | assumption | exact b1v (by assumption) (by first | omega | (simp only [go_sem, nxs] <;> omega)))
   simp only [go_sem]
   refine hK _ _ ?_
   clear hK K
   refine g9m ?_
   refine g9k (id := (nxs (nxs (nxs h.nx)))) (sz := 1) (f := b0t) (l := o_3) (a := l11) (raw := [.rs (nxs h.nx) 0 (List.length l11)]) (fun j => j == (nxs h.nx)) (by simp only [go_sem, b8s Qk]) (by first | (simp; done) | (simp [nxs] <;> omega)) (.cons (b29 (f := b3k) (l := l11) (id := (nxs h.nx)) (by rw [c3x (by simp)]; simp only [go_sem, b8s Qk]) (by first | rfl | simp only [go_sem, lA9, mA9]) c2w j7o) (.nil)) b2j g1d ?_
   rw [<- (c14 h_l12).2]
   simp only [b0s, b02, b0f]
   refine hK6 _ _ ?_
   refine b03 fun K hK => ?_
   simp only [go_sem, s4, nF9]
   refine hK _ _ ?_
   clear hK K
   simp only [b0f]
   obtain rfl := sI9 hm1
   refine ⟨_, rfl, ?_⟩
   exact ⟨(.rs (nxs (nxs (nxs h.nx))) 0 (List.length l12)), s0, (by first | (simp only [go_sem]; done) | rfl), (by first | (simp only [go_sem]; done) | rfl), (b2v (by simp only [go_sem]) (by first | rfl | simp only [go_sem]) (by simp only [go_sem]))⟩
  ·rw [b0q hc5] at hm1
   simp only [b09, b1b, b1a, b0f]
   obtain rfl := sI9 hm1
   obtain rfl := hb3 _ rfl
   try dsimp only at hm0
   exact J2 o_3 v3 _ _ s3 Qk hm0
theorem b54 (hf : Has O "newel/newelref04.Holds" x_r04_Holds) (d3e : d0h O) : b9a O := by
 intro m p input c r hm0
 unfold b7o at hm0
 refine b1i hf rfl (b0a (fM _) (b0a (.agg _ (b0a (b0e _) (b0a (b0e _) (b0a (b0e _) b0j)))) (b0a (b0e _) (b0a (b0c fun a _ => b2j a) b0j)))) (b0e _) ?_
 refine b1c (fun t h => t 0 = .agg (vM m) /\ t 1 = .agg [I p.State, I p.Values.1, I p.Values.2] /\ t 2 = I input /\ t 3 = .fs 1 (List.map b0t c)) ⟨rfl, rfl, rfl, rfl⟩ fun t h ⟨s0, s1, s2, s3⟩ => ?_
 simp only [x_r04_Holds]
 refine b0b fun K hK => ?_
 simp only [go_sem, s0, s1]
 refine hK _ _ ?_
 clear hK K
 refine b0v ?_
 refine b0b fun K hK => ?_
 simp only [go_sem]
 refine hK _ _ ?_
 clear hK K
 refine b0i fun K1 hK1 => ?_
 have J2 : ∀ (t : Slots) (h : Heap), d4q = some r -> K1 t h := by
  intro t h hm0
  refine hK1 _ _ ?_
  unfold d4q at hm0
  refine b0b fun K hK => ?_
  simp only [go_sem]
  refine hK _ _ ?_
  clear hK K
  simp only [b0x, b0y]
  obtain rfl := sI9 hm0
  exact b04 (by simp only [go_sem]) (b0e _)
 simp only [b0u]
 obtain ⟨b3, hl3, hm0⟩ := b0g hm0
 refine b1j hl3 (fun | i_9, t, h => t 2 = I input /\ t 3 = .fs 1 (List.map b0t c) /\ t 4 = .fp (vM m) 0 /\ t 5 = .fp [I p.State, I p.Values.1, I p.Values.2] 0 /\ t 9 = I i_9) ?_ ?_
 ·exact ⟨s2, s3, (by first | (simp only [go_sem]; done) | rfl), (by first | (simp only [go_sem]; done) | rfl), (by first | (simp only [go_sem]; done) | rfl)⟩
 ·rintro i_9 o t h ⟨s2, s3, s4, s5, s9⟩ hm1 hb3
  simp only [c4d] at hm1
  rw [g4n]
  refine b0v ?_
  refine b0b fun K hK => ?_
  simp only [go_sem, s3, s9]
  refine hK _ _ ?_
  clear hK K
  refine b0i fun K4 hK4 => ?_
  simp only [go_sem]
  refine b0k (fun hc5 => ?_) (fun hc5 => ?_)
  ·rw [b0r hc5] at hm1
   simp only [b0s, b0f]
   refine hK4 _ _ ?_
   refine b0i fun K6 hK6 => ?_
   have J7 : ∀ (t : Slots) (h : Heap), t 2 = I input -> t 3 = .fs 1 (List.map b0t c) -> t 4 = .fp (vM m) 0 -> t 5 = .fp [I p.State, I p.Values.1, I p.Values.2] 0 -> t 9 = I i_9 -> c8e i_9 = some o -> K6 t h := by
    intro t h s2 s3 s4 s5 s9 hm1
    refine hK6 _ _ ?_
    unfold c8e at hm1
    refine b03 fun K hK => ?_
    simp only [go_sem, s9]
    refine hK _ _ ?_
    clear hK K
    simp only [b0f]
    obtain rfl := sI9 hm1
    refine ⟨_, rfl, ?_⟩
    exact ⟨s2, s3, s4, s5, (by first | (simp only [go_sem]; done) | rfl)⟩
   simp only [b0u]
   refine b0b fun K hK => ?_
   simp only [go_sem]
   refine hK _ _ ?_
   clear hK K
   refine b0v ?_
   refine b0b fun K hK => ?_
   simp only [go_sem]
   refine hK _ _ ?_
   clear hK K
   refine b0i fun K8 hK8 => ?_
   have J9 : ∀ (all_10 : Bool) (t : Slots) (h : Heap), t 2 = I input -> t 3 = .fs 1 (List.map b0t c) -> t 4 = .fp (vM m) 0 -> t 5 = .fp [I p.State, I p.Values.1, I p.Values.2] 0 -> t 9 = I i_9 -> t 10 = B all_10 -> c8f i_9 all_10 = some o -> K8 t h := by
    intro all_10 t h s2 s3 s4 s5 s9 s10 hm1
    refine hK8 _ _ ?_
    unfold c8f at hm1
    refine b0b fun K hK => ?_
    simp only [go_sem, s10]
    refine hK _ _ ?_
    clear hK K
    simp only [go_sem]
    refine b0k (fun hc10 => ?_) (fun hc10 => ?_)
    ·rw [b0r hc10] at hm1
     refine b0b fun K hK => ?_
     simp only [go_sem]
     refine hK _ _ ?_
     clear hK K
     simp only [b0x, b1p, b2e, b0y]
     obtain rfl := sI9 hm1
     obtain rfl := hb3 _ rfl
     try dsimp only at hm0
     obtain rfl := sI9 hm0
     exact b04 (by simp only [go_sem]) (b0e _)
    ·rw [b0q hc10] at hm1
     simp only [b0s, b02, b0f]
     exact J7  _ _ s2 s3 s4 s5 s9 hm1
   simp only [b0u]
   obtain ⟨b11, hl11, hm1⟩ := b0g hm1
   refine b1j hl11 (fun | (all_10, k_11), t, h => t 2 = I input /\ t 3 = .fs 1 (List.map b0t c) /\ t 4 = .fp (vM m) 0 /\ t 5 = .fp [I p.State, I p.Values.1, I p.Values.2] 0 /\ t 9 = I i_9 /\ t 10 = B all_10 /\ t 11 = I k_11) ?_ ?_
   ·exact ⟨s2, s3, s4, s5, s9, (by first | (simp only [go_sem]; done) | rfl), (by first | (simp only [go_sem]; done) | rfl)⟩
   ·rintro ⟨all_10, k_11⟩ o t h ⟨s2, s3, s4, s5, s9, s10, s11⟩ hm2 hb11
    simp only [c4e] at hm2
    rw [g4o]
    refine b0v ?_
    obtain ⟨x13, h_x13, hm2⟩ := b0g hm2
    have h_x130 := b05 h_x13
    have h_x131 := b06 h_x13
    refine b0b fun K hK => ?_
    simp only [go_sem, s3, s9, s11, b08 h_x13]
    refine hK _ _ ?_
    clear hK K
    refine b0i fun K14 hK14 => ?_
    simp only [go_sem]
    refine b0k (fun hc15 => ?_) (fun hc15 => ?_)
    ·rw [b0r hc15] at hm2
     simp only [b0s, b0f]
     refine hK14 _ _ ?_
     refine b0i fun K16 hK16 => ?_
     simp only [b0u]
     obtain ⟨c22, h_c22, hm2⟩ := b0g hm2
     refine b9y (fun t h => t 2 = I input /\ t 3 = .fs 1 (List.map b0t c) /\ t 4 = .fp (vM m) 0 /\ t 5 = .fp [I p.State, I p.Values.1, I p.Values.2] 0 /\ t 9 = I i_9 /\ t 10 = B c22 /\ t 11 = I k_11) (fun K hK => ?_) ?_
     ·simp only [go_sem, s10]
      refine b0k (fun hg23 => ?_) (fun hg23 => ?_)
      ·simp only [hg23, eq_self, if_true] at h_c22
       obtain ⟨x20, h_x20, h_c22⟩ := b0g h_c22
       have h_x200 := b05 h_x20
       have h_x201 := b06 h_x20
       obtain ⟨y21, h_y21, h_c22⟩ := b0g h_c22
       obtain rfl := sI9 h_c22
       simp only [go_sem, s2, s3, s4, s5, s9, s11, b08 h_x20, h_x201, b08 h_x13, hg23]
       refine b01 (d3e m p input x20 _ h_y21) ?_
       simp only [go_sem, h_x201, hg23]
       exact hK _ _ ⟨s2, s3, s4, s5, s9, (by first | (simp only [go_sem]; done) | rfl), s11⟩
      ·simp only [hg23, if_false, fT9] at h_c22
       obtain rfl := sI9 h_c22
       simp only [go_sem, hg23]
       exact hK _ _ ⟨s2, s3, s4, s5, s9, (by first | (simp only [go_sem]; done) | rfl), s11⟩
     ·rintro t h ⟨s2, s3, s4, s5, s9, s10, s11⟩
      simp only [b02, b0f]
      refine hK16 _ _ ?_
      refine b03 fun K hK => ?_
      simp only [go_sem, s11]
      refine hK _ _ ?_
      clear hK K
      simp only [b0f]
      obtain rfl := sI9 hm2
      refine ⟨_, rfl, ?_⟩
      exact ⟨s2, s3, s4, s5, s9, s10, (by first | (simp only [go_sem]; done) | rfl)⟩
    ·rw [b0q hc15] at hm2
     simp only [b09, b1b, b1a, b0f]
     obtain rfl := sI9 hm2
     obtain rfl := hb11 _ rfl
     try dsimp only at hm1
     exact J9 all_10 _ _ s2 s3 s4 s5 s9 s10 hm1
  ·rw [b0q hc5] at hm1
   simp only [b09, b1b, b1a, b0f]
   obtain rfl := sI9 hm1
   obtain rfl := hb3 _ rfl
   try dsimp only at hm0
   exact J2  _ _  hm0
theorem o8i (hf : Has O "newel/newelref04.IsPlace" x_r04_IsPlace) (b4p : c5r O) : o8d O := by
 intro m p r hm0
 unfold o7y at hm0
 refine b1i hf rfl (b0a (fM _) (b0a (.agg _ (b0a (b0e _) (b0a (b0e _) (b0a (b0e _) b0j)))) b0j)) (b0e _) ?_
 refine b1c (fun t h => t 0 = .agg (vM m) /\ t 1 = .agg [I p.State, I p.Values.1, I p.Values.2]) ⟨rfl, rfl⟩ fun t h ⟨s0, s1⟩ => ?_
 simp only [x_r04_IsPlace]
 refine b0b fun K hK => ?_
 simp only [go_sem, s0, s1]
 refine hK _ _ ?_
 clear hK K
 refine b0v ?_
 refine b0b fun K hK => ?_
 simp only [go_sem]
 refine b01 (b4p p.State 0 (wr ((List.length m.States : Int) - 1))) ?_
 simp only [go_sem]
 refine hK _ _ ?_
 clear hK K
 refine b0i fun K1 hK1 => ?_
 simp only [go_sem]
 refine b0k (fun hc2 => ?_) (fun hc2 => ?_)
 ·rw [b0r hc2] at hm0
  refine b0b fun K hK => ?_
  simp only [go_sem]
  refine hK _ _ ?_
  clear hK K
  simp only [b0x, b1p, b0y]
  obtain rfl := sI9 hm0
  exact b04 (by simp only [go_sem]) (b0e _)
 ·rw [b0q hc2] at hm0
  simp only [b0s, b0f]
  refine hK1 _ _ ?_
  refine b0v ?_
  refine b0b fun K hK => ?_
  simp only [go_sem]
  refine hK _ _ ?_
  clear hK K
  refine b0i fun K3 hK3 => ?_
  have J4 : ∀ (t : Slots) (h : Heap), o77 = some r -> K3 t h := by
   intro t h hm0
   refine hK3 _ _ ?_
   unfold o77 at hm0
   refine b0b fun K hK => ?_
   simp only [go_sem]
   refine hK _ _ ?_
   clear hK K
   simp only [b0x, b0y]
   obtain rfl := sI9 hm0
   exact b04 (by simp only [go_sem]) (b0e _)
  simp only [b0u]
  obtain ⟨b5, hl5, hm0⟩ := b0g hm0
  refine b1j hl5 (fun | i_5, t, h => t 2 = .fp (vM m) 0 /\ t 3 = .fp [I p.State, I p.Values.1, I p.Values.2] 0 /\ t 5 = I i_5) ?_ ?_
  ·exact ⟨(by first | (simp only [go_sem]; done) | rfl), (by first | (simp only [go_sem]; done) | rfl), (by first | (simp only [go_sem]; done) | rfl)⟩
  ·rintro i_5 o t h ⟨s2, s3, s5⟩ hm1 hb5
   simp only [o7z] at hm1
   rw [o8y]
   refine b0v ?_
   refine b0b fun K hK => ?_
   simp only [go_sem, s5]
   refine hK _ _ ?_
   clear hK K
   refine b0i fun K6 hK6 => ?_
   simp only [go_sem]
   refine b0k (fun hc7 => ?_) (fun hc7 => ?_)
   ·rw [b0r hc7] at hm1
    simp only [b0s, b0f]
    refine hK6 _ _ ?_
    refine b0i fun K8 hK8 => ?_
    simp only [b0u]
    refine b0b fun K hK => ?_
    simp only [go_sem]
    refine hK _ _ ?_
    clear hK K
    refine b0v ?_
    refine b0b fun K hK => ?_
    simp only [go_sem, s2, s5]
    refine hK _ _ ?_
    clear hK K
    refine b0i fun K9 hK9 => ?_
    have J10 : ∀ (most_6 : Int) (t : Slots) (h : Heap), t 2 = .fp (vM m) 0 -> t 3 = .fp [I p.State, I p.Values.1, I p.Values.2] 0 -> t 5 = I i_5 -> t 6 = I most_6 -> o70 p i_5 most_6 = some o -> K9 t h := by
     intro most_6 t h s2 s3 s5 s6 hm1
     refine hK9 _ _ ?_
     unfold o70 at hm1
     obtain ⟨x12, h_x12, hm1⟩ := b0g hm1
     have ha_x12 : ∀ v : Int, List.take (1 + Int.toNat (i_5)) [I p.State, I p.Values.1, I p.Values.2] ++ [I v] ++ List.drop (1 + Int.toNat (i_5)) [I p.Values.1, I p.Values.2] = [I p.State, I (b1n (i_5) 0 v p.Values.1), I (b1n (i_5) 1 v p.Values.2)] := fun v => (c1e (cs := [I p.State, I p.Values.1, I p.Values.2]) (off := 1) (v := v) h_x12 rfl).trans (by rw [c1d h_x12]; rfl)
     have hb_x12 : 1 + Int.toNat (i_5) + 1 <= 3 := Nat.le_trans (Nat.add_le_add_left (c0a h_x12) 1) (by simp)
     refine b0b fun K hK => ?_
     simp only [go_sem, s3, s5, s6, d94 (n := 2) (l := [p.Values.1, p.Values.2]) h_x12 rfl, c0c (cs := [I p.State, I p.Values.1, I p.Values.2]) (off := 1) h_x12 rfl]
     refine b01 (b4p x12 0 most_6) ?_
     simp only [go_sem]
     refine hK _ _ ?_
     clear hK K
     simp only [go_sem]
     refine b0k (fun hc13 => ?_) (fun hc13 => ?_)
     ·rw [b0r hc13] at hm1
      refine b0b fun K hK => ?_
      simp only [go_sem]
      refine hK _ _ ?_
      clear hK K
      simp only [b0x, b1p, b2e, b0y]
      obtain rfl := sI9 hm1
      obtain rfl := hb5 _ rfl
      try dsimp only at hm0
      obtain rfl := sI9 hm0
      exact b04 (by simp only [go_sem]) (b0e _)
     ·rw [b0q hc13] at hm1
      simp only [b0s, b02, b0f]
      refine hK8 _ _ ?_
      refine b03 fun K hK => ?_
      simp only [go_sem, s5]
      refine hK _ _ ?_
      clear hK K
      simp only [b0f]
      obtain rfl := sI9 hm1
      refine ⟨_, rfl, ?_⟩
      exact ⟨s2, s3, (by first | (simp only [go_sem]; done) | rfl)⟩
    simp only [go_sem]
    refine b0k (fun hc14 => ?_) (fun hc14 => ?_)
    ·rw [b0r hc14] at hm1
     obtain ⟨x16, h_x16, hm1⟩ := b0g hm1
     have h_x160 := b05 h_x16
     have h_x161 := b06 h_x16
     refine b03 fun K hK => ?_
     simp only [go_sem, s2, s5, b08 h_x16, h_x161]
     refine hK _ _ ?_
     clear hK K
     simp only [b0f]
     exact J10 x16.Max _ _ s2 s3 s5 (by first | (simp only [go_sem]; done) | rfl) hm1
    ·rw [b0q hc14] at hm1
     simp only [b0s, b0f]
     exact J10 0 _ _ s2 s3 s5 (by first | (simp only [go_sem]; done) | rfl) hm1
   ·rw [b0q hc7] at hm1
    simp only [b09, b1b, b1a, b0f]
    obtain rfl := sI9 hm1
    obtain rfl := hb5 _ rfl
    try dsimp only at hm0
    exact J4  _ _  hm0
theorem c3k (hf : Has O "newel/newelref04.Next" x_r04_Next) (b54 : b9a O) : c5n O := by
 intro m p input r hm0
 unfold c0w at hm0
 refine b1i hf rfl (b0a (fM _) (b0a (.agg _ (b0a (b0e _) (b0a (b0e _) (b0a (b0e _) b0j)))) (b0a (b0e _) b0j))) (.agg _ (b0a (b0e _) (b0a (b0e _) (b0a (b0e _) b0j)))) ?_
 refine b1c (fun t h => t 0 = .agg (vM m) /\ t 1 = .agg [I p.State, I p.Values.1, I p.Values.2] /\ t 2 = I input) ⟨rfl, rfl, rfl⟩ fun t h ⟨s0, s1, s2⟩ => ?_
 simp only [x_r04_Next]
 refine b0b fun K hK => ?_
 simp only [go_sem, s0, s1]
 refine hK _ _ ?_
 clear hK K
 refine b0v ?_
 refine b0b fun K hK => ?_
 simp only [go_sem]
 refine hK _ _ ?_
 clear hK K
 refine b0i fun K1 hK1 => ?_
 have J2 : ∀ (i6 : Nat) (t : Slots) (h : Heap), t 4 = .fp [I p.State, I p.Values.1, I p.Values.2] 0 -> t 6 = .rp i6 0 0 -> h.ob i6 = some (3, [[I 0, I 0, I 0]]) -> i6 < h.nx -> c8i p = some r -> K1 t h := by
  intro i6 t h s4 s6 Q1 Q0 hm0
  refine hK1 _ _ ?_
  unfold c8i at hm0
  refine b0b fun K hK => ?_
  simp only [go_sem, s4, s6, Q1]
  refine hK _ _ ?_
  clear hK K
  simp only [b0x, b0y]
  obtain rfl := sI9 hm0
  exact b90 (id := i6) (m := 3) (cs := [I p.State, I p.Values.1, I p.Values.2]) (by simp only [go_sem, s6]) (by simp only [go_sem]) rfl (.refl _ (.agg _ (b0a (b0e _) (b0a (b0e _) (b0a (b0e _) b0j)))))
 simp only [b0u]
 obtain ⟨b3, hl3, hm0⟩ := b0g hm0
 refine b1j hl3 (fun | i_7, t, h => ∃ i6 : Nat, t 2 = I input /\ t 3 = .fp (vM m) 0 /\ t 4 = .fp [I p.State, I p.Values.1, I p.Values.2] 0 /\ t 6 = .rp i6 0 0 /\ t 7 = I i_7 /\ h.ob i6 = some (3, [[I 0, I 0, I 0]]) /\ i6 < h.nx) ?_ ?_
 ·exact ⟨h.nx, s2, (by first | (simp only [go_sem]; done) | rfl), (by first | (simp only [go_sem]; done) | rfl), (by first | (simp only [go_sem]; done) | rfl), (by first | (simp only [go_sem]; done) | rfl), (by simp only [go_sem]), (by simp only [go_sem])⟩
 ·rintro i_7 o t h ⟨i6, s2, s3, s4, s6, s7, Q1, Q0⟩ hm1 hb3
  simp only [c8g] at hm1
  rw [g4q]
  refine b0v ?_
  refine b0b fun K hK => ?_
  simp only [go_sem, s3, s7]
  refine hK _ _ ?_
  clear hK K
  refine b0i fun K4 hK4 => ?_
  simp only [go_sem]
  refine b0k (fun hc5 => ?_) (fun hc5 => ?_)
  ·rw [b0r hc5] at hm1
   simp only [b0s, b0f]
   refine hK4 _ _ ?_
   refine b0i fun K6 hK6 => ?_
   have J7 : ∀ (t : Slots) (h : Heap), t 2 = I input -> t 3 = .fp (vM m) 0 -> t 4 = .fp [I p.State, I p.Values.1, I p.Values.2] 0 -> t 6 = .rp i6 0 0 -> t 7 = I i_7 -> h.ob i6 = some (3, [[I 0, I 0, I 0]]) -> i6 < h.nx -> c8j i_7 = some o -> K6 t h := by
    intro t h s2 s3 s4 s6 s7 Q1 Q0 hm1
    refine hK6 _ _ ?_
    unfold c8j at hm1
    refine b03 fun K hK => ?_
    simp only [go_sem, s7]
    refine hK _ _ ?_
    clear hK K
    simp only [b0f]
    obtain rfl := sI9 hm1
    refine ⟨_, rfl, ?_⟩
    exact ⟨i6, s2, s3, s4, s6, (by first | (simp only [go_sem]; done) | rfl), Q1, Q0⟩
   simp only [b0u]
   obtain ⟨x9, h_x9, hm1⟩ := b0g hm1
   have h_x90 := b05 h_x9
   have h_x91 := b06 h_x9
   refine b0b fun K hK => ?_
   simp only [go_sem, s3, s7, b08 h_x9, h_x91]
   refine hK _ _ ?_
   clear hK K
   refine b0v ?_
   obtain ⟨c13, h_c13, hm1⟩ := b0g hm1
   refine b2p (fun t h => ∃ i8 : Nat, t 2 = I input /\ t 3 = .fp (vM m) 0 /\ t 4 = .fp [I p.State, I p.Values.1, I p.Values.2] 0 /\ t 6 = .rp i6 0 0 /\ t 7 = I i_7 /\ t 8 = .rp i8 0 0 /\ t 42 = B c13 /\ h.ob i6 = some (3, [[I 0, I 0, I 0]]) /\ i6 < h.nx /\ h.ob i8 = some (4, [[I x9.From, I x9.To, .fs 1 (List.map b0t x9.When), .fs 2 (List.map b2o x9.Sets)]]) /\ i8 < h.nx /\ ¬i6 = i8) (fun K hK => ?_) ?_
   ·simp only [go_sem]
    refine b0k (fun hg14 => ?_) (fun hg14 => ?_)
    ·simp only [go_sem, s4, hg14]
     refine b0k (fun hg15 => ?_) (fun hg15 => ?_)
     ·simp only [hg14, hg15, eq_self, if_true, Bool.and_true] at h_c13
      obtain rfl := sI9 h_c13
      simp only [go_sem, hg14, hg15]
      exact hK _ _ ⟨h.nx, s2, s3, s4, s6, s7, (by first | (simp only [go_sem]; done) | rfl), (by first | (simp only [go_sem]; done) | rfl), (by simp only [go_sem, Q1, Q0]), (by simp only [go_sem, Q0]), (by simp only [go_sem]), (by simp only [go_sem]), (by first | first | assumption | omega | (simp only [nxs] <;> omega))⟩
     ·simp only [hg14, hg15, if_false, Bool.and_false, fT9] at h_c13
      obtain ⟨y12, h_y12, h_c13⟩ := b0g h_c13
      obtain rfl := sI9 h_c13
      simp only [go_sem, s2, s3, s4, hg14, hg15]
      refine b01 (b54 m p input x9.When _ h_y12) ?_
      simp only [go_sem, hg14, hg15]
      exact hK _ _ ⟨h.nx, s2, s3, s4, s6, s7, (by first | (simp only [go_sem]; done) | rfl), (by first | (simp only [go_sem]; done) | rfl), (by simp only [go_sem, Q1, Q0]), (by simp only [go_sem, Q0]), (by simp only [go_sem]), (by simp only [go_sem]), (by first | first | assumption | omega | (simp only [nxs] <;> omega))⟩
    ·simp only [hg14, if_false, Bool.false_and, fT9] at h_c13
     obtain ⟨y12, h_y12, h_c13⟩ := b0g h_c13
     obtain rfl := sI9 h_c13
     simp only [go_sem, s2, s3, s4, hg14]
     refine b01 (b54 m p input x9.When _ h_y12) ?_
     simp only [go_sem, hg14]
     exact hK _ _ ⟨h.nx, s2, s3, s4, s6, s7, (by first | (simp only [go_sem]; done) | rfl), (by first | (simp only [go_sem]; done) | rfl), (by simp only [go_sem, Q1, Q0]), (by simp only [go_sem, Q0]), (by simp only [go_sem]), (by simp only [go_sem]), (by first | first | assumption | omega | (simp only [nxs] <;> omega))⟩
   ·rintro t h ⟨i8, s2, s3, s4, s6, s7, s8, s42, Q1, Q0, Q3, Q4, Q7⟩
    refine b0i fun K16 hK16 => ?_
    simp only [go_sem, s42]
    refine b0k (fun hc17 => ?_) (fun hc17 => ?_)
    ·rw [b0r hc17] at hm1
     simp only [b09, b1b, b1a, b0f]
     exact J7  _ _ s2 s3 s4 s6 s7 Q1 Q0 hm1
    ·rw [b0q hc17] at hm1
     simp only [b0s, b0f]
     refine hK16 _ _ ?_
     refine b0b fun K hK => ?_
     simp only [go_sem, s4]
     refine hK _ _ ?_
     clear hK K
     refine b0v ?_
     refine b0b fun K hK => ?_
     simp only [go_sem]
     refine hK _ _ ?_
     clear hK K
     refine b0i fun K18 hK18 => ?_
     have J19 : ∀ (q_9_1 : Int) (q_9_2 : Int) (i9 : Nat) (t : Slots) (h : Heap), t 6 = .rp i6 0 0 -> t 8 = .rp i8 0 0 -> t 9 = .rp i9 0 0 -> h.ob i6 = some (3, [[I 0, I 0, I 0]]) -> i6 < h.nx -> h.ob i8 = some (4, [[I x9.From, I x9.To, .fs 1 (List.map b0t x9.When), .fs 2 (List.map b2o x9.Sets)]]) -> i8 < h.nx -> h.ob i9 = some (3, [[I p.State, I q_9_1, I q_9_2]]) -> i9 < h.nx -> ¬i6 = i8 -> ¬i6 = i9 -> ¬i8 = i9 -> c8h x9 q_9_1 q_9_2 = some o -> K18 t h := by
      try clear s2 s3 s4 s6 s7 s8 s42 Q1 Q0 Q3 Q4 Q7
      intro q_9_1 q_9_2 i9 t h s6 s8 s9 Q1 Q0 Q3 Q4 Qd Qe Q7 Qf Qg hm1
      refine hK18 _ _ ?_
      unfold c8h at hm1
      refine b0b fun K hK => ?_
      simp only [go_sem, s8, s9, Q3, Qd]
      refine hK _ _ ?_
      clear hK K
      refine b0b fun K hK => ?_
      simp only [go_sem, s6, s9, Q1, Qf]
      refine hK _ _ ?_
      clear hK K
      simp only [b0x, b1p, b2e, b0y]
      obtain rfl := sI9 hm1
      obtain rfl := hb3 _ rfl
      try dsimp only at hm0
      obtain rfl := sI9 hm0
      exact b90 (id := i6) (m := 3) (cs := [I x9.To, I q_9_1, I q_9_2]) (by simp only [go_sem, s6]) (by simp only [go_sem]) rfl (.refl _ (.agg _ (b0a (b0e _) (b0a (b0e _) (b0a (b0e _) b0j)))))
     simp only [b0u]
     obtain ⟨b20, hl20, hm1⟩ := b0g hm1
     refine b1j hl20 (fun | (q_9_1, q_9_2, k_10), t, h => ∃ i9 : Nat, t 3 = .fp (vM m) 0 /\ t 6 = .rp i6 0 0 /\ t 8 = .rp i8 0 0 /\ t 9 = .rp i9 0 0 /\ t 10 = I k_10 /\ h.ob i6 = some (3, [[I 0, I 0, I 0]]) /\ i6 < h.nx /\ h.ob i8 = some (4, [[I x9.From, I x9.To, .fs 1 (List.map b0t x9.When), .fs 2 (List.map b2o x9.Sets)]]) /\ i8 < h.nx /\ h.ob i9 = some (3, [[I p.State, I q_9_1, I q_9_2]]) /\ i9 < h.nx /\ ¬i6 = i8 /\ ¬i6 = i9 /\ ¬i8 = i9) ?_ ?_
     ·exact ⟨h.nx, s3, s6, s8, (by first | (simp only [go_sem]; done) | rfl), (by first | (simp only [go_sem]; done) | rfl), (by simp only [go_sem, Q1, Q0]), (by simp only [go_sem, Q0]), (by simp only [go_sem, Q3, Q4]), (by simp only [go_sem, Q4]), (by simp only [go_sem]), (by simp only [go_sem]), Q7, (by first | first | assumption | omega | (simp only [nxs] <;> omega)), (by first | first | assumption | omega | (simp only [nxs] <;> omega))⟩
     ·try clear s2 s3 s4 s6 s7 s8 s42 Q1 Q0 Q3 Q4 Q7
      rintro ⟨q_9_1, q_9_2, k_10⟩ o t h ⟨i9, s3, s6, s8, s9, s10, Q1, Q0, Q3, Q4, Qd, Qe, Q7, Qf, Qg⟩ hm2 hb20
      simp only [c4f] at hm2
      rw [g4p]
      refine b0v ?_
      refine b0b fun K hK => ?_
      simp only [go_sem, s8, s10, Q3]
      refine hK _ _ ?_
      clear hK K
      refine b0i fun K21 hK21 => ?_
      simp only [go_sem]
      refine b0k (fun hc22 => ?_) (fun hc22 => ?_)
      ·rw [b0r hc22] at hm2
       simp only [b0s, b0f]
       refine hK21 _ _ ?_
       refine b0i fun K23 hK23 => ?_
       have J24 : ∀ (q_9_1_1 : Int) (q_9_2_1 : Int) (t : Slots) (h : Heap), t 3 = .fp (vM m) 0 -> t 6 = .rp i6 0 0 -> t 8 = .rp i8 0 0 -> t 9 = .rp i9 0 0 -> t 10 = I k_10 -> h.ob i6 = some (3, [[I 0, I 0, I 0]]) -> i6 < h.nx -> h.ob i8 = some (4, [[I x9.From, I x9.To, .fs 1 (List.map b0t x9.When), .fs 2 (List.map b2o x9.Sets)]]) -> i8 < h.nx -> h.ob i9 = some (3, [[I p.State, I q_9_1_1, I q_9_2_1]]) -> i9 < h.nx -> ¬i6 = i8 -> ¬i6 = i9 -> ¬i8 = i9 -> b8x k_10 q_9_1_1 q_9_2_1 = some o -> K23 t h := by
        try clear s3 s6 s8 s9 s10 Q1 Q0 Q3 Q4 Qd Qe Q7 Qf Qg
        intro q_9_1_1 q_9_2_1 t h s3 s6 s8 s9 s10 Q1 Q0 Q3 Q4 Qd Qe Q7 Qf Qg hm2
        refine hK23 _ _ ?_
        unfold b8x at hm2
        refine b03 fun K hK => ?_
        simp only [go_sem, s10]
        refine hK _ _ ?_
        clear hK K
        simp only [b0f]
        obtain rfl := sI9 hm2
        refine ⟨_, rfl, ?_⟩
        exact ⟨i9, s3, s6, s8, s9, (by first | (simp only [go_sem]; done) | rfl), Q1, Q0, Q3, Q4, Qd, Qe, Q7, Qf, Qg⟩
       simp only [b0u]
       obtain ⟨x26, h_x26, hm2⟩ := b0g hm2
       have h_x260 := b05 h_x26
       have h_x261 := b06 h_x26
       refine b0b fun K hK => ?_
       simp only [go_sem, s8, s10, Q3, b08 h_x26, h_x261]
       refine hK _ _ ?_
       clear hK K
       refine b0b fun K hK => ?_
       simp only [go_sem, s8, s10, Q3, b08 h_x26]
       refine hK _ _ ?_
       clear hK K
       simp only [b0u]
       refine b0b fun K hK => ?_
       simp only [go_sem]
       refine hK _ _ ?_
       clear hK K
       simp only [go_sem]
       refine b0k (fun hc27 => ?_) (fun hc27 => ?_)
       ·rw [b0r hc27] at hm2
        obtain ⟨x29, h_x29, hm2⟩ := b0g hm2
        have ha_x29 : ∀ v : Int, List.take (1 + Int.toNat (x26.Counter)) [I p.State, I q_9_1, I q_9_2] ++ [I v] ++ List.drop (1 + Int.toNat (x26.Counter)) [I q_9_1, I q_9_2] = [I p.State, I (b1n (x26.Counter) 0 v q_9_1), I (b1n (x26.Counter) 1 v q_9_2)] := fun v => (c1e (cs := [I p.State, I q_9_1, I q_9_2]) (off := 1) (v := v) h_x29 rfl).trans (by rw [c1d h_x29]; rfl)
        have hb_x29 : 1 + Int.toNat (x26.Counter) + 1 <= 3 := Nat.le_trans (Nat.add_le_add_left (c0a h_x29) 1) (by simp)
        refine b03 fun K hK => ?_
        simp only [go_sem, s9, Qd, c7f (n := 2) (l := [q_9_1, q_9_2]) h_x29 rfl, ha_x29, hb_x29]
        refine hK _ _ ?_
        clear hK K
        simp only [b02, b0f]
        exact J24 (b1n x26.Counter 0 0 q_9_1) (b1n x26.Counter 1 0 q_9_2) _ _ s3 s6 s8 s9 s10 (by simp only [go_sem, Q1, Qf]) (by simp only [go_sem, Q0]) (by simp only [go_sem, Q3, Qg]) (by simp only [go_sem, Q4]) (by simp only [go_sem]) (by simp only [go_sem, Qe]) Q7 Qf Qg hm2
       ·rw [b0q hc27] at hm2
        refine b0b fun K hK => ?_
        simp only [go_sem]
        refine hK _ _ ?_
        clear hK K
        simp only [go_sem]
        refine b0k (fun hc30 => ?_) (fun hc30 => ?_)
        ·rw [b0r hc30] at hm2
         obtain ⟨x33, h_x33, hm2⟩ := b0g hm2
         have ha_x33 : ∀ v : Int, List.take (1 + Int.toNat (x26.Counter)) [I p.State, I q_9_1, I q_9_2] ++ [I v] ++ List.drop (1 + Int.toNat (x26.Counter)) [I q_9_1, I q_9_2] = [I p.State, I (b1n (x26.Counter) 0 v q_9_1), I (b1n (x26.Counter) 1 v q_9_2)] := fun v => (c1e (cs := [I p.State, I q_9_1, I q_9_2]) (off := 1) (v := v) h_x33 rfl).trans (by rw [c1d h_x33]; rfl)
         have hb_x33 : 1 + Int.toNat (x26.Counter) + 1 <= 3 := Nat.le_trans (Nat.add_le_add_left (c0a h_x33) 1) (by simp)
         obtain ⟨x34, h_x34, hm2⟩ := b0g hm2
         have h_x340 := b05 h_x34
         have h_x341 := b06 h_x34
         refine b03 fun K hK => ?_
         simp only [go_sem, s3, s9, Qd, c7f (n := 2) (l := [q_9_1, q_9_2]) h_x33 rfl, c0c (cs := [I p.State, I q_9_1, I q_9_2]) (off := 1) h_x33 rfl, ha_x33, hb_x33, b08 h_x34]
         refine hK _ _ ?_
         clear hK K
         simp only [b02, b0f]
         exact J24 (b1n x26.Counter 0 (mn (wr (x33 + 1)) x34.Max) q_9_1) (b1n x26.Counter 1 (mn (wr (x33 + 1)) x34.Max) q_9_2) _ _ s3 s6 s8 s9 s10 (by simp only [go_sem, Q1, Qf]) (by simp only [go_sem, Q0]) (by simp only [go_sem, Q3, Qg]) (by simp only [go_sem, Q4]) (by simp only [go_sem]) (by simp only [go_sem, Qe]) Q7 Qf Qg hm2
        ·rw [b0q hc30] at hm2
         refine b0b fun K hK => ?_
         simp only [go_sem]
         refine hK _ _ ?_
         clear hK K
         simp only [go_sem]
         refine b0k (fun hc35 => ?_) (fun hc35 => ?_)
         ·rw [b0r hc35] at hm2
          obtain ⟨x37, h_x37, hm2⟩ := b0g hm2
          have ha_x37 : ∀ v : Int, List.take (1 + Int.toNat (x26.Counter)) [I p.State, I q_9_1, I q_9_2] ++ [I v] ++ List.drop (1 + Int.toNat (x26.Counter)) [I q_9_1, I q_9_2] = [I p.State, I (b1n (x26.Counter) 0 v q_9_1), I (b1n (x26.Counter) 1 v q_9_2)] := fun v => (c1e (cs := [I p.State, I q_9_1, I q_9_2]) (off := 1) (v := v) h_x37 rfl).trans (by rw [c1d h_x37]; rfl)
          have hb_x37 : 1 + Int.toNat (x26.Counter) + 1 <= 3 := Nat.le_trans (Nat.add_le_add_left (c0a h_x37) 1) (by simp)
          refine b03 fun K hK => ?_
          simp only [go_sem, s9, Qd, c7f (n := 2) (l := [q_9_1, q_9_2]) h_x37 rfl, c0c (cs := [I p.State, I q_9_1, I q_9_2]) (off := 1) h_x37 rfl, ha_x37, hb_x37]
          refine hK _ _ ?_
          clear hK K
          simp only [b02, b0f]
          exact J24 (b1n x26.Counter 0 (mx (wr (x37 - 1)) 0) q_9_1) (b1n x26.Counter 1 (mx (wr (x37 - 1)) 0) q_9_2) _ _ s3 s6 s8 s9 s10 (by simp only [go_sem, Q1, Qf]) (by simp only [go_sem, Q0]) (by simp only [go_sem, Q3, Qg]) (by simp only [go_sem, Q4]) (by simp only [go_sem]) (by simp only [go_sem, Qe]) Q7 Qf Qg hm2
         ·rw [b0q hc35] at hm2
          simp only [b0s, b02, b0f]
          exact J24 q_9_1 q_9_2 _ _ s3 s6 s8 s9 s10 Q1 Q0 Q3 Q4 Qd Qe Q7 Qf Qg hm2
      ·rw [b0q hc22] at hm2
       simp only [b09, b1b, b1a, b0f]
       obtain rfl := sI9 hm2
       obtain rfl := hb20 _ rfl
       try dsimp only at hm1
       exact J19 q_9_1 q_9_2 i9 _ _ s6 s8 s9 Q1 Q0 Q3 Q4 Qd Qe Q7 Qf Qg hm1
  ·rw [b0q hc5] at hm1
   simp only [b09, b1b, b1a, b0f]
   obtain rfl := sI9 hm1
   obtain rfl := hb3 _ rfl
   try dsimp only at hm0
   exact J2 i6 _ _ s4 s6 Q1 Q0 hm0
theorem o8j (hf : Has O "newel/newelref04.Proves" x_r04_Proves) (c3j : c5l O) (o8i : o8d O) (b54 : b9a O) (c3l : c5o O) (c3h : c5j O) (c3k : c5n O) (c3o : c5s O) : o8e O := by
 intro m assume never l r hm0
 unfold o71 at hm0
 refine b1i hf rfl (b0a (fM _) (b0a (b0c fun a _ => b2j a) (b0a (b0c fun a _ => b2j a) (b0a (b0c fun a _ => b44 a) b0j)))) (.tup _ (b0a (b0e _) (b0a (b0e _) (b0a (b0e _) b0j)))) ?_
 refine b1c (fun t h => t 0 = .agg (vM m) /\ t 1 = .fs 1 (List.map b0t assume) /\ t 2 = .fs 1 (List.map b0t never) /\ t 3 = .fs 3 (List.map b1g l)) ⟨rfl, rfl, rfl, rfl⟩ fun t h ⟨s0, s1, s2, s3⟩ => ?_
 simp only [x_r04_Proves]
 refine b0b fun K hK => ?_
 simp only [go_sem, s0]
 refine hK _ _ ?_
 clear hK K
 obtain ⟨y2, h_y2, hm0⟩ := b0g hm0
 refine b0b fun K hK => ?_
 simp only [go_sem, s1, s2]
 refine b8l ?_ (c3j m ([assume, never]) _ h_y2) (.v _) ?_
 ·exact .cons (.refl _ (fM _)) (.cons (b29 (f := b4v) (l := ([assume, never])) (id := h.nx) (by simp only [go_sem]) (by first | rfl | simp only [go_sem, lA9, mA9]) b97 c7o) (.nil))
 simp only [go_sem]
 refine hK _ _ ?_
 clear hK K
 refine b0v ?_
 refine b0b fun K hK => ?_
 simp only [go_sem]
 refine hK _ _ ?_
 clear hK K
 refine b0i fun K3 hK3 => ?_
 simp only [go_sem]
 refine b0k (fun hc4 => ?_) (fun hc4 => ?_)
 ·rw [b0r hc4] at hm0
  refine b0b fun K hK => ?_
  simp only [go_sem]
  refine hK _ _ ?_
  clear hK K
  simp only [b0x, b1p, b0y]
  obtain rfl := sI9 hm0
  exact c6t (by simp only [go_sem]) (by simp only [go_sem]) (by simp only [go_sem]) (b0e _) (b0e _) (b0e _)
 ·rw [b0q hc4] at hm0
  simp only [b0s, b0f]
  refine hK3 _ _ ?_
  refine b0v ?_
  refine b0b fun K hK => ?_
  simp only [go_sem, s3]
  refine hK _ _ ?_
  clear hK K
  refine b0i fun K5 hK5 => ?_
  simp only [go_sem]
  refine b0k (fun hc6 => ?_) (fun hc6 => ?_)
  ·rw [b0r hc6] at hm0
   refine b0b fun K hK => ?_
   simp only [go_sem]
   refine hK _ _ ?_
   clear hK K
   simp only [b0x, b1p, b0y]
   obtain rfl := sI9 hm0
   exact c6t (by simp only [go_sem]) (by simp only [go_sem]) (by simp only [go_sem]) (b0e _) (b0e _) (b0e _)
  ·rw [b0q hc6] at hm0
   simp only [b0s, b0f]
   refine hK5 _ _ ?_
   refine b0v ?_
   refine b0b fun K hK => ?_
   simp only [go_sem]
   refine hK _ _ ?_
   clear hK K
   refine b0i fun K7 hK7 => ?_
   have J8 : ∀ (t : Slots) (h : Heap), t 1 = .fs 1 (List.map b0t assume) -> t 2 = .fs 1 (List.map b0t never) -> t 3 = .fs 3 (List.map b1g l) -> t 4 = .fp (vM m) 0 -> o8a m assume never l = some r -> K7 t h := by
    intro t h s1 s2 s3 s4 hm0
    refine hK7 _ _ ?_
    unfold o8a at hm0
    refine b0v ?_
    refine b0b fun K hK => ?_
    simp only [go_sem]
    refine hK _ _ ?_
    clear hK K
    refine b0i fun K9 hK9 => ?_
    have J10 : ∀ (t : Slots) (h : Heap), t 3 = .fs 3 (List.map b1g l) -> o78 l = some r -> K9 t h := by
     intro t h s3 hm0
     refine hK9 _ _ ?_
     unfold o78 at hm0
     refine b0v ?_
     obtain ⟨y12, h_y12, hm0⟩ := b0g hm0
     refine b0b fun K hK => ?_
     simp only [go_sem, s3]
     refine b01 (c3o l (Place.mk 0 (0, 0)) _ h_y12) ?_
     simp only [go_sem]
     refine hK _ _ ?_
     clear hK K
     refine b0i fun K13 hK13 => ?_
     simp only [go_sem]
     refine b0k (fun hc14 => ?_) (fun hc14 => ?_)
     ·rw [b0r hc14] at hm0
      refine b0b fun K hK => ?_
      simp only [go_sem, s3]
      refine hK _ _ ?_
      clear hK K
      simp only [b0x, b1p, b0y]
      obtain rfl := sI9 hm0
      exact c6t (by simp only [go_sem]) (by simp only [go_sem]) (by simp only [go_sem]) (b0e _) (b0e _) (b0e _)
     ·rw [b0q hc14] at hm0
      simp only [b0s, b0f]
      refine hK13 _ _ ?_
      refine b0b fun K hK => ?_
      simp only [go_sem]
      refine hK _ _ ?_
      clear hK K
      simp only [b0x, b0y]
      obtain rfl := sI9 hm0
      exact c6t (by simp only [go_sem]) (by simp only [go_sem]) (by simp only [go_sem]) (b0e _) (b0e _) (b0e _)
    simp only [b0u]
    obtain ⟨b15, hl15, hm0⟩ := b0g hm0
    refine b1j hl15 (fun | i_13, t, h => t 1 = .fs 1 (List.map b0t assume) /\ t 2 = .fs 1 (List.map b0t never) /\ t 3 = .fs 3 (List.map b1g l) /\ t 4 = .fp (vM m) 0 /\ t 13 = I i_13) ?_ ?_
    ·exact ⟨s1, s2, s3, s4, (by first | (simp only [go_sem]; done) | rfl)⟩
    ·rintro i_13 o t h ⟨s1, s2, s3, s4, s13⟩ hm1 hb15
     simp only [o7r] at hm1
     rw [o81]
     refine b0v ?_
     refine b0b fun K hK => ?_
     simp only [go_sem, s3, s13]
     refine hK _ _ ?_
     clear hK K
     refine b0i fun K16 hK16 => ?_
     simp only [go_sem]
     refine b0k (fun hc17 => ?_) (fun hc17 => ?_)
     ·rw [b0r hc17] at hm1
      simp only [b0s, b0f]
      refine hK16 _ _ ?_
      refine b0i fun K18 hK18 => ?_
      have J19 : ∀ (t : Slots) (h : Heap), t 1 = .fs 1 (List.map b0t assume) -> t 2 = .fs 1 (List.map b0t never) -> t 3 = .fs 3 (List.map b1g l) -> t 4 = .fp (vM m) 0 -> t 13 = I i_13 -> o79 i_13 = some o -> K18 t h := by
       intro t h s1 s2 s3 s4 s13 hm1
       refine hK18 _ _ ?_
       unfold o79 at hm1
       refine b03 fun K hK => ?_
       simp only [go_sem, s13]
       refine hK _ _ ?_
       clear hK K
       simp only [b0f]
       obtain rfl := sI9 hm1
       refine ⟨_, rfl, ?_⟩
       exact ⟨s1, s2, s3, s4, (by first | (simp only [go_sem]; done) | rfl)⟩
      simp only [b0u]
      refine b0v ?_
      obtain ⟨x22, h_x22, hm1⟩ := b0g hm1
      have h_x220 := b05 h_x22
      have h_x221 := b06 h_x22
      obtain ⟨y23, h_y23, hm1⟩ := b0g hm1
      refine b0b fun K hK => ?_
      simp only [go_sem, s2, s3, s4, s13, b08 h_x22, h_x221]
      refine b01 (b54 m x22 0 never _ h_y23) ?_
      simp only [go_sem]
      refine hK _ _ ?_
      clear hK K
      refine b0i fun K24 hK24 => ?_
      simp only [go_sem]
      refine b0k (fun hc25 => ?_) (fun hc25 => ?_)
      ·rw [b0r hc25] at hm1
       refine b0b fun K hK => ?_
       simp only [go_sem, s13]
       refine hK _ _ ?_
       clear hK K
       simp only [b0x, b1p, b2e, b0y]
       obtain rfl := sI9 hm1
       obtain rfl := hb15 _ rfl
       try dsimp only at hm0
       obtain rfl := sI9 hm0
       exact c6t (by simp only [go_sem]) (by simp only [go_sem]) (by simp only [go_sem]) (b0e _) (b0e _) (b0e _)
      ·rw [b0q hc25] at hm1
       simp only [b0s, b0f]
       refine hK24 _ _ ?_
       refine b0b fun K hK => ?_
       simp only [go_sem]
       refine hK _ _ ?_
       clear hK K
       simp only [b0u]
       obtain ⟨b26, hl26, hm1⟩ := b0g hm1
       refine b1j hl26 (fun | x_14, t, h => t 1 = .fs 1 (List.map b0t assume) /\ t 2 = .fs 1 (List.map b0t never) /\ t 3 = .fs 3 (List.map b1g l) /\ t 4 = .fp (vM m) 0 /\ t 13 = I i_13 /\ t 14 = I x_14) ?_ ?_
       ·exact ⟨s1, s2, s3, s4, s13, (by first | (simp only [go_sem]; done) | rfl)⟩
       ·rintro x_14 o t h ⟨s1, s2, s3, s4, s13, s14⟩ hm2 hb26
        simp only [l41] at hm2
        rw [o80]
        refine b0v ?_
        obtain ⟨y28, h_y28, hm2⟩ := b0g hm2
        refine b0b fun K hK => ?_
        simp only [go_sem, s4, s14]
        refine b01 (c3l m _ h_y28) ?_
        simp only [go_sem]
        refine hK _ _ ?_
        clear hK K
        refine b0i fun K29 hK29 => ?_
        simp only [go_sem]
        refine b0k (fun hc30 => ?_) (fun hc30 => ?_)
        ·rw [b0r hc30] at hm2
         simp only [b0s, b0f]
         refine hK29 _ _ ?_
         refine b0i fun K31 hK31 => ?_
         simp only [b0u]
         obtain ⟨x37, h_x37, hm2⟩ := b0g hm2
         have h_x370 := b05 h_x37
         have h_x371 := b06 h_x37
         obtain ⟨y38, h_y38, hm2⟩ := b0g hm2
         obtain ⟨c41, h_c41, hm2⟩ := b0g hm2
         refine b2p (fun t h => t 1 = .fs 1 (List.map b0t assume) /\ t 2 = .fs 1 (List.map b0t never) /\ t 3 = .fs 3 (List.map b1g l) /\ t 4 = .fp (vM m) 0 /\ t 13 = I i_13 /\ t 14 = I x_14 /\ t 78 = B c41) (fun K hK => ?_) ?_
         ·simp only [go_sem, s1, s3, s4, s13, s14, b08 h_x37]
          refine b01 (c3h m x37 x_14 assume _ h_y38) ?_
          simp only [go_sem]
          refine b0k (fun hg42 => ?_) (fun hg42 => ?_)
          ·simp only [hg42, eq_self, if_true] at h_c41
           obtain ⟨y39, h_y39, h_c41⟩ := b0g h_c41
           obtain ⟨y40, h_y40, h_c41⟩ := b0g h_c41
           obtain rfl := sI9 h_c41
           simp only [go_sem, s3, s4, s13, s14, b08 h_x37, hg42]
           refine b01 (c3k m x37 x_14 _ h_y39) ?_
           simp only [go_sem, hg42]
           refine b01 (c3o l y39 _ h_y40) ?_
           simp only [go_sem, hg42]
           exact hK _ _ ⟨s1, s2, s3, s4, s13, s14, (by first | (simp only [go_sem]; done) | rfl)⟩
          ·simp only [hg42, if_false, fT9] at h_c41
           obtain rfl := sI9 h_c41
           simp only [go_sem, hg42]
           exact hK _ _ ⟨s1, s2, s3, s4, s13, s14, (by first | (simp only [go_sem]; done) | rfl)⟩
         ·rintro t h ⟨s1, s2, s3, s4, s13, s14, s78⟩
          simp only [go_sem, s78]
          refine b0k (fun hc43 => ?_) (fun hc43 => ?_)
          ·rw [b0r hc43] at hm2
           refine b0b fun K hK => ?_
           simp only [go_sem, s13]
           refine hK _ _ ?_
           clear hK K
           simp only [b0x, b1p, b2e, b0y]
           obtain rfl := sI9 hm2
           obtain rfl := hb26 _ rfl
           try dsimp only at hm1
           obtain rfl := sI9 hm1
           obtain rfl := hb15 _ rfl
           try dsimp only at hm0
           obtain rfl := sI9 hm0
           exact c6t (by simp only [go_sem]) (by simp only [go_sem]) (by simp only [go_sem]) (b0e _) (b0e _) (b0e _)
          ·rw [b0q hc43] at hm2
           simp only [b0s, b02, b0f]
           refine hK31 _ _ ?_
           refine b03 fun K hK => ?_
           simp only [go_sem, s14]
           refine hK _ _ ?_
           clear hK K
           simp only [b0f]
           obtain rfl := sI9 hm2
           refine ⟨_, rfl, ?_⟩
           exact ⟨s1, s2, s3, s4, s13, (by first | (simp only [go_sem]; done) | rfl)⟩
        ·rw [b0q hc30] at hm2
         simp only [b09, b1b, b1a, b02, b0f]
         obtain rfl := sI9 hm2
         obtain rfl := hb26 _ rfl
         try dsimp only at hm1
         exact J19  _ _ s1 s2 s3 s4 s13 hm1
     ·rw [b0q hc17] at hm1
      simp only [b09, b1b, b1a, b0f]
      obtain rfl := sI9 hm1
      obtain rfl := hb15 _ rfl
      try dsimp only at hm0
      exact J10  _ _ s3 hm0
   simp only [b0u]
   obtain ⟨b46, hl46, hm0⟩ := b0g hm0
   refine b1j hl46 (fun | i_12, t, h => t 1 = .fs 1 (List.map b0t assume) /\ t 2 = .fs 1 (List.map b0t never) /\ t 3 = .fs 3 (List.map b1g l) /\ t 4 = .fp (vM m) 0 /\ t 12 = I i_12) ?_ ?_
   ·exact ⟨s1, s2, s3, (by first | (simp only [go_sem]; done) | rfl), (by first | (simp only [go_sem]; done) | rfl)⟩
   ·rintro i_12 o t h ⟨s1, s2, s3, s4, s12⟩ hm1 hb46
    simp only [o72] at hm1
    rw [o8z]
    refine b0v ?_
    refine b0b fun K hK => ?_
    simp only [go_sem, s3, s12]
    refine hK _ _ ?_
    clear hK K
    refine b0i fun K47 hK47 => ?_
    simp only [go_sem]
    refine b0k (fun hc48 => ?_) (fun hc48 => ?_)
    ·rw [b0r hc48] at hm1
     simp only [b0s, b0f]
     refine hK47 _ _ ?_
     refine b0i fun K49 hK49 => ?_
     simp only [b0u]
     obtain ⟨x52, h_x52, hm1⟩ := b0g hm1
     have h_x520 := b05 h_x52
     have h_x521 := b06 h_x52
     obtain ⟨y53, h_y53, hm1⟩ := b0g hm1
     refine b0b fun K hK => ?_
     simp only [go_sem, s3, s4, s12, b08 h_x52, h_x521]
     refine b01 (o8i m x52 _ h_y53) ?_
     simp only [go_sem]
     refine hK _ _ ?_
     clear hK K
     simp only [go_sem]
     refine b0k (fun hc54 => ?_) (fun hc54 => ?_)
     ·rw [b0r hc54] at hm1
      refine b0b fun K hK => ?_
      simp only [go_sem]
      refine hK _ _ ?_
      clear hK K
      simp only [b0x, b1p, b2e, b0y]
      obtain rfl := sI9 hm1
      obtain rfl := hb46 _ rfl
      try dsimp only at hm0
      obtain rfl := sI9 hm0
      exact c6t (by simp only [go_sem]) (by simp only [go_sem]) (by simp only [go_sem]) (b0e _) (b0e _) (b0e _)
     ·rw [b0q hc54] at hm1
      simp only [b0s, b02, b0f]
      refine hK49 _ _ ?_
      refine b03 fun K hK => ?_
      simp only [go_sem, s12]
      refine hK _ _ ?_
      clear hK K
      simp only [b0f]
      obtain rfl := sI9 hm1
      refine ⟨_, rfl, ?_⟩
      exact ⟨s1, s2, s3, s4, (by first | (simp only [go_sem]; done) | rfl)⟩
    ·rw [b0q hc48] at hm1
     simp only [b09, b1b, b1a, b0f]
     obtain rfl := sI9 hm1
     obtain rfl := hb46 _ rfl
     try dsimp only at hm0
     exact J8  _ _ s1 s2 s3 s4 hm0
theorem d3d (hf : Has O "newel/newelref04.Word" x_r04_Word) : d0g O := by
 intro s r hm0
 unfold c02 at hm0
 refine b1i hf rfl (b0a (b0e _) b0j) (b0e _) ?_
 refine b1c (fun t h => t 0 = .v (.string s)) rfl fun t h s0 => ?_
 simp only [x_r04_Word]
 refine b0b fun K hK => ?_
 simp only [go_sem]
 refine hK _ _ ?_
 clear hK K
 refine b0v ?_
 refine b0b fun K hK => ?_
 simp only [go_sem]
 refine hK _ _ ?_
 clear hK K
 refine b0i fun K1 hK1 => ?_
 have J2 : ∀ (t : Slots) (h : Heap), t 0 = .v (.string s) -> c8o s = some r -> K1 t h := by
  intro t h s0 hm0
  refine hK1 _ _ ?_
  unfold c8o at hm0
  refine b0v ?_
  refine b0b fun K hK => ?_
  simp only [go_sem]
  refine hK _ _ ?_
  clear hK K
  refine b0i fun K3 hK3 => ?_
  have J4 : ∀ (t : Slots) (h : Heap), t 0 = .v (.string s) -> d4r s = some r -> K3 t h := by
   intro t h s0 hm0
   refine hK3 _ _ ?_
   unfold d4r at hm0
   refine b0b fun K hK => ?_
   simp only [go_sem, s0]
   refine hK _ _ ?_
   clear hK K
   simp only [b0x, b0y]
   obtain rfl := sI9 hm0
   exact b04 (by simp only [go_sem]) (b0e _)
  simp only [b0u]
  obtain ⟨b5, hl5, hm0⟩ := b0g hm0
  refine b1j hl5 (fun | i_4, t, h => t 0 = .v (.string s) /\ t 4 = I i_4) ?_ ?_
  ·exact ⟨s0, (by first | (simp only [go_sem]; done) | rfl)⟩
  ·rintro i_4 o t h ⟨s0, s4⟩ hm1 hb5
   simp only [c4i] at hm1
   rw [g4w]
   refine b0v ?_
   refine b0b fun K hK => ?_
   simp only [go_sem, s0, s4]
   refine hK _ _ ?_
   clear hK K
   refine b0i fun K6 hK6 => ?_
   simp only [go_sem]
   refine b0k (fun hc7 => ?_) (fun hc7 => ?_)
   ·rw [b0r hc7] at hm1
    simp only [b0s, b0f]
    refine hK6 _ _ ?_
    refine b0i fun K8 hK8 => ?_
    simp only [b0u]
    obtain ⟨x10, h_x10, hm1⟩ := b0g hm1
    refine b2p (fun t h => t 0 = .v (.string s) /\ t 4 = I i_4 /\ t 32 = B ((decide (x10 < 97)) || (decide (122 < x10)))) (fun K hK => ?_) ?_
    ·simp only [go_sem, s0, s4, d95 h_x10]
     refine b0k (fun hg11 => ?_) (fun hg11 => ?_)
     ·simp only [go_sem, hg11]
      exact hK _ _ ⟨s0, s4, (by first | (simp only [go_sem, hg11]; done) | rfl)⟩
     ·simp only [go_sem, s0, s4, d95 h_x10, hg11]
      exact hK _ _ ⟨s0, s4, (by first | (simp only [go_sem, hg11]; done) | rfl)⟩
    ·rintro t h ⟨s0, s4, s32⟩
     simp only [go_sem, s32]
     refine b0k (fun hc12 => ?_) (fun hc12 => ?_)
     ·rw [b0r hc12] at hm1
      refine b0b fun K hK => ?_
      simp only [go_sem]
      refine hK _ _ ?_
      clear hK K
      simp only [b0x, b1p, b2e, b0y]
      obtain rfl := sI9 hm1
      obtain rfl := hb5 _ rfl
      try dsimp only at hm0
      obtain rfl := sI9 hm0
      exact b04 (by simp only [go_sem]) (b0e _)
     ·rw [b0q hc12] at hm1
      simp only [b0s, b02, b0f]
      refine hK8 _ _ ?_
      refine b03 fun K hK => ?_
      simp only [go_sem, s4]
      refine hK _ _ ?_
      clear hK K
      simp only [b0f]
      obtain rfl := sI9 hm1
      refine ⟨_, rfl, ?_⟩
      exact ⟨s0, (by first | (simp only [go_sem]; done) | rfl)⟩
   ·rw [b0q hc7] at hm1
    simp only [b09, b1b, b1a, b0f]
    obtain rfl := sI9 hm1
    obtain rfl := hb5 _ rfl
    try dsimp only at hm0
    exact J4  _ _ s0 hm0
 simp only [b0u]
 obtain ⟨b14, hl14, hm0⟩ := b0g hm0
 refine b1j hl14 (fun | i_3, t, h => t 0 = .v (.string s) /\ t 3 = I i_3) ?_ ?_
 ·exact ⟨s0, (by first | (simp only [go_sem]; done) | rfl)⟩
 ·rintro i_3 o t h ⟨s0, s3⟩ hm1 hb14
  simp only [c4j] at hm1
  rw [g4x]
  refine b0v ?_
  refine b0b fun K hK => ?_
  simp only [go_sem, s3]
  refine hK _ _ ?_
  clear hK K
  refine b0i fun K15 hK15 => ?_
  simp only [go_sem]
  refine b0k (fun hc16 => ?_) (fun hc16 => ?_)
  ·rw [b0r hc16] at hm1
   simp only [b0s, b0f]
   refine hK15 _ _ ?_
   refine b0i fun K17 hK17 => ?_
   simp only [b0u]
   obtain ⟨x19, h_x19, hm1⟩ := b0g hm1
   have h_x190 := b05 h_x19
   have h_x191 := b06 h_x19
   refine b0b fun K hK => ?_
   simp only [go_sem, s0, s3, b08 h_x19, h_x191]
   refine hK _ _ ?_
   clear hK K
   simp only [go_sem]
   refine b0k (fun hc20 => ?_) (fun hc20 => ?_)
   ·rw [b0r hc20] at hm1
    refine b0b fun K hK => ?_
    simp only [go_sem]
    refine hK _ _ ?_
    clear hK K
    simp only [b0x, b1p, b2e, b0y]
    obtain rfl := sI9 hm1
    obtain rfl := hb14 _ rfl
    try dsimp only at hm0
    obtain rfl := sI9 hm0
    exact b04 (by simp only [go_sem]) (b0e _)
   ·rw [b0q hc20] at hm1
    simp only [b0s, b02, b0f]
    refine hK17 _ _ ?_
    refine b03 fun K hK => ?_
    simp only [go_sem, s3]
    refine hK _ _ ?_
    clear hK K
    simp only [b0f]
    obtain rfl := sI9 hm1
    refine ⟨_, rfl, ?_⟩
    exact ⟨s0, (by first | (simp only [go_sem]; done) | rfl)⟩
  ·rw [b0q hc16] at hm1
   simp only [b09, b1b, b1a, b0f]
   obtain rfl := sI9 hm1
   obtain rfl := hb14 _ rfl
   try dsimp only at hm0
   exact J2  _ _ s0 hm0
theorem c3l (hf : Has O "newel/newelref04.all" x_r04_all) : c5o O := by
 intro m r hm0
 unfold c03 at hm0
 refine b1i hf rfl (b0a (fM _) b0j) (b0e _) ?_
 refine b1c (fun t h => t 0 = .agg (vM m)) rfl fun t h s0 => ?_
 simp only [x_r04_all]
 refine b0b fun K hK => ?_
 simp only [go_sem, s0]
 refine hK _ _ ?_
 clear hK K
 obtain ⟨q2, h_q2, hm0⟩ := b0g hm0
 refine b0b fun K hK => ?_
 simp only [go_sem, c21 h_q2]
 refine hK _ _ ?_
 clear hK K
 simp only [b0x, b0y]
 obtain rfl := sI9 hm0
 exact b04 (by simp only [go_sem]) (b0e _)
theorem c3m (hf : Has O "newel/newelref04.condition" x_r04_condition) (b4p : c5r O) : c5p O := by
 intro m c inside r hm0
 unfold c04 at hm0
 refine b1i hf rfl (b0a (fM _) (b0a (b0c fun a _ => b2j a) (b0a (b0e _) b0j))) (b0e _) ?_
 refine b1c (fun t h => t 0 = .agg (vM m) /\ t 1 = .fs 1 (List.map b0t c) /\ t 2 = B inside) ⟨rfl, rfl, rfl⟩ fun t h ⟨s0, s1, s2⟩ => ?_
 simp only [x_r04_condition]
 refine b0b fun K hK => ?_
 simp only [go_sem, s0]
 refine hK _ _ ?_
 clear hK K
 refine b0v ?_
 refine b0b fun K hK => ?_
 simp only [go_sem, s1]
 refine hK _ _ ?_
 clear hK K
 refine b0i fun K1 hK1 => ?_
 simp only [go_sem]
 refine b0k (fun hc2 => ?_) (fun hc2 => ?_)
 ·rw [b0r hc2] at hm0
  refine b0b fun K hK => ?_
  simp only [go_sem]
  refine hK _ _ ?_
  clear hK K
  simp only [b0x, b1p, b0y]
  obtain rfl := sI9 hm0
  exact b04 (by simp only [go_sem]) (b0e _)
 ·rw [b0q hc2] at hm0
  simp only [b0s, b0f]
  refine hK1 _ _ ?_
  refine b0v ?_
  refine b0b fun K hK => ?_
  simp only [go_sem]
  refine hK _ _ ?_
  clear hK K
  refine b0i fun K3 hK3 => ?_
  have J4 : ∀ (t : Slots) (h : Heap), d4s = some r -> K3 t h := by
   intro t h hm0
   refine hK3 _ _ ?_
   unfold d4s at hm0
   refine b0b fun K hK => ?_
   simp only [go_sem]
   refine hK _ _ ?_
   clear hK K
   simp only [b0x, b0y]
   obtain rfl := sI9 hm0
   exact b04 (by simp only [go_sem]) (b0e _)
  simp only [b0u]
  obtain ⟨b5, hl5, hm0⟩ := b0g hm0
  refine b1j hl5 (fun | i_7, t, h => t 1 = .fs 1 (List.map b0t c) /\ t 2 = B inside /\ t 3 = .fp (vM m) 0 /\ t 7 = I i_7) ?_ ?_
  ·exact ⟨s1, s2, (by first | (simp only [go_sem]; done) | rfl), (by first | (simp only [go_sem]; done) | rfl)⟩
  ·rintro i_7 o t h ⟨s1, s2, s3, s7⟩ hm1 hb5
   simp only [c05] at hm1
   rw [g4z]
   refine b0v ?_
   refine b0b fun K hK => ?_
   simp only [go_sem, s1, s7]
   refine hK _ _ ?_
   clear hK K
   refine b0i fun K6 hK6 => ?_
   simp only [go_sem]
   refine b0k (fun hc7 => ?_) (fun hc7 => ?_)
   ·rw [b0r hc7] at hm1
    simp only [b0s, b0f]
    refine hK6 _ _ ?_
    refine b0i fun K8 hK8 => ?_
    have J9 : ∀ (t : Slots) (h : Heap), t 1 = .fs 1 (List.map b0t c) -> t 2 = B inside -> t 3 = .fp (vM m) 0 -> t 7 = I i_7 -> c8p i_7 = some o -> K8 t h := by
     intro t h s1 s2 s3 s7 hm1
     refine hK8 _ _ ?_
     unfold c8p at hm1
     refine b03 fun K hK => ?_
     simp only [go_sem, s7]
     refine hK _ _ ?_
     clear hK K
     simp only [b0f]
     obtain rfl := sI9 hm1
     refine ⟨_, rfl, ?_⟩
     exact ⟨s1, s2, s3, (by first | (simp only [go_sem]; done) | rfl)⟩
    simp only [b0u]
    refine b0v ?_
    obtain ⟨x11, h_x11, hm1⟩ := b0g hm1
    have h_x110 := b05 h_x11
    have h_x111 := b06 h_x11
    refine b0b fun K hK => ?_
    simp only [go_sem, s1, s7, b08 h_x11, h_x111]
    refine hK _ _ ?_
    clear hK K
    refine b0i fun K12 hK12 => ?_
    simp only [go_sem]
    refine b0k (fun hc13 => ?_) (fun hc13 => ?_)
    ·rw [b0r hc13] at hm1
     refine b0b fun K hK => ?_
     simp only [go_sem]
     refine hK _ _ ?_
     clear hK K
     simp only [b0x, b1p, b2e, b0y]
     obtain rfl := sI9 hm1
     obtain rfl := hb5 _ rfl
     try dsimp only at hm0
     obtain rfl := sI9 hm0
     exact b04 (by simp only [go_sem]) (b0e _)
    ·rw [b0q hc13] at hm1
     simp only [b0s, b0f]
     refine hK12 _ _ ?_
     refine b0b fun K hK => ?_
     simp only [go_sem]
     refine hK _ _ ?_
     clear hK K
     simp only [b0u]
     obtain ⟨b14, hl14, hm1⟩ := b0g hm1
     refine b1j hl14 (fun | k_8, t, h => t 1 = .fs 1 (List.map b0t c) /\ t 2 = B inside /\ t 3 = .fp (vM m) 0 /\ t 7 = I i_7 /\ t 8 = I k_8) ?_ ?_
     ·exact ⟨s1, s2, s3, s7, (by first | (simp only [go_sem]; done) | rfl)⟩
     ·rintro k_8 o t h ⟨s1, s2, s3, s7, s8⟩ hm2 hb14
      simp only [b8y] at hm2
      rw [g4y]
      refine b0v ?_
      obtain ⟨x16, h_x16, hm2⟩ := b0g hm2
      have h_x160 := b05 h_x16
      have h_x161 := b06 h_x16
      refine b0b fun K hK => ?_
      simp only [go_sem, s1, s7, s8, b08 h_x16]
      refine hK _ _ ?_
      clear hK K
      refine b0i fun K17 hK17 => ?_
      simp only [go_sem]
      refine b0k (fun hc18 => ?_) (fun hc18 => ?_)
      ·rw [b0r hc18] at hm2
       simp only [b0s, b0f]
       refine hK17 _ _ ?_
       refine b0i fun K19 hK19 => ?_
       simp only [b0u]
       obtain ⟨x21, h_x21, hm2⟩ := b0g hm2
       have h_x210 := b05 h_x21
       have h_x211 := b06 h_x21
       refine b0b fun K hK => ?_
       simp only [go_sem, s1, s7, s8, b08 h_x21, h_x211, b08 h_x16]
       refine hK _ _ ?_
       clear hK K
       refine b0b fun K hK => ?_
       simp only [go_sem]
       refine hK _ _ ?_
       clear hK K
       refine b0v ?_
       refine b0b fun K hK => ?_
       simp only [go_sem]
       refine hK _ _ ?_
       clear hK K
       refine b0i fun K22 hK22 => ?_
       have J23 : ∀ (is_10 : Bool) (t : Slots) (h : Heap), t 1 = .fs 1 (List.map b0t c) -> t 2 = B inside -> t 3 = .fp (vM m) 0 -> t 7 = I i_7 -> t 8 = I k_8 -> t 10 = B is_10 -> b7p k_8 is_10 = some o -> K22 t h := by
        intro is_10 t h s1 s2 s3 s7 s8 s10 hm2
        refine hK22 _ _ ?_
        unfold b7p at hm2
        refine b0b fun K hK => ?_
        simp only [go_sem, s10]
        refine hK _ _ ?_
        clear hK K
        simp only [go_sem]
        refine b0k (fun hc24 => ?_) (fun hc24 => ?_)
        ·rw [b0r hc24] at hm2
         refine b0b fun K hK => ?_
         simp only [go_sem]
         refine hK _ _ ?_
         clear hK K
         simp only [b0x, b1p, b2e, b0y]
         obtain rfl := sI9 hm2
         obtain rfl := hb14 _ rfl
         try dsimp only at hm1
         obtain rfl := sI9 hm1
         obtain rfl := hb5 _ rfl
         try dsimp only at hm0
         obtain rfl := sI9 hm0
         exact b04 (by simp only [go_sem]) (b0e _)
        ·rw [b0q hc24] at hm2
         simp only [b0s, b02, b0f]
         refine hK19 _ _ ?_
         refine b03 fun K hK => ?_
         simp only [go_sem, s8]
         refine hK _ _ ?_
         clear hK K
         simp only [b0f]
         obtain rfl := sI9 hm2
         refine ⟨_, rfl, ?_⟩
         exact ⟨s1, s2, s3, s7, (by first | (simp only [go_sem]; done) | rfl)⟩
       simp only [b0u]
       refine b0b fun K hK => ?_
       simp only [go_sem]
       refine hK _ _ ?_
       clear hK K
       simp only [go_sem]
       refine b0k (fun hc25 => ?_) (fun hc25 => ?_)
       ·rw [b0r hc25] at hm2
        refine b9y (fun t h => t 1 = .fs 1 (List.map b0t c) /\ t 2 = B inside /\ t 3 = .fp (vM m) 0 /\ t 7 = I i_7 /\ t 8 = I k_8 /\ t 10 = B ((b2b x21.Number 0 (wr ((List.length m.Inputs : Int) - 1))) && (decide (x21.Value = 0)))) (fun K hK => ?_) ?_
        ·simp only [go_sem, s3]
         refine b01 (b4p x21.Number 0 (wr ((List.length m.Inputs : Int) - 1))) ?_
         simp only [go_sem]
         refine b0k (fun hg26 => ?_) (fun hg26 => ?_)
         ·simp only [go_sem, hg26]
          exact hK _ _ ⟨s1, s2, s3, s7, s8, (by first | (simp only [go_sem, hg26]; done) | rfl)⟩
         ·simp only [go_sem, hg26]
          exact hK _ _ ⟨s1, s2, s3, s7, s8, (by first | (simp only [go_sem, hg26]; done) | rfl)⟩
        ·rintro t h ⟨s1, s2, s3, s7, s8, s10⟩
         simp only [b02, b0f]
         exact J23 ((b2b x21.Number 0 (wr ((List.length m.Inputs : Int) - 1))) && (decide (x21.Value = 0))) _ _ s1 s2 s3 s7 s8 s10 hm2
       ·rw [b0q hc25] at hm2
        refine b0b fun K hK => ?_
        simp only [go_sem]
        refine hK _ _ ?_
        clear hK K
        simp only [go_sem]
        refine b0k (fun hc27 => ?_) (fun hc27 => ?_)
        ·rw [b0r hc27] at hm2
         obtain ⟨c31, h_c31, hm2⟩ := b0g hm2
         refine b9y (fun t h => t 1 = .fs 1 (List.map b0t c) /\ t 2 = B inside /\ t 3 = .fp (vM m) 0 /\ t 7 = I i_7 /\ t 8 = I k_8 /\ t 10 = B c31) (fun K hK => ?_) ?_
         ·simp only [go_sem, s3]
          refine b01 (b4p x21.Number 0 (wr ((List.length m.Counters : Int) - 1))) ?_
          simp only [go_sem]
          refine b0k (fun hg32 => ?_) (fun hg32 => ?_)
          ·simp only [hg32, eq_self, if_true] at h_c31
           obtain ⟨x30, h_x30, h_c31⟩ := b0g h_c31
           have h_x300 := b05 h_x30
           have h_x301 := b06 h_x30
           obtain rfl := sI9 h_c31
           simp only [go_sem, s3, b08 h_x30, hg32]
           refine b01 (b4p x21.Value 0 x30.Max) ?_
           simp only [go_sem, hg32]
           exact hK _ _ ⟨s1, s2, s3, s7, s8, (by first | (simp only [go_sem]; done) | rfl)⟩
          ·simp only [hg32, if_false, fT9] at h_c31
           obtain rfl := sI9 h_c31
           simp only [go_sem, hg32]
           exact hK _ _ ⟨s1, s2, s3, s7, s8, (by first | (simp only [go_sem]; done) | rfl)⟩
         ·rintro t h ⟨s1, s2, s3, s7, s8, s10⟩
          simp only [b02, b0f]
          exact J23 c31 _ _ s1 s2 s3 s7 s8 s10 hm2
        ·rw [b0q hc27] at hm2
         refine b0b fun K hK => ?_
         simp only [go_sem]
         refine hK _ _ ?_
         clear hK K
         simp only [go_sem]
         refine b0k (fun hc33 => ?_) (fun hc33 => ?_)
         ·rw [b0r hc33] at hm2
          refine b9y (fun t h => t 1 = .fs 1 (List.map b0t c) /\ t 2 = B inside /\ t 3 = .fp (vM m) 0 /\ t 7 = I i_7 /\ t 8 = I k_8 /\ t 10 = B ((inside && (b2b x21.Number 0 (wr ((List.length m.States : Int) - 1)))) && (decide (x21.Value = 0)))) (fun K hK => ?_) ?_
          ·simp only [go_sem, s2]
           refine b0k (fun hg34 => ?_) (fun hg34 => ?_)
           ·simp only [go_sem, s3, hg34]
            refine b01 (b4p x21.Number 0 (wr ((List.length m.States : Int) - 1))) ?_
            simp only [go_sem, hg34]
            refine b0k (fun hg35 => ?_) (fun hg35 => ?_)
            ·simp only [go_sem, hg34, hg35]
             exact hK _ _ ⟨s1, s2, s3, s7, s8, (by first | (simp only [go_sem, hg34, hg35]; done) | rfl)⟩
            ·simp only [go_sem, hg34, hg35]
             exact hK _ _ ⟨s1, s2, s3, s7, s8, (by first | (simp only [go_sem, hg34, hg35]; done) | rfl)⟩
           ·simp only [go_sem, hg34]
            exact hK _ _ ⟨s1, s2, s3, s7, s8, (by first | (simp only [go_sem, hg34]; done) | rfl)⟩
          ·rintro t h ⟨s1, s2, s3, s7, s8, s10⟩
           simp only [b02, b0f]
           exact J23 ((inside && (b2b x21.Number 0 (wr ((List.length m.States : Int) - 1)))) && (decide (x21.Value = 0))) _ _ s1 s2 s3 s7 s8 s10 hm2
         ·rw [b0q hc33] at hm2
          refine b0b fun K hK => ?_
          simp only [go_sem]
          refine hK _ _ ?_
          clear hK K
          simp only [go_sem]
          refine b0k (fun hc36 => ?_) (fun hc36 => ?_)
          ·rw [b0r hc36] at hm2
           refine b9y (fun t h => t 1 = .fs 1 (List.map b0t c) /\ t 2 = B inside /\ t 3 = .fp (vM m) 0 /\ t 7 = I i_7 /\ t 8 = I k_8 /\ t 10 = B ((b2b x21.Number 0 (wr ((List.length m.Outputs : Int) - 1))) && (decide (x21.Value = 0)))) (fun K hK => ?_) ?_
           ·simp only [go_sem, s3]
            refine b01 (b4p x21.Number 0 (wr ((List.length m.Outputs : Int) - 1))) ?_
            simp only [go_sem]
            refine b0k (fun hg37 => ?_) (fun hg37 => ?_)
            ·simp only [go_sem, hg37]
             exact hK _ _ ⟨s1, s2, s3, s7, s8, (by first | (simp only [go_sem, hg37]; done) | rfl)⟩
            ·simp only [go_sem, hg37]
             exact hK _ _ ⟨s1, s2, s3, s7, s8, (by first | (simp only [go_sem, hg37]; done) | rfl)⟩
           ·rintro t h ⟨s1, s2, s3, s7, s8, s10⟩
            simp only [b02, b0f]
            exact J23 ((b2b x21.Number 0 (wr ((List.length m.Outputs : Int) - 1))) && (decide (x21.Value = 0))) _ _ s1 s2 s3 s7 s8 s10 hm2
          ·rw [b0q hc36] at hm2
           simp only [b0s, b02, b0f]
           exact J23 false _ _ s1 s2 s3 s7 s8 (by first | (simp only [go_sem]; done) | rfl) hm2
      ·rw [b0q hc18] at hm2
       simp only [b09, b1b, b1a, b02, b0f]
       obtain rfl := sI9 hm2
       obtain rfl := hb14 _ rfl
       try dsimp only at hm1
       exact J9  _ _ s1 s2 s3 s7 hm1
   ·rw [b0q hc7] at hm1
    simp only [b09, b1b, b1a, b0f]
    obtain rfl := sI9 hm1
    obtain rfl := hb5 _ rfl
    try dsimp only at hm0
    exact J4  _ _  hm0
theorem b4p (hf : Has O "newel/newelref04.from" x_r04_from) : c5r O := by
 intro n low high
 generalize hm0 : b2b n low high = r
 unfold b2b at hm0
 refine b1i hf rfl (b0a (b0e _) (b0a (b0e _) (b0a (b0e _) b0j))) (b0e _) ?_
 refine b1c (fun t h => t 0 = I n /\ t 1 = I low /\ t 2 = I high) ⟨rfl, rfl, rfl⟩ fun t h ⟨s0, s1, s2⟩ => ?_
 simp only [x_r04_from]
 refine b0b fun K hK => ?_
 simp only [go_sem]
 refine hK _ _ ?_
 clear hK K
 refine b2p (fun t h => t 6 = B ((decide (low <= n)) && (decide (n <= high)))) (fun K hK => ?_) ?_
 ·simp only [go_sem, s0, s1]
  refine b0k (fun hg1 => ?_) (fun hg1 => ?_)
  ·simp only [go_sem, s0, s2, hg1]
   exact hK _ _ (by first | (simp only [go_sem, hg1]; done) | rfl)
  ·simp only [go_sem, hg1]
   exact hK _ _ (by first | (simp only [go_sem, hg1]; done) | rfl)
 ·rintro t h s6
  simp only [b0x, b0y]
  obtain rfl := hm0
  exact b04 (by simp only [go_sem, s6]) (b0e _)
theorem c3o (hf : Has O "newel/newelref04.index" x_r04_index) : c5s O := by
 intro l p r hm0
 unfold c08 at hm0
 refine b1i hf rfl (b0a (b0c fun a _ => b44 a) (b0a (.agg _ (b0a (b0e _) (b0a (b0e _) (b0a (b0e _) b0j)))) b0j)) (b0e _) ?_
 refine b1c (fun t h => t 0 = .fs 3 (List.map b1g l) /\ t 1 = .agg [I p.State, I p.Values.1, I p.Values.2]) ⟨rfl, rfl⟩ fun t h ⟨s0, s1⟩ => ?_
 simp only [x_r04_index]
 refine b0b fun K hK => ?_
 simp only [go_sem, s1]
 refine hK _ _ ?_
 clear hK K
 refine b0v ?_
 refine b0b fun K hK => ?_
 simp only [go_sem]
 refine hK _ _ ?_
 clear hK K
 refine b0i fun K1 hK1 => ?_
 have J2 : ∀ (t : Slots) (h : Heap), d4t = some r -> K1 t h := by
  intro t h hm0
  refine hK1 _ _ ?_
  unfold d4t at hm0
  refine b0b fun K hK => ?_
  simp only [go_sem]
  refine hK _ _ ?_
  clear hK K
  simp only [b0x, b0y]
  obtain rfl := sI9 hm0
  exact b04 (by simp only [go_sem]) (b0e _)
 simp only [b0u]
 obtain ⟨b3, hl3, hm0⟩ := b0g hm0
 refine b1j hl3 (fun | i_5, t, h => t 0 = .fs 3 (List.map b1g l) /\ t 3 = .fp [I p.State, I p.Values.1, I p.Values.2] 0 /\ t 5 = I i_5) ?_ ?_
 ·exact ⟨s0, (by first | (simp only [go_sem]; done) | rfl), (by first | (simp only [go_sem]; done) | rfl)⟩
 ·rintro i_5 o t h ⟨s0, s3, s5⟩ hm1 hb3
  simp only [c09] at hm1
  rw [g42]
  refine b0v ?_
  refine b0b fun K hK => ?_
  simp only [go_sem, s0, s5]
  refine hK _ _ ?_
  clear hK K
  refine b0i fun K4 hK4 => ?_
  simp only [go_sem]
  refine b0k (fun hc5 => ?_) (fun hc5 => ?_)
  ·rw [b0r hc5] at hm1
   simp only [b0s, b0f]
   refine hK4 _ _ ?_
   refine b0i fun K6 hK6 => ?_
   simp only [b0u]
   obtain ⟨x8, h_x8, hm1⟩ := b0g hm1
   have h_x80 := b05 h_x8
   have h_x81 := b06 h_x8
   refine b0b fun K hK => ?_
   simp only [go_sem, s0, s3, s5, b08 h_x8, h_x81]
   refine hK _ _ ?_
   clear hK K
   simp only [go_sem]
   refine b0k (fun hc9 => ?_) (fun hc9 => ?_)
   ·rw [b0r hc9] at hm1
    refine b0b fun K hK => ?_
    simp only [go_sem, s5]
    refine hK _ _ ?_
    clear hK K
    simp only [b0x, b1p, b2e, b0y]
    obtain rfl := sI9 hm1
    obtain rfl := hb3 _ rfl
    try dsimp only at hm0
    obtain rfl := sI9 hm0
    exact b04 (by simp only [go_sem]) (b0e _)
   ·rw [b0q hc9] at hm1
    simp only [b0s, b02, b0f]
    refine hK6 _ _ ?_
    refine b03 fun K hK => ?_
    simp only [go_sem, s5]
    refine hK _ _ ?_
    clear hK K
    simp only [b0f]
    obtain rfl := sI9 hm1
    refine ⟨_, rfl, ?_⟩
    exact ⟨s0, s3, (by first | (simp only [go_sem]; done) | rfl)⟩
  ·rw [b0q hc5] at hm1
   simp only [b09, b1b, b1a, b0f]
   obtain rfl := sI9 hm1
   obtain rfl := hb3 _ rfl
   try dsimp only at hm0
   exact J2  _ _  hm0
theorem d3e (hf : Has O "newel/newelref04.literal" x_r04_literal) : d0h O := by
 intro m p input l r hm0
 unfold c1a at hm0
 refine b1i hf rfl (b0a (fM _) (b0a (.agg _ (b0a (b0e _) (b0a (b0e _) (b0a (b0e _) b0j)))) (b0a (b0e _) (b0a (.agg _ (b0a (b0e _) (b0a (b0e _) (b0a (b0e _) (b0a (b0e _) b0j))))) b0j)))) (b0e _) ?_
 refine b1c (fun t h => t 0 = .agg (vM m) /\ t 1 = .agg [I p.State, I p.Values.1, I p.Values.2] /\ t 2 = I input /\ t 3 = .agg [I l.Kind, I l.Number, I l.Value, B l.Not]) ⟨rfl, rfl, rfl, rfl⟩ fun t h ⟨s0, s1, s2, s3⟩ => ?_
 simp only [x_r04_literal]
 refine b0b fun K hK => ?_
 simp only [go_sem, s0, s1, s3]
 refine hK _ _ ?_
 clear hK K
 refine b0b fun K hK => ?_
 simp only [go_sem]
 refine hK _ _ ?_
 clear hK K
 refine b0v ?_
 refine b0b fun K hK => ?_
 simp only [go_sem]
 refine hK _ _ ?_
 clear hK K
 refine b0i fun K1 hK1 => ?_
 have J2 : ∀ (is_9 : Bool) (t : Slots) (h : Heap), t 7 = .fp [I l.Kind, I l.Number, I l.Value, B l.Not] 0 -> t 9 = B is_9 -> b7q l is_9 = some r -> K1 t h := by
  intro is_9 t h s7 s9 hm0
  refine hK1 _ _ ?_
  unfold b7q at hm0
  refine b0b fun K hK => ?_
  simp only [go_sem, s7, s9]
  refine hK _ _ ?_
  clear hK K
  simp only [b0x, b0y]
  obtain rfl := sI9 hm0
  exact b04 (by simp only [go_sem]) (b0e _)
 simp only [b0u]
 refine b0b fun K hK => ?_
 simp only [go_sem]
 refine hK _ _ ?_
 clear hK K
 simp only [go_sem]
 refine b0k (fun hc3 => ?_) (fun hc3 => ?_)
 ·rw [b0r hc3] at hm0
  obtain ⟨q5, h_q5, hm0⟩ := b0g hm0
  refine b03 fun K hK => ?_
  simp only [go_sem, s2, c7d h_q5]
  refine hK _ _ ?_
  clear hK K
  simp only [b02, b0f]
  exact J2 (decide ((b6y q5 1) = 1)) _ _ (by first | (simp only [go_sem]; done) | rfl) (by first | (simp only [go_sem]; done) | rfl) hm0
 ·rw [b0q hc3] at hm0
  refine b0b fun K hK => ?_
  simp only [go_sem]
  refine hK _ _ ?_
  clear hK K
  simp only [go_sem]
  refine b0k (fun hc6 => ?_) (fun hc6 => ?_)
  ·rw [b0r hc6] at hm0
   obtain ⟨x8, h_x8, hm0⟩ := b0g hm0
   have ha_x8 : ∀ v : Int, List.take (1 + Int.toNat (l.Number)) [I p.State, I p.Values.1, I p.Values.2] ++ [I v] ++ List.drop (1 + Int.toNat (l.Number)) [I p.Values.1, I p.Values.2] = [I p.State, I (b1n (l.Number) 0 v p.Values.1), I (b1n (l.Number) 1 v p.Values.2)] := fun v => (c1e (cs := [I p.State, I p.Values.1, I p.Values.2]) (off := 1) (v := v) h_x8 rfl).trans (by rw [c1d h_x8]; rfl)
   have hb_x8 : 1 + Int.toNat (l.Number) + 1 <= 3 := Nat.le_trans (Nat.add_le_add_left (c0a h_x8) 1) (by simp)
   refine b03 fun K hK => ?_
   simp only [go_sem, d94 (n := 2) (l := [p.Values.1, p.Values.2]) h_x8 rfl, c0c (cs := [I p.State, I p.Values.1, I p.Values.2]) (off := 1) h_x8 rfl]
   refine hK _ _ ?_
   clear hK K
   simp only [b02, b0f]
   exact J2 (decide (l.Value <= x8)) _ _ (by first | (simp only [go_sem]; done) | rfl) (by first | (simp only [go_sem]; done) | rfl) hm0
  ·rw [b0q hc6] at hm0
   refine b0b fun K hK => ?_
   simp only [go_sem]
   refine hK _ _ ?_
   clear hK K
   simp only [go_sem]
   refine b0k (fun hc9 => ?_) (fun hc9 => ?_)
   ·rw [b0r hc9] at hm0
    refine b03 fun K hK => ?_
    simp only [go_sem]
    refine hK _ _ ?_
    clear hK K
    simp only [b02, b0f]
    exact J2 (decide (p.State = l.Number)) _ _ (by first | (simp only [go_sem]; done) | rfl) (by first | (simp only [go_sem]; done) | rfl) hm0
   ·rw [b0q hc9] at hm0
    refine b0b fun K hK => ?_
    simp only [go_sem]
    refine hK _ _ ?_
    clear hK K
    simp only [go_sem]
    refine b0k (fun hc10 => ?_) (fun hc10 => ?_)
    ·rw [b0r hc10] at hm0
     obtain ⟨x13, h_x13, hm0⟩ := b0g hm0
     have h_x130 := b05 h_x13
     have h_x131 := b06 h_x13
     obtain ⟨q14, h_q14, hm0⟩ := b0g hm0
     refine b03 fun K hK => ?_
     simp only [go_sem, b08 h_x13, c7d h_q14]
     refine hK _ _ ?_
     clear hK K
     simp only [b02, b0f]
     exact J2 (decide ((b6y q14 1) = 1)) _ _ (by first | (simp only [go_sem]; done) | rfl) (by first | (simp only [go_sem]; done) | rfl) hm0
    ·rw [b0q hc10] at hm0
     simp only [b0s, b02, b0f]
     exact J2 false _ _ (by first | (simp only [go_sem]; done) | rfl) (by first | (simp only [go_sem]; done) | rfl) hm0
theorem c3p (hf : Has O "newel/situation.Asked" x_situation_Asked) (b8n : c1o O) (d3g : d0j O) : c5t O := by
 intro m c r hm0
 unfold c1h at hm0
 refine b1i hf rfl (b0a (fM _) (b0a (b0c fun a _ => b2j a) b0j)) (b0e _) ?_
 refine b1c (fun t h => t 0 = .agg (vM m) /\ t 1 = .fs 1 (List.map b0t c)) ⟨rfl, rfl⟩ fun t h ⟨s0, s1⟩ => ?_
 simp only [x_situation_Asked]
 refine b0b fun K hK => ?_
 simp only [go_sem, s0]
 refine hK _ _ ?_
 clear hK K
 refine b0v ?_
 refine b0b fun K hK => ?_
 simp only [go_sem, s1]
 refine hK _ _ ?_
 clear hK K
 refine b0i fun K1 hK1 => ?_
 simp only [go_sem]
 refine b0k (fun hc2 => ?_) (fun hc2 => ?_)
 ·rw [b0r hc2] at hm0
  refine b0b fun K hK => ?_
  simp only [go_sem]
  refine hK _ _ ?_
  clear hK K
  simp only [b0x, b1p, b0y]
  obtain rfl := sI9 hm0
  exact b04 (by simp only [go_sem]) (b0e _)
 ·rw [b0q hc2] at hm0
  simp only [b0s, b0f]
  refine hK1 _ _ ?_
  refine b0v ?_
  refine b0b fun K hK => ?_
  simp only [go_sem, s1]
  refine hK _ _ ?_
  clear hK K
  refine b0i fun K3 hK3 => ?_
  have J4 : ∀ (t : Slots) (h : Heap), d46 = some r -> K3 t h := by
   intro t h hm0
   refine hK3 _ _ ?_
   unfold d46 at hm0
   refine b0b fun K hK => ?_
   simp only [go_sem]
   refine hK _ _ ?_
   clear hK K
   simp only [b0x, b0y]
   obtain rfl := sI9 hm0
   exact b04 (by simp only [go_sem]) (b0e _)
  simp only [b0u]
  obtain ⟨b5, hl5, hm0⟩ := b0g hm0
  refine b1j hl5 (fun | x_12, t, h => t 2 = .fp (vM m) 0 /\ t 10 = .fs 1 (List.map b0t c) /\ t 11 = I (List.length c : Int) /\ t 12 = I x_12) ?_ ?_
  ·exact ⟨(by first | (simp only [go_sem]; done) | rfl), (by first | (simp only [go_sem]; done) | rfl), (by first | (simp only [go_sem]; done) | rfl), (by first | (simp only [go_sem]; done) | rfl)⟩
  ·rintro x_12 o t h ⟨s2, s10, s11, s12⟩ hm1 hb5
   simp only [c4u] at hm1
   rw [g45]
   refine b0b fun K hK => ?_
   simp only [go_sem, s11, s12]
   refine hK _ _ ?_
   clear hK K
   refine b0i fun K6 hK6 => ?_
   simp only [go_sem]
   refine b0k (fun hc7 => ?_) (fun hc7 => ?_)
   ·rw [b0r hc7] at hm1
    simp only [b0s, b0f]
    refine hK6 _ _ ?_
    refine b0i fun K8 hK8 => ?_
    simp only [b0u]
    obtain ⟨x10, h_x10, hm1⟩ := b0g hm1
    have h_x100 := b05 h_x10
    have h_x101 := b06 h_x10
    refine b0b fun K hK => ?_
    simp only [go_sem, s10, s12, b08 h_x10, h_x101]
    refine hK _ _ ?_
    clear hK K
    obtain ⟨c16, h_c16, hm1⟩ := b0g hm1
    refine b2p (fun t h => t 2 = .fp (vM m) 0 /\ t 10 = .fs 1 (List.map b0t c) /\ t 11 = I (List.length c : Int) /\ t 12 = I x_12 /\ t 23 = B c16) (fun K hK => ?_) ?_
    ·simp only [go_sem]
     refine b0k (fun hg17 => ?_) (fun hg17 => ?_)
     ·simp only [hg17, eq_self, if_true] at h_c16
      obtain rfl := sI9 h_c16
      simp only [go_sem, hg17]
      exact hK _ _ ⟨s2, s10, s11, s12, (by first | (simp only [go_sem]; done) | rfl)⟩
     ·simp only [hg17, if_false, fT9] at h_c16
      obtain ⟨y15, h_y15, h_c16⟩ := b0g h_c16
      obtain rfl := sI9 h_c16
      simp only [go_sem, s2, hg17]
      refine b01 (b8n x10 "newel/situation.Asked$1" [] [.fp (vM m) 0] (fun z14 => b82 z14 m) (.fn _ _ _ b0j (b0a (.fp _ _ (b0a (b0c fun a _ => b0z a) (b0a (b0c fun a _ => b0z a) (b0a (b0c fun a _ => b1q a) (b0a (b0c fun a _ => b1s a) (b0a (b0c fun a _ => b1r a) b0j)))))) b0j)) (fun z0 y hz => d3g z0 m y hz) _ h_y15) ?_
      simp only [go_sem, s2, hg17]
      exact hK _ _ ⟨s2, s10, s11, s12, (by first | (simp only [go_sem]; done) | rfl)⟩
    ·rintro t h ⟨s2, s10, s11, s12, s23⟩
     simp only [go_sem, s23]
     refine b0k (fun hc18 => ?_) (fun hc18 => ?_)
     ·rw [b0r hc18] at hm1
      refine b0b fun K hK => ?_
      simp only [go_sem]
      refine hK _ _ ?_
      clear hK K
      simp only [b0x, b1p, b2e, b0y]
      obtain rfl := sI9 hm1
      obtain rfl := hb5 _ rfl
      try dsimp only at hm0
      obtain rfl := sI9 hm0
      exact b04 (by simp only [go_sem]) (b0e _)
     ·rw [b0q hc18] at hm1
      simp only [b0s, b02, b0f]
      refine hK8 _ _ ?_
      refine b03 fun K hK => ?_
      simp only [go_sem, s12]
      refine hK _ _ ?_
      clear hK K
      simp only [b0f]
      obtain rfl := sI9 hm1
      refine ⟨_, rfl, ?_⟩
      exact ⟨s2, s10, s11, (by first | (simp only [go_sem]; done) | rfl)⟩
   ·rw [b0q hc7] at hm1
    simp only [b09, b1b, b1a, b0f]
    obtain rfl := sI9 hm1
    obtain rfl := hb5 _ rfl
    try dsimp only at hm0
    exact J4  _ _  hm0
theorem d3n (d3o : d0r O) (d3p : d0s O) : d0q O := by
 intro m r hm0
 unfold c45 at hm0
 split at hm0
 ·exact d3o m r hm0
 ·exact d3p m r hm0
end Go.Nw.KM
