/- That the texts make what their models say: printed by a program. -/
import Derived.Test.YtfahaljhgfjooaaDoorKM
set_option linter.all false
namespace Go.Nw.KM
open Go.Nw.Ctl
set_option maxHeartbeats 4000000
variable {O : Orac} [MapsOk O]
theorem c8o (hf : Has O "(newel/situation.Plant).All" x__situation_Plant__All) : c6a O := by
 intro m r hm0
 unfold b9o at hm0
 refine b1l hf rfl (b0a (fM _) b0o) (b0d _) ?_
 refine b1d (fun t h => t 0 = .agg (vM m.Machine)) rfl fun t h s0 => ?_
 simp only [x__situation_Plant__All]
 refine b0b fun K hK => ?_
 simp only [go_sem, s0]
 refine hK _ _ ?_
 clear hK K
 obtain ⟨q2, h_q2, hm0⟩ := b0h hm0
 refine b0b fun K hK => ?_
 simp only [go_sem, c3y h_q2]
 refine hK _ _ ?_
 clear hK K
 simp only [b0u, b0v]
 obtain rfl := sI9 hm0
 exact b01 (by simp only [go_sem]) (b0d _)
theorem c4b (hf : Has O "(newel/situation.Plant).Holds" x__situation_Plant__Holds) (c9j : c67 O) (c8p : c6c O) : c6b O := by
 intro m c p input r hm0
 unfold b9p at hm0
 refine b1l hf rfl (b0a (fM _) (b0a (b0f fun a _ => b4g a) (b0a (.agg _ (b0a (b0d _) (b0a (b0d _) (b0a (b0d _) b0o)))) (b0a (b0d _) b0o)))) (b0d _) ?_
 refine b1d (fun t h => t 0 = .agg (vM m.Machine) /\ t 1 = .fs 1 (List.map b03 c) /\ t 2 = .agg [I p.State, I p.Values.1, I p.Values.2] /\ t 3 = I input) ⟨rfl, rfl, rfl, rfl⟩ fun t h ⟨s0, s1, s2, s3⟩ => ?_
 simp only [x__situation_Plant__Holds]
 refine b0b fun K hK => ?_
 simp only [go_sem, s0, s2, s3]
 refine hK _ _ ?_
 clear hK K
 obtain ⟨y4, h_y4, hm0⟩ := b0h hm0
 refine b0b fun K hK => ?_
 simp only [go_sem, s1]
 refine b0z (c9j c "(newel/situation.Plant).Holds$1" [] [.fp (vM m.Machine) 0, .fp [I p.State, I p.Values.1, I p.Values.2] 0, .fp [I input] 0] (fun z3 => b7b z3 m p input) (.fn _ _ _ b0o (b0a (.fp _ _ (b0a (b0f fun a _ => b0y a) (b0a (b0f fun a _ => b0y a) (b0a (b0f fun a _ => b1r a) (b0a (b0f fun a _ => b1t a) (b0a (b0f fun a _ => b1s a) b0o)))))) (b0a (.fp _ _ (b0a (b0d _) (b0a (b0d _) (b0a (b0d _) b0o)))) (b0a (.fp _ _ (b0a (b0d _) b0o)) b0o)))) (fun z0 y hz => c8p z0 m p input y hz) _ h_y4) ?_
 simp only [go_sem]
 refine hK _ _ ?_
 clear hK K
 simp only [b0u, b0v]
 obtain rfl := sI9 hm0
 exact b01 (by simp only [go_sem]) (b0d _)
theorem c8p (hf : Has O "(newel/situation.Plant).Holds$1" x__situation_Plant__HoldsD1) (b7o : b9j O) (c8q : c6d O) : c6c O := by
 intro t_ c0 c1 c2 r hm0
 unfold b7b at hm0
 refine b1l hf rfl (b0a (b0f fun a _ => c0g a) (b0a (.fp _ _ (b0a (b0f fun a _ => b0y a) (b0a (b0f fun a _ => b0y a) (b0a (b0f fun a _ => b1r a) (b0a (b0f fun a _ => b1t a) (b0a (b0f fun a _ => b1s a) b0o)))))) (b0a (.fp _ _ (b0a (b0d _) (b0a (b0d _) (b0a (b0d _) b0o)))) (b0a (.fp _ _ (b0a (b0d _) b0o)) b0o)))) (b0d _) ?_
 refine b1d (fun t h => t 0 = .fs 4 (List.map b24 t_) /\ t 1 = .fp (vM c0.Machine) 0 /\ t 2 = .fp [I c1.State, I c1.Values.1, I c1.Values.2] 0 /\ t 3 = .fp [I c2] 0) ⟨rfl, rfl, rfl, rfl⟩ fun t h ⟨s0, s1, s2, s3⟩ => ?_
 simp only [x__situation_Plant__HoldsD1]
 refine b0b fun K hK => ?_
 simp only [go_sem]
 refine hK _ _ ?_
 clear hK K
 obtain ⟨y4, h_y4, hm0⟩ := b0h hm0
 refine b0b fun K hK => ?_
 simp only [go_sem, s0, s1, s2, s3]
 refine b0z (b7o t_ "(newel/situation.Plant).Holds$1$1" [] [.fp (vM c0.Machine) 0, .fp [I c1.State, I c1.Values.1, I c1.Values.2] 0, .fp [I c2] 0] (fun z3 => b7c z3 c0 c1 c2) (.fn _ _ _ b0o (b0a (.fp _ _ (b0a (b0f fun a _ => b0y a) (b0a (b0f fun a _ => b0y a) (b0a (b0f fun a _ => b1r a) (b0a (b0f fun a _ => b1t a) (b0a (b0f fun a _ => b1s a) b0o)))))) (b0a (.fp _ _ (b0a (b0d _) (b0a (b0d _) (b0a (b0d _) b0o)))) (b0a (.fp _ _ (b0a (b0d _) b0o)) b0o)))) (fun z0 y hz => c8q z0 c0 c1 c2 y hz) _ h_y4) ?_
 simp only [go_sem, s1, s2, s3]
 refine hK _ _ ?_
 clear hK K
 simp only [b0u, b0v]
 obtain rfl := sI9 hm0
 exact b01 (by simp only [go_sem]) (b0d _)
theorem c8q (hf : Has O "(newel/situation.Plant).Holds$1$1" x__situation_Plant__HoldsD1D1) (c8s : c6f O) : c6d O := by
 intro x c0 c1 c2 r hm0
 unfold b7c at hm0
 refine b1l hf rfl (b0a (.agg _ (b0a (b0d _) (b0a (b0d _) (b0a (b0d _) (b0a (b0d _) b0o))))) (b0a (.fp _ _ (b0a (b0f fun a _ => b0y a) (b0a (b0f fun a _ => b0y a) (b0a (b0f fun a _ => b1r a) (b0a (b0f fun a _ => b1t a) (b0a (b0f fun a _ => b1s a) b0o)))))) (b0a (.fp _ _ (b0a (b0d _) (b0a (b0d _) (b0a (b0d _) b0o)))) (b0a (.fp _ _ (b0a (b0d _) b0o)) b0o)))) (b0d _) ?_
 refine b1d (fun t h => t 0 = .agg [I x.Kind, I x.Number, I x.Value, B x.Not] /\ t 1 = .fp (vM c0.Machine) 0 /\ t 2 = .fp [I c1.State, I c1.Values.1, I c1.Values.2] 0 /\ t 3 = .fp [I c2] 0) ⟨rfl, rfl, rfl, rfl⟩ fun t h ⟨s0, s1, s2, s3⟩ => ?_
 simp only [x__situation_Plant__HoldsD1D1]
 refine b0b fun K hK => ?_
 simp only [go_sem, s0]
 refine hK _ _ ?_
 clear hK K
 obtain ⟨y2, h_y2, hm0⟩ := b0h hm0
 refine b0b fun K hK => ?_
 simp only [go_sem, s1, s2, s3]
 refine b0z (c8s c0 x c1 c2 _ h_y2) ?_
 simp only [go_sem]
 refine hK _ _ ?_
 clear hK K
 simp only [b0u, b0v]
 obtain rfl := sI9 hm0
 exact b01 (by simp only [go_sem]) (b0d _)
theorem c0m (hf : Has O "(newel/situation.Plant).Input" x__situation_Plant__Input) (c8o : c6a O) (b27 : b76 O) : c2g O := by
 intro m n r hm0
 unfold b8a at hm0
 refine b1l hf rfl (b0a (fM _) (b0a (b0d _) b0o)) (b0d _) ?_
 refine b1d (fun t h => t 0 = .agg (vM m.Machine) /\ t 1 = I n) ⟨rfl, rfl⟩ fun t h ⟨s0, s1⟩ => ?_
 simp only [x__situation_Plant__Input]
 refine b0b fun K hK => ?_
 simp only [go_sem, s0]
 refine hK _ _ ?_
 clear hK K
 obtain ⟨y2, h_y2, hm0⟩ := b0h hm0
 refine b0b fun K hK => ?_
 simp only [go_sem, s1]
 refine b0z (c8o m _ h_y2) ?_
 simp only [go_sem]
 refine b0z (b27 n 0 (wr (y2 - 1))) ?_
 simp only [go_sem]
 refine hK _ _ ?_
 clear hK K
 simp only [b0u, b0v]
 obtain rfl := sI9 hm0
 exact b01 (by simp only [go_sem]) (b0d _)
theorem c8r (hf : Has O "(newel/situation.Plant).Place" x__situation_Plant__Place) (b27 : b76 O) : c6e O := by
 intro m p r hm0
 unfold b9q at hm0
 refine b1l hf rfl (b0a (fM _) (b0a (.agg _ (b0a (b0d _) (b0a (b0d _) (b0a (b0d _) b0o)))) b0o)) (b0d _) ?_
 refine b1d (fun t h => t 0 = .agg (vM m.Machine) /\ t 1 = .agg [I p.State, I p.Values.1, I p.Values.2]) ⟨rfl, rfl⟩ fun t h ⟨s0, s1⟩ => ?_
 simp only [x__situation_Plant__Place]
 refine b0b fun K hK => ?_
 simp only [go_sem, s0, s1]
 refine hK _ _ ?_
 clear hK K
 refine b0s ?_
 refine b0b fun K hK => ?_
 simp only [go_sem]
 refine hK _ _ ?_
 clear hK K
 refine b0k fun K1 hK1 => ?_
 have J2 : ∀ (t : Slots) (h : Heap), t 2 = .fp (vM m.Machine) 0 -> t 3 = .fp [I p.State, I p.Values.1, I p.Values.2] 0 -> c2w m p = some r -> K1 t h := by
  intro t h s2 s3 hm0
  refine hK1 _ _ ?_
  unfold c2w at hm0
  refine b0b fun K hK => ?_
  simp only [go_sem, s2, s3]
  refine b0z (b27 p.State 0 (wr ((List.length m.Machine.States : Int) - 1))) ?_
  simp only [go_sem]
  refine hK _ _ ?_
  clear hK K
  simp only [b0u, b0v]
  obtain rfl := sI9 hm0
  exact b01 (by simp only [go_sem]) (b0d _)
 simp only [b0t]
 obtain ⟨b3, hl3, hm0⟩ := b0h hm0
 refine b1p hl3 (fun | x_10, t, h => t 2 = .fp (vM m.Machine) 0 /\ t 3 = .fp [I p.State, I p.Values.1, I p.Values.2] 0 /\ t 9 = .agg [I p.Values.1, I p.Values.2] /\ t 10 = I x_10) ?_ ?_
 ·exact ⟨(by first | (simp only [go_sem]; done) | rfl), (by first | (simp only [go_sem]; done) | rfl), (by first | (simp only [go_sem]; done) | rfl), (by first | (simp only [go_sem]; done) | rfl)⟩
 ·rintro x_10 o t h ⟨s2, s3, s9, s10⟩ hm1 hb3
  simp only [b9r] at hm1
  rw [d8l]
  refine b0b fun K hK => ?_
  simp only [go_sem, s10]
  refine hK _ _ ?_
  clear hK K
  refine b0k fun K4 hK4 => ?_
  simp only [go_sem]
  refine b0i (fun hc5 => ?_) (fun hc5 => ?_)
  ·rw [b0q hc5] at hm1
   simp only [b0r, b0e]
   refine hK4 _ _ ?_
   refine b0k fun K6 hK6 => ?_
   simp only [b0t]
   obtain ⟨x8, h_x8, hm1⟩ := b0h hm1
   have ha_x8 : ∀ v : Int, List.take (Int.toNat (x_10)) [I p.Values.1, I p.Values.2] ++ [I v] ++ List.drop (Int.toNat (x_10)) [I p.Values.2] = [I (b09 (x_10) 0 v p.Values.1), I (b09 (x_10) 1 v p.Values.2)] := fun v => (j7y (cs := [I p.Values.1, I p.Values.2]) (v := v) h_x8 rfl).trans (by rw [b6x h_x8]; rfl)
   have hb_x8 : Int.toNat (x_10) + 1 <= 2 := Nat.le_trans (b6d h_x8) (by simp)
   refine b0b fun K hK => ?_
   simp only [go_sem, s9, s10, g81 (n := 2) (l := [p.Values.1, p.Values.2]) (cs := [I p.Values.1, I p.Values.2]) h_x8 rfl rfl]
   refine hK _ _ ?_
   clear hK K
   refine b0b fun K hK => ?_
   simp only [go_sem]
   refine hK _ _ ?_
   clear hK K
   refine b0s ?_
   refine b0b fun K hK => ?_
   simp only [go_sem, s2]
   refine hK _ _ ?_
   clear hK K
   refine b0k fun K9 hK9 => ?_
   have J10 : ∀ (most_7 : Int) (t : Slots) (h : Heap), t 2 = .fp (vM m.Machine) 0 -> t 3 = .fp [I p.State, I p.Values.1, I p.Values.2] 0 -> t 6 = I x8 -> t 7 = I most_7 -> t 9 = .agg [I p.Values.1, I p.Values.2] -> t 10 = I x_10 -> b9s x_10 x8 most_7 = some o -> K9 t h := by
    intro most_7 t h s2 s3 s6 s7 s9 s10 hm1
    refine hK9 _ _ ?_
    unfold b9s at hm1
    refine b0b fun K hK => ?_
    simp only [go_sem, s6, s7]
    refine b0z (b27 x8 0 most_7) ?_
    simp only [go_sem]
    refine hK _ _ ?_
    clear hK K
    simp only [go_sem]
    refine b0i (fun hc11 => ?_) (fun hc11 => ?_)
    ·rw [b0q hc11] at hm1
     refine b0b fun K hK => ?_
     simp only [go_sem]
     refine hK _ _ ?_
     clear hK K
     simp only [b0u, b1i, b13, b0v]
     obtain rfl := sI9 hm1
     obtain rfl := hb3 _ rfl
     try dsimp only at hm0
     obtain rfl := sI9 hm0
     exact b01 (by simp only [go_sem]) (b0d _)
    ·rw [b0p hc11] at hm1
     simp only [b0r, b00, b0e]
     refine hK6 _ _ ?_
     refine b02 fun K hK => ?_
     simp only [go_sem, s10]
     refine hK _ _ ?_
     clear hK K
     simp only [b0e]
     obtain rfl := sI9 hm1
     refine ⟨_, rfl, ?_⟩
     exact ⟨s2, s3, s9, (by first | (simp only [go_sem]; done) | rfl)⟩
   simp only [go_sem]
   refine b0i (fun hc12 => ?_) (fun hc12 => ?_)
   ·rw [b0q hc12] at hm1
    obtain ⟨x14, h_x14, hm1⟩ := b0h hm1
    have h_x140 := b06 h_x14
    have h_x141 := b07 h_x14
    refine b02 fun K hK => ?_
    simp only [go_sem, s2, b08 h_x14, h_x141]
    refine hK _ _ ?_
    clear hK K
    simp only [b0e]
    exact J10 x14.Max _ _ s2 s3 (by first | (simp only [go_sem]; done) | rfl) (by first | (simp only [go_sem]; done) | rfl) s9 s10 hm1
   ·rw [b0p hc12] at hm1
    simp only [b0r, b0e]
    exact J10 0 _ _ s2 s3 (by first | (simp only [go_sem]; done) | rfl) (by first | (simp only [go_sem]; done) | rfl) s9 s10 hm1
  ·rw [b0p hc5] at hm1
   simp only [b1c, b1h, b1g, b0e]
   obtain rfl := sI9 hm1
   obtain rfl := hb3 _ rfl
   try dsimp only at hm0
   exact J2  _ _ s2 s3 hm0
theorem c0n (hf : Has O "(newel/situation.Plant).Step" x__situation_Plant__Step) (c4b : c6b O) (c8t : c6g O) : c2h O := by
 intro m p input r hm0
 unfold b8b at hm0
 refine b1l hf rfl (b0a (fM _) (b0a (.agg _ (b0a (b0d _) (b0a (b0d _) (b0a (b0d _) b0o)))) (b0a (b0d _) b0o))) (.agg _ (b0a (b0d _) (b0a (b0d _) (b0a (b0d _) b0o)))) ?_
 refine b1d (fun t h => t 0 = .agg (vM m.Machine) /\ t 1 = .agg [I p.State, I p.Values.1, I p.Values.2] /\ t 2 = I input) ⟨rfl, rfl, rfl⟩ fun t h ⟨s0, s1, s2⟩ => ?_
 simp only [x__situation_Plant__Step]
 refine b0b fun K hK => ?_
 simp only [go_sem, s0, s1]
 refine hK _ _ ?_
 clear hK K
 refine b0s ?_
 refine b0b fun K hK => ?_
 simp only [go_sem]
 refine hK _ _ ?_
 clear hK K
 refine b0k fun K1 hK1 => ?_
 have J2 : ∀ (p_4_0 : Int) (p_4_1 : Int) (p_4_2 : Int) (i4 : Nat) (i6 : Nat) (t : Slots) (h : Heap), t 4 = .rp i4 0 0 -> t 6 = .rp i6 0 0 -> h.ob i4 = some (3, [[I p_4_0, I p_4_1, I p_4_2]]) -> i4 < h.nx -> h.ob i6 = some (3, [[I 0, I 0, I 0]]) -> i6 < h.nx -> ¬i4 = i6 -> c2z p_4_0 p_4_1 p_4_2 = some r -> K1 t h := by
  intro p_4_0 p_4_1 p_4_2 i4 i6 t h s4 s6 Q5 Q3 Q1 Q0 Q7 hm0
  refine hK1 _ _ ?_
  unfold c2z at hm0
  refine b0b fun K hK => ?_
  simp only [go_sem, s4, s6, Q5, Q1]
  refine hK _ _ ?_
  clear hK K
  simp only [b0u, b0v]
  obtain rfl := sI9 hm0
  exact b96 (id := i6) (m := 3) (cs := [I p_4_0, I p_4_1, I p_4_2]) (by simp only [go_sem, s6]) (by simp only [go_sem]) rfl (.refl _ (.agg _ (b0a (b0d _) (b0a (b0d _) (b0a (b0d _) b0o)))))
 simp only [b0t]
 obtain ⟨b3, hl3, hm0⟩ := b0h hm0
 refine b1p hl3 (fun | x_15, t, h => ∃ i4 : Nat, ∃ i6 : Nat, t 2 = I input /\ t 3 = .fp (vM m.Machine) 0 /\ t 4 = .rp i4 0 0 /\ t 6 = .rp i6 0 0 /\ t 13 = .fs 4 (List.map b0j m.Machine.Rules) /\ t 14 = I (List.length m.Machine.Rules : Int) /\ t 15 = I x_15 /\ h.ob i4 = some (3, [[I p.State, I p.Values.1, I p.Values.2]]) /\ i4 < h.nx /\ h.ob i6 = some (3, [[I 0, I 0, I 0]]) /\ i6 < h.nx /\ ¬i4 = i6) ?_ ?_
 ·exact ⟨h.nx, (nxs h.nx), s2, (by first | (simp only [go_sem]; done) | rfl), (by first | (simp only [go_sem]; done) | rfl), (by first | (simp only [go_sem]; done) | rfl), (by first | (simp only [go_sem]; done) | rfl), (by first | (simp only [go_sem]; done) | rfl), (by first | (simp only [go_sem]; done) | rfl), (by simp only [go_sem]), (by simp only [go_sem]), (by simp only [go_sem]), (by simp only [go_sem]), (by first | first | assumption | omega | (simp only [nxs] <;> omega))⟩
 ·rintro x_15 o t h ⟨i4, i6, s2, s3, s4, s6, s13, s14, s15, Q5, Q3, Q1, Q0, Q7⟩ hm1 hb3
  simp only [c2x] at hm1
  rw [d8n]
  refine b0b fun K hK => ?_
  simp only [go_sem, s14, s15]
  refine hK _ _ ?_
  clear hK K
  refine b0k fun K4 hK4 => ?_
  simp only [go_sem]
  refine b0i (fun hc5 => ?_) (fun hc5 => ?_)
  ·rw [b0q hc5] at hm1
   simp only [b0r, b0e]
   refine hK4 _ _ ?_
   refine b0k fun K6 hK6 => ?_
   have J7 : ∀ (t : Slots) (h : Heap), t 2 = I input -> t 3 = .fp (vM m.Machine) 0 -> t 4 = .rp i4 0 0 -> t 6 = .rp i6 0 0 -> t 13 = .fs 4 (List.map b0j m.Machine.Rules) -> t 14 = I (List.length m.Machine.Rules : Int) -> t 15 = I x_15 -> h.ob i4 = some (3, [[I p.State, I p.Values.1, I p.Values.2]]) -> i4 < h.nx -> h.ob i6 = some (3, [[I 0, I 0, I 0]]) -> i6 < h.nx -> ¬i4 = i6 -> c20 x_15 = some o -> K6 t h := by
    try clear s2 s3 s4 s6 s13 s14 s15 Q5 Q3 Q1 Q0 Q7
    intro t h s2 s3 s4 s6 s13 s14 s15 Q5 Q3 Q1 Q0 Q7 hm1
    refine hK6 _ _ ?_
    unfold c20 at hm1
    refine b02 fun K hK => ?_
    simp only [go_sem, s15]
    refine hK _ _ ?_
    clear hK K
    simp only [b0e]
    obtain rfl := sI9 hm1
    refine ⟨_, rfl, ?_⟩
    exact ⟨i4, i6, s2, s3, s4, s6, s13, s14, (by first | (simp only [go_sem]; done) | rfl), Q5, Q3, Q1, Q0, Q7⟩
   simp only [b0t]
   obtain ⟨x9, h_x9, hm1⟩ := b0h hm1
   have h_x90 := b06 h_x9
   have h_x91 := b07 h_x9
   refine b0b fun K hK => ?_
   simp only [go_sem, s13, s15, b08 h_x9, h_x91]
   refine hK _ _ ?_
   clear hK K
   refine b0s ?_
   obtain ⟨c13, h_c13, hm1⟩ := b0h hm1
   refine b2q (fun t h => ∃ i8 : Nat, t 2 = I input /\ t 3 = .fp (vM m.Machine) 0 /\ t 4 = .rp i4 0 0 /\ t 6 = .rp i6 0 0 /\ t 8 = .rp i8 0 0 /\ t 13 = .fs 4 (List.map b0j m.Machine.Rules) /\ t 14 = I (List.length m.Machine.Rules : Int) /\ t 15 = I x_15 /\ t 37 = B c13 /\ h.ob i4 = some (3, [[I p.State, I p.Values.1, I p.Values.2]]) /\ i4 < h.nx /\ h.ob i6 = some (3, [[I 0, I 0, I 0]]) /\ i6 < h.nx /\ h.ob i8 = some (4, [[I x9.From, I x9.To, .fs 1 (List.map b03 x9.When), .fs 2 (List.map b2c x9.Sets)]]) /\ i8 < h.nx /\ ¬i4 = i6 /\ ¬i4 = i8 /\ ¬i6 = i8) (fun K hK => ?_) ?_
   ·simp only [go_sem]
    refine b0i (fun hg14 => ?_) (fun hg14 => ?_)
    ·simp only [go_sem, s4, Q5, Q3, hg14]
     refine b0i (fun hg15 => ?_) (fun hg15 => ?_)
     ·simp only [hg14, hg15, eq_self, if_true, Bool.and_true] at h_c13
      obtain rfl := sI9 h_c13
      simp only [go_sem, hg14, hg15]
      exact hK _ _ ⟨h.nx, s2, s3, s4, s6, (by first | (simp only [go_sem]; done) | rfl), s13, s14, s15, (by first | (simp only [go_sem]; done) | rfl), (by simp only [go_sem, Q5, Q3]), (by simp only [go_sem, Q3]), (by simp only [go_sem, Q1, Q0]), (by simp only [go_sem, Q0]), (by simp only [go_sem]), (by simp only [go_sem]), Q7, (by first | first | assumption | omega | (simp only [nxs] <;> omega)), (by first | first | assumption | omega | (simp only [nxs] <;> omega))⟩
     ·simp only [hg14, hg15, if_false, Bool.and_false, fT9] at h_c13
      obtain ⟨y12, h_y12, h_c13⟩ := b0h h_c13
      obtain rfl := sI9 h_c13
      simp only [go_sem, s2, s3, s4, Q5, Q3, hg14, hg15]
      refine b0z (c4b m x9.When (Place.mk p.State (p.Values.1, p.Values.2)) input _ h_y12) ?_
      simp only [go_sem, hg14, hg15]
      exact hK _ _ ⟨h.nx, s2, s3, s4, s6, (by first | (simp only [go_sem]; done) | rfl), s13, s14, s15, (by first | (simp only [go_sem]; done) | rfl), (by simp only [go_sem, Q5, Q3]), (by simp only [go_sem, Q3]), (by simp only [go_sem, Q1, Q0]), (by simp only [go_sem, Q0]), (by simp only [go_sem]), (by simp only [go_sem]), Q7, (by first | first | assumption | omega | (simp only [nxs] <;> omega)), (by first | first | assumption | omega | (simp only [nxs] <;> omega))⟩
    ·simp only [hg14, if_false, Bool.false_and, fT9] at h_c13
     obtain ⟨y12, h_y12, h_c13⟩ := b0h h_c13
     obtain rfl := sI9 h_c13
     simp only [go_sem, s2, s3, s4, Q5, Q3, hg14]
     refine b0z (c4b m x9.When (Place.mk p.State (p.Values.1, p.Values.2)) input _ h_y12) ?_
     simp only [go_sem, hg14]
     exact hK _ _ ⟨h.nx, s2, s3, s4, s6, (by first | (simp only [go_sem]; done) | rfl), s13, s14, s15, (by first | (simp only [go_sem]; done) | rfl), (by simp only [go_sem, Q5, Q3]), (by simp only [go_sem, Q3]), (by simp only [go_sem, Q1, Q0]), (by simp only [go_sem, Q0]), (by simp only [go_sem]), (by simp only [go_sem]), Q7, (by first | first | assumption | omega | (simp only [nxs] <;> omega)), (by first | first | assumption | omega | (simp only [nxs] <;> omega))⟩
   ·try clear s2 s3 s4 s6 s13 s14 s15 Q5 Q3 Q1 Q0 Q7
    rintro t h ⟨i8, s2, s3, s4, s6, s8, s13, s14, s15, s37, Q5, Q3, Q1, Q0, Q2, Q4, Q7, Qe, Q8⟩
    refine b0k fun K16 hK16 => ?_
    simp only [go_sem, s37]
    refine b0i (fun hc17 => ?_) (fun hc17 => ?_)
    ·rw [b0q hc17] at hm1
     simp only [b1c, b1h, b1g, b0e]
     exact J7  _ _ s2 s3 s4 s6 s13 s14 s15 Q5 Q3 Q1 Q0 Q7 hm1
    ·rw [b0p hc17] at hm1
     simp only [b0r, b0e]
     refine hK16 _ _ ?_
     refine b0s ?_
     refine b0b fun K hK => ?_
     simp only [go_sem, s8, Q2]
     refine hK _ _ ?_
     clear hK K
     refine b0k fun K18 hK18 => ?_
     have J19 : ∀ (p_4_0 : Int) (p_4_1 : Int) (p_4_2 : Int) (t : Slots) (h : Heap), t 4 = .rp i4 0 0 -> t 6 = .rp i6 0 0 -> t 8 = .rp i8 0 0 -> h.ob i4 = some (3, [[I p_4_0, I p_4_1, I p_4_2]]) -> i4 < h.nx -> h.ob i6 = some (3, [[I 0, I 0, I 0]]) -> i6 < h.nx -> h.ob i8 = some (4, [[I x9.From, I x9.To, .fs 1 (List.map b03 x9.When), .fs 2 (List.map b2c x9.Sets)]]) -> i8 < h.nx -> ¬i4 = i6 -> ¬i4 = i8 -> ¬i6 = i8 -> c2y x9 p_4_0 p_4_1 p_4_2 = some o -> K18 t h := by
      try clear s2 s3 s4 s6 s8 s13 s14 s15 s37 Q5 Q3 Q1 Q0 Q2 Q4 Q7 Qe Q8
      intro p_4_0 p_4_1 p_4_2 t h s4 s6 s8 Q5 Q3 Q1 Q0 Q2 Q4 Q7 Qe Q8 hm1
      refine hK18 _ _ ?_
      unfold c2y at hm1
      refine b0b fun K hK => ?_
      simp only [go_sem, s4, s8, Q5, Q2]
      refine hK _ _ ?_
      clear hK K
      simp only [b1c, b1h, b1g, b86, b0e, Nat.reduceEqDiff, nF9]
      obtain rfl := sI9 hm1
      obtain rfl := hb3 _ rfl
      try dsimp only at hm0
      exact J2 x9.To p_4_1 p_4_2 i4 i6 _ _ s4 s6 (by simp only [go_sem]) (by simp only [go_sem, Q3]) (by simp only [go_sem, Q1, b41 Q7]) (by simp only [go_sem, Q0]) Q7 hm0
     simp only [b0t]
     obtain ⟨b20, hl20, hm1⟩ := b0h hm1
     refine b1p hl20 (fun | (p_4_0, p_4_1, p_4_2, x_41), t, h => t 3 = .fp (vM m.Machine) 0 /\ t 4 = .rp i4 0 0 /\ t 6 = .rp i6 0 0 /\ t 8 = .rp i8 0 0 /\ t 39 = .fs 2 (List.map b2c x9.Sets) /\ t 40 = I (List.length x9.Sets : Int) /\ t 41 = I x_41 /\ h.ob i4 = some (3, [[I p_4_0, I p_4_1, I p_4_2]]) /\ i4 < h.nx /\ h.ob i6 = some (3, [[I 0, I 0, I 0]]) /\ i6 < h.nx /\ h.ob i8 = some (4, [[I x9.From, I x9.To, .fs 1 (List.map b03 x9.When), .fs 2 (List.map b2c x9.Sets)]]) /\ i8 < h.nx /\ ¬i4 = i6 /\ ¬i4 = i8 /\ ¬i6 = i8) ?_ ?_
     ·exact ⟨s3, s4, s6, s8, (by first | (simp only [go_sem]; done) | rfl), (by first | (simp only [go_sem]; done) | rfl), (by first | (simp only [go_sem]; done) | rfl), Q5, Q3, Q1, Q0, Q2, Q4, Q7, Qe, Q8⟩
     ·try clear s2 s3 s4 s6 s8 s13 s14 s15 s37 Q5 Q3 Q1 Q0 Q2 Q4 Q7 Qe Q8
      rintro ⟨p_4_0, p_4_1, p_4_2, x_41⟩ o t h ⟨s3, s4, s6, s8, s39, s40, s41, Q5, Q3, Q1, Q0, Q2, Q4, Q7, Qe, Q8⟩ hm2 hb20
      simp only [b9t] at hm2
      rw [d8m]
      refine b0b fun K hK => ?_
      simp only [go_sem, s40, s41]
      refine hK _ _ ?_
      clear hK K
      refine b0k fun K21 hK21 => ?_
      simp only [go_sem]
      refine b0i (fun hc22 => ?_) (fun hc22 => ?_)
      ·rw [b0q hc22] at hm2
       simp only [b0r, b0e]
       refine hK21 _ _ ?_
       refine b0k fun K23 hK23 => ?_
       simp only [b0t]
       obtain ⟨x25, h_x25, hm2⟩ := b0h hm2
       have h_x250 := b06 h_x25
       have h_x251 := b07 h_x25
       refine b0b fun K hK => ?_
       simp only [go_sem, s39, s41, b08 h_x25, h_x251]
       refine hK _ _ ?_
       clear hK K
       obtain ⟨y27, h_y27, hm2⟩ := b0h hm2
       refine b8m (fun t h => t 3 = .fp (vM m.Machine) 0 /\ t 4 = .rp i4 0 0 /\ t 6 = .rp i6 0 0 /\ t 8 = .rp i8 0 0 /\ t 39 = .fs 2 (List.map b2c x9.Sets) /\ t 40 = I (List.length x9.Sets : Int) /\ t 41 = I x_41 /\ h.ob i4 = some (3, [[I y27.State, I y27.Values.1, I y27.Values.2]]) /\ i4 < h.nx /\ h.ob i6 = some (3, [[I 0, I 0, I 0]]) /\ i6 < h.nx /\ h.ob i8 = some (4, [[I x9.From, I x9.To, .fs 1 (List.map b03 x9.When), .fs 2 (List.map b2c x9.Sets)]]) /\ i8 < h.nx /\ ¬i4 = i6 /\ ¬i4 = i8 /\ ¬i6 = i8) (fun K hK => ?_) ?_
       ·simp only [go_sem, s3, s4]
        refine g72 (c8t m x25 (Place.mk p_4_0 (p_4_1, p_4_2)) i4 _ (by simp only [go_sem, Q5, Q3]) (by first | omega | simp only [go_sem, Q3]) _ h_y27) ?_
        rintro _ hq_y27 ⟨rfl, ob_y27, fr_y27, fx_y27⟩
        have lw_y270 : i4 < hq_y27.nx := Nat.lt_of_lt_of_le (by first | omega | simp only [go_sem, Q3]) fx_y27
        have lw_y271 : i6 < hq_y27.nx := Nat.lt_of_lt_of_le (by first | omega | simp only [go_sem, Q0]) fx_y27
        have lw_y272 : i8 < hq_y27.nx := Nat.lt_of_lt_of_le (by first | omega | simp only [go_sem, Q4]) fx_y27
        have lw_y273 : h.nx < hq_y27.nx := Nat.lt_of_lt_of_le (by first | omega | simp only [go_sem]) fx_y27
        simp only [go_sem]
        exact hK _ _ ⟨s3, s4, s6, s8, s39, s40, s41, (by simp only [go_sem, ob_y27]), (by first | omega | simp only [go_sem, Q3]), (by simp only [go_sem, Q1, Q0, b41 Q7, fr_y27]), (by first | omega | simp only [go_sem, Q0]), (by simp only [go_sem, Q2, Q4, b41 Qe, fr_y27]), (by first | omega | simp only [go_sem, Q4]), Q7, Qe, Q8⟩
       ·try clear s3 s4 s6 s8 s39 s40 s41 Q5 Q3 Q1 Q0 Q2 Q4 Q7 Qe Q8
        rintro t h ⟨s3, s4, s6, s8, s39, s40, s41, Q5, Q3, Q1, Q0, Q2, Q4, Q7, Qe, Q8⟩
        simp only [b00, b0e]
        refine hK23 _ _ ?_
        refine b02 fun K hK => ?_
        simp only [go_sem, s41]
        refine hK _ _ ?_
        clear hK K
        simp only [b0e]
        obtain rfl := sI9 hm2
        refine ⟨_, rfl, ?_⟩
        exact ⟨s3, s4, s6, s8, s39, s40, (by first | (simp only [go_sem]; done) | rfl), Q5, Q3, Q1, Q0, Q2, Q4, Q7, Qe, Q8⟩
      ·rw [b0p hc22] at hm2
       simp only [b1c, b1h, b1g, b0e]
       obtain rfl := sI9 hm2
       obtain rfl := hb20 _ rfl
       try dsimp only at hm1
       exact J19 p_4_0 p_4_1 p_4_2 _ _ s4 s6 s8 Q5 Q3 Q1 Q0 Q2 Q4 Q7 Qe Q8 hm1
  ·rw [b0p hc5] at hm1
   simp only [b1c, b1h, b1g, b0e]
   obtain rfl := sI9 hm1
   obtain rfl := hb3 _ rfl
   try dsimp only at hm0
   exact J2 p.State p.Values.1 p.Values.2 i4 i6 _ _ s4 s6 Q5 Q3 Q1 Q0 Q7 hm0
theorem c8s (hf : Has O "(newel/situation.Plant).literal" x__situation_Plant__literal) : c6f O := by
 intro m x p input r hm0
 unfold b7d at hm0
 refine b1l hf rfl (b0a (fM _) (b0a (.agg _ (b0a (b0d _) (b0a (b0d _) (b0a (b0d _) (b0a (b0d _) b0o))))) (b0a (.agg _ (b0a (b0d _) (b0a (b0d _) (b0a (b0d _) b0o)))) (b0a (b0d _) b0o)))) (b0d _) ?_
 refine b1d (fun t h => t 0 = .agg (vM m.Machine) /\ t 1 = .agg [I x.Kind, I x.Number, I x.Value, B x.Not] /\ t 2 = .agg [I p.State, I p.Values.1, I p.Values.2] /\ t 3 = I input) ⟨rfl, rfl, rfl, rfl⟩ fun t h ⟨s0, s1, s2, s3⟩ => ?_
 simp only [x__situation_Plant__literal]
 refine b0b fun K hK => ?_
 simp only [go_sem, s0, s1, s2]
 refine hK _ _ ?_
 clear hK K
 refine b0b fun K hK => ?_
 simp only [go_sem]
 refine hK _ _ ?_
 clear hK K
 refine b0s ?_
 refine b0b fun K hK => ?_
 simp only [go_sem]
 refine hK _ _ ?_
 clear hK K
 refine b0k fun K1 hK1 => ?_
 have J2 : ∀ (holds_9 : Bool) (t : Slots) (h : Heap), t 5 = .fp [I x.Kind, I x.Number, I x.Value, B x.Not] 0 -> t 9 = B holds_9 -> b5v x holds_9 = some r -> K1 t h := by
  intro holds_9 t h s5 s9 hm0
  refine hK1 _ _ ?_
  unfold b5v at hm0
  refine b0b fun K hK => ?_
  simp only [go_sem, s5, s9]
  refine hK _ _ ?_
  clear hK K
  simp only [b0u, b0v]
  obtain rfl := sI9 hm0
  exact b01 (by simp only [go_sem]) (b0d _)
 simp only [b0t]
 refine b0b fun K hK => ?_
 simp only [go_sem]
 refine hK _ _ ?_
 clear hK K
 simp only [go_sem]
 refine b0i (fun hc3 => ?_) (fun hc3 => ?_)
 ·rw [b0q hc3] at hm0
  obtain ⟨q5, h_q5, hm0⟩ := b0h hm0
  refine b02 fun K hK => ?_
  simp only [go_sem, s3, c3z h_q5]
  refine hK _ _ ?_
  clear hK K
  simp only [b00, b0e]
  exact J2 (decide ((b5x q5 1) = 1)) _ _ (by first | (simp only [go_sem]; done) | rfl) (by first | (simp only [go_sem]; done) | rfl) hm0
 ·rw [b0p hc3] at hm0
  refine b0b fun K hK => ?_
  simp only [go_sem]
  refine hK _ _ ?_
  clear hK K
  simp only [go_sem]
  refine b0i (fun hc6 => ?_) (fun hc6 => ?_)
  ·rw [b0q hc6] at hm0
   obtain ⟨x8, h_x8, hm0⟩ := b0h hm0
   have ha_x8 : ∀ v : Int, List.take (1 + Int.toNat (x.Number)) [I p.State, I p.Values.1, I p.Values.2] ++ [I v] ++ List.drop (1 + Int.toNat (x.Number)) [I p.Values.1, I p.Values.2] = [I p.State, I (b09 (x.Number) 0 v p.Values.1), I (b09 (x.Number) 1 v p.Values.2)] := fun v => (b6y (cs := [I p.State, I p.Values.1, I p.Values.2]) (off := 1) (v := v) h_x8 rfl).trans (by rw [b6x h_x8]; rfl)
   have hb_x8 : 1 + Int.toNat (x.Number) + 1 <= 3 := Nat.le_trans (Nat.add_le_add_left (b6d h_x8) 1) (by simp)
   refine b02 fun K hK => ?_
   simp only [go_sem, c8f (n := 2) (l := [p.Values.1, p.Values.2]) h_x8 rfl, b7m (cs := [I p.State, I p.Values.1, I p.Values.2]) (off := 1) h_x8 rfl]
   refine hK _ _ ?_
   clear hK K
   simp only [b00, b0e]
   exact J2 (decide (x.Value <= x8)) _ _ (by first | (simp only [go_sem]; done) | rfl) (by first | (simp only [go_sem]; done) | rfl) hm0
  ·rw [b0p hc6] at hm0
   refine b0b fun K hK => ?_
   simp only [go_sem]
   refine hK _ _ ?_
   clear hK K
   simp only [go_sem]
   refine b0i (fun hc9 => ?_) (fun hc9 => ?_)
   ·rw [b0q hc9] at hm0
    refine b02 fun K hK => ?_
    simp only [go_sem]
    refine hK _ _ ?_
    clear hK K
    simp only [b00, b0e]
    exact J2 (decide (p.State = x.Number)) _ _ (by first | (simp only [go_sem]; done) | rfl) (by first | (simp only [go_sem]; done) | rfl) hm0
   ·rw [b0p hc9] at hm0
    refine b0b fun K hK => ?_
    simp only [go_sem]
    refine hK _ _ ?_
    clear hK K
    simp only [go_sem]
    refine b0i (fun hc10 => ?_) (fun hc10 => ?_)
    ·rw [b0q hc10] at hm0
     obtain ⟨x13, h_x13, hm0⟩ := b0h hm0
     have h_x130 := b06 h_x13
     have h_x131 := b07 h_x13
     obtain ⟨q14, h_q14, hm0⟩ := b0h hm0
     refine b02 fun K hK => ?_
     simp only [go_sem, b08 h_x13, c3z h_q14]
     refine hK _ _ ?_
     clear hK K
     simp only [b00, b0e]
     exact J2 (decide ((b5x q14 1) = 1)) _ _ (by first | (simp only [go_sem]; done) | rfl) (by first | (simp only [go_sem]; done) | rfl) hm0
    ·rw [b0p hc10] at hm0
     simp only [b0r, b00, b0e]
     exact J2 false _ _ (by first | (simp only [go_sem]; done) | rfl) (by first | (simp only [go_sem]; done) | rfl) hm0
theorem c8t (hf : Has O "(newel/situation.Plant).set" x__situation_Plant__set) : c6g O := by
 intro m s p i_2 h0 ob_p2 lt_p2 r hm0
 unfold b9u at hm0
 refine g6y hf rfl ?_
 refine b1d (fun t h => t 0 = .agg (vM m.Machine) /\ t 1 = .agg [I s.Kind, I s.Counter] /\ t 2 = .rp i_2 0 0 /\ h.ob i_2 = some (3, [[I p.State, I p.Values.1, I p.Values.2]]) /\ i_2 < h.nx /\ (∀ j, j < h0.nx -> ¬j = i_2 -> h.ob j = h0.ob j) /\ h0.nx <= h.nx) ⟨rfl, rfl, rfl, ob_p2, lt_p2, fun _ _ _ => rfl, Nat.le_refl _⟩ fun t h ⟨s0, s1, s2, ob_p2, lt_p2, fr, fx⟩ => ?_
 simp only [x__situation_Plant__set]
 refine b0b fun K hK => ?_
 simp only [go_sem, s0, s1]
 refine hK _ _ ?_
 clear hK K
 obtain ⟨x2, h_x2, hm0⟩ := b0h hm0
 have ha_x2 : ∀ v : Int, List.take (1 + Int.toNat (s.Counter)) [I p.State, I p.Values.1, I p.Values.2] ++ [I v] ++ List.drop (1 + Int.toNat (s.Counter)) [I p.Values.1, I p.Values.2] = [I p.State, I (b09 (s.Counter) 0 v p.Values.1), I (b09 (s.Counter) 1 v p.Values.2)] := fun v => (b6y (cs := [I p.State, I p.Values.1, I p.Values.2]) (off := 1) (v := v) h_x2 rfl).trans (by rw [b6x h_x2]; rfl)
 have hb_x2 : 1 + Int.toNat (s.Counter) + 1 <= 3 := Nat.le_trans (Nat.add_le_add_left (b6d h_x2) 1) (by simp)
 refine b0b fun K hK => ?_
 simp only [go_sem, s2, ob_p2, c32 (n := 2) (l := [p.Values.1, p.Values.2]) h_x2 rfl]
 refine hK _ _ ?_
 clear hK K
 refine b0b fun K hK => ?_
 simp only [go_sem]
 refine hK _ _ ?_
 clear hK K
 simp only [b0t]
 refine b0b fun K hK => ?_
 simp only [go_sem]
 refine hK _ _ ?_
 clear hK K
 simp only [go_sem]
 refine b0i (fun hc3 => ?_) (fun hc3 => ?_)
 ·rw [b0q hc3] at hm0
  refine b02 fun K hK => ?_
  simp only [go_sem, ob_p2, ha_x2, hb_x2]
  refine hK _ _ ?_
  clear hK K
  simp only [b00]
  obtain rfl := sI9 hm0
  exact c5g (Post := fun v h => v = .tup [] /\ h.ob i_2 = some (3, [[I ((Place.mk p.State (b09 s.Counter 0 0 p.Values.1, b09 s.Counter 1 0 p.Values.2)).State), I (((Place.mk p.State (b09 s.Counter 0 0 p.Values.1, b09 s.Counter 1 0 p.Values.2)).Values).1), I (((Place.mk p.State (b09 s.Counter 0 0 p.Values.1, b09 s.Counter 1 0 p.Values.2)).Values).2)]]) /\ (∀ j, j < h0.nx -> ¬j = i_2 -> h.ob j = h0.ob j) /\ h0.nx <= h.nx) ⟨rfl, (by simp only [go_sem]), (by intro j hj hx0; first | exact fr j hj hx0 | (refine Eq.trans ?_ (fr j hj hx0); first | rfl | simp only [go_sem, hx0])), (by first | exact fx | omega | (simp only [go_sem, nxs] <;> omega))⟩
 ·rw [b0p hc3] at hm0
  refine b0b fun K hK => ?_
  simp only [go_sem]
  refine hK _ _ ?_
  clear hK K
  simp only [go_sem]
  refine b0i (fun hc4 => ?_) (fun hc4 => ?_)
  ·rw [b0q hc4] at hm0
   obtain ⟨x6, h_x6, hm0⟩ := b0h hm0
   have h_x60 := b06 h_x6
   have h_x61 := b07 h_x6
   refine b02 fun K hK => ?_
   simp only [go_sem, ob_p2, b08 h_x6, b7m (cs := [I p.State, I p.Values.1, I p.Values.2]) (off := 1) h_x2 rfl, ha_x2, hb_x2]
   refine hK _ _ ?_
   clear hK K
   simp only [b00]
   obtain rfl := sI9 hm0
   exact c5g (Post := fun v h => v = .tup [] /\ h.ob i_2 = some (3, [[I ((Place.mk p.State (b09 s.Counter 0 (mn (wr (x2 + 1)) x6.Max) p.Values.1, b09 s.Counter 1 (mn (wr (x2 + 1)) x6.Max) p.Values.2)).State), I (((Place.mk p.State (b09 s.Counter 0 (mn (wr (x2 + 1)) x6.Max) p.Values.1, b09 s.Counter 1 (mn (wr (x2 + 1)) x6.Max) p.Values.2)).Values).1), I (((Place.mk p.State (b09 s.Counter 0 (mn (wr (x2 + 1)) x6.Max) p.Values.1, b09 s.Counter 1 (mn (wr (x2 + 1)) x6.Max) p.Values.2)).Values).2)]]) /\ (∀ j, j < h0.nx -> ¬j = i_2 -> h.ob j = h0.ob j) /\ h0.nx <= h.nx) ⟨rfl, (by simp only [go_sem]), (by intro j hj hx0; first | exact fr j hj hx0 | (refine Eq.trans ?_ (fr j hj hx0); first | rfl | simp only [go_sem, hx0])), (by first | exact fx | omega | (simp only [go_sem, nxs] <;> omega))⟩
  ·rw [b0p hc4] at hm0
   refine b0b fun K hK => ?_
   simp only [go_sem]
   refine hK _ _ ?_
   clear hK K
   simp only [go_sem]
   refine b0i (fun hc7 => ?_) (fun hc7 => ?_)
   ·rw [b0q hc7] at hm0
    refine b02 fun K hK => ?_
    simp only [go_sem, ob_p2, b7m (cs := [I p.State, I p.Values.1, I p.Values.2]) (off := 1) h_x2 rfl, ha_x2, hb_x2]
    refine hK _ _ ?_
    clear hK K
    simp only [b00]
    obtain rfl := sI9 hm0
    exact c5g (Post := fun v h => v = .tup [] /\ h.ob i_2 = some (3, [[I ((Place.mk p.State (b09 s.Counter 0 (mx (wr (x2 - 1)) 0) p.Values.1, b09 s.Counter 1 (mx (wr (x2 - 1)) 0) p.Values.2)).State), I (((Place.mk p.State (b09 s.Counter 0 (mx (wr (x2 - 1)) 0) p.Values.1, b09 s.Counter 1 (mx (wr (x2 - 1)) 0) p.Values.2)).Values).1), I (((Place.mk p.State (b09 s.Counter 0 (mx (wr (x2 - 1)) 0) p.Values.1, b09 s.Counter 1 (mx (wr (x2 - 1)) 0) p.Values.2)).Values).2)]]) /\ (∀ j, j < h0.nx -> ¬j = i_2 -> h.ob j = h0.ob j) /\ h0.nx <= h.nx) ⟨rfl, (by simp only [go_sem]), (by intro j hj hx0; first | exact fr j hj hx0 | (refine Eq.trans ?_ (fr j hj hx0); first | rfl | simp only [go_sem, hx0])), (by first | exact fx | omega | (simp only [go_sem, nxs] <;> omega))⟩
   ·rw [b0p hc7] at hm0
    simp only [b0r, b00]
    obtain rfl := sI9 hm0
    exact c5g (Post := fun v h => v = .tup [] /\ h.ob i_2 = some (3, [[I ((Place.mk p.State (p.Values.1, p.Values.2)).State), I (((Place.mk p.State (p.Values.1, p.Values.2)).Values).1), I (((Place.mk p.State (p.Values.1, p.Values.2)).Values).2)]]) /\ (∀ j, j < h0.nx -> ¬j = i_2 -> h.ob j = h0.ob j) /\ h0.nx <= h.nx) ⟨rfl, ob_p2, fr, fx⟩
theorem c0o (hf : Has O "newel/control.Check" x_control_Check) (c88 : c6w O) : c2i O := by
 intro m r hm0
 unfold b8l at hm0
 refine b1l hf rfl (b0a (fM _) b0o) (b0d _) ?_
 refine b1d (fun t h => t 0 = .agg (vM m)) rfl fun t h s0 => ?_
 simp only [x_control_Check]
 refine b0b fun K hK => ?_
 simp only [go_sem, s0]
 refine hK _ _ ?_
 clear hK K
 obtain ⟨y2, h_y2, hm0⟩ := b0h hm0
 refine b0b fun K hK => ?_
 simp only [go_sem]
 refine b0z (c88 m _ h_y2) ?_
 simp only [go_sem]
 refine hK _ _ ?_
 clear hK K
 simp only [b0u, b0v]
 obtain rfl := sI9 hm0
 exact b01 (by simp only [go_sem]) (b0d _)
theorem c8u (hf : Has O "newel/control.Run" x_control_Run) (c0o : c2i O) (c0p : c2j O) (c0m : c2g O) (c0n : c2h O) : c6h O := by
 intro m inputs r hm0
 unfold b93 at hm0
 refine b1l hf rfl (b0a (fM _) (b0a (b0f fun a _ => c77 a) b0o)) (.tup _ (b0a (b0f fun a _ => b8u a) (b0a (b0d _) b0o))) ?_
 refine b1d (fun t h => t 0 = .agg (vM m) /\ t 1 = .fs 1 (List.map eI inputs)) ⟨rfl, rfl⟩ fun t h ⟨s0, s1⟩ => ?_
 simp only [x_control_Run]
 refine b0b fun K hK => ?_
 simp only [go_sem, s0]
 refine hK _ _ ?_
 clear hK K
 refine b0s ?_
 obtain ⟨y2, h_y2, hm0⟩ := b0h hm0
 refine b0b fun K hK => ?_
 simp only [go_sem]
 refine b0z (c0o m _ h_y2) ?_
 simp only [go_sem]
 refine hK _ _ ?_
 clear hK K
 refine b0s ?_
 refine b0b fun K hK => ?_
 simp only [go_sem]
 refine hK _ _ ?_
 clear hK K
 refine b0k fun K3 hK3 => ?_
 simp only [go_sem]
 refine b0i (fun hc4 => ?_) (fun hc4 => ?_)
 ·rw [b0q hc4] at hm0
  refine b0b fun K hK => ?_
  simp only [go_sem]
  refine hK _ _ ?_
  clear hK K
  simp only [b0u, b1i, b0v]
  obtain rfl := sI9 hm0
  exact b52 (v := .v (.slice none 0 0)) (u := I y2) (by simp only [go_sem]) (by simp only [go_sem]) (.nil _) (.refl _ (b0d _))
 ·rw [b0p hc4] at hm0
  simp only [b0r, b0e]
  refine hK3 _ _ ?_
  refine b0s ?_
  refine b0b fun K hK => ?_
  simp only [go_sem, s1]
  refine hK _ _ ?_
  clear hK K
  refine b0k fun K5 hK5 => ?_
  simp only [go_sem]
  refine b0i (fun hc6 => ?_) (fun hc6 => ?_)
  ·rw [b0q hc6] at hm0
   refine b0b fun K hK => ?_
   simp only [go_sem]
   refine hK _ _ ?_
   clear hK K
   simp only [b0u, b1i, b0v]
   obtain rfl := sI9 hm0
   exact b52 (v := .v (.slice none 0 0)) (u := I 2) (by simp only [go_sem]) (by simp only [go_sem]) (.nil _) (.refl _ (b0d _))
  ·rw [b0p hc6] at hm0
   simp only [b0r, b0e]
   refine hK5 _ _ ?_
   refine b0b fun K hK => ?_
   simp only [go_sem]
   refine b0z (c0p m) ?_
   simp only [go_sem]
   refine hK _ _ ?_
   clear hK K
   refine b0b fun K hK => ?_
   simp only [go_sem]
   refine hK _ _ ?_
   clear hK K
   refine b0b fun K hK => ?_
   simp only [go_sem]
   refine hK _ _ ?_
   clear hK K
   refine b0s ?_
   refine b0b fun K hK => ?_
   simp only [go_sem, s1]
   refine hK _ _ ?_
   clear hK K
   refine b0k fun K7 hK7 => ?_
   have J8 : ∀ (l_9 : List Place) (v9 : AV) (t : Slots) (h : Heap), t 9 = v9 -> b2v h v9 3 (List.map b2w l_9) -> c7q l_9 = some r -> K7 t h := by
    intro l_9 v9 t h s9 Qi hm0
    refine hK7 _ _ ?_
    unfold c7q at hm0
    refine b0b fun K hK => ?_
    simp only [go_sem, s9, b5k v9]
    refine hK _ _ ?_
    clear hK K
    simp only [b0u, b0v]
    obtain rfl := sI9 hm0
    exact b52 (v := v9) (u := I 0) (by simp only [go_sem]) (by simp only [go_sem]) (c0h (f := b2w) (l := l_9) (b44 Qi (by intro j hj hl; first | rfl | simp only [go_sem, hl]) (by first | omega | exact Nat.le_refl _ | (simp only [go_sem, nxs] <;> omega))) b8u d58) (.refl _ (b0d _))
   simp only [b0t]
   obtain ⟨b9, hl9, hm0⟩ := b0h hm0
   refine b1p hl9 (fun | (p_8_0, p_8_1, p_8_2, l_9, x_24), t, h => ∃ i7 : Nat, ∃ i8 : Nat, ∃ v9 : AV, t 7 = .rp i7 0 0 /\ t 8 = .rp i8 0 0 /\ t 9 = v9 /\ t 22 = .fs 1 (List.map eI inputs) /\ t 23 = I (List.length inputs : Int) /\ t 24 = I x_24 /\ h.ob i7 = some (5, [[.fs 1 (List.map eS ((((b2a m).Plant).Machine).Inputs)), .fs 1 (List.map eS ((((b2a m).Plant).Machine).Outputs)), .fs 2 (List.map b0l ((((b2a m).Plant).Machine).Counters)), .fs 2 (List.map b0m ((((b2a m).Plant).Machine).States)), .fs 4 (List.map b0j ((((b2a m).Plant).Machine).Rules))]]) /\ i7 < h.nx /\ h.ob i8 = some (3, [[I p_8_0, I p_8_1, I p_8_2]]) /\ i8 < h.nx /\ b2v h v9 3 (List.map b2w l_9) /\ ¬i7 = i8 /\ b1y v9 i7 /\ b1y v9 i8) ?_ ?_
   ·exact ⟨h.nx, (nxs h.nx), (.v (.slice none 0 0)), (by first | (simp only [go_sem]; done) | rfl), (by first | (simp only [go_sem]; done) | rfl), (by first | (simp only [go_sem]; done) | rfl), (by first | (simp only [go_sem]; done) | rfl), (by first | (simp only [go_sem]; done) | rfl), (by first | (simp only [go_sem]; done) | rfl), (by simp only [go_sem]), (by simp only [go_sem]), (by simp only [go_sem]), (by simp only [go_sem]), c01, (by first | first | assumption | omega | (simp only [nxs] <;> omega)), (by first | exact b2g | exact b2h (by first | assumption | omega | (simp only [nxs] <;> omega)) | assumption | exact b2e (by assumption) (by first | assumption | omega | (simp only [nxs] <;> omega))), (by first | exact b2g | exact b2h (by first | assumption | omega | (simp only [nxs] <;> omega)) | assumption | exact b2e (by assumption) (by first | assumption | omega | (simp only [nxs] <;> omega)))⟩
   ·rintro ⟨p_8_0, p_8_1, p_8_2, l_9, x_24⟩ o t h ⟨i7, i8, v9, s7, s8, s9, s22, s23, s24, Qf, Qg, Q2, Q4, Qi, Q1h, Q1i, Qj⟩ hm1 hb9
    simp only [b51] at hm1
    rw [d8o]
    refine b0b fun K hK => ?_
    simp only [go_sem, s23, s24]
    refine hK _ _ ?_
    clear hK K
    refine b0k fun K10 hK10 => ?_
    simp only [go_sem]
    refine b0i (fun hc11 => ?_) (fun hc11 => ?_)
    ·rw [b0q hc11] at hm1
     simp only [b0r, b0e]
     refine hK10 _ _ ?_
     refine b0k fun K12 hK12 => ?_
     simp only [b0t]
     obtain ⟨x14, h_x14, hm1⟩ := b0h hm1
     have h_x140 := b06 h_x14
     have h_x141 := b07 h_x14
     refine b0b fun K hK => ?_
     simp only [go_sem, s22, s24, b08 h_x14, h_x141]
     refine hK _ _ ?_
     clear hK K
     refine b0s ?_
     obtain ⟨y16, h_y16, hm1⟩ := b0h hm1
     refine b0b fun K hK => ?_
     simp only [go_sem, s7, Qf]
     refine b0z (c0m (situation_Plant.mk (((b2a m).Plant).Machine)) x14 _ h_y16) ?_
     simp only [go_sem]
     refine hK _ _ ?_
     clear hK K
     refine b0k fun K17 hK17 => ?_
     simp only [go_sem]
     refine b0i (fun hc18 => ?_) (fun hc18 => ?_)
     ·rw [b0q hc18] at hm1
      refine b0b fun K hK => ?_
      simp only [go_sem]
      refine hK _ _ ?_
      clear hK K
      simp only [b0u, b1i, b13, b0v]
      obtain rfl := sI9 hm1
      obtain rfl := hb9 _ rfl
      try dsimp only at hm0
      obtain rfl := sI9 hm0
      exact b52 (v := .v (.slice none 0 0)) (u := I 1) (by simp only [go_sem]) (by simp only [go_sem]) (.nil _) (.refl _ (b0d _))
     ·rw [b0p hc18] at hm1
      simp only [b0r, b0e]
      refine hK17 _ _ ?_
      obtain ⟨y20, h_y20, hm1⟩ := b0h hm1
      refine b0b fun K hK => ?_
      simp only [go_sem, s7, s8, Qf, Q2]
      refine b0z (c0n (situation_Plant.mk (((b2a m).Plant).Machine)) (Place.mk p_8_0 (p_8_1, p_8_2)) x14 _ h_y20) ?_
      simp only [go_sem, s8, Q2]
      refine hK _ _ ?_
      clear hK K
      obtain ⟨l22, h_l22, hm1⟩ := b0h hm1
      refine b02 fun K hK => ?_
      simp only [go_sem, s8, s9, b5k v9]
      refine b3j (f := b2w) (l := l_9) (m := ([(Place.mk y20.State (y20.Values.1, y20.Values.2))])) ?_ ?_ ?_ ?_ h_l22 ?_
      ·exact (b44 Qi (by intro j hj hl; first | rfl | simp only [go_sem, hl, c96 hj Qj]) (by first | omega | exact Nat.le_refl _ | (simp only [go_sem, nxs] <;> omega)))
      ·exact (b5p (by simp only [go_sem]) (by simp only [go_sem]))
      ·exact (b5o (by first | exact b2g | exact b2h (by first | omega | (simp only [nxs] <;> omega)) | assumption | exact b2e (by assumption) (by first | omega | (simp only [go_sem, nxs] <;> omega))))
      ·exact (fun _ => by simp)
      simp only [go_sem]
      refine hK _ _ ?_
      clear hK K
      simp only [b00, b0e]
      refine hK12 _ _ ?_
      refine b02 fun K hK => ?_
      simp only [go_sem, s24]
      refine hK _ _ ?_
      clear hK K
      simp only [b0e]
      obtain rfl := sI9 hm1
      refine ⟨_, rfl, ?_⟩
      exact ⟨i7, i8, (.rs (nxs h.nx) 0 (List.length l22)), s7, s8, (by first | (simp only [go_sem]; done) | rfl), s22, s23, (by first | (simp only [go_sem]; done) | rfl), (by simp only [go_sem, Qf, Qg, Q1h, Q1i]), (by simp only [go_sem, Qg]), (by simp only [go_sem, Q4, Qj]), (by simp only [go_sem, Q4]), (b3f (by simp only [go_sem, b7q Qi]) (by first | rfl | simp only [go_sem]) (by simp only [go_sem])), Q1h, (by first | exact b2g | exact b2h (by first | assumption | omega | (simp only [nxs] <;> omega)) | assumption | exact b2e (by assumption) (by first | assumption | omega | (simp only [nxs] <;> omega))), (by first | exact b2g | exact b2h (by first | assumption | omega | (simp only [nxs] <;> omega)) | assumption | exact b2e (by assumption) (by first | assumption | omega | (simp only [nxs] <;> omega)))⟩
    ·rw [b0p hc11] at hm1
     simp only [b1c, b1h, b1g, b0e]
     obtain rfl := sI9 hm1
     obtain rfl := hb9 _ rfl
     try dsimp only at hm0
     exact J8 l_9 v9 _ _ s9 Qi hm0
theorem c8v (hf : Has O "newel/control.Step" x_control_Step) (c0o : c2i O) (c0p : c2j O) (c8r : c6e O) (c0m : c2g O) (c0n : c2h O) : c6i O := by
 intro m p input r hm0
 unfold b94 at hm0
 refine b1l hf rfl (b0a (fM _) (b0a (.agg _ (b0a (b0d _) (b0a (b0d _) (b0a (b0d _) b0o)))) (b0a (b0d _) b0o))) (.tup _ (b0a (.agg _ (b0a (b0d _) (b0a (b0d _) (b0a (b0d _) b0o)))) (b0a (b0d _) b0o))) ?_
 refine b1d (fun t h => t 0 = .agg (vM m) /\ t 1 = .agg [I p.State, I p.Values.1, I p.Values.2] /\ t 2 = I input) ⟨rfl, rfl, rfl⟩ fun t h ⟨s0, s1, s2⟩ => ?_
 simp only [x_control_Step]
 refine b0b fun K hK => ?_
 simp only [go_sem, s0, s1]
 refine hK _ _ ?_
 clear hK K
 refine b0s ?_
 obtain ⟨y2, h_y2, hm0⟩ := b0h hm0
 refine b0b fun K hK => ?_
 simp only [go_sem]
 refine b0z (c0o m _ h_y2) ?_
 simp only [go_sem]
 refine hK _ _ ?_
 clear hK K
 refine b0s ?_
 refine b0b fun K hK => ?_
 simp only [go_sem]
 refine hK _ _ ?_
 clear hK K
 refine b0k fun K3 hK3 => ?_
 simp only [go_sem]
 refine b0i (fun hc4 => ?_) (fun hc4 => ?_)
 ·rw [b0q hc4] at hm0
  refine b0b fun K hK => ?_
  simp only [go_sem]
  refine hK _ _ ?_
  clear hK K
  simp only [b0u, b1i, b0v]
  obtain rfl := sI9 hm0
  exact b8o (id := h.nx) (m := 3) (cs := [I 0, I 0, I 0]) (u := I y2) (by simp only [go_sem]) (by simp only [go_sem]) rfl (by simp only [go_sem]) (.refl _ (.agg _ (b0a (b0d _) (b0a (b0d _) (b0a (b0d _) b0o))))) (.refl _ (b0d _))
 ·rw [b0p hc4] at hm0
  simp only [b0r, b0e]
  refine hK3 _ _ ?_
  refine b0b fun K hK => ?_
  simp only [go_sem]
  refine b0z (c0p m) ?_
  simp only [go_sem]
  refine hK _ _ ?_
  clear hK K
  refine b0s ?_
  obtain ⟨y8, h_y8, hm0⟩ := b0h hm0
  obtain ⟨c10, h_c10, hm0⟩ := b0h hm0
  refine b2q (fun t h => ∃ i6 : Nat, ∃ i9 : Nat, t 2 = I input /\ t 4 = .fp [I p.State, I p.Values.1, I p.Values.2] 0 /\ t 6 = .rp i6 0 0 /\ t 9 = .rp i9 0 0 /\ t 29 = B c10 /\ h.ob i6 = some (3, [[I 0, I 0, I 0]]) /\ i6 < h.nx /\ h.ob i9 = some (5, [[.fs 1 (List.map eS ((((b2a m).Plant).Machine).Inputs)), .fs 1 (List.map eS ((((b2a m).Plant).Machine).Outputs)), .fs 2 (List.map b0l ((((b2a m).Plant).Machine).Counters)), .fs 2 (List.map b0m ((((b2a m).Plant).Machine).States)), .fs 4 (List.map b0j ((((b2a m).Plant).Machine).Rules))]]) /\ i9 < h.nx /\ ¬i6 = i9) (fun K hK => ?_) ?_
  ·simp only [go_sem]
   refine b0z (c8r (situation_Plant.mk (((b2a m).Plant).Machine)) p _ h_y8) ?_
   simp only [go_sem]
   refine b0i (fun hg11 => ?_) (fun hg11 => ?_)
   ·simp only [hg11, eq_self, if_true] at h_c10
    obtain rfl := sI9 h_c10
    simp only [go_sem, hg11]
    exact hK _ _ ⟨h.nx, (nxs h.nx), s2, (by first | (simp only [go_sem]; done) | rfl), (by first | (simp only [go_sem]; done) | rfl), (by first | (simp only [go_sem]; done) | rfl), (by first | (simp only [go_sem]; done) | rfl), (by simp only [go_sem]), (by simp only [go_sem]), (by simp only [go_sem]), (by simp only [go_sem]), (by first | first | assumption | omega | (simp only [nxs] <;> omega))⟩
   ·simp only [hg11, if_false, fT9] at h_c10
    obtain ⟨y9, h_y9, h_c10⟩ := b0h h_c10
    obtain rfl := sI9 h_c10
    simp only [go_sem, s2, hg11]
    refine b0z (c0m (situation_Plant.mk (((b2a m).Plant).Machine)) input _ h_y9) ?_
    simp only [go_sem, hg11]
    exact hK _ _ ⟨h.nx, (nxs h.nx), s2, (by first | (simp only [go_sem]; done) | rfl), (by first | (simp only [go_sem]; done) | rfl), (by first | (simp only [go_sem]; done) | rfl), (by first | (simp only [go_sem]; done) | rfl), (by simp only [go_sem]), (by simp only [go_sem]), (by simp only [go_sem]), (by simp only [go_sem]), (by first | first | assumption | omega | (simp only [nxs] <;> omega))⟩
  ·rintro t h ⟨i6, i9, s2, s4, s6, s9, s29, Q1, Q0, Q6, Q9, Qc⟩
   refine b0k fun K12 hK12 => ?_
   simp only [go_sem, s29]
   refine b0i (fun hc13 => ?_) (fun hc13 => ?_)
   ·rw [b0q hc13] at hm0
    refine b0b fun K hK => ?_
    simp only [go_sem, s6, Q1]
    refine hK _ _ ?_
    clear hK K
    simp only [b0u, b1i, b0v]
    obtain rfl := sI9 hm0
    exact b8o (id := i6) (m := 3) (cs := [I 0, I 0, I 0]) (u := I 1) (by simp only [go_sem, s6]) (by simp only [go_sem]) rfl (by simp only [go_sem]) (.refl _ (.agg _ (b0a (b0d _) (b0a (b0d _) (b0a (b0d _) b0o))))) (.refl _ (b0d _))
   ·rw [b0p hc13] at hm0
    simp only [b0r, b0e]
    refine hK12 _ _ ?_
    obtain ⟨y15, h_y15, hm0⟩ := b0h hm0
    refine b0b fun K hK => ?_
    simp only [go_sem, s2, s4, s9, Q6]
    refine b0z (c0n (situation_Plant.mk (((b2a m).Plant).Machine)) p input _ h_y15) ?_
    simp only [go_sem, s6, Q1]
    refine hK _ _ ?_
    clear hK K
    simp only [b0u, b0v]
    obtain rfl := sI9 hm0
    exact b8o (id := i6) (m := 3) (cs := [I y15.State, I y15.Values.1, I y15.Values.2]) (u := I 0) (by simp only [go_sem, s6]) (by simp only [go_sem]) rfl (by simp only [go_sem]) (.refl _ (.agg _ (b0a (b0d _) (b0a (b0d _) (b0a (b0d _) b0o))))) (.refl _ (b0d _))
theorem c0p (hf : Has O "newel/control.of" x_control_of) : c2j O := by
 intro m
 generalize hm0 : b2a m = r
 unfold b2a at hm0
 refine b1l hf rfl (b0a (fM _) b0o) (fM _) ?_
 refine b1d (fun t h => t 0 = .agg (vM m)) rfl fun t h s0 => ?_
 simp only [x_control_of]
 refine b0b fun K hK => ?_
 simp only [go_sem, s0]
 refine hK _ _ ?_
 clear hK K
 refine b0b fun K hK => ?_
 simp only [go_sem]
 refine hK _ _ ?_
 clear hK K
 simp only [b0u, b0v]
 obtain rfl := hm0
 exact b96 (id := h.nx) (m := 5) (cs := (vM m)) (by simp only [go_sem]) (by simp only [go_sem]) rfl (.refl _ (fM _))
theorem j0h (hf : Has O "newel/newellaw04.ControlSteps" x_l04_ControlSteps) (c8x : c6k O) (c8v : c6i O) (c81 : c6p O) (c8u : c6h O) (c80 : c6o O) (c8w : c6j O) (k_l04_works : d08 O) : d07 O := by
 intro m p inputs r hm0
 unfold c0u at hm0
 refine b1l hf rfl (b0a (fM _) (b0a (.agg _ (b0a (b0d _) (b0a (b0d _) (b0a (b0d _) b0o)))) (b0a (b0f fun a _ => c77 a) b0o))) (b0d _) ?_
 refine b1d (fun t h => t 0 = .agg (vM m) /\ t 1 = .agg [I p.State, I p.Values.1, I p.Values.2] /\ t 2 = .fs 1 (List.map eI inputs)) ⟨rfl, rfl, rfl⟩ fun t h ⟨s0, s1, s2⟩ => ?_
 simp only [x_l04_ControlSteps]
 refine b0b fun K hK => ?_
 simp only [go_sem, s0, s1]
 refine hK _ _ ?_
 clear hK K
 obtain ⟨y2, h_y2, hm0⟩ := b0h hm0
 refine b0b fun K hK => ?_
 simp only [go_sem]
 refine b0z (c8x m _ h_y2) ?_
 simp only [go_sem]
 refine hK _ _ ?_
 clear hK K
 refine b0b fun K hK => ?_
 simp only [go_sem]
 refine hK _ _ ?_
 clear hK K
 refine b0s ?_
 refine b0b fun K hK => ?_
 simp only [go_sem, s2]
 refine hK _ _ ?_
 clear hK K
 refine b0k fun K3 hK3 => ?_
 have J4 : ∀ (input_8 : Int) (i7 : Nat) (t : Slots) (h : Heap), t 2 = .fs 1 (List.map eI inputs) -> t 3 = .fp (vM m) 0 -> t 4 = .fp [I p.State, I p.Values.1, I p.Values.2] 0 -> t 7 = .rp i7 0 0 -> t 8 = I input_8 -> h.ob i7 = some (5, [(vM y2)]) -> i7 < h.nx -> b81 m p inputs y2 input_8 = some r -> K3 t h := by
  intro input_8 i7 t h s2 s3 s4 s7 s8 Qf Qg hm0
  refine hK3 _ _ ?_
  unfold b81 at hm0
  obtain ⟨y6, h_y6, hm0⟩ := b0h hm0
  refine b0b fun K hK => ?_
  simp only [go_sem, s4, s7, s8, Qf]
  refine b0z (c8v y2 p input_8 _ h_y6) ?_
  simp only [go_sem]
  refine hK _ _ ?_
  clear hK K
  obtain ⟨y8, h_y8, hm0⟩ := b0h hm0
  refine b0b fun K hK => ?_
  simp only [go_sem, s3, s4, s8]
  refine b0z (c81 m p input_8 _ h_y8) ?_
  simp only [go_sem]
  refine hK _ _ ?_
  clear hK K
  refine b0s ?_
  have hep2 : ∀ k : AV -> Prop, @b1w .neq (.flat [.i, .i, .i]) (.agg [I y6.1.State, I y6.1.Values.1, I y6.1.Values.2]) (.agg [I y8.1.State, I y8.1.Values.1, I y8.1.Values.2]) ⟨k⟩ = k (B (!(decide ((Place.mk y6.1.State (y6.1.Values.1, y6.1.Values.2)) = (Place.mk y8.1.State (y8.1.Values.1, y8.1.Values.2)))))) := fun k => d5i (Place.mk y6.1.State (y6.1.Values.1, y6.1.Values.2)) (Place.mk y8.1.State (y8.1.Values.1, y8.1.Values.2))
  refine b2q (fun t h => t 2 = .fs 1 (List.map eI inputs) /\ t 3 = .fp (vM m) 0 /\ t 7 = .rp i7 0 0 /\ t 44 = B ((!(decide ((Place.mk y6.1.State (y6.1.Values.1, y6.1.Values.2)) = (Place.mk y8.1.State (y8.1.Values.1, y8.1.Values.2))))) || (decide (¬y6.2 = y8.2))) /\ h.ob i7 = some (5, [(vM y2)]) /\ i7 < h.nx) (fun K hK => ?_) ?_
  ·have hep3 : ∀ k : AV -> Prop, @b1w .neq (.flat [.i, .i, .i]) (.agg [I y6.1.State, I y6.1.Values.1, I y6.1.Values.2]) (.agg [I y8.1.State, I y8.1.Values.1, I y8.1.Values.2]) ⟨k⟩ = k (B (!(decide ((Place.mk y6.1.State (y6.1.Values.1, y6.1.Values.2)) = (Place.mk y8.1.State (y8.1.Values.1, y8.1.Values.2)))))) := fun k => d5i (Place.mk y6.1.State (y6.1.Values.1, y6.1.Values.2)) (Place.mk y8.1.State (y8.1.Values.1, y8.1.Values.2))
   simp only [go_sem, hep2]
   refine b0i (fun hg9 => ?_) (fun hg9 => ?_)
   ·simp only [go_sem, hg9]
    exact hK _ _ ⟨s2, s3, s7, (by first | (simp only [go_sem, hg9]; done) | rfl), (by simp only [go_sem, Qf, Qg]), (by simp only [go_sem, Qg])⟩
   ·simp only [go_sem, hg9]
    exact hK _ _ ⟨s2, s3, s7, (by first | (simp only [go_sem, hg9]; done) | rfl), (by simp only [go_sem, Qf, Qg]), (by simp only [go_sem, Qg])⟩
  ·rintro t h ⟨s2, s3, s7, s44, Qf, Qg⟩
   refine b0k fun K10 hK10 => ?_
   simp only [go_sem, s44]
   refine b0i (fun hc11 => ?_) (fun hc11 => ?_)
   ·rw [b0q hc11] at hm0
    refine b0b fun K hK => ?_
    simp only [go_sem]
    refine hK _ _ ?_
    clear hK K
    simp only [b0u, b1i, b0v]
    obtain rfl := sI9 hm0
    exact b01 (by simp only [go_sem]) (b0d _)
   ·rw [b0p hc11] at hm0
    simp only [b0r, b0e]
    refine hK10 _ _ ?_
    obtain ⟨y13, h_y13, hm0⟩ := b0h hm0
    refine b0b fun K hK => ?_
    simp only [go_sem, s2, s7, Qf]
    refine b0z (c8u y2 inputs _ h_y13) ?_
    simp only [go_sem]
    refine hK _ _ ?_
    clear hK K
    obtain ⟨y15, h_y15, hm0⟩ := b0h hm0
    refine b0b fun K hK => ?_
    simp only [go_sem, s2, s3]
    refine b0z (c80 m inputs _ h_y15) ?_
    simp only [go_sem]
    refine hK _ _ ?_
    clear hK K
    obtain ⟨y19, h_y19, hm0⟩ := b0h hm0
    obtain ⟨c21, h_c21, hm0⟩ := b0h hm0
    refine b2q (fun t h => t 6 = B c21) (fun K hK => ?_) ?_
    ·simp only [go_sem]
     refine b0z (c8w y13.1 y15.1 _ h_y19) ?_
     simp only [go_sem]
     refine b0i (fun hg22 => ?_) (fun hg22 => ?_)
     ·simp only [go_sem, hg22]
      refine b0i (fun hg23 => ?_) (fun hg23 => ?_)
      ·simp only [hg22, hg23, eq_self, if_true, Bool.and_true] at h_c21
       obtain ⟨y20, h_y20, h_c21⟩ := b0h h_c21
       obtain rfl := sI9 h_c21
       simp only [go_sem, hg22, hg23]
       refine b0z (k_l04_works  _ h_y20) ?_
       simp only [go_sem, hg22, hg23]
       exact hK _ _ (by first | (simp only [go_sem]; done) | rfl)
      ·simp only [hg22, hg23, if_false, Bool.and_false, fT9] at h_c21
       obtain rfl := sI9 h_c21
       simp only [go_sem, hg22, hg23]
       exact hK _ _ (by first | (simp only [go_sem]; done) | rfl)
     ·simp only [hg22, if_false, Bool.false_and, fT9] at h_c21
      obtain rfl := sI9 h_c21
      simp only [go_sem, hg22]
      exact hK _ _ (by first | (simp only [go_sem]; done) | rfl)
    ·rintro t h s6
     simp only [b0u, b0v]
     obtain rfl := sI9 hm0
     exact b01 (by simp only [go_sem, s6]) (b0d _)
 simp only [go_sem]
 refine b0i (fun hc24 => ?_) (fun hc24 => ?_)
 ·rw [b0q hc24] at hm0
  obtain ⟨x26, h_x26, hm0⟩ := b0h hm0
  have h_x260 := b06 h_x26
  have h_x261 := b07 h_x26
  refine b02 fun K hK => ?_
  simp only [go_sem, s2, b08 h_x26, h_x261]
  refine hK _ _ ?_
  clear hK K
  simp only [b0e]
  exact J4 x26 h.nx _ _ s2 (by first | (simp only [go_sem]; done) | rfl) (by first | (simp only [go_sem]; done) | rfl) (by first | (simp only [go_sem]; done) | rfl) (by first | (simp only [go_sem]; done) | rfl) (by simp only [go_sem]) (by simp only [go_sem]) hm0
 ·rw [b0p hc24] at hm0
  simp only [b0r, b0e]
  exact J4 0 h.nx _ _ s2 (by first | (simp only [go_sem]; done) | rfl) (by first | (simp only [go_sem]; done) | rfl) (by first | (simp only [go_sem]; done) | rfl) (by first | (simp only [go_sem]; done) | rfl) (by simp only [go_sem]) (by simp only [go_sem]) hm0
theorem c8w (hf : Has O "newel/newellaw04.samePlaces" x_l04_samePlaces) : c6j O := by
 intro a b r hm0
 unfold c0v at hm0
 refine b1l hf rfl (b0a (b0f fun a _ => b8u a) (b0a (b0f fun a _ => b8u a) b0o)) (b0d _) ?_
 refine b1d (fun t h => t 0 = .fs 3 (List.map b2w a) /\ t 1 = .fs 3 (List.map b2w b)) ⟨rfl, rfl⟩ fun t h ⟨s0, s1⟩ => ?_
 simp only [x_l04_samePlaces]
 refine b0b fun K hK => ?_
 simp only [go_sem]
 refine hK _ _ ?_
 clear hK K
 refine b0s ?_
 refine b0b fun K hK => ?_
 simp only [go_sem, s0, s1]
 refine hK _ _ ?_
 clear hK K
 refine b0k fun K1 hK1 => ?_
 simp only [go_sem]
 refine b0i (fun hc2 => ?_) (fun hc2 => ?_)
 ·rw [b0q hc2] at hm0
  refine b0b fun K hK => ?_
  simp only [go_sem]
  refine hK _ _ ?_
  clear hK K
  simp only [b0u, b1i, b0v]
  obtain rfl := sI9 hm0
  exact b01 (by simp only [go_sem]) (b0d _)
 ·rw [b0p hc2] at hm0
  simp only [b0r, b0e]
  refine hK1 _ _ ?_
  refine b0s ?_
  refine b0b fun K hK => ?_
  simp only [go_sem]
  refine hK _ _ ?_
  clear hK K
  refine b0k fun K3 hK3 => ?_
  have J4 : ∀ (t : Slots) (h : Heap), c4d = some r -> K3 t h := by
   intro t h hm0
   refine hK3 _ _ ?_
   unfold c4d at hm0
   refine b0b fun K hK => ?_
   simp only [go_sem]
   refine hK _ _ ?_
   clear hK K
   simp only [b0u, b0v]
   obtain rfl := sI9 hm0
   exact b01 (by simp only [go_sem]) (b0d _)
  simp only [b0t]
  obtain ⟨b5, hl5, hm0⟩ := b0h hm0
  refine b1p hl5 (fun | i_5, t, h => t 0 = .fs 3 (List.map b2w a) /\ t 1 = .fs 3 (List.map b2w b) /\ t 5 = I i_5) ?_ ?_
  ·exact ⟨s0, s1, (by first | (simp only [go_sem]; done) | rfl)⟩
  ·rintro i_5 o t h ⟨s0, s1, s5⟩ hm1 hb5
   simp only [c0w] at hm1
   rw [d8p]
   refine b0s ?_
   refine b0b fun K hK => ?_
   simp only [go_sem, s0, s5]
   refine hK _ _ ?_
   clear hK K
   refine b0k fun K6 hK6 => ?_
   simp only [go_sem]
   refine b0i (fun hc7 => ?_) (fun hc7 => ?_)
   ·rw [b0q hc7] at hm1
    simp only [b0r, b0e]
    refine hK6 _ _ ?_
    refine b0k fun K8 hK8 => ?_
    simp only [b0t]
    obtain ⟨x11, h_x11, hm1⟩ := b0h hm1
    have h_x110 := b06 h_x11
    have h_x111 := b07 h_x11
    obtain ⟨x12, h_x12, hm1⟩ := b0h hm1
    have h_x120 := b06 h_x12
    have h_x121 := b07 h_x12
    refine b0b fun K hK => ?_
    simp only [go_sem, s0, s1, s5, b08 h_x11, h_x111, b08 h_x12]
    refine hK _ _ ?_
    clear hK K
    simp only [go_sem]
    refine b0i (fun hc13 => ?_) (fun hc13 => ?_)
    ·rw [b0q hc13] at hm1
     refine b0b fun K hK => ?_
     simp only [go_sem]
     refine hK _ _ ?_
     clear hK K
     simp only [b0u, b1i, b13, b0v]
     obtain rfl := sI9 hm1
     obtain rfl := hb5 _ rfl
     try dsimp only at hm0
     obtain rfl := sI9 hm0
     exact b01 (by simp only [go_sem]) (b0d _)
    ·rw [b0p hc13] at hm1
     simp only [b0r, b00, b0e]
     refine hK8 _ _ ?_
     refine b02 fun K hK => ?_
     simp only [go_sem, s5]
     refine hK _ _ ?_
     clear hK K
     simp only [b0e]
     obtain rfl := sI9 hm1
     refine ⟨_, rfl, ?_⟩
     exact ⟨s0, s1, (by first | (simp only [go_sem]; done) | rfl)⟩
   ·rw [b0p hc7] at hm1
    simp only [b1c, b1h, b1g, b0e]
    obtain rfl := sI9 hm1
    obtain rfl := hb5 _ rfl
    try dsimp only at hm0
    exact J4  _ _  hm0
theorem c0q (hf : Has O "newel/newelref04.Check" x_r04_Check) (b2t : b65 O) (c85 : c6t O) (c82 : c6q O) (c83 : c6r O) : c2k O := by
 intro m r hm0
 unfold b87 at hm0
 refine b1l hf rfl (b0a (fM _) b0o) (b0d _) ?_
 refine b1d (fun t h => t 0 = .agg (vM m)) rfl fun t h s0 => ?_
 simp only [x_r04_Check]
 refine b0b fun K hK => ?_
 simp only [go_sem, s0]
 refine hK _ _ ?_
 clear hK K
 refine b0s ?_
 refine b2q (fun t h => t 1 = .fp (vM m) 0 /\ t 39 = B (((((decide (4 < (List.length m.Inputs : Int))) || (decide (6 < (List.length m.Outputs : Int)))) || (decide (2 < (List.length m.Counters : Int)))) || (!(b1k (List.length m.States : Int) 1 12))) || (decide (40 < (List.length m.Rules : Int))))) (fun K hK => ?_) ?_
 ·simp only [go_sem]
  refine b0i (fun hg1 => ?_) (fun hg1 => ?_)
  ·simp only [go_sem, hg1]
   exact hK _ _ ⟨(by first | (simp only [go_sem]; done) | rfl), (by first | (simp only [go_sem, hg1]; done) | rfl)⟩
  ·simp only [go_sem, hg1]
   refine b0i (fun hg2 => ?_) (fun hg2 => ?_)
   ·simp only [go_sem, hg1, hg2]
    exact hK _ _ ⟨(by first | (simp only [go_sem]; done) | rfl), (by first | (simp only [go_sem, hg1, hg2]; done) | rfl)⟩
   ·simp only [go_sem, hg1, hg2]
    refine b0i (fun hg3 => ?_) (fun hg3 => ?_)
    ·simp only [go_sem, hg1, hg2, hg3]
     exact hK _ _ ⟨(by first | (simp only [go_sem]; done) | rfl), (by first | (simp only [go_sem, hg1, hg2, hg3]; done) | rfl)⟩
    ·simp only [go_sem, hg1, hg2, hg3]
     refine b0z (b2t (List.length m.States : Int) 1 12) ?_
     simp only [go_sem, hg1, hg2, hg3]
     refine b0i (fun hg4 => ?_) (fun hg4 => ?_)
     ·simp only [go_sem, hg1, hg2, hg3, hg4]
      exact hK _ _ ⟨(by first | (simp only [go_sem]; done) | rfl), (by first | (simp only [go_sem, hg1, hg2, hg3, hg4]; done) | rfl)⟩
     ·simp only [go_sem, hg1, hg2, hg3, hg4]
      exact hK _ _ ⟨(by first | (simp only [go_sem]; done) | rfl), (by first | (simp only [go_sem, hg1, hg2, hg3, hg4]; done) | rfl)⟩
 ·rintro t h ⟨s1, s39⟩
  refine b0k fun K5 hK5 => ?_
  simp only [go_sem, s39]
  refine b0i (fun hc6 => ?_) (fun hc6 => ?_)
  ·rw [b0q hc6] at hm0
   refine b0b fun K hK => ?_
   simp only [go_sem]
   refine hK _ _ ?_
   clear hK K
   simp only [b0u, b1i, b0v]
   obtain rfl := sI9 hm0
   exact b01 (by simp only [go_sem]) (b0d _)
  ·rw [b0p hc6] at hm0
   simp only [b0r, b0e]
   refine hK5 _ _ ?_
   obtain ⟨y8, h_y8, hm0⟩ := b0h hm0
   refine b0b fun K hK => ?_
   simp only [go_sem, s1]
   refine b0z (c85 m _ h_y8) ?_
   simp only [go_sem]
   refine hK _ _ ?_
   clear hK K
   refine b0s ?_
   refine b0b fun K hK => ?_
   simp only [go_sem]
   refine hK _ _ ?_
   clear hK K
   refine b0k fun K9 hK9 => ?_
   have J10 : ∀ (t : Slots) (h : Heap), t 1 = .fp (vM m) 0 -> c4q m = some r -> K9 t h := by
    intro t h s1 hm0
    refine hK9 _ _ ?_
    unfold c4q at hm0
    refine b0s ?_
    refine b0b fun K hK => ?_
    simp only [go_sem]
    refine hK _ _ ?_
    clear hK K
    refine b0k fun K11 hK11 => ?_
    have J12 : ∀ (t : Slots) (h : Heap), t 1 = .fp (vM m) 0 -> c4r m = some r -> K11 t h := by
     intro t h s1 hm0
     refine hK11 _ _ ?_
     unfold c4r at hm0
     refine b0s ?_
     refine b0b fun K hK => ?_
     simp only [go_sem]
     refine hK _ _ ?_
     clear hK K
     refine b0k fun K13 hK13 => ?_
     have J14 : ∀ (t : Slots) (h : Heap), t 1 = .fp (vM m) 0 -> c4s m = some r -> K13 t h := by
      intro t h s1 hm0
      refine hK13 _ _ ?_
      unfold c4s at hm0
      refine b0s ?_
      refine b0b fun K hK => ?_
      simp only [go_sem]
      refine hK _ _ ?_
      clear hK K
      refine b0k fun K15 hK15 => ?_
      have J16 : ∀ (t : Slots) (h : Heap), d0b = some r -> K15 t h := by
       intro t h hm0
       refine hK15 _ _ ?_
       unfold d0b at hm0
       refine b0b fun K hK => ?_
       simp only [go_sem]
       refine hK _ _ ?_
       clear hK K
       simp only [b0u, b0v]
       obtain rfl := sI9 hm0
       exact b01 (by simp only [go_sem]) (b0d _)
      simp only [b0t]
      obtain ⟨b17, hl17, hm0⟩ := b0h hm0
      refine b1p hl17 (fun | i_8, t, h => t 1 = .fp (vM m) 0 /\ t 8 = I i_8) ?_ ?_
      ·exact ⟨s1, (by first | (simp only [go_sem]; done) | rfl)⟩
      ·rintro i_8 o t h ⟨s1, s8⟩ hm1 hb17
       simp only [b7t] at hm1
       rw [d8v]
       refine b0s ?_
       refine b0b fun K hK => ?_
       simp only [go_sem, s1, s8]
       refine hK _ _ ?_
       clear hK K
       refine b0k fun K18 hK18 => ?_
       simp only [go_sem]
       refine b0i (fun hc19 => ?_) (fun hc19 => ?_)
       ·rw [b0q hc19] at hm1
        simp only [b0r, b0e]
        refine hK18 _ _ ?_
        refine b0k fun K20 hK20 => ?_
        have J21 : ∀ (t : Slots) (h : Heap), t 1 = .fp (vM m) 0 -> t 8 = I i_8 -> c4t i_8 = some o -> K20 t h := by
         intro t h s1 s8 hm1
         refine hK20 _ _ ?_
         unfold c4t at hm1
         refine b02 fun K hK => ?_
         simp only [go_sem, s8]
         refine hK _ _ ?_
         clear hK K
         simp only [b0e]
         obtain rfl := sI9 hm1
         refine ⟨_, rfl, ?_⟩
         exact ⟨s1, (by first | (simp only [go_sem]; done) | rfl)⟩
        simp only [b0t]
        obtain ⟨x23, h_x23, hm1⟩ := b0h hm1
        have h_x230 := b06 h_x23
        have h_x231 := b07 h_x23
        refine b0b fun K hK => ?_
        simp only [go_sem, s1, s8, b08 h_x23, h_x231]
        refine hK _ _ ?_
        clear hK K
        refine b0s ?_
        obtain ⟨c27, h_c27, hm1⟩ := b0h hm1
        refine b2q (fun t h => ∃ i9 : Nat, t 1 = .fp (vM m) 0 /\ t 8 = I i_8 /\ t 9 = .rp i9 0 0 /\ t 154 = B (c27 || (decide (4 < (List.length x23.Sets : Int)))) /\ h.ob i9 = some (4, [[I x23.From, I x23.To, .fs 1 (List.map b03 x23.When), .fs 2 (List.map b2c x23.Sets)]]) /\ i9 < h.nx) (fun K hK => ?_) ?_
        ·simp only [go_sem, s1]
         refine b0z (b2t x23.From (-1) (wr ((List.length m.States : Int) - 1))) ?_
         simp only [go_sem]
         refine b0i (fun hg28 => ?_) (fun hg28 => ?_)
         ·simp only [hg28, eq_self, if_true, Bool.true_or] at h_c27
          obtain rfl := sI9 h_c27
          simp only [go_sem, hg28]
          exact hK _ _ ⟨h.nx, s1, s8, (by first | (simp only [go_sem]; done) | rfl), (by first | (simp only [go_sem]; done) | rfl), (by simp only [go_sem]), (by simp only [go_sem])⟩
         ·simp only [go_sem, s1, hg28]
          refine b0z (b2t x23.To 0 (wr ((List.length m.States : Int) - 1))) ?_
          simp only [go_sem, hg28]
          refine b0i (fun hg29 => ?_) (fun hg29 => ?_)
          ·simp only [hg28, hg29, eq_self, if_true, Bool.or_true] at h_c27
           obtain rfl := sI9 h_c27
           simp only [go_sem, hg28, hg29]
           exact hK _ _ ⟨h.nx, s1, s8, (by first | (simp only [go_sem]; done) | rfl), (by first | (simp only [go_sem]; done) | rfl), (by simp only [go_sem]), (by simp only [go_sem])⟩
          ·simp only [hg28, hg29, if_false, Bool.or_false, fT9] at h_c27
           obtain ⟨y26, h_y26, h_c27⟩ := b0h h_c27
           obtain rfl := sI9 h_c27
           simp only [go_sem, s1, hg28, hg29]
           refine b0z (c83 m x23.When false _ h_y26) ?_
           simp only [go_sem, hg28, hg29]
           refine b0i (fun hg30 => ?_) (fun hg30 => ?_)
           ·simp only [go_sem, hg28, hg29, hg30]
            exact hK _ _ ⟨h.nx, s1, s8, (by first | (simp only [go_sem]; done) | rfl), (by first | (simp only [go_sem, hg30]; done) | rfl), (by simp only [go_sem]), (by simp only [go_sem])⟩
           ·simp only [go_sem, hg28, hg29, hg30]
            exact hK _ _ ⟨h.nx, s1, s8, (by first | (simp only [go_sem]; done) | rfl), (by first | (simp only [go_sem, hg30]; done) | rfl), (by simp only [go_sem]), (by simp only [go_sem])⟩
        ·rintro t h ⟨i9, s1, s8, s9, s154, Q6, Q9⟩
         refine b0k fun K31 hK31 => ?_
         simp only [go_sem, s154]
         refine b0i (fun hc32 => ?_) (fun hc32 => ?_)
         ·rw [b0q hc32] at hm1
          refine b0b fun K hK => ?_
          simp only [go_sem]
          refine hK _ _ ?_
          clear hK K
          simp only [b0u, b1i, b13, b0v]
          obtain rfl := sI9 hm1
          obtain rfl := hb17 _ rfl
          try dsimp only at hm0
          obtain rfl := sI9 hm0
          exact b01 (by simp only [go_sem]) (b0d _)
         ·rw [b0p hc32] at hm1
          simp only [b0r, b0e]
          refine hK31 _ _ ?_
          refine b0b fun K hK => ?_
          simp only [go_sem]
          refine hK _ _ ?_
          clear hK K
          simp only [b0t]
          obtain ⟨b33, hl33, hm1⟩ := b0h hm1
          refine b1p hl33 (fun | k_10, t, h => t 1 = .fp (vM m) 0 /\ t 8 = I i_8 /\ t 9 = .rp i9 0 0 /\ t 10 = I k_10 /\ h.ob i9 = some (4, [[I x23.From, I x23.To, .fs 1 (List.map b03 x23.When), .fs 2 (List.map b2c x23.Sets)]]) /\ i9 < h.nx) ?_ ?_
          ·exact ⟨s1, s8, s9, (by first | (simp only [go_sem]; done) | rfl), Q6, Q9⟩
          ·rintro k_10 o t h ⟨s1, s8, s9, s10, Q6, Q9⟩ hm2 hb33
           simp only [c06] at hm2
           rw [d8u]
           refine b0s ?_
           refine b0b fun K hK => ?_
           simp only [go_sem, s9, s10, Q6]
           refine hK _ _ ?_
           clear hK K
           refine b0k fun K34 hK34 => ?_
           simp only [go_sem]
           refine b0i (fun hc35 => ?_) (fun hc35 => ?_)
           ·rw [b0q hc35] at hm2
            simp only [b0r, b0e]
            refine hK34 _ _ ?_
            refine b0k fun K36 hK36 => ?_
            simp only [b0t]
            obtain ⟨x38, h_x38, hm2⟩ := b0h hm2
            have h_x380 := b06 h_x38
            have h_x381 := b07 h_x38
            refine b2q (fun t h => t 1 = .fp (vM m) 0 /\ t 8 = I i_8 /\ t 9 = .rp i9 0 0 /\ t 10 = I k_10 /\ t 183 = B ((!(b1k x38.Kind 1 3)) || (!(b1k x38.Counter 0 (wr ((List.length m.Counters : Int) - 1))))) /\ h.ob i9 = some (4, [[I x23.From, I x23.To, .fs 1 (List.map b03 x23.When), .fs 2 (List.map b2c x23.Sets)]]) /\ i9 < h.nx) (fun K hK => ?_) ?_
            ·simp only [go_sem, s9, s10, Q6, b08 h_x38, h_x381]
             refine b0z (b2t x38.Kind 1 3) ?_
             simp only [go_sem]
             refine b0i (fun hg39 => ?_) (fun hg39 => ?_)
             ·simp only [go_sem, hg39]
              exact hK _ _ ⟨s1, s8, s9, s10, (by first | (simp only [go_sem, hg39]; done) | rfl), Q6, Q9⟩
             ·simp only [go_sem, s1, s9, s10, Q6, b08 h_x38, hg39]
              refine b0z (b2t x38.Counter 0 (wr ((List.length m.Counters : Int) - 1))) ?_
              simp only [go_sem, hg39]
              exact hK _ _ ⟨s1, s8, s9, s10, (by first | (simp only [go_sem, hg39]; done) | rfl), Q6, Q9⟩
            ·rintro t h ⟨s1, s8, s9, s10, s183, Q6, Q9⟩
             simp only [go_sem, s183]
             refine b0i (fun hc40 => ?_) (fun hc40 => ?_)
             ·rw [b0q hc40] at hm2
              refine b0b fun K hK => ?_
              simp only [go_sem]
              refine hK _ _ ?_
              clear hK K
              simp only [b0u, b1i, b13, b0v]
              obtain rfl := sI9 hm2
              obtain rfl := hb33 _ rfl
              try dsimp only at hm1
              obtain rfl := sI9 hm1
              obtain rfl := hb17 _ rfl
              try dsimp only at hm0
              obtain rfl := sI9 hm0
              exact b01 (by simp only [go_sem]) (b0d _)
             ·rw [b0p hc40] at hm2
              simp only [b0r, b00, b0e]
              refine hK36 _ _ ?_
              refine b02 fun K hK => ?_
              simp only [go_sem, s10]
              refine hK _ _ ?_
              clear hK K
              simp only [b0e]
              obtain rfl := sI9 hm2
              refine ⟨_, rfl, ?_⟩
              exact ⟨s1, s8, s9, (by first | (simp only [go_sem]; done) | rfl), Q6, Q9⟩
           ·rw [b0p hc35] at hm2
            simp only [b1c, b1h, b1g, b00, b0e]
            obtain rfl := sI9 hm2
            obtain rfl := hb33 _ rfl
            try dsimp only at hm1
            exact J21  _ _ s1 s8 hm1
       ·rw [b0p hc19] at hm1
        simp only [b1c, b1h, b1g, b0e]
        obtain rfl := sI9 hm1
        obtain rfl := hb17 _ rfl
        try dsimp only at hm0
        exact J16  _ _  hm0
     simp only [b0t]
     obtain ⟨b43, hl43, hm0⟩ := b0h hm0
     refine b1p hl43 (fun | i_7, t, h => t 1 = .fp (vM m) 0 /\ t 7 = I i_7) ?_ ?_
     ·exact ⟨s1, (by first | (simp only [go_sem]; done) | rfl)⟩
     ·rintro i_7 o t h ⟨s1, s7⟩ hm1 hb43
      simp only [c05] at hm1
      rw [d8t]
      refine b0s ?_
      refine b0b fun K hK => ?_
      simp only [go_sem, s1, s7]
      refine hK _ _ ?_
      clear hK K
      refine b0k fun K44 hK44 => ?_
      simp only [go_sem]
      refine b0i (fun hc45 => ?_) (fun hc45 => ?_)
      ·rw [b0q hc45] at hm1
       simp only [b0r, b0e]
       refine hK44 _ _ ?_
       refine b0k fun K46 hK46 => ?_
       simp only [b0t]
       obtain ⟨x49, h_x49, hm1⟩ := b0h hm1
       have h_x490 := b06 h_x49
       have h_x491 := b07 h_x49
       obtain ⟨q50, h_q50, hm1⟩ := b0h hm1
       refine b0b fun K hK => ?_
       simp only [go_sem, s1, s7, b08 h_x49, h_x491, c3y h_q50]
       refine b0z (b2t x49.Shows 0 (wr (q50 - 1))) ?_
       simp only [go_sem]
       refine hK _ _ ?_
       clear hK K
       simp only [go_sem]
       refine b0i (fun hc51 => ?_) (fun hc51 => ?_)
       ·rw [b0q hc51] at hm1
        refine b0b fun K hK => ?_
        simp only [go_sem]
        refine hK _ _ ?_
        clear hK K
        simp only [b0u, b1i, b13, b0v]
        obtain rfl := sI9 hm1
        obtain rfl := hb43 _ rfl
        try dsimp only at hm0
        obtain rfl := sI9 hm0
        exact b01 (by simp only [go_sem]) (b0d _)
       ·rw [b0p hc51] at hm1
        simp only [b0r, b00, b0e]
        refine hK46 _ _ ?_
        refine b02 fun K hK => ?_
        simp only [go_sem, s7]
        refine hK _ _ ?_
        clear hK K
        simp only [b0e]
        obtain rfl := sI9 hm1
        refine ⟨_, rfl, ?_⟩
        exact ⟨s1, (by first | (simp only [go_sem]; done) | rfl)⟩
      ·rw [b0p hc45] at hm1
       simp only [b1c, b1h, b1g, b0e]
       obtain rfl := sI9 hm1
       obtain rfl := hb43 _ rfl
       try dsimp only at hm0
       exact J14  _ _ s1 hm0
    simp only [b0t]
    obtain ⟨b53, hl53, hm0⟩ := b0h hm0
    refine b1p hl53 (fun | i_6, t, h => t 1 = .fp (vM m) 0 /\ t 6 = I i_6) ?_ ?_
    ·exact ⟨s1, (by first | (simp only [go_sem]; done) | rfl)⟩
    ·rintro i_6 o t h ⟨s1, s6⟩ hm1 hb53
     simp only [c04] at hm1
     rw [d8s]
     refine b0s ?_
     refine b0b fun K hK => ?_
     simp only [go_sem, s1, s6]
     refine hK _ _ ?_
     clear hK K
     refine b0k fun K54 hK54 => ?_
     simp only [go_sem]
     refine b0i (fun hc55 => ?_) (fun hc55 => ?_)
     ·rw [b0q hc55] at hm1
      simp only [b0r, b0e]
      refine hK54 _ _ ?_
      refine b0k fun K56 hK56 => ?_
      simp only [b0t]
      obtain ⟨x58, h_x58, hm1⟩ := b0h hm1
      have h_x580 := b06 h_x58
      have h_x581 := b07 h_x58
      refine b0b fun K hK => ?_
      simp only [go_sem, s1, s6, b08 h_x58, h_x581]
      refine b0z (b2t x58.Max 1 7) ?_
      simp only [go_sem]
      refine hK _ _ ?_
      clear hK K
      simp only [go_sem]
      refine b0i (fun hc59 => ?_) (fun hc59 => ?_)
      ·rw [b0q hc59] at hm1
       refine b0b fun K hK => ?_
       simp only [go_sem]
       refine hK _ _ ?_
       clear hK K
       simp only [b0u, b1i, b13, b0v]
       obtain rfl := sI9 hm1
       obtain rfl := hb53 _ rfl
       try dsimp only at hm0
       obtain rfl := sI9 hm0
       exact b01 (by simp only [go_sem]) (b0d _)
      ·rw [b0p hc59] at hm1
       simp only [b0r, b00, b0e]
       refine hK56 _ _ ?_
       refine b02 fun K hK => ?_
       simp only [go_sem, s6]
       refine hK _ _ ?_
       clear hK K
       simp only [b0e]
       obtain rfl := sI9 hm1
       refine ⟨_, rfl, ?_⟩
       exact ⟨s1, (by first | (simp only [go_sem]; done) | rfl)⟩
     ·rw [b0p hc55] at hm1
      simp only [b1c, b1h, b1g, b0e]
      obtain rfl := sI9 hm1
      obtain rfl := hb53 _ rfl
      try dsimp only at hm0
      exact J12  _ _ s1 hm0
   simp only [b0t]
   obtain ⟨b61, hl61, hm0⟩ := b0h hm0
   refine b1p hl61 (fun | i_4, t, h => t 1 = .fp (vM m) 0 /\ t 3 = .fs 1 (List.map eS y8) /\ t 4 = I i_4) ?_ ?_
   ·exact ⟨s1, (by first | (simp only [go_sem]; done) | rfl), (by first | (simp only [go_sem]; done) | rfl)⟩
   ·rintro i_4 o t h ⟨s1, s3, s4⟩ hm1 hb61
    simp only [b6t] at hm1
    rw [d8r]
    refine b0s ?_
    refine b0b fun K hK => ?_
    simp only [go_sem, s3, s4]
    refine hK _ _ ?_
    clear hK K
    refine b0k fun K62 hK62 => ?_
    simp only [go_sem]
    refine b0i (fun hc63 => ?_) (fun hc63 => ?_)
    ·rw [b0q hc63] at hm1
     simp only [b0r, b0e]
     refine hK62 _ _ ?_
     refine b0k fun K64 hK64 => ?_
     have J65 : ∀ (t : Slots) (h : Heap), t 1 = .fp (vM m) 0 -> t 3 = .fs 1 (List.map eS y8) -> t 4 = I i_4 -> c4u i_4 = some o -> K64 t h := by
      intro t h s1 s3 s4 hm1
      refine hK64 _ _ ?_
      unfold c4u at hm1
      refine b02 fun K hK => ?_
      simp only [go_sem, s4]
      refine hK _ _ ?_
      clear hK K
      simp only [b0e]
      obtain rfl := sI9 hm1
      refine ⟨_, rfl, ?_⟩
      exact ⟨s1, s3, (by first | (simp only [go_sem]; done) | rfl)⟩
     simp only [b0t]
     refine b0s ?_
     obtain ⟨x69, h_x69, hm1⟩ := b0h hm1
     have h_x690 := b06 h_x69
     have h_x691 := b07 h_x69
     obtain ⟨c71, h_c71, hm1⟩ := b0h hm1
     refine b2q (fun t h => t 1 = .fp (vM m) 0 /\ t 3 = .fs 1 (List.map eS y8) /\ t 4 = I i_4 /\ t 61 = B c71) (fun K hK => ?_) ?_
     ·simp only [go_sem, s3, s4, b08 h_x69, h_x691]
      refine b0i (fun hg72 => ?_) (fun hg72 => ?_)
      ·simp only [hg72, eq_self, if_true] at h_c71
       obtain rfl := sI9 h_c71
       simp only [go_sem, hg72]
       exact hK _ _ ⟨s1, s3, s4, (by first | (simp only [go_sem]; done) | rfl)⟩
      ·simp only [hg72, if_false, fT9] at h_c71
       obtain ⟨y70, h_y70, h_c71⟩ := b0h h_c71
       obtain rfl := sI9 h_c71
       simp only [go_sem, s3, s4, b08 h_x69, hg72]
       refine b0z (c82 x69 _ h_y70) ?_
       simp only [go_sem, hg72]
       exact hK _ _ ⟨s1, s3, s4, (by first | (simp only [go_sem]; done) | rfl)⟩
     ·rintro t h ⟨s1, s3, s4, s61⟩
      refine b0k fun K73 hK73 => ?_
      simp only [go_sem, s61]
      refine b0i (fun hc74 => ?_) (fun hc74 => ?_)
      ·rw [b0q hc74] at hm1
       refine b0b fun K hK => ?_
       simp only [go_sem]
       refine hK _ _ ?_
       clear hK K
       simp only [b0u, b1i, b13, b0v]
       obtain rfl := sI9 hm1
       obtain rfl := hb61 _ rfl
       try dsimp only at hm0
       obtain rfl := sI9 hm0
       exact b01 (by simp only [go_sem]) (b0d _)
      ·rw [b0p hc74] at hm1
       simp only [b0r, b0e]
       refine hK73 _ _ ?_
       refine b0b fun K hK => ?_
       simp only [go_sem]
       refine hK _ _ ?_
       clear hK K
       simp only [b0t]
       obtain ⟨b75, hl75, hm1⟩ := b0h hm1
       refine b1p hl75 (fun | k_5, t, h => t 1 = .fp (vM m) 0 /\ t 3 = .fs 1 (List.map eS y8) /\ t 4 = I i_4 /\ t 5 = I k_5) ?_ ?_
       ·exact ⟨s1, s3, s4, (by first | (simp only [go_sem]; done) | rfl)⟩
       ·rintro k_5 o t h ⟨s1, s3, s4, s5⟩ hm2 hb75
        simp only [b7s] at hm2
        rw [d8q]
        refine b0s ?_
        refine b0b fun K hK => ?_
        simp only [go_sem, s4, s5]
        refine hK _ _ ?_
        clear hK K
        refine b0k fun K76 hK76 => ?_
        simp only [go_sem]
        refine b0i (fun hc77 => ?_) (fun hc77 => ?_)
        ·rw [b0q hc77] at hm2
         simp only [b0r, b0e]
         refine hK76 _ _ ?_
         refine b0k fun K78 hK78 => ?_
         simp only [b0t]
         obtain ⟨x81, h_x81, hm2⟩ := b0h hm2
         have h_x810 := b06 h_x81
         have h_x811 := b07 h_x81
         obtain ⟨x82, h_x82, hm2⟩ := b0h hm2
         have h_x820 := b06 h_x82
         have h_x821 := b07 h_x82
         refine b0b fun K hK => ?_
         simp only [go_sem, s3, s4, s5, b08 h_x81, b08 h_x82]
         refine hK _ _ ?_
         clear hK K
         simp only [go_sem]
         refine b0i (fun hc83 => ?_) (fun hc83 => ?_)
         ·rw [b0q hc83] at hm2
          refine b0b fun K hK => ?_
          simp only [go_sem]
          refine hK _ _ ?_
          clear hK K
          simp only [b0u, b1i, b13, b0v]
          obtain rfl := sI9 hm2
          obtain rfl := hb75 _ rfl
          try dsimp only at hm1
          obtain rfl := sI9 hm1
          obtain rfl := hb61 _ rfl
          try dsimp only at hm0
          obtain rfl := sI9 hm0
          exact b01 (by simp only [go_sem]) (b0d _)
         ·rw [b0p hc83] at hm2
          simp only [b0r, b00, b0e]
          refine hK78 _ _ ?_
          refine b02 fun K hK => ?_
          simp only [go_sem, s5]
          refine hK _ _ ?_
          clear hK K
          simp only [b0e]
          obtain rfl := sI9 hm2
          refine ⟨_, rfl, ?_⟩
          exact ⟨s1, s3, s4, (by first | (simp only [go_sem]; done) | rfl)⟩
        ·rw [b0p hc77] at hm2
         simp only [b1c, b1h, b1g, b00, b0e]
         obtain rfl := sI9 hm2
         obtain rfl := hb75 _ rfl
         try dsimp only at hm1
         exact J65  _ _ s1 s3 s4 hm1
    ·rw [b0p hc63] at hm1
     simp only [b1c, b1h, b1g, b0e]
     obtain rfl := sI9 hm1
     obtain rfl := hb61 _ rfl
     try dsimp only at hm0
     exact J10  _ _ s1 hm0
theorem c8x (hf : Has O "newel/newelref04.Copy" x_r04_Copy) (c8y : c6l O) : c6k O := by
 intro m r hm0
 unfold c07 at hm0
 refine b1l hf rfl (b0a (fM _) b0o) (fM _) ?_
 refine b1d (fun t h => t 0 = .agg (vM m)) rfl fun t h s0 => ?_
 simp only [x_r04_Copy]
 refine b0b fun K hK => ?_
 simp only [go_sem, s0]
 refine hK _ _ ?_
 clear hK K
 obtain ⟨l5, h_l5, hm0⟩ := b0h hm0
 obtain ⟨l6, h_l6, hm0⟩ := b0h hm0
 obtain ⟨l7, h_l7, hm0⟩ := b0h hm0
 obtain ⟨l8, h_l8, hm0⟩ := b0h hm0
 refine b0b fun K hK => ?_
 simp only [go_sem]
 refine b3j (f := eS) (l := ([])) (m := m.Inputs) ?_ ?_ ?_ ?_ h_l5 ?_
 ·exact (b3f (by simp only [go_sem]) (by simp only [go_sem]) (by simp only [go_sem]))
 ·exact b6p
 ·exact b6o
 ·exact (fun e => by cases e)
 simp only [go_sem]
 refine b3j (f := eS) (l := ([])) (m := m.Outputs) ?_ ?_ ?_ ?_ h_l6 ?_
 ·exact (b3f (by simp only [go_sem]) (by simp only [go_sem]) (by simp only [go_sem]))
 ·exact b6p
 ·exact b6o
 ·exact (fun e => by cases e)
 simp only [go_sem]
 refine b3j (f := b0l) (l := ([])) (m := m.Counters) ?_ ?_ ?_ ?_ h_l7 ?_
 ·exact (b3f (by simp only [go_sem]) (by simp only [go_sem]) (by simp only [go_sem]))
 ·exact b6p
 ·exact b6o
 ·exact (fun e => by cases e)
 simp only [go_sem]
 refine b3j (f := b0m) (l := ([])) (m := m.States) ?_ ?_ ?_ ?_ h_l8 ?_
 ·exact (b3f (by simp only [go_sem]) (by simp only [go_sem]) (by simp only [go_sem]))
 ·exact b6p
 ·exact b6o
 ·exact (fun e => by cases e)
 simp only [go_sem]
 refine hK _ _ ?_
 clear hK K
 refine b0s ?_
 refine b0b fun K hK => ?_
 simp only [go_sem]
 refine hK _ _ ?_
 clear hK K
 refine b0k fun K9 hK9 => ?_
 have J10 : ∀ (o_3_4 : List Rule) (i2 : Nat) (i3 : Nat) (i3_1 : Nat) (i3_2 : Nat) (i3_3 : Nat) (i3_4 : Nat) (v3 : AV) (t : Slots) (h : Heap), t 2 = .rp i2 0 0 -> t 3 = .rp i3 0 0 -> h.ob i2 = some (5, [[.v (.slice none 0 0), .v (.slice none 0 0), .v (.slice none 0 0), .v (.slice none 0 0), .v (.slice none 0 0)]]) -> i2 < h.nx -> h.ob i3 = some (5, [[.rs i3_1 0 (List.length l5), .rs i3_2 0 (List.length l6), .rs i3_3 0 (List.length l7), .rs i3_4 0 (List.length l8), v3]]) -> i3 < h.nx -> h.ob i3_1 = some (1, List.map eS l5) -> i3_1 < h.nx -> h.ob i3_2 = some (1, List.map eS l6) -> i3_2 < h.nx -> h.ob i3_3 = some (2, List.map b0l l7) -> i3_3 < h.nx -> h.ob i3_4 = some (2, List.map b0m l8) -> i3_4 < h.nx -> b2v h v3 4 (List.map b0j o_3_4) -> ¬i2 = i3 -> ¬i2 = i3_1 -> ¬i2 = i3_2 -> ¬i2 = i3_3 -> ¬i2 = i3_4 -> b1y v3 i2 -> ¬i3 = i3_1 -> ¬i3 = i3_2 -> ¬i3 = i3_3 -> ¬i3 = i3_4 -> b1y v3 i3 -> ¬i3_1 = i3_2 -> ¬i3_1 = i3_3 -> ¬i3_1 = i3_4 -> b1y v3 i3_1 -> ¬i3_2 = i3_3 -> ¬i3_2 = i3_4 -> b1y v3 i3_2 -> ¬i3_3 = i3_4 -> b1y v3 i3_3 -> b1y v3 i3_4 -> c4w l5 l6 l7 l8 o_3_4 = some r -> K9 t h := by
  intro o_3_4 i2 i3 i3_1 i3_2 i3_3 i3_4 v3 t h s2 s3 Qm Qn Qb Qa Qo Qp Qq Qr Qs Qt Qu Qv Qk Qw Qx Qy Qz Q10 Q11 Q12 Q13 Q14 Q15 Q16 Q17 Q18 Q19 Q1a Q1b Q1c Q1d Q1e Q1f Q1g hm0
  refine hK9 _ _ ?_
  unfold c4w at hm0
  refine b0b fun K hK => ?_
  simp only [go_sem, s2, s3, Qm, Qb]
  refine hK _ _ ?_
  clear hK K
  simp only [b0u, b0v]
  obtain rfl := sI9 hm0
  exact b96 (id := i2) (m := 5) (cs := [.rs i3_1 0 (List.length l5), .rs i3_2 0 (List.length l6), .rs i3_3 0 (List.length l7), .rs i3_4 0 (List.length l8), v3]) (by simp only [go_sem, s2]) (by simp only [go_sem]) rfl (g4y (.cons (b5a (f := eS) (l := l5) (id := i3_1) (by simp only [go_sem, Qo, b41 Qx]) (by first | rfl | simp only [go_sem, lA9, mA9]) b0y c0x) (.cons (b5a (f := eS) (l := l6) (id := i3_2) (by simp only [go_sem, Qq, b41 Qy]) (by first | rfl | simp only [go_sem, lA9, mA9]) b0y c0x) (.cons (b5a (f := b0l) (l := l7) (id := i3_3) (by simp only [go_sem, Qs, b41 Qz]) (by first | rfl | simp only [go_sem, lA9, mA9]) b1r j0q) (.cons (b5a (f := b0m) (l := l8) (id := i3_4) (by simp only [go_sem, Qu, b41 Q10]) (by first | rfl | simp only [go_sem, lA9, mA9]) b1t j0u) (.cons (c0h (f := b0j) (l := o_3_4) (b44 Qk (by intro j hj hl; first | rfl | simp only [go_sem, c96 hj Q11]) (by first | omega | exact Nat.le_refl _ | (simp only [go_sem, nxs] <;> omega))) b1s j0s) (.nil)))))))
 simp only [b0t]
 obtain ⟨b11, hl11, hm0⟩ := b0h hm0
 refine b1p hl11 (fun | (o_3_4, i_4), t, h => ∃ i2 : Nat, ∃ i3 : Nat, ∃ i3_1 : Nat, ∃ i3_2 : Nat, ∃ i3_3 : Nat, ∃ i3_4 : Nat, ∃ v3 : AV, t 1 = .fp (vM m) 0 /\ t 2 = .rp i2 0 0 /\ t 3 = .rp i3 0 0 /\ t 4 = I i_4 /\ h.ob i2 = some (5, [[.v (.slice none 0 0), .v (.slice none 0 0), .v (.slice none 0 0), .v (.slice none 0 0), .v (.slice none 0 0)]]) /\ i2 < h.nx /\ h.ob i3 = some (5, [[.rs i3_1 0 (List.length l5), .rs i3_2 0 (List.length l6), .rs i3_3 0 (List.length l7), .rs i3_4 0 (List.length l8), v3]]) /\ i3 < h.nx /\ h.ob i3_1 = some (1, List.map eS l5) /\ i3_1 < h.nx /\ h.ob i3_2 = some (1, List.map eS l6) /\ i3_2 < h.nx /\ h.ob i3_3 = some (2, List.map b0l l7) /\ i3_3 < h.nx /\ h.ob i3_4 = some (2, List.map b0m l8) /\ i3_4 < h.nx /\ b2v h v3 4 (List.map b0j o_3_4) /\ ¬i2 = i3 /\ ¬i2 = i3_1 /\ ¬i2 = i3_2 /\ ¬i2 = i3_3 /\ ¬i2 = i3_4 /\ b1y v3 i2 /\ ¬i3 = i3_1 /\ ¬i3 = i3_2 /\ ¬i3 = i3_3 /\ ¬i3 = i3_4 /\ b1y v3 i3 /\ ¬i3_1 = i3_2 /\ ¬i3_1 = i3_3 /\ ¬i3_1 = i3_4 /\ b1y v3 i3_1 /\ ¬i3_2 = i3_3 /\ ¬i3_2 = i3_4 /\ b1y v3 i3_2 /\ ¬i3_3 = i3_4 /\ b1y v3 i3_3 /\ b1y v3 i3_4) ?_ ?_
 ·exact ⟨h.nx, (nxs (nxs (nxs (nxs (nxs (nxs (nxs (nxs (nxs h.nx))))))))), (nxs (nxs h.nx)), (nxs (nxs (nxs (nxs h.nx)))), (nxs (nxs (nxs (nxs (nxs (nxs h.nx)))))), (nxs (nxs (nxs (nxs (nxs (nxs (nxs (nxs h.nx)))))))), (.v (.slice none 0 0)), (by first | (simp only [go_sem]; done) | rfl), (by first | (simp only [go_sem]; done) | rfl), (by first | (simp only [go_sem]; done) | rfl), (by first | (simp only [go_sem]; done) | rfl), (by simp only [go_sem]), (by simp only [go_sem]), (by simp only [go_sem]), (by simp only [go_sem]), (by simp only [go_sem]), (by simp only [go_sem]), (by simp only [go_sem]), (by simp only [go_sem]), (by simp only [go_sem]), (by simp only [go_sem]), (by simp only [go_sem]), (by simp only [go_sem]), c01, (by first | first | assumption | omega | (simp only [nxs] <;> omega)), (by first | first | assumption | omega | (simp only [nxs] <;> omega)), (by first | first | assumption | omega | (simp only [nxs] <;> omega)), (by first | first | assumption | omega | (simp only [nxs] <;> omega)), (by first | first | assumption | omega | (simp only [nxs] <;> omega)), (by first | exact b2g | exact b2h (by first | assumption | omega | (simp only [nxs] <;> omega)) | assumption | exact b2e (by assumption) (by first | assumption | omega | (simp only [nxs] <;> omega))), (by first | first | assumption | omega | (simp only [nxs] <;> omega)), (by first | first | assumption | omega | (simp only [nxs] <;> omega)), (by first | first | assumption | omega | (simp only [nxs] <;> omega)), (by first | first | assumption | omega | (simp only [nxs] <;> omega)), (by first | exact b2g | exact b2h (by first | assumption | omega | (simp only [nxs] <;> omega)) | assumption | exact b2e (by assumption) (by first | assumption | omega | (simp only [nxs] <;> omega))), (by first | first | assumption | omega | (simp only [nxs] <;> omega)), (by first | first | assumption | omega | (simp only [nxs] <;> omega)), (by first | first | assumption | omega | (simp only [nxs] <;> omega)), (by first | exact b2g | exact b2h (by first | assumption | omega | (simp only [nxs] <;> omega)) | assumption | exact b2e (by assumption) (by first | assumption | omega | (simp only [nxs] <;> omega))), (by first | first | assumption | omega | (simp only [nxs] <;> omega)), (by first | first | assumption | omega | (simp only [nxs] <;> omega)), (by first | exact b2g | exact b2h (by first | assumption | omega | (simp only [nxs] <;> omega)) | assumption | exact b2e (by assumption) (by first | assumption | omega | (simp only [nxs] <;> omega))), (by first | first | assumption | omega | (simp only [nxs] <;> omega)), (by first | exact b2g | exact b2h (by first | assumption | omega | (simp only [nxs] <;> omega)) | assumption | exact b2e (by assumption) (by first | assumption | omega | (simp only [nxs] <;> omega))), (by first | exact b2g | exact b2h (by first | assumption | omega | (simp only [nxs] <;> omega)) | assumption | exact b2e (by assumption) (by first | assumption | omega | (simp only [nxs] <;> omega)))⟩
 ·rintro ⟨o_3_4, i_4⟩ o t h ⟨i2, i3, i3_1, i3_2, i3_3, i3_4, v3, s1, s2, s3, s4, Qm, Qn, Qb, Qa, Qo, Qp, Qq, Qr, Qs, Qt, Qu, Qv, Qk, Qw, Qx, Qy, Qz, Q10, Q11, Q12, Q13, Q14, Q15, Q16, Q17, Q18, Q19, Q1a, Q1b, Q1c, Q1d, Q1e, Q1f, Q1g⟩ hm1 hb11
  simp only [c1a] at hm1
  rw [d8x]
  refine b0s ?_
  refine b0b fun K hK => ?_
  simp only [go_sem, s1, s4]
  refine hK _ _ ?_
  clear hK K
  refine b0k fun K12 hK12 => ?_
  simp only [go_sem]
  refine b0i (fun hc13 => ?_) (fun hc13 => ?_)
  ·rw [b0q hc13] at hm1
   simp only [b0r, b0e]
   refine hK12 _ _ ?_
   refine b0k fun K14 hK14 => ?_
   simp only [b0t]
   obtain ⟨x16, h_x16, hm1⟩ := b0h hm1
   have h_x160 := b06 h_x16
   have h_x161 := b07 h_x16
   refine b0b fun K hK => ?_
   simp only [go_sem, s1, s4, b08 h_x16, h_x161]
   refine hK _ _ ?_
   clear hK K
   obtain ⟨y18, h_y18, hm1⟩ := b0h hm1
   refine b0b fun K hK => ?_
   simp only [go_sem]
   refine b0z (c8y x16.When _ h_y18) ?_
   simp only [go_sem]
   refine hK _ _ ?_
   clear hK K
   obtain ⟨l20, h_l20, hm1⟩ := b0h hm1
   refine b0b fun K hK => ?_
   simp only [go_sem]
   refine b3j (f := b2c) (l := ([])) (m := x16.Sets) ?_ ?_ ?_ ?_ h_l20 ?_
   ·exact (b3f (by simp only [go_sem]) (by simp only [go_sem]) (by simp only [go_sem]))
   ·exact b6p
   ·exact b6o
   ·exact (fun e => by cases e)
   simp only [go_sem]
   refine hK _ _ ?_
   clear hK K
   refine g3a (s := 5) (v := .rp h.nx 0 0) (y := .fp [I x16.From, I x16.To, .fs 1 (List.map b03 y18), .fs 2 (List.map b2c l20)] 0) (fun j => j == h.nx || j == (nxs (nxs h.nx))) (by simp only [go_sem]) (g4z (id := h.nx) (sz := 4) (xs := [I x16.From, I x16.To, .fs 1 (List.map b03 y18), .rs (nxs (nxs h.nx)) 0 (List.length l20)]) (by rw [c94 (by simp)]; simp only [go_sem]) (.cons (.refl _ (b0d _)) (.cons (.refl _ (b0d _)) (.cons (.refl _ (b0f fun a _ => b4g a)) (.cons (b5a (f := b2c) (l := l20) (id := (nxs (nxs h.nx))) (by rw [c94 (by simp)]; simp only [go_sem]) (by first | rfl | simp only [go_sem, lA9, mA9]) c78 j0t) (.nil)))))) (.fp _ _ (b0a (b0d _) (b0a (b0d _) (b0a (b0f fun a _ => b4g a) (b0a (b0f fun a _ => c78 a) b0o))))) ?_
   obtain ⟨l22, h_l22, hm1⟩ := b0h hm1
   refine b02 fun K hK => ?_
   simp only [go_sem, s3, Qb, Qa, oF9, bF9, ne_eq, nF9, and_self]
   refine b3j (f := b0j) (l := o_3_4) (m := ([(Rule.mk x16.From x16.To y18 l20)])) ?_ ?_ ?_ ?_ h_l22 ?_
   ·exact (b44 Qk (by intro j hj hl; first | rfl | simp only [go_sem, hl, oF9, bF9, ne_eq, nF9, and_self]) (by first | omega | exact Nat.le_refl _ | (simp only [go_sem, nxs] <;> omega)))
   ·exact (b5p (by simp only [go_sem]) (by simp only [go_sem]))
   ·exact (b5o (by first | exact b2g | exact b2h (by first | omega | (simp only [nxs] <;> omega)) | assumption | exact b2e (by assumption) (by first | omega | (simp only [go_sem, nxs] <;> omega))))
   ·exact (fun _ => by simp)
   simp only [go_sem, s3, Qb, Qa, Q16, oF9, bF9, ne_eq, nF9, and_self]
   refine hK _ _ ?_
   clear hK K
   simp only [b00, b0e]
   refine hK14 _ _ ?_
   refine b02 fun K hK => ?_
   simp only [go_sem, s4, nF9]
   refine hK _ _ ?_
   clear hK K
   simp only [b0e]
   obtain rfl := sI9 hm1
   refine ⟨_, rfl, ?_⟩
   exact ⟨i2, i3, i3_1, i3_2, i3_3, i3_4, (.rs (nxs (nxs (nxs (nxs h.nx)))) 0 (List.length l22)), s1, s2, s3, (by first | (simp only [go_sem]; done) | rfl), (by simp only [go_sem, oF9, bF9, ne_eq, nF9, and_self, Qm, Qn, Qw, Q11]), (by simp only [go_sem, Qn]), (by simp only [go_sem]), (by simp only [go_sem, Qa]), (by simp only [go_sem, oF9, bF9, ne_eq, nF9, and_self, Qo, Qp, b41 Q12, Q1a]), (by simp only [go_sem, Qp]), (by simp only [go_sem, oF9, bF9, ne_eq, nF9, and_self, Qq, Qr, b41 Q13, Q1d]), (by simp only [go_sem, Qr]), (by simp only [go_sem, oF9, bF9, ne_eq, nF9, and_self, Qs, Qt, b41 Q14, Q1f]), (by simp only [go_sem, Qt]), (by simp only [go_sem, oF9, bF9, ne_eq, nF9, and_self, Qu, Qv, b41 Q15, Q1g]), (by simp only [go_sem, Qv]), (b3f (by simp only [go_sem, nF9, Qa, b7q Qk]) (by first | rfl | simp only [go_sem]) (by simp only [go_sem])), Qw, Qx, Qy, Qz, Q10, (by first | exact b2g | exact b2h (by first | assumption | omega | (simp only [nxs] <;> omega)) | assumption | exact b2e (by assumption) (by first | assumption | omega | (simp only [nxs] <;> omega))), Q12, Q13, Q14, Q15, (by first | exact b2g | exact b2h (by first | assumption | omega | (simp only [nxs] <;> omega)) | assumption | exact b2e (by assumption) (by first | assumption | omega | (simp only [nxs] <;> omega))), Q17, Q18, Q19, (by first | exact b2g | exact b2h (by first | assumption | omega | (simp only [nxs] <;> omega)) | assumption | exact b2e (by assumption) (by first | assumption | omega | (simp only [nxs] <;> omega))), Q1b, Q1c, (by first | exact b2g | exact b2h (by first | assumption | omega | (simp only [nxs] <;> omega)) | assumption | exact b2e (by assumption) (by first | assumption | omega | (simp only [nxs] <;> omega))), Q1e, (by first | exact b2g | exact b2h (by first | assumption | omega | (simp only [nxs] <;> omega)) | assumption | exact b2e (by assumption) (by first | assumption | omega | (simp only [nxs] <;> omega))), (by first | exact b2g | exact b2h (by first | assumption | omega | (simp only [nxs] <;> omega)) | assumption | exact b2e (by assumption) (by first | assumption | omega | (simp only [nxs] <;> omega)))⟩
  ·rw [b0p hc13] at hm1
   simp only [b1c, b1h, b1g, b0e]
   obtain rfl := sI9 hm1
   obtain rfl := hb11 _ rfl
   try dsimp only at hm0
   exact J10 o_3_4 i2 i3 i3_1 i3_2 i3_3 i3_4 v3 _ _ s2 s3 Qm Qn Qb Qa Qo Qp Qq Qr Qs Qt Qu Qv Qk Qw Qx Qy Qz Q10 Q11 Q12 Q13 Q14 Q15 Q16 Q17 Q18 Q19 Q1a Q1b Q1c Q1d Q1e Q1f Q1g hm0
theorem c8y (hf : Has O "newel/newelref04.CopyCond" x_r04_CopyCond) : c6l O := by
 intro c r hm0
 unfold c08 at hm0
 refine b1l hf rfl (b0a (b0f fun a _ => b4g a) b0o) (b0f fun a _ => b4g a) ?_
 refine b1d (fun t h => t 0 = .fs 1 (List.map b03 c)) rfl fun t h s0 => ?_
 simp only [x_r04_CopyCond]
 refine b0b fun K hK => ?_
 simp only [go_sem]
 refine hK _ _ ?_
 clear hK K
 refine b0b fun K hK => ?_
 simp only [go_sem]
 refine hK _ _ ?_
 clear hK K
 refine b0s ?_
 refine b0b fun K hK => ?_
 simp only [go_sem]
 refine hK _ _ ?_
 clear hK K
 refine b0k fun K1 hK1 => ?_
 have J2 : ∀ (o_3 : List (List Literal)) (v3 : AV) (t : Slots) (h : Heap), t 3 = v3 -> b2v h v3 1 (List.map b03 o_3) -> c4v o_3 = some r -> K1 t h := by
  intro o_3 v3 t h s3 Qh hm0
  refine hK1 _ _ ?_
  unfold c4v at hm0
  refine b0b fun K hK => ?_
  simp only [go_sem, s3, b5k v3]
  refine hK _ _ ?_
  clear hK K
  simp only [b0u, b0v]
  obtain rfl := sI9 hm0
  exact c3g (v := v3) (by simp only [go_sem]) (c0h (f := b03) (l := o_3) (b44 Qh (by intro j hj hl; first | rfl | simp only [go_sem, hl]) (by first | omega | exact Nat.le_refl _ | (simp only [go_sem, nxs] <;> omega))) b4g d56)
 simp only [b0t]
 obtain ⟨b3, hl3, hm0⟩ := b0h hm0
 refine b1p hl3 (fun | (o_3, i_4), t, h => ∃ v3 : AV, t 0 = .fs 1 (List.map b03 c) /\ t 3 = v3 /\ t 4 = I i_4 /\ b2v h v3 1 (List.map b03 o_3)) ?_ ?_
 ·exact ⟨(.v (.slice none 0 0)), s0, (by first | (simp only [go_sem]; done) | rfl), (by first | (simp only [go_sem]; done) | rfl), c01⟩
 ·rintro ⟨o_3, i_4⟩ o t h ⟨v3, s0, s3, s4, Qh⟩ hm1 hb3
  simp only [c09] at hm1
  rw [d8w]
  refine b0s ?_
  refine b0b fun K hK => ?_
  simp only [go_sem, s0, s4]
  refine hK _ _ ?_
  clear hK K
  refine b0k fun K4 hK4 => ?_
  simp only [go_sem]
  refine b0i (fun hc5 => ?_) (fun hc5 => ?_)
  ·rw [b0q hc5] at hm1
   simp only [b0r, b0e]
   refine hK4 _ _ ?_
   refine b0k fun K6 hK6 => ?_
   simp only [b0t]
   obtain ⟨x10, h_x10, hm1⟩ := b0h hm1
   have h_x100 := b06 h_x10
   have h_x101 := b07 h_x10
   obtain ⟨l11, h_l11, hm1⟩ := b0h hm1
   obtain ⟨l12, h_l12, hm1⟩ := b0h hm1
   refine b0b fun K hK => ?_
   simp only [go_sem, s0, s3, s4, b08 h_x10, h_x101, b5k v3]
   refine b3j (f := b24) (l := ([])) (m := x10) ?_ ?_ ?_ ?_ h_l11 ?_
   ·exact (b3f (by simp only [go_sem]) (by simp only [go_sem]) (by simp only [go_sem]))
   ·exact b6p
   ·exact b6o
   ·exact (fun e => by cases e)
   simp only [go_sem]
   refine g62 (f := b03) (l := o_3) (a := l11) (raw := [.rs (nxs h.nx) 0 (List.length l11)]) ?_ ?_ ?_ h_l12 ?_
   ·exact (b44 Qh (by intro j hj hl; first | rfl | simp only [go_sem, hl]) (by first | omega | exact Nat.le_refl _ | (simp only [go_sem, nxs] <;> omega)))
   ·exact (by simp only [go_sem])
   ·exact (by first | exact b2g | exact b2h (by first | omega | (simp only [nxs] <;> omega)) | assumption | exact b2e (by assumption) (by first | omega | (simp only [go_sem, nxs] <;> omega)))
   simp only [go_sem]
   refine hK _ _ ?_
   clear hK K
   refine g3c ?_
   refine g3b (id := (nxs (nxs (nxs h.nx)))) (sz := 1) (f := b03) (l := o_3) (a := l11) (raw := [.rs (nxs h.nx) 0 (List.length l11)]) (fun j => j == (nxs h.nx)) (by simp only [go_sem, b7q Qh]) (by first | (simp; done) | (simp [nxs] <;> omega)) (.cons (b5a (f := b24) (l := l11) (id := (nxs h.nx)) (by rw [c94 (by simp)]; simp only [go_sem, b7q Qh]) (by first | rfl | simp only [go_sem, lA9, mA9]) c0g j0r) (.nil)) b4g d56 ?_
   rw [<- (c25 h_l12).2]
   simp only [b0r, b00, b0e]
   refine hK6 _ _ ?_
   refine b02 fun K hK => ?_
   simp only [go_sem, s4, nF9]
   refine hK _ _ ?_
   clear hK K
   simp only [b0e]
   obtain rfl := sI9 hm1
   refine ⟨_, rfl, ?_⟩
   exact ⟨(.rs (nxs (nxs (nxs h.nx))) 0 (List.length l12)), s0, (by first | (simp only [go_sem]; done) | rfl), (by first | (simp only [go_sem]; done) | rfl), (b3f (by simp only [go_sem]) (by first | rfl | simp only [go_sem]) (by simp only [go_sem]))⟩
  ·rw [b0p hc5] at hm1
   simp only [b1c, b1h, b1g, b0e]
   obtain rfl := sI9 hm1
   obtain rfl := hb3 _ rfl
   try dsimp only at hm0
   exact J2 o_3 v3 _ _ s3 Qh hm0
theorem c4c (hf : Has O "newel/newelref04.Holds" x_r04_Holds) (c84 : c6s O) : c6m O := by
 intro m p input c r hm0
 unfold c1b at hm0
 refine b1l hf rfl (b0a (fM _) (b0a (.agg _ (b0a (b0d _) (b0a (b0d _) (b0a (b0d _) b0o)))) (b0a (b0d _) (b0a (b0f fun a _ => b4g a) b0o)))) (b0d _) ?_
 refine b1d (fun t h => t 0 = .agg (vM m) /\ t 1 = .agg [I p.State, I p.Values.1, I p.Values.2] /\ t 2 = I input /\ t 3 = .fs 1 (List.map b03 c)) ⟨rfl, rfl, rfl, rfl⟩ fun t h ⟨s0, s1, s2, s3⟩ => ?_
 simp only [x_r04_Holds]
 refine b0b fun K hK => ?_
 simp only [go_sem, s0, s1]
 refine hK _ _ ?_
 clear hK K
 refine b0s ?_
 refine b0b fun K hK => ?_
 simp only [go_sem]
 refine hK _ _ ?_
 clear hK K
 refine b0k fun K1 hK1 => ?_
 have J2 : ∀ (t : Slots) (h : Heap), d0c = some r -> K1 t h := by
  intro t h hm0
  refine hK1 _ _ ?_
  unfold d0c at hm0
  refine b0b fun K hK => ?_
  simp only [go_sem]
  refine hK _ _ ?_
  clear hK K
  simp only [b0u, b0v]
  obtain rfl := sI9 hm0
  exact b01 (by simp only [go_sem]) (b0d _)
 simp only [b0t]
 obtain ⟨b3, hl3, hm0⟩ := b0h hm0
 refine b1p hl3 (fun | i_9, t, h => t 2 = I input /\ t 3 = .fs 1 (List.map b03 c) /\ t 4 = .fp (vM m) 0 /\ t 5 = .fp [I p.State, I p.Values.1, I p.Values.2] 0 /\ t 9 = I i_9) ?_ ?_
 ·exact ⟨s2, s3, (by first | (simp only [go_sem]; done) | rfl), (by first | (simp only [go_sem]; done) | rfl), (by first | (simp only [go_sem]; done) | rfl)⟩
 ·rintro i_9 o t h ⟨s2, s3, s4, s5, s9⟩ hm1 hb3
  simp only [c1c] at hm1
  rw [d8y]
  refine b0s ?_
  refine b0b fun K hK => ?_
  simp only [go_sem, s3, s9]
  refine hK _ _ ?_
  clear hK K
  refine b0k fun K4 hK4 => ?_
  simp only [go_sem]
  refine b0i (fun hc5 => ?_) (fun hc5 => ?_)
  ·rw [b0q hc5] at hm1
   simp only [b0r, b0e]
   refine hK4 _ _ ?_
   refine b0k fun K6 hK6 => ?_
   have J7 : ∀ (t : Slots) (h : Heap), t 2 = I input -> t 3 = .fs 1 (List.map b03 c) -> t 4 = .fp (vM m) 0 -> t 5 = .fp [I p.State, I p.Values.1, I p.Values.2] 0 -> t 9 = I i_9 -> c4x i_9 = some o -> K6 t h := by
    intro t h s2 s3 s4 s5 s9 hm1
    refine hK6 _ _ ?_
    unfold c4x at hm1
    refine b02 fun K hK => ?_
    simp only [go_sem, s9]
    refine hK _ _ ?_
    clear hK K
    simp only [b0e]
    obtain rfl := sI9 hm1
    refine ⟨_, rfl, ?_⟩
    exact ⟨s2, s3, s4, s5, (by first | (simp only [go_sem]; done) | rfl)⟩
   simp only [b0t]
   refine b0b fun K hK => ?_
   simp only [go_sem]
   refine hK _ _ ?_
   clear hK K
   refine b0s ?_
   refine b0b fun K hK => ?_
   simp only [go_sem]
   refine hK _ _ ?_
   clear hK K
   refine b0k fun K8 hK8 => ?_
   have J9 : ∀ (all_10 : Bool) (t : Slots) (h : Heap), t 2 = I input -> t 3 = .fs 1 (List.map b03 c) -> t 4 = .fp (vM m) 0 -> t 5 = .fp [I p.State, I p.Values.1, I p.Values.2] 0 -> t 9 = I i_9 -> t 10 = B all_10 -> c4y i_9 all_10 = some o -> K8 t h := by
    intro all_10 t h s2 s3 s4 s5 s9 s10 hm1
    refine hK8 _ _ ?_
    unfold c4y at hm1
    refine b0b fun K hK => ?_
    simp only [go_sem, s10]
    refine hK _ _ ?_
    clear hK K
    simp only [go_sem]
    refine b0i (fun hc10 => ?_) (fun hc10 => ?_)
    ·rw [b0q hc10] at hm1
     refine b0b fun K hK => ?_
     simp only [go_sem]
     refine hK _ _ ?_
     clear hK K
     simp only [b0u, b1i, b13, b0v]
     obtain rfl := sI9 hm1
     obtain rfl := hb3 _ rfl
     try dsimp only at hm0
     obtain rfl := sI9 hm0
     exact b01 (by simp only [go_sem]) (b0d _)
    ·rw [b0p hc10] at hm1
     simp only [b0r, b00, b0e]
     exact J7  _ _ s2 s3 s4 s5 s9 hm1
   simp only [b0t]
   obtain ⟨b11, hl11, hm1⟩ := b0h hm1
   refine b1p hl11 (fun | (all_10, k_11), t, h => t 2 = I input /\ t 3 = .fs 1 (List.map b03 c) /\ t 4 = .fp (vM m) 0 /\ t 5 = .fp [I p.State, I p.Values.1, I p.Values.2] 0 /\ t 9 = I i_9 /\ t 10 = B all_10 /\ t 11 = I k_11) ?_ ?_
   ·exact ⟨s2, s3, s4, s5, s9, (by first | (simp only [go_sem]; done) | rfl), (by first | (simp only [go_sem]; done) | rfl)⟩
   ·rintro ⟨all_10, k_11⟩ o t h ⟨s2, s3, s4, s5, s9, s10, s11⟩ hm2 hb11
    simp only [c1d] at hm2
    rw [d8z]
    refine b0s ?_
    obtain ⟨x13, h_x13, hm2⟩ := b0h hm2
    have h_x130 := b06 h_x13
    have h_x131 := b07 h_x13
    refine b0b fun K hK => ?_
    simp only [go_sem, s3, s9, s11, b08 h_x13]
    refine hK _ _ ?_
    clear hK K
    refine b0k fun K14 hK14 => ?_
    simp only [go_sem]
    refine b0i (fun hc15 => ?_) (fun hc15 => ?_)
    ·rw [b0q hc15] at hm2
     simp only [b0r, b0e]
     refine hK14 _ _ ?_
     refine b0k fun K16 hK16 => ?_
     simp only [b0t]
     obtain ⟨c22, h_c22, hm2⟩ := b0h hm2
     refine b8m (fun t h => t 2 = I input /\ t 3 = .fs 1 (List.map b03 c) /\ t 4 = .fp (vM m) 0 /\ t 5 = .fp [I p.State, I p.Values.1, I p.Values.2] 0 /\ t 9 = I i_9 /\ t 10 = B c22 /\ t 11 = I k_11) (fun K hK => ?_) ?_
     ·simp only [go_sem, s10]
      refine b0i (fun hg23 => ?_) (fun hg23 => ?_)
      ·simp only [hg23, eq_self, if_true] at h_c22
       obtain ⟨x20, h_x20, h_c22⟩ := b0h h_c22
       have h_x200 := b06 h_x20
       have h_x201 := b07 h_x20
       obtain ⟨y21, h_y21, h_c22⟩ := b0h h_c22
       obtain rfl := sI9 h_c22
       simp only [go_sem, s2, s3, s4, s5, s9, s11, b08 h_x20, h_x201, b08 h_x13, hg23]
       refine b0z (c84 m p input x20 _ h_y21) ?_
       simp only [go_sem, h_x201, hg23]
       exact hK _ _ ⟨s2, s3, s4, s5, s9, (by first | (simp only [go_sem]; done) | rfl), s11⟩
      ·simp only [hg23, if_false, fT9] at h_c22
       obtain rfl := sI9 h_c22
       simp only [go_sem, hg23]
       exact hK _ _ ⟨s2, s3, s4, s5, s9, (by first | (simp only [go_sem]; done) | rfl), s11⟩
     ·rintro t h ⟨s2, s3, s4, s5, s9, s10, s11⟩
      simp only [b00, b0e]
      refine hK16 _ _ ?_
      refine b02 fun K hK => ?_
      simp only [go_sem, s11]
      refine hK _ _ ?_
      clear hK K
      simp only [b0e]
      obtain rfl := sI9 hm2
      refine ⟨_, rfl, ?_⟩
      exact ⟨s2, s3, s4, s5, s9, s10, (by first | (simp only [go_sem]; done) | rfl)⟩
    ·rw [b0p hc15] at hm2
     simp only [b1c, b1h, b1g, b0e]
     obtain rfl := sI9 hm2
     obtain rfl := hb11 _ rfl
     try dsimp only at hm1
     exact J9 all_10 _ _ s2 s3 s4 s5 s9 s10 hm1
  ·rw [b0p hc5] at hm1
   simp only [b1c, b1h, b1g, b0e]
   obtain rfl := sI9 hm1
   obtain rfl := hb3 _ rfl
   try dsimp only at hm0
   exact J2  _ _  hm0
theorem c8z (hf : Has O "newel/newelref04.IsPlace" x_r04_IsPlace) (b2t : b65 O) : c6n O := by
 intro m p r hm0
 unfold c1e at hm0
 refine b1l hf rfl (b0a (fM _) (b0a (.agg _ (b0a (b0d _) (b0a (b0d _) (b0a (b0d _) b0o)))) b0o)) (b0d _) ?_
 refine b1d (fun t h => t 0 = .agg (vM m) /\ t 1 = .agg [I p.State, I p.Values.1, I p.Values.2]) ⟨rfl, rfl⟩ fun t h ⟨s0, s1⟩ => ?_
 simp only [x_r04_IsPlace]
 refine b0b fun K hK => ?_
 simp only [go_sem, s0, s1]
 refine hK _ _ ?_
 clear hK K
 refine b0s ?_
 refine b0b fun K hK => ?_
 simp only [go_sem]
 refine b0z (b2t p.State 0 (wr ((List.length m.States : Int) - 1))) ?_
 simp only [go_sem]
 refine hK _ _ ?_
 clear hK K
 refine b0k fun K1 hK1 => ?_
 simp only [go_sem]
 refine b0i (fun hc2 => ?_) (fun hc2 => ?_)
 ·rw [b0q hc2] at hm0
  refine b0b fun K hK => ?_
  simp only [go_sem]
  refine hK _ _ ?_
  clear hK K
  simp only [b0u, b1i, b0v]
  obtain rfl := sI9 hm0
  exact b01 (by simp only [go_sem]) (b0d _)
 ·rw [b0p hc2] at hm0
  simp only [b0r, b0e]
  refine hK1 _ _ ?_
  refine b0s ?_
  refine b0b fun K hK => ?_
  simp only [go_sem]
  refine hK _ _ ?_
  clear hK K
  refine b0k fun K3 hK3 => ?_
  have J4 : ∀ (t : Slots) (h : Heap), c4z = some r -> K3 t h := by
   intro t h hm0
   refine hK3 _ _ ?_
   unfold c4z at hm0
   refine b0b fun K hK => ?_
   simp only [go_sem]
   refine hK _ _ ?_
   clear hK K
   simp only [b0u, b0v]
   obtain rfl := sI9 hm0
   exact b01 (by simp only [go_sem]) (b0d _)
  simp only [b0t]
  obtain ⟨b5, hl5, hm0⟩ := b0h hm0
  refine b1p hl5 (fun | i_5, t, h => t 2 = .fp (vM m) 0 /\ t 3 = .fp [I p.State, I p.Values.1, I p.Values.2] 0 /\ t 5 = I i_5) ?_ ?_
  ·exact ⟨(by first | (simp only [go_sem]; done) | rfl), (by first | (simp only [go_sem]; done) | rfl), (by first | (simp only [go_sem]; done) | rfl)⟩
  ·rintro i_5 o t h ⟨s2, s3, s5⟩ hm1 hb5
   simp only [c1f] at hm1
   rw [d80]
   refine b0s ?_
   refine b0b fun K hK => ?_
   simp only [go_sem, s5]
   refine hK _ _ ?_
   clear hK K
   refine b0k fun K6 hK6 => ?_
   simp only [go_sem]
   refine b0i (fun hc7 => ?_) (fun hc7 => ?_)
   ·rw [b0q hc7] at hm1
    simp only [b0r, b0e]
    refine hK6 _ _ ?_
    refine b0k fun K8 hK8 => ?_
    simp only [b0t]
    refine b0b fun K hK => ?_
    simp only [go_sem]
    refine hK _ _ ?_
    clear hK K
    refine b0s ?_
    refine b0b fun K hK => ?_
    simp only [go_sem, s2, s5]
    refine hK _ _ ?_
    clear hK K
    refine b0k fun K9 hK9 => ?_
    have J10 : ∀ (most_6 : Int) (t : Slots) (h : Heap), t 2 = .fp (vM m) 0 -> t 3 = .fp [I p.State, I p.Values.1, I p.Values.2] 0 -> t 5 = I i_5 -> t 6 = I most_6 -> c1g p i_5 most_6 = some o -> K9 t h := by
     intro most_6 t h s2 s3 s5 s6 hm1
     refine hK9 _ _ ?_
     unfold c1g at hm1
     obtain ⟨x12, h_x12, hm1⟩ := b0h hm1
     have ha_x12 : ∀ v : Int, List.take (1 + Int.toNat (i_5)) [I p.State, I p.Values.1, I p.Values.2] ++ [I v] ++ List.drop (1 + Int.toNat (i_5)) [I p.Values.1, I p.Values.2] = [I p.State, I (b09 (i_5) 0 v p.Values.1), I (b09 (i_5) 1 v p.Values.2)] := fun v => (b6y (cs := [I p.State, I p.Values.1, I p.Values.2]) (off := 1) (v := v) h_x12 rfl).trans (by rw [b6x h_x12]; rfl)
     have hb_x12 : 1 + Int.toNat (i_5) + 1 <= 3 := Nat.le_trans (Nat.add_le_add_left (b6d h_x12) 1) (by simp)
     refine b0b fun K hK => ?_
     simp only [go_sem, s3, s5, s6, c8f (n := 2) (l := [p.Values.1, p.Values.2]) h_x12 rfl, b7m (cs := [I p.State, I p.Values.1, I p.Values.2]) (off := 1) h_x12 rfl]
     refine b0z (b2t x12 0 most_6) ?_
     simp only [go_sem]
     refine hK _ _ ?_
     clear hK K
     simp only [go_sem]
     refine b0i (fun hc13 => ?_) (fun hc13 => ?_)
     ·rw [b0q hc13] at hm1
      refine b0b fun K hK => ?_
      simp only [go_sem]
      refine hK _ _ ?_
      clear hK K
      simp only [b0u, b1i, b13, b0v]
      obtain rfl := sI9 hm1
      obtain rfl := hb5 _ rfl
      try dsimp only at hm0
      obtain rfl := sI9 hm0
      exact b01 (by simp only [go_sem]) (b0d _)
     ·rw [b0p hc13] at hm1
      simp only [b0r, b00, b0e]
      refine hK8 _ _ ?_
      refine b02 fun K hK => ?_
      simp only [go_sem, s5]
      refine hK _ _ ?_
      clear hK K
      simp only [b0e]
      obtain rfl := sI9 hm1
      refine ⟨_, rfl, ?_⟩
      exact ⟨s2, s3, (by first | (simp only [go_sem]; done) | rfl)⟩
    simp only [go_sem]
    refine b0i (fun hc14 => ?_) (fun hc14 => ?_)
    ·rw [b0q hc14] at hm1
     obtain ⟨x16, h_x16, hm1⟩ := b0h hm1
     have h_x160 := b06 h_x16
     have h_x161 := b07 h_x16
     refine b02 fun K hK => ?_
     simp only [go_sem, s2, s5, b08 h_x16, h_x161]
     refine hK _ _ ?_
     clear hK K
     simp only [b0e]
     exact J10 x16.Max _ _ s2 s3 s5 (by first | (simp only [go_sem]; done) | rfl) hm1
    ·rw [b0p hc14] at hm1
     simp only [b0r, b0e]
     exact J10 0 _ _ s2 s3 s5 (by first | (simp only [go_sem]; done) | rfl) hm1
   ·rw [b0p hc7] at hm1
    simp only [b1c, b1h, b1g, b0e]
    obtain rfl := sI9 hm1
    obtain rfl := hb5 _ rfl
    try dsimp only at hm0
    exact J4  _ _  hm0
theorem c0r (hf : Has O "newel/newelref04.Next" x_r04_Next) (c4c : c6m O) : c2l O := by
 intro m p input r hm0
 unfold b88 at hm0
 refine b1l hf rfl (b0a (fM _) (b0a (.agg _ (b0a (b0d _) (b0a (b0d _) (b0a (b0d _) b0o)))) (b0a (b0d _) b0o))) (.agg _ (b0a (b0d _) (b0a (b0d _) (b0a (b0d _) b0o)))) ?_
 refine b1d (fun t h => t 0 = .agg (vM m) /\ t 1 = .agg [I p.State, I p.Values.1, I p.Values.2] /\ t 2 = I input) ⟨rfl, rfl, rfl⟩ fun t h ⟨s0, s1, s2⟩ => ?_
 simp only [x_r04_Next]
 refine b0b fun K hK => ?_
 simp only [go_sem, s0, s1]
 refine hK _ _ ?_
 clear hK K
 refine b0s ?_
 refine b0b fun K hK => ?_
 simp only [go_sem]
 refine hK _ _ ?_
 clear hK K
 refine b0k fun K1 hK1 => ?_
 have J2 : ∀ (i6 : Nat) (t : Slots) (h : Heap), t 4 = .fp [I p.State, I p.Values.1, I p.Values.2] 0 -> t 6 = .rp i6 0 0 -> h.ob i6 = some (3, [[I 0, I 0, I 0]]) -> i6 < h.nx -> c42 p = some r -> K1 t h := by
  intro i6 t h s4 s6 Q1 Q0 hm0
  refine hK1 _ _ ?_
  unfold c42 at hm0
  refine b0b fun K hK => ?_
  simp only [go_sem, s4, s6, Q1]
  refine hK _ _ ?_
  clear hK K
  simp only [b0u, b0v]
  obtain rfl := sI9 hm0
  exact b96 (id := i6) (m := 3) (cs := [I p.State, I p.Values.1, I p.Values.2]) (by simp only [go_sem, s6]) (by simp only [go_sem]) rfl (.refl _ (.agg _ (b0a (b0d _) (b0a (b0d _) (b0a (b0d _) b0o)))))
 simp only [b0t]
 obtain ⟨b3, hl3, hm0⟩ := b0h hm0
 refine b1p hl3 (fun | i_7, t, h => ∃ i6 : Nat, t 2 = I input /\ t 3 = .fp (vM m) 0 /\ t 4 = .fp [I p.State, I p.Values.1, I p.Values.2] 0 /\ t 6 = .rp i6 0 0 /\ t 7 = I i_7 /\ h.ob i6 = some (3, [[I 0, I 0, I 0]]) /\ i6 < h.nx) ?_ ?_
 ·exact ⟨h.nx, s2, (by first | (simp only [go_sem]; done) | rfl), (by first | (simp only [go_sem]; done) | rfl), (by first | (simp only [go_sem]; done) | rfl), (by first | (simp only [go_sem]; done) | rfl), (by simp only [go_sem]), (by simp only [go_sem])⟩
 ·rintro i_7 o t h ⟨i6, s2, s3, s4, s6, s7, Q1, Q0⟩ hm1 hb3
  simp only [c40] at hm1
  rw [d82]
  refine b0s ?_
  refine b0b fun K hK => ?_
  simp only [go_sem, s3, s7]
  refine hK _ _ ?_
  clear hK K
  refine b0k fun K4 hK4 => ?_
  simp only [go_sem]
  refine b0i (fun hc5 => ?_) (fun hc5 => ?_)
  ·rw [b0q hc5] at hm1
   simp only [b0r, b0e]
   refine hK4 _ _ ?_
   refine b0k fun K6 hK6 => ?_
   have J7 : ∀ (t : Slots) (h : Heap), t 2 = I input -> t 3 = .fp (vM m) 0 -> t 4 = .fp [I p.State, I p.Values.1, I p.Values.2] 0 -> t 6 = .rp i6 0 0 -> t 7 = I i_7 -> h.ob i6 = some (3, [[I 0, I 0, I 0]]) -> i6 < h.nx -> c43 i_7 = some o -> K6 t h := by
    intro t h s2 s3 s4 s6 s7 Q1 Q0 hm1
    refine hK6 _ _ ?_
    unfold c43 at hm1
    refine b02 fun K hK => ?_
    simp only [go_sem, s7]
    refine hK _ _ ?_
    clear hK K
    simp only [b0e]
    obtain rfl := sI9 hm1
    refine ⟨_, rfl, ?_⟩
    exact ⟨i6, s2, s3, s4, s6, (by first | (simp only [go_sem]; done) | rfl), Q1, Q0⟩
   simp only [b0t]
   obtain ⟨x9, h_x9, hm1⟩ := b0h hm1
   have h_x90 := b06 h_x9
   have h_x91 := b07 h_x9
   refine b0b fun K hK => ?_
   simp only [go_sem, s3, s7, b08 h_x9, h_x91]
   refine hK _ _ ?_
   clear hK K
   refine b0s ?_
   obtain ⟨c13, h_c13, hm1⟩ := b0h hm1
   refine b2q (fun t h => ∃ i8 : Nat, t 2 = I input /\ t 3 = .fp (vM m) 0 /\ t 4 = .fp [I p.State, I p.Values.1, I p.Values.2] 0 /\ t 6 = .rp i6 0 0 /\ t 7 = I i_7 /\ t 8 = .rp i8 0 0 /\ t 42 = B c13 /\ h.ob i6 = some (3, [[I 0, I 0, I 0]]) /\ i6 < h.nx /\ h.ob i8 = some (4, [[I x9.From, I x9.To, .fs 1 (List.map b03 x9.When), .fs 2 (List.map b2c x9.Sets)]]) /\ i8 < h.nx /\ ¬i6 = i8) (fun K hK => ?_) ?_
   ·simp only [go_sem]
    refine b0i (fun hg14 => ?_) (fun hg14 => ?_)
    ·simp only [go_sem, s4, hg14]
     refine b0i (fun hg15 => ?_) (fun hg15 => ?_)
     ·simp only [hg14, hg15, eq_self, if_true, Bool.and_true] at h_c13
      obtain rfl := sI9 h_c13
      simp only [go_sem, hg14, hg15]
      exact hK _ _ ⟨h.nx, s2, s3, s4, s6, s7, (by first | (simp only [go_sem]; done) | rfl), (by first | (simp only [go_sem]; done) | rfl), (by simp only [go_sem, Q1, Q0]), (by simp only [go_sem, Q0]), (by simp only [go_sem]), (by simp only [go_sem]), (by first | first | assumption | omega | (simp only [nxs] <;> omega))⟩
     ·simp only [hg14, hg15, if_false, Bool.and_false, fT9] at h_c13
      obtain ⟨y12, h_y12, h_c13⟩ := b0h h_c13
      obtain rfl := sI9 h_c13
      simp only [go_sem, s2, s3, s4, hg14, hg15]
      refine b0z (c4c m p input x9.When _ h_y12) ?_
      simp only [go_sem, hg14, hg15]
      exact hK _ _ ⟨h.nx, s2, s3, s4, s6, s7, (by first | (simp only [go_sem]; done) | rfl), (by first | (simp only [go_sem]; done) | rfl), (by simp only [go_sem, Q1, Q0]), (by simp only [go_sem, Q0]), (by simp only [go_sem]), (by simp only [go_sem]), (by first | first | assumption | omega | (simp only [nxs] <;> omega))⟩
    ·simp only [hg14, if_false, Bool.false_and, fT9] at h_c13
     obtain ⟨y12, h_y12, h_c13⟩ := b0h h_c13
     obtain rfl := sI9 h_c13
     simp only [go_sem, s2, s3, s4, hg14]
     refine b0z (c4c m p input x9.When _ h_y12) ?_
     simp only [go_sem, hg14]
     exact hK _ _ ⟨h.nx, s2, s3, s4, s6, s7, (by first | (simp only [go_sem]; done) | rfl), (by first | (simp only [go_sem]; done) | rfl), (by simp only [go_sem, Q1, Q0]), (by simp only [go_sem, Q0]), (by simp only [go_sem]), (by simp only [go_sem]), (by first | first | assumption | omega | (simp only [nxs] <;> omega))⟩
   ·rintro t h ⟨i8, s2, s3, s4, s6, s7, s8, s42, Q1, Q0, Q2, Q4, Q8⟩
    refine b0k fun K16 hK16 => ?_
    simp only [go_sem, s42]
    refine b0i (fun hc17 => ?_) (fun hc17 => ?_)
    ·rw [b0q hc17] at hm1
     simp only [b1c, b1h, b1g, b0e]
     exact J7  _ _ s2 s3 s4 s6 s7 Q1 Q0 hm1
    ·rw [b0p hc17] at hm1
     simp only [b0r, b0e]
     refine hK16 _ _ ?_
     refine b0b fun K hK => ?_
     simp only [go_sem, s4]
     refine hK _ _ ?_
     clear hK K
     refine b0s ?_
     refine b0b fun K hK => ?_
     simp only [go_sem]
     refine hK _ _ ?_
     clear hK K
     refine b0k fun K18 hK18 => ?_
     have J19 : ∀ (q_9_1 : Int) (q_9_2 : Int) (i9 : Nat) (t : Slots) (h : Heap), t 6 = .rp i6 0 0 -> t 8 = .rp i8 0 0 -> t 9 = .rp i9 0 0 -> h.ob i6 = some (3, [[I 0, I 0, I 0]]) -> i6 < h.nx -> h.ob i8 = some (4, [[I x9.From, I x9.To, .fs 1 (List.map b03 x9.When), .fs 2 (List.map b2c x9.Sets)]]) -> i8 < h.nx -> h.ob i9 = some (3, [[I p.State, I q_9_1, I q_9_2]]) -> i9 < h.nx -> ¬i6 = i8 -> ¬i6 = i9 -> ¬i8 = i9 -> c41 x9 q_9_1 q_9_2 = some o -> K18 t h := by
      try clear s2 s3 s4 s6 s7 s8 s42 Q1 Q0 Q2 Q4 Q8
      intro q_9_1 q_9_2 i9 t h s6 s8 s9 Q1 Q0 Q2 Q4 Q6 Q9 Q8 Qc Qd hm1
      refine hK18 _ _ ?_
      unfold c41 at hm1
      refine b0b fun K hK => ?_
      simp only [go_sem, s8, s9, Q2, Q6]
      refine hK _ _ ?_
      clear hK K
      refine b0b fun K hK => ?_
      simp only [go_sem, s6, s9, Q1, Qc]
      refine hK _ _ ?_
      clear hK K
      simp only [b0u, b1i, b13, b0v]
      obtain rfl := sI9 hm1
      obtain rfl := hb3 _ rfl
      try dsimp only at hm0
      obtain rfl := sI9 hm0
      exact b96 (id := i6) (m := 3) (cs := [I x9.To, I q_9_1, I q_9_2]) (by simp only [go_sem, s6]) (by simp only [go_sem]) rfl (.refl _ (.agg _ (b0a (b0d _) (b0a (b0d _) (b0a (b0d _) b0o)))))
     simp only [b0t]
     obtain ⟨b20, hl20, hm1⟩ := b0h hm1
     refine b1p hl20 (fun | (q_9_1, q_9_2, k_10), t, h => ∃ i9 : Nat, t 3 = .fp (vM m) 0 /\ t 6 = .rp i6 0 0 /\ t 8 = .rp i8 0 0 /\ t 9 = .rp i9 0 0 /\ t 10 = I k_10 /\ h.ob i6 = some (3, [[I 0, I 0, I 0]]) /\ i6 < h.nx /\ h.ob i8 = some (4, [[I x9.From, I x9.To, .fs 1 (List.map b03 x9.When), .fs 2 (List.map b2c x9.Sets)]]) /\ i8 < h.nx /\ h.ob i9 = some (3, [[I p.State, I q_9_1, I q_9_2]]) /\ i9 < h.nx /\ ¬i6 = i8 /\ ¬i6 = i9 /\ ¬i8 = i9) ?_ ?_
     ·exact ⟨h.nx, s3, s6, s8, (by first | (simp only [go_sem]; done) | rfl), (by first | (simp only [go_sem]; done) | rfl), (by simp only [go_sem, Q1, Q0]), (by simp only [go_sem, Q0]), (by simp only [go_sem, Q2, Q4]), (by simp only [go_sem, Q4]), (by simp only [go_sem]), (by simp only [go_sem]), Q8, (by first | first | assumption | omega | (simp only [nxs] <;> omega)), (by first | first | assumption | omega | (simp only [nxs] <;> omega))⟩
     ·try clear s2 s3 s4 s6 s7 s8 s42 Q1 Q0 Q2 Q4 Q8
      rintro ⟨q_9_1, q_9_2, k_10⟩ o t h ⟨i9, s3, s6, s8, s9, s10, Q1, Q0, Q2, Q4, Q6, Q9, Q8, Qc, Qd⟩ hm2 hb20
      simp only [c1h] at hm2
      rw [d81]
      refine b0s ?_
      refine b0b fun K hK => ?_
      simp only [go_sem, s8, s10, Q2]
      refine hK _ _ ?_
      clear hK K
      refine b0k fun K21 hK21 => ?_
      simp only [go_sem]
      refine b0i (fun hc22 => ?_) (fun hc22 => ?_)
      ·rw [b0q hc22] at hm2
       simp only [b0r, b0e]
       refine hK21 _ _ ?_
       refine b0k fun K23 hK23 => ?_
       have J24 : ∀ (q_9_1_1 : Int) (q_9_2_1 : Int) (t : Slots) (h : Heap), t 3 = .fp (vM m) 0 -> t 6 = .rp i6 0 0 -> t 8 = .rp i8 0 0 -> t 9 = .rp i9 0 0 -> t 10 = I k_10 -> h.ob i6 = some (3, [[I 0, I 0, I 0]]) -> i6 < h.nx -> h.ob i8 = some (4, [[I x9.From, I x9.To, .fs 1 (List.map b03 x9.When), .fs 2 (List.map b2c x9.Sets)]]) -> i8 < h.nx -> h.ob i9 = some (3, [[I p.State, I q_9_1_1, I q_9_2_1]]) -> i9 < h.nx -> ¬i6 = i8 -> ¬i6 = i9 -> ¬i8 = i9 -> b7u k_10 q_9_1_1 q_9_2_1 = some o -> K23 t h := by
        try clear s3 s6 s8 s9 s10 Q1 Q0 Q2 Q4 Q6 Q9 Q8 Qc Qd
        intro q_9_1_1 q_9_2_1 t h s3 s6 s8 s9 s10 Q1 Q0 Q2 Q4 Q6 Q9 Q8 Qc Qd hm2
        refine hK23 _ _ ?_
        unfold b7u at hm2
        refine b02 fun K hK => ?_
        simp only [go_sem, s10]
        refine hK _ _ ?_
        clear hK K
        simp only [b0e]
        obtain rfl := sI9 hm2
        refine ⟨_, rfl, ?_⟩
        exact ⟨i9, s3, s6, s8, s9, (by first | (simp only [go_sem]; done) | rfl), Q1, Q0, Q2, Q4, Q6, Q9, Q8, Qc, Qd⟩
       simp only [b0t]
       obtain ⟨x26, h_x26, hm2⟩ := b0h hm2
       have h_x260 := b06 h_x26
       have h_x261 := b07 h_x26
       refine b0b fun K hK => ?_
       simp only [go_sem, s8, s10, Q2, b08 h_x26, h_x261]
       refine hK _ _ ?_
       clear hK K
       refine b0b fun K hK => ?_
       simp only [go_sem, s8, s10, Q2, b08 h_x26]
       refine hK _ _ ?_
       clear hK K
       simp only [b0t]
       refine b0b fun K hK => ?_
       simp only [go_sem]
       refine hK _ _ ?_
       clear hK K
       simp only [go_sem]
       refine b0i (fun hc27 => ?_) (fun hc27 => ?_)
       ·rw [b0q hc27] at hm2
        obtain ⟨x29, h_x29, hm2⟩ := b0h hm2
        have ha_x29 : ∀ v : Int, List.take (1 + Int.toNat (x26.Counter)) [I p.State, I q_9_1, I q_9_2] ++ [I v] ++ List.drop (1 + Int.toNat (x26.Counter)) [I q_9_1, I q_9_2] = [I p.State, I (b09 (x26.Counter) 0 v q_9_1), I (b09 (x26.Counter) 1 v q_9_2)] := fun v => (b6y (cs := [I p.State, I q_9_1, I q_9_2]) (off := 1) (v := v) h_x29 rfl).trans (by rw [b6x h_x29]; rfl)
        have hb_x29 : 1 + Int.toNat (x26.Counter) + 1 <= 3 := Nat.le_trans (Nat.add_le_add_left (b6d h_x29) 1) (by simp)
        refine b02 fun K hK => ?_
        simp only [go_sem, s9, Q6, c32 (n := 2) (l := [q_9_1, q_9_2]) h_x29 rfl, ha_x29, hb_x29]
        refine hK _ _ ?_
        clear hK K
        simp only [b00, b0e]
        exact J24 (b09 x26.Counter 0 0 q_9_1) (b09 x26.Counter 1 0 q_9_2) _ _ s3 s6 s8 s9 s10 (by simp only [go_sem, Q1, Qc]) (by simp only [go_sem, Q0]) (by simp only [go_sem, Q2, Qd]) (by simp only [go_sem, Q4]) (by simp only [go_sem]) (by simp only [go_sem, Q9]) Q8 Qc Qd hm2
       ·rw [b0p hc27] at hm2
        refine b0b fun K hK => ?_
        simp only [go_sem]
        refine hK _ _ ?_
        clear hK K
        simp only [go_sem]
        refine b0i (fun hc30 => ?_) (fun hc30 => ?_)
        ·rw [b0q hc30] at hm2
         obtain ⟨x33, h_x33, hm2⟩ := b0h hm2
         have ha_x33 : ∀ v : Int, List.take (1 + Int.toNat (x26.Counter)) [I p.State, I q_9_1, I q_9_2] ++ [I v] ++ List.drop (1 + Int.toNat (x26.Counter)) [I q_9_1, I q_9_2] = [I p.State, I (b09 (x26.Counter) 0 v q_9_1), I (b09 (x26.Counter) 1 v q_9_2)] := fun v => (b6y (cs := [I p.State, I q_9_1, I q_9_2]) (off := 1) (v := v) h_x33 rfl).trans (by rw [b6x h_x33]; rfl)
         have hb_x33 : 1 + Int.toNat (x26.Counter) + 1 <= 3 := Nat.le_trans (Nat.add_le_add_left (b6d h_x33) 1) (by simp)
         obtain ⟨x34, h_x34, hm2⟩ := b0h hm2
         have h_x340 := b06 h_x34
         have h_x341 := b07 h_x34
         refine b02 fun K hK => ?_
         simp only [go_sem, s3, s9, Q6, c32 (n := 2) (l := [q_9_1, q_9_2]) h_x33 rfl, b7m (cs := [I p.State, I q_9_1, I q_9_2]) (off := 1) h_x33 rfl, ha_x33, hb_x33, b08 h_x34]
         refine hK _ _ ?_
         clear hK K
         simp only [b00, b0e]
         exact J24 (b09 x26.Counter 0 (mn (wr (x33 + 1)) x34.Max) q_9_1) (b09 x26.Counter 1 (mn (wr (x33 + 1)) x34.Max) q_9_2) _ _ s3 s6 s8 s9 s10 (by simp only [go_sem, Q1, Qc]) (by simp only [go_sem, Q0]) (by simp only [go_sem, Q2, Qd]) (by simp only [go_sem, Q4]) (by simp only [go_sem]) (by simp only [go_sem, Q9]) Q8 Qc Qd hm2
        ·rw [b0p hc30] at hm2
         refine b0b fun K hK => ?_
         simp only [go_sem]
         refine hK _ _ ?_
         clear hK K
         simp only [go_sem]
         refine b0i (fun hc35 => ?_) (fun hc35 => ?_)
         ·rw [b0q hc35] at hm2
          obtain ⟨x37, h_x37, hm2⟩ := b0h hm2
          have ha_x37 : ∀ v : Int, List.take (1 + Int.toNat (x26.Counter)) [I p.State, I q_9_1, I q_9_2] ++ [I v] ++ List.drop (1 + Int.toNat (x26.Counter)) [I q_9_1, I q_9_2] = [I p.State, I (b09 (x26.Counter) 0 v q_9_1), I (b09 (x26.Counter) 1 v q_9_2)] := fun v => (b6y (cs := [I p.State, I q_9_1, I q_9_2]) (off := 1) (v := v) h_x37 rfl).trans (by rw [b6x h_x37]; rfl)
          have hb_x37 : 1 + Int.toNat (x26.Counter) + 1 <= 3 := Nat.le_trans (Nat.add_le_add_left (b6d h_x37) 1) (by simp)
          refine b02 fun K hK => ?_
          simp only [go_sem, s9, Q6, c32 (n := 2) (l := [q_9_1, q_9_2]) h_x37 rfl, b7m (cs := [I p.State, I q_9_1, I q_9_2]) (off := 1) h_x37 rfl, ha_x37, hb_x37]
          refine hK _ _ ?_
          clear hK K
          simp only [b00, b0e]
          exact J24 (b09 x26.Counter 0 (mx (wr (x37 - 1)) 0) q_9_1) (b09 x26.Counter 1 (mx (wr (x37 - 1)) 0) q_9_2) _ _ s3 s6 s8 s9 s10 (by simp only [go_sem, Q1, Qc]) (by simp only [go_sem, Q0]) (by simp only [go_sem, Q2, Qd]) (by simp only [go_sem, Q4]) (by simp only [go_sem]) (by simp only [go_sem, Q9]) Q8 Qc Qd hm2
         ·rw [b0p hc35] at hm2
          simp only [b0r, b00, b0e]
          exact J24 q_9_1 q_9_2 _ _ s3 s6 s8 s9 s10 Q1 Q0 Q2 Q4 Q6 Q9 Q8 Qc Qd hm2
      ·rw [b0p hc22] at hm2
       simp only [b1c, b1h, b1g, b0e]
       obtain rfl := sI9 hm2
       obtain rfl := hb20 _ rfl
       try dsimp only at hm1
       exact J19 q_9_1 q_9_2 i9 _ _ s6 s8 s9 Q1 Q0 Q2 Q4 Q6 Q9 Q8 Qc Qd hm1
  ·rw [b0p hc5] at hm1
   simp only [b1c, b1h, b1g, b0e]
   obtain rfl := sI9 hm1
   obtain rfl := hb3 _ rfl
   try dsimp only at hm0
   exact J2 i6 _ _ s4 s6 Q1 Q0 hm0
theorem c80 (hf : Has O "newel/newelref04.Run" x_r04_Run) (c0q : c2k O) (c0s : c2m O) (b2t : b65 O) (c0r : c2l O) : c6o O := by
 intro m inputs r hm0
 unfold c1i at hm0
 refine b1l hf rfl (b0a (fM _) (b0a (b0f fun a _ => c77 a) b0o)) (.tup _ (b0a (b0f fun a _ => b8u a) (b0a (b0d _) b0o))) ?_
 refine b1d (fun t h => t 0 = .agg (vM m) /\ t 1 = .fs 1 (List.map eI inputs)) ⟨rfl, rfl⟩ fun t h ⟨s0, s1⟩ => ?_
 simp only [x_r04_Run]
 refine b0b fun K hK => ?_
 simp only [go_sem, s0]
 refine hK _ _ ?_
 clear hK K
 obtain ⟨y2, h_y2, hm0⟩ := b0h hm0
 refine b0b fun K hK => ?_
 simp only [go_sem]
 refine b0z (c0q m _ h_y2) ?_
 simp only [go_sem]
 refine hK _ _ ?_
 clear hK K
 refine b0s ?_
 refine b0b fun K hK => ?_
 simp only [go_sem]
 refine hK _ _ ?_
 clear hK K
 refine b0k fun K3 hK3 => ?_
 simp only [go_sem]
 refine b0i (fun hc4 => ?_) (fun hc4 => ?_)
 ·rw [b0q hc4] at hm0
  refine b0b fun K hK => ?_
  simp only [go_sem]
  refine hK _ _ ?_
  clear hK K
  simp only [b0u, b1i, b0v]
  obtain rfl := sI9 hm0
  exact b52 (v := .v (.slice none 0 0)) (u := I y2) (by simp only [go_sem]) (by simp only [go_sem]) (.nil _) (.refl _ (b0d _))
 ·rw [b0p hc4] at hm0
  simp only [b0r, b0e]
  refine hK3 _ _ ?_
  refine b0s ?_
  refine b0b fun K hK => ?_
  simp only [go_sem, s1]
  refine hK _ _ ?_
  clear hK K
  refine b0k fun K5 hK5 => ?_
  simp only [go_sem]
  refine b0i (fun hc6 => ?_) (fun hc6 => ?_)
  ·rw [b0q hc6] at hm0
   refine b0b fun K hK => ?_
   simp only [go_sem]
   refine hK _ _ ?_
   clear hK K
   simp only [b0u, b1i, b0v]
   obtain rfl := sI9 hm0
   exact b52 (v := .v (.slice none 0 0)) (u := I 2) (by simp only [go_sem]) (by simp only [go_sem]) (.nil _) (.refl _ (b0d _))
  ·rw [b0p hc6] at hm0
   simp only [b0r, b0e]
   refine hK5 _ _ ?_
   refine b0s ?_
   refine b0b fun K hK => ?_
   simp only [go_sem]
   refine hK _ _ ?_
   clear hK K
   refine b0k fun K7 hK7 => ?_
   have J8 : ∀ (t : Slots) (h : Heap), t 1 = .fs 1 (List.map eI inputs) -> t 2 = .fp (vM m) 0 -> c45 m inputs = some r -> K7 t h := by
    intro t h s1 s2 hm0
    refine hK7 _ _ ?_
    unfold c45 at hm0
    refine b0b fun K hK => ?_
    simp only [go_sem]
    refine hK _ _ ?_
    clear hK K
    refine b0b fun K hK => ?_
    simp only [go_sem]
    refine hK _ _ ?_
    clear hK K
    refine b0s ?_
    refine b0b fun K hK => ?_
    simp only [go_sem]
    refine hK _ _ ?_
    clear hK K
    refine b0k fun K9 hK9 => ?_
    have J10 : ∀ (out_8 : List Place) (v8 : AV) (t : Slots) (h : Heap), t 8 = v8 -> b2v h v8 3 (List.map b2w out_8) -> c44 out_8 = some r -> K9 t h := by
     intro out_8 v8 t h s8 Ql hm0
     refine hK9 _ _ ?_
     unfold c44 at hm0
     refine b0b fun K hK => ?_
     simp only [go_sem, s8, b5k v8]
     refine hK _ _ ?_
     clear hK K
     simp only [b0u, b0v]
     obtain rfl := sI9 hm0
     exact b52 (v := v8) (u := I 0) (by simp only [go_sem]) (by simp only [go_sem]) (c0h (f := b2w) (l := out_8) (b44 Ql (by intro j hj hl; first | rfl | simp only [go_sem, hl]) (by first | omega | exact Nat.le_refl _ | (simp only [go_sem, nxs] <;> omega))) b8u d58) (.refl _ (b0d _))
    simp only [b0t]
    obtain ⟨b11, hl11, hm0⟩ := b0h hm0
    refine b1p hl11 (fun | (out_8, p_9_0, p_9_1, p_9_2, i_10), t, h => ∃ v8 : AV, ∃ i9 : Nat, t 1 = .fs 1 (List.map eI inputs) /\ t 2 = .fp (vM m) 0 /\ t 8 = v8 /\ t 9 = .rp i9 0 0 /\ t 10 = I i_10 /\ b2v h v8 3 (List.map b2w out_8) /\ h.ob i9 = some (3, [[I p_9_0, I p_9_1, I p_9_2]]) /\ i9 < h.nx /\ b1y v8 i9) ?_ ?_
    ·exact ⟨(.v (.slice none 0 0)), h.nx, s1, s2, (by first | (simp only [go_sem]; done) | rfl), (by first | (simp only [go_sem]; done) | rfl), (by first | (simp only [go_sem]; done) | rfl), c01, (by simp only [go_sem]), (by simp only [go_sem]), (by first | exact b2g | exact b2h (by first | assumption | omega | (simp only [nxs] <;> omega)) | assumption | exact b2e (by assumption) (by first | assumption | omega | (simp only [nxs] <;> omega)))⟩
    ·rintro ⟨out_8, p_9_0, p_9_1, p_9_2, i_10⟩ o t h ⟨v8, i9, s1, s2, s8, s9, s10, Ql, Q6, Q9, Qj⟩ hm1 hb11
     simp only [c1k] at hm1
     rw [d84]
     refine b0s ?_
     refine b0b fun K hK => ?_
     simp only [go_sem, s1, s10]
     refine hK _ _ ?_
     clear hK K
     refine b0k fun K12 hK12 => ?_
     simp only [go_sem]
     refine b0i (fun hc13 => ?_) (fun hc13 => ?_)
     ·rw [b0q hc13] at hm1
      simp only [b0r, b0e]
      refine hK12 _ _ ?_
      refine b0k fun K14 hK14 => ?_
      simp only [b0t]
      obtain ⟨x17, h_x17, hm1⟩ := b0h hm1
      have h_x170 := b06 h_x17
      have h_x171 := b07 h_x17
      obtain ⟨y18, h_y18, hm1⟩ := b0h hm1
      refine b0b fun K hK => ?_
      simp only [go_sem, s1, s2, s9, s10, Q6, b08 h_x17, h_x171]
      refine b0z (c0r m (Place.mk p_9_0 (p_9_1, p_9_2)) x17 _ h_y18) ?_
      simp only [go_sem, s9, Q6]
      refine hK _ _ ?_
      clear hK K
      obtain ⟨l20, h_l20, hm1⟩ := b0h hm1
      refine b02 fun K hK => ?_
      simp only [go_sem, s8, s9, b5k v8]
      refine b3j (f := b2w) (l := out_8) (m := ([(Place.mk y18.State (y18.Values.1, y18.Values.2))])) ?_ ?_ ?_ ?_ h_l20 ?_
      ·exact (b44 Ql (by intro j hj hl; first | rfl | simp only [go_sem, hl, c96 hj Qj]) (by first | omega | exact Nat.le_refl _ | (simp only [go_sem, nxs] <;> omega)))
      ·exact (b5p (by simp only [go_sem]) (by simp only [go_sem]))
      ·exact (b5o (by first | exact b2g | exact b2h (by first | omega | (simp only [nxs] <;> omega)) | assumption | exact b2e (by assumption) (by first | omega | (simp only [go_sem, nxs] <;> omega))))
      ·exact (fun _ => by simp)
      simp only [go_sem]
      refine hK _ _ ?_
      clear hK K
      simp only [b00, b0e]
      refine hK14 _ _ ?_
      refine b02 fun K hK => ?_
      simp only [go_sem, s10]
      refine hK _ _ ?_
      clear hK K
      simp only [b0e]
      obtain rfl := sI9 hm1
      refine ⟨_, rfl, ?_⟩
      exact ⟨(.rs (nxs h.nx) 0 (List.length l20)), i9, s1, s2, (by first | (simp only [go_sem]; done) | rfl), s9, (by first | (simp only [go_sem]; done) | rfl), (b3f (by simp only [go_sem, b7q Ql]) (by first | rfl | simp only [go_sem]) (by simp only [go_sem])), (by simp only [go_sem, Q9, Qj]), (by simp only [go_sem, Q9]), (by first | exact b2g | exact b2h (by first | assumption | omega | (simp only [nxs] <;> omega)) | assumption | exact b2e (by assumption) (by first | assumption | omega | (simp only [nxs] <;> omega)))⟩
     ·rw [b0p hc13] at hm1
      simp only [b1c, b1h, b1g, b0e]
      obtain rfl := sI9 hm1
      obtain rfl := hb11 _ rfl
      try dsimp only at hm0
      exact J10 out_8 v8 _ _ s8 Ql hm0
   simp only [b0t]
   obtain ⟨b22, hl22, hm0⟩ := b0h hm0
   refine b1p hl22 (fun | i_7, t, h => t 1 = .fs 1 (List.map eI inputs) /\ t 2 = .fp (vM m) 0 /\ t 7 = I i_7) ?_ ?_
   ·exact ⟨s1, (by first | (simp only [go_sem]; done) | rfl), (by first | (simp only [go_sem]; done) | rfl)⟩
   ·rintro i_7 o t h ⟨s1, s2, s7⟩ hm1 hb22
    simp only [c1j] at hm1
    rw [d83]
    refine b0s ?_
    refine b0b fun K hK => ?_
    simp only [go_sem, s1, s7]
    refine hK _ _ ?_
    clear hK K
    refine b0k fun K23 hK23 => ?_
    simp only [go_sem]
    refine b0i (fun hc24 => ?_) (fun hc24 => ?_)
    ·rw [b0q hc24] at hm1
     simp only [b0r, b0e]
     refine hK23 _ _ ?_
     refine b0k fun K25 hK25 => ?_
     simp only [b0t]
     obtain ⟨x28, h_x28, hm1⟩ := b0h hm1
     have h_x280 := b06 h_x28
     have h_x281 := b07 h_x28
     obtain ⟨y29, h_y29, hm1⟩ := b0h hm1
     refine b0b fun K hK => ?_
     simp only [go_sem, s1, s2, s7, b08 h_x28, h_x281]
     refine b0z (c0s m _ h_y29) ?_
     simp only [go_sem]
     refine b0z (b2t x28 0 (wr (y29 - 1))) ?_
     simp only [go_sem]
     refine hK _ _ ?_
     clear hK K
     simp only [go_sem]
     refine b0i (fun hc30 => ?_) (fun hc30 => ?_)
     ·rw [b0q hc30] at hm1
      refine b0b fun K hK => ?_
      simp only [go_sem]
      refine hK _ _ ?_
      clear hK K
      simp only [b0u, b1i, b13, b0v]
      obtain rfl := sI9 hm1
      obtain rfl := hb22 _ rfl
      try dsimp only at hm0
      obtain rfl := sI9 hm0
      exact b52 (v := .v (.slice none 0 0)) (u := I 1) (by simp only [go_sem]) (by simp only [go_sem]) (.nil _) (.refl _ (b0d _))
     ·rw [b0p hc30] at hm1
      simp only [b0r, b00, b0e]
      refine hK25 _ _ ?_
      refine b02 fun K hK => ?_
      simp only [go_sem, s7]
      refine hK _ _ ?_
      clear hK K
      simp only [b0e]
      obtain rfl := sI9 hm1
      refine ⟨_, rfl, ?_⟩
      exact ⟨s1, s2, (by first | (simp only [go_sem]; done) | rfl)⟩
    ·rw [b0p hc24] at hm1
     simp only [b1c, b1h, b1g, b0e]
     obtain rfl := sI9 hm1
     obtain rfl := hb22 _ rfl
     try dsimp only at hm0
     exact J8  _ _ s1 s2 hm0
theorem c81 (hf : Has O "newel/newelref04.Step" x_r04_Step) (c0q : c2k O) (c8z : c6n O) (c0s : c2m O) (b2t : b65 O) (c0r : c2l O) : c6p O := by
 intro m p input r hm0
 unfold c1l at hm0
 refine b1l hf rfl (b0a (fM _) (b0a (.agg _ (b0a (b0d _) (b0a (b0d _) (b0a (b0d _) b0o)))) (b0a (b0d _) b0o))) (.tup _ (b0a (.agg _ (b0a (b0d _) (b0a (b0d _) (b0a (b0d _) b0o)))) (b0a (b0d _) b0o))) ?_
 refine b1d (fun t h => t 0 = .agg (vM m) /\ t 1 = .agg [I p.State, I p.Values.1, I p.Values.2] /\ t 2 = I input) ⟨rfl, rfl, rfl⟩ fun t h ⟨s0, s1, s2⟩ => ?_
 simp only [x_r04_Step]
 refine b0b fun K hK => ?_
 simp only [go_sem, s0, s1]
 refine hK _ _ ?_
 clear hK K
 obtain ⟨y2, h_y2, hm0⟩ := b0h hm0
 refine b0b fun K hK => ?_
 simp only [go_sem]
 refine b0z (c0q m _ h_y2) ?_
 simp only [go_sem]
 refine hK _ _ ?_
 clear hK K
 refine b0s ?_
 refine b0b fun K hK => ?_
 simp only [go_sem]
 refine hK _ _ ?_
 clear hK K
 refine b0k fun K3 hK3 => ?_
 simp only [go_sem]
 refine b0i (fun hc4 => ?_) (fun hc4 => ?_)
 ·rw [b0q hc4] at hm0
  refine b0b fun K hK => ?_
  simp only [go_sem]
  refine hK _ _ ?_
  clear hK K
  simp only [b0u, b1i, b0v]
  obtain rfl := sI9 hm0
  exact b8o (id := h.nx) (m := 3) (cs := [I 0, I 0, I 0]) (u := I y2) (by simp only [go_sem]) (by simp only [go_sem]) rfl (by simp only [go_sem]) (.refl _ (.agg _ (b0a (b0d _) (b0a (b0d _) (b0a (b0d _) b0o))))) (.refl _ (b0d _))
 ·rw [b0p hc4] at hm0
  simp only [b0r, b0e]
  refine hK3 _ _ ?_
  refine b0s ?_
  obtain ⟨y8, h_y8, hm0⟩ := b0h hm0
  obtain ⟨c10, h_c10, hm0⟩ := b0h hm0
  refine b2q (fun t h => ∃ i6 : Nat, t 2 = I input /\ t 3 = .fp (vM m) 0 /\ t 4 = .fp [I p.State, I p.Values.1, I p.Values.2] 0 /\ t 6 = .rp i6 0 0 /\ t 26 = B c10 /\ h.ob i6 = some (3, [[I 0, I 0, I 0]]) /\ i6 < h.nx) (fun K hK => ?_) ?_
  ·simp only [go_sem]
   refine b0z (c8z m p _ h_y8) ?_
   simp only [go_sem]
   refine b0i (fun hg11 => ?_) (fun hg11 => ?_)
   ·simp only [hg11, eq_self, if_true] at h_c10
    obtain rfl := sI9 h_c10
    simp only [go_sem, hg11]
    exact hK _ _ ⟨h.nx, s2, (by first | (simp only [go_sem]; done) | rfl), (by first | (simp only [go_sem]; done) | rfl), (by first | (simp only [go_sem]; done) | rfl), (by first | (simp only [go_sem]; done) | rfl), (by simp only [go_sem]), (by simp only [go_sem])⟩
   ·simp only [hg11, if_false, fT9] at h_c10
    obtain ⟨y9, h_y9, h_c10⟩ := b0h h_c10
    obtain rfl := sI9 h_c10
    simp only [go_sem, s2, hg11]
    refine b0z (c0s m _ h_y9) ?_
    simp only [go_sem, hg11]
    refine b0z (b2t input 0 (wr (y9 - 1))) ?_
    simp only [go_sem, hg11]
    exact hK _ _ ⟨h.nx, s2, (by first | (simp only [go_sem]; done) | rfl), (by first | (simp only [go_sem]; done) | rfl), (by first | (simp only [go_sem]; done) | rfl), (by first | (simp only [go_sem]; done) | rfl), (by simp only [go_sem]), (by simp only [go_sem])⟩
  ·rintro t h ⟨i6, s2, s3, s4, s6, s26, Q1, Q0⟩
   refine b0k fun K12 hK12 => ?_
   simp only [go_sem, s26]
   refine b0i (fun hc13 => ?_) (fun hc13 => ?_)
   ·rw [b0q hc13] at hm0
    refine b0b fun K hK => ?_
    simp only [go_sem, s6, Q1]
    refine hK _ _ ?_
    clear hK K
    simp only [b0u, b1i, b0v]
    obtain rfl := sI9 hm0
    exact b8o (id := i6) (m := 3) (cs := [I 0, I 0, I 0]) (u := I 1) (by simp only [go_sem, s6]) (by simp only [go_sem]) rfl (by simp only [go_sem]) (.refl _ (.agg _ (b0a (b0d _) (b0a (b0d _) (b0a (b0d _) b0o))))) (.refl _ (b0d _))
   ·rw [b0p hc13] at hm0
    simp only [b0r, b0e]
    refine hK12 _ _ ?_
    obtain ⟨y15, h_y15, hm0⟩ := b0h hm0
    refine b0b fun K hK => ?_
    simp only [go_sem, s2, s3, s4]
    refine b0z (c0r m p input _ h_y15) ?_
    simp only [go_sem, s6, Q1]
    refine hK _ _ ?_
    clear hK K
    simp only [b0u, b0v]
    obtain rfl := sI9 hm0
    exact b8o (id := i6) (m := 3) (cs := [I y15.State, I y15.Values.1, I y15.Values.2]) (u := I 0) (by simp only [go_sem, s6]) (by simp only [go_sem]) rfl (by simp only [go_sem]) (.refl _ (.agg _ (b0a (b0d _) (b0a (b0d _) (b0a (b0d _) b0o))))) (.refl _ (b0d _))
theorem c82 (hf : Has O "newel/newelref04.Word" x_r04_Word) : c6q O := by
 intro s r hm0
 unfold b89 at hm0
 refine b1l hf rfl (b0a (b0d _) b0o) (b0d _) ?_
 refine b1d (fun t h => t 0 = .v (.string s)) rfl fun t h s0 => ?_
 simp only [x_r04_Word]
 refine b0b fun K hK => ?_
 simp only [go_sem]
 refine hK _ _ ?_
 clear hK K
 refine b0s ?_
 refine b0b fun K hK => ?_
 simp only [go_sem]
 refine hK _ _ ?_
 clear hK K
 refine b0k fun K1 hK1 => ?_
 have J2 : ∀ (t : Slots) (h : Heap), t 0 = .v (.string s) -> c46 s = some r -> K1 t h := by
  intro t h s0 hm0
  refine hK1 _ _ ?_
  unfold c46 at hm0
  refine b0s ?_
  refine b0b fun K hK => ?_
  simp only [go_sem]
  refine hK _ _ ?_
  clear hK K
  refine b0k fun K3 hK3 => ?_
  have J4 : ∀ (t : Slots) (h : Heap), t 0 = .v (.string s) -> d0d s = some r -> K3 t h := by
   intro t h s0 hm0
   refine hK3 _ _ ?_
   unfold d0d at hm0
   refine b0b fun K hK => ?_
   simp only [go_sem, s0]
   refine hK _ _ ?_
   clear hK K
   simp only [b0u, b0v]
   obtain rfl := sI9 hm0
   exact b01 (by simp only [go_sem]) (b0d _)
  simp only [b0t]
  obtain ⟨b5, hl5, hm0⟩ := b0h hm0
  refine b1p hl5 (fun | i_4, t, h => t 0 = .v (.string s) /\ t 4 = I i_4) ?_ ?_
  ·exact ⟨s0, (by first | (simp only [go_sem]; done) | rfl)⟩
  ·rintro i_4 o t h ⟨s0, s4⟩ hm1 hb5
   simp only [c1m] at hm1
   rw [d85]
   refine b0s ?_
   refine b0b fun K hK => ?_
   simp only [go_sem, s0, s4]
   refine hK _ _ ?_
   clear hK K
   refine b0k fun K6 hK6 => ?_
   simp only [go_sem]
   refine b0i (fun hc7 => ?_) (fun hc7 => ?_)
   ·rw [b0q hc7] at hm1
    simp only [b0r, b0e]
    refine hK6 _ _ ?_
    refine b0k fun K8 hK8 => ?_
    simp only [b0t]
    obtain ⟨x10, h_x10, hm1⟩ := b0h hm1
    refine b2q (fun t h => t 0 = .v (.string s) /\ t 4 = I i_4 /\ t 32 = B ((decide (x10 < 97)) || (decide (122 < x10)))) (fun K hK => ?_) ?_
    ·simp only [go_sem, s0, s4, d4z h_x10]
     refine b0i (fun hg11 => ?_) (fun hg11 => ?_)
     ·simp only [go_sem, hg11]
      exact hK _ _ ⟨s0, s4, (by first | (simp only [go_sem, hg11]; done) | rfl)⟩
     ·simp only [go_sem, s0, s4, d4z h_x10, hg11]
      exact hK _ _ ⟨s0, s4, (by first | (simp only [go_sem, hg11]; done) | rfl)⟩
    ·rintro t h ⟨s0, s4, s32⟩
     simp only [go_sem, s32]
     refine b0i (fun hc12 => ?_) (fun hc12 => ?_)
     ·rw [b0q hc12] at hm1
      refine b0b fun K hK => ?_
      simp only [go_sem]
      refine hK _ _ ?_
      clear hK K
      simp only [b0u, b1i, b13, b0v]
      obtain rfl := sI9 hm1
      obtain rfl := hb5 _ rfl
      try dsimp only at hm0
      obtain rfl := sI9 hm0
      exact b01 (by simp only [go_sem]) (b0d _)
     ·rw [b0p hc12] at hm1
      simp only [b0r, b00, b0e]
      refine hK8 _ _ ?_
      refine b02 fun K hK => ?_
      simp only [go_sem, s4]
      refine hK _ _ ?_
      clear hK K
      simp only [b0e]
      obtain rfl := sI9 hm1
      refine ⟨_, rfl, ?_⟩
      exact ⟨s0, (by first | (simp only [go_sem]; done) | rfl)⟩
   ·rw [b0p hc7] at hm1
    simp only [b1c, b1h, b1g, b0e]
    obtain rfl := sI9 hm1
    obtain rfl := hb5 _ rfl
    try dsimp only at hm0
    exact J4  _ _ s0 hm0
 simp only [b0t]
 obtain ⟨b14, hl14, hm0⟩ := b0h hm0
 refine b1p hl14 (fun | i_3, t, h => t 0 = .v (.string s) /\ t 3 = I i_3) ?_ ?_
 ·exact ⟨s0, (by first | (simp only [go_sem]; done) | rfl)⟩
 ·rintro i_3 o t h ⟨s0, s3⟩ hm1 hb14
  simp only [c1n] at hm1
  rw [d86]
  refine b0s ?_
  refine b0b fun K hK => ?_
  simp only [go_sem, s3]
  refine hK _ _ ?_
  clear hK K
  refine b0k fun K15 hK15 => ?_
  simp only [go_sem]
  refine b0i (fun hc16 => ?_) (fun hc16 => ?_)
  ·rw [b0q hc16] at hm1
   simp only [b0r, b0e]
   refine hK15 _ _ ?_
   refine b0k fun K17 hK17 => ?_
   simp only [b0t]
   obtain ⟨x19, h_x19, hm1⟩ := b0h hm1
   have h_x190 := b06 h_x19
   have h_x191 := b07 h_x19
   refine b0b fun K hK => ?_
   simp only [go_sem, s0, s3, b08 h_x19, h_x191]
   refine hK _ _ ?_
   clear hK K
   simp only [go_sem]
   refine b0i (fun hc20 => ?_) (fun hc20 => ?_)
   ·rw [b0q hc20] at hm1
    refine b0b fun K hK => ?_
    simp only [go_sem]
    refine hK _ _ ?_
    clear hK K
    simp only [b0u, b1i, b13, b0v]
    obtain rfl := sI9 hm1
    obtain rfl := hb14 _ rfl
    try dsimp only at hm0
    obtain rfl := sI9 hm0
    exact b01 (by simp only [go_sem]) (b0d _)
   ·rw [b0p hc20] at hm1
    simp only [b0r, b00, b0e]
    refine hK17 _ _ ?_
    refine b02 fun K hK => ?_
    simp only [go_sem, s3]
    refine hK _ _ ?_
    clear hK K
    simp only [b0e]
    obtain rfl := sI9 hm1
    refine ⟨_, rfl, ?_⟩
    exact ⟨s0, (by first | (simp only [go_sem]; done) | rfl)⟩
  ·rw [b0p hc16] at hm1
   simp only [b1c, b1h, b1g, b0e]
   obtain rfl := sI9 hm1
   obtain rfl := hb14 _ rfl
   try dsimp only at hm0
   exact J2  _ _ s0 hm0
theorem c0s (hf : Has O "newel/newelref04.all" x_r04_all) : c2m O := by
 intro m r hm0
 unfold b9a at hm0
 refine b1l hf rfl (b0a (fM _) b0o) (b0d _) ?_
 refine b1d (fun t h => t 0 = .agg (vM m)) rfl fun t h s0 => ?_
 simp only [x_r04_all]
 refine b0b fun K hK => ?_
 simp only [go_sem, s0]
 refine hK _ _ ?_
 clear hK K
 obtain ⟨q2, h_q2, hm0⟩ := b0h hm0
 refine b0b fun K hK => ?_
 simp only [go_sem, c3y h_q2]
 refine hK _ _ ?_
 clear hK K
 simp only [b0u, b0v]
 obtain rfl := sI9 hm0
 exact b01 (by simp only [go_sem]) (b0d _)
theorem c83 (hf : Has O "newel/newelref04.condition" x_r04_condition) (b2t : b65 O) : c6r O := by
 intro m c inside r hm0
 unfold c1o at hm0
 refine b1l hf rfl (b0a (fM _) (b0a (b0f fun a _ => b4g a) (b0a (b0d _) b0o))) (b0d _) ?_
 refine b1d (fun t h => t 0 = .agg (vM m) /\ t 1 = .fs 1 (List.map b03 c) /\ t 2 = B inside) ⟨rfl, rfl, rfl⟩ fun t h ⟨s0, s1, s2⟩ => ?_
 simp only [x_r04_condition]
 refine b0b fun K hK => ?_
 simp only [go_sem, s0]
 refine hK _ _ ?_
 clear hK K
 refine b0s ?_
 refine b0b fun K hK => ?_
 simp only [go_sem, s1]
 refine hK _ _ ?_
 clear hK K
 refine b0k fun K1 hK1 => ?_
 simp only [go_sem]
 refine b0i (fun hc2 => ?_) (fun hc2 => ?_)
 ·rw [b0q hc2] at hm0
  refine b0b fun K hK => ?_
  simp only [go_sem]
  refine hK _ _ ?_
  clear hK K
  simp only [b0u, b1i, b0v]
  obtain rfl := sI9 hm0
  exact b01 (by simp only [go_sem]) (b0d _)
 ·rw [b0p hc2] at hm0
  simp only [b0r, b0e]
  refine hK1 _ _ ?_
  refine b0s ?_
  refine b0b fun K hK => ?_
  simp only [go_sem]
  refine hK _ _ ?_
  clear hK K
  refine b0k fun K3 hK3 => ?_
  have J4 : ∀ (t : Slots) (h : Heap), d0e = some r -> K3 t h := by
   intro t h hm0
   refine hK3 _ _ ?_
   unfold d0e at hm0
   refine b0b fun K hK => ?_
   simp only [go_sem]
   refine hK _ _ ?_
   clear hK K
   simp only [b0u, b0v]
   obtain rfl := sI9 hm0
   exact b01 (by simp only [go_sem]) (b0d _)
  simp only [b0t]
  obtain ⟨b5, hl5, hm0⟩ := b0h hm0
  refine b1p hl5 (fun | i_7, t, h => t 1 = .fs 1 (List.map b03 c) /\ t 2 = B inside /\ t 3 = .fp (vM m) 0 /\ t 7 = I i_7) ?_ ?_
  ·exact ⟨s1, s2, (by first | (simp only [go_sem]; done) | rfl), (by first | (simp only [go_sem]; done) | rfl)⟩
  ·rintro i_7 o t h ⟨s1, s2, s3, s7⟩ hm1 hb5
   simp only [b9b] at hm1
   rw [d88]
   refine b0s ?_
   refine b0b fun K hK => ?_
   simp only [go_sem, s1, s7]
   refine hK _ _ ?_
   clear hK K
   refine b0k fun K6 hK6 => ?_
   simp only [go_sem]
   refine b0i (fun hc7 => ?_) (fun hc7 => ?_)
   ·rw [b0q hc7] at hm1
    simp only [b0r, b0e]
    refine hK6 _ _ ?_
    refine b0k fun K8 hK8 => ?_
    have J9 : ∀ (t : Slots) (h : Heap), t 1 = .fs 1 (List.map b03 c) -> t 2 = B inside -> t 3 = .fp (vM m) 0 -> t 7 = I i_7 -> c47 i_7 = some o -> K8 t h := by
     intro t h s1 s2 s3 s7 hm1
     refine hK8 _ _ ?_
     unfold c47 at hm1
     refine b02 fun K hK => ?_
     simp only [go_sem, s7]
     refine hK _ _ ?_
     clear hK K
     simp only [b0e]
     obtain rfl := sI9 hm1
     refine ⟨_, rfl, ?_⟩
     exact ⟨s1, s2, s3, (by first | (simp only [go_sem]; done) | rfl)⟩
    simp only [b0t]
    refine b0s ?_
    obtain ⟨x11, h_x11, hm1⟩ := b0h hm1
    have h_x110 := b06 h_x11
    have h_x111 := b07 h_x11
    refine b0b fun K hK => ?_
    simp only [go_sem, s1, s7, b08 h_x11, h_x111]
    refine hK _ _ ?_
    clear hK K
    refine b0k fun K12 hK12 => ?_
    simp only [go_sem]
    refine b0i (fun hc13 => ?_) (fun hc13 => ?_)
    ·rw [b0q hc13] at hm1
     refine b0b fun K hK => ?_
     simp only [go_sem]
     refine hK _ _ ?_
     clear hK K
     simp only [b0u, b1i, b13, b0v]
     obtain rfl := sI9 hm1
     obtain rfl := hb5 _ rfl
     try dsimp only at hm0
     obtain rfl := sI9 hm0
     exact b01 (by simp only [go_sem]) (b0d _)
    ·rw [b0p hc13] at hm1
     simp only [b0r, b0e]
     refine hK12 _ _ ?_
     refine b0b fun K hK => ?_
     simp only [go_sem]
     refine hK _ _ ?_
     clear hK K
     simp only [b0t]
     obtain ⟨b14, hl14, hm1⟩ := b0h hm1
     refine b1p hl14 (fun | k_8, t, h => t 1 = .fs 1 (List.map b03 c) /\ t 2 = B inside /\ t 3 = .fp (vM m) 0 /\ t 7 = I i_7 /\ t 8 = I k_8) ?_ ?_
     ·exact ⟨s1, s2, s3, s7, (by first | (simp only [go_sem]; done) | rfl)⟩
     ·rintro k_8 o t h ⟨s1, s2, s3, s7, s8⟩ hm2 hb14
      simp only [b7v] at hm2
      rw [d87]
      refine b0s ?_
      obtain ⟨x16, h_x16, hm2⟩ := b0h hm2
      have h_x160 := b06 h_x16
      have h_x161 := b07 h_x16
      refine b0b fun K hK => ?_
      simp only [go_sem, s1, s7, s8, b08 h_x16]
      refine hK _ _ ?_
      clear hK K
      refine b0k fun K17 hK17 => ?_
      simp only [go_sem]
      refine b0i (fun hc18 => ?_) (fun hc18 => ?_)
      ·rw [b0q hc18] at hm2
       simp only [b0r, b0e]
       refine hK17 _ _ ?_
       refine b0k fun K19 hK19 => ?_
       simp only [b0t]
       obtain ⟨x21, h_x21, hm2⟩ := b0h hm2
       have h_x210 := b06 h_x21
       have h_x211 := b07 h_x21
       refine b0b fun K hK => ?_
       simp only [go_sem, s1, s7, s8, b08 h_x21, h_x211, b08 h_x16]
       refine hK _ _ ?_
       clear hK K
       refine b0b fun K hK => ?_
       simp only [go_sem]
       refine hK _ _ ?_
       clear hK K
       refine b0s ?_
       refine b0b fun K hK => ?_
       simp only [go_sem]
       refine hK _ _ ?_
       clear hK K
       refine b0k fun K22 hK22 => ?_
       have J23 : ∀ (is_10 : Bool) (t : Slots) (h : Heap), t 1 = .fs 1 (List.map b03 c) -> t 2 = B inside -> t 3 = .fp (vM m) 0 -> t 7 = I i_7 -> t 8 = I k_8 -> t 10 = B is_10 -> b6u k_8 is_10 = some o -> K22 t h := by
        intro is_10 t h s1 s2 s3 s7 s8 s10 hm2
        refine hK22 _ _ ?_
        unfold b6u at hm2
        refine b0b fun K hK => ?_
        simp only [go_sem, s10]
        refine hK _ _ ?_
        clear hK K
        simp only [go_sem]
        refine b0i (fun hc24 => ?_) (fun hc24 => ?_)
        ·rw [b0q hc24] at hm2
         refine b0b fun K hK => ?_
         simp only [go_sem]
         refine hK _ _ ?_
         clear hK K
         simp only [b0u, b1i, b13, b0v]
         obtain rfl := sI9 hm2
         obtain rfl := hb14 _ rfl
         try dsimp only at hm1
         obtain rfl := sI9 hm1
         obtain rfl := hb5 _ rfl
         try dsimp only at hm0
         obtain rfl := sI9 hm0
         exact b01 (by simp only [go_sem]) (b0d _)
        ·rw [b0p hc24] at hm2
         simp only [b0r, b00, b0e]
         refine hK19 _ _ ?_
         refine b02 fun K hK => ?_
         simp only [go_sem, s8]
         refine hK _ _ ?_
         clear hK K
         simp only [b0e]
         obtain rfl := sI9 hm2
         refine ⟨_, rfl, ?_⟩
         exact ⟨s1, s2, s3, s7, (by first | (simp only [go_sem]; done) | rfl)⟩
       simp only [b0t]
       refine b0b fun K hK => ?_
       simp only [go_sem]
       refine hK _ _ ?_
       clear hK K
       simp only [go_sem]
       refine b0i (fun hc25 => ?_) (fun hc25 => ?_)
       ·rw [b0q hc25] at hm2
        refine b8m (fun t h => t 1 = .fs 1 (List.map b03 c) /\ t 2 = B inside /\ t 3 = .fp (vM m) 0 /\ t 7 = I i_7 /\ t 8 = I k_8 /\ t 10 = B ((b1k x21.Number 0 (wr ((List.length m.Inputs : Int) - 1))) && (decide (x21.Value = 0)))) (fun K hK => ?_) ?_
        ·simp only [go_sem, s3]
         refine b0z (b2t x21.Number 0 (wr ((List.length m.Inputs : Int) - 1))) ?_
         simp only [go_sem]
         refine b0i (fun hg26 => ?_) (fun hg26 => ?_)
         ·simp only [go_sem, hg26]
          exact hK _ _ ⟨s1, s2, s3, s7, s8, (by first | (simp only [go_sem, hg26]; done) | rfl)⟩
         ·simp only [go_sem, hg26]
          exact hK _ _ ⟨s1, s2, s3, s7, s8, (by first | (simp only [go_sem, hg26]; done) | rfl)⟩
        ·rintro t h ⟨s1, s2, s3, s7, s8, s10⟩
         simp only [b00, b0e]
         exact J23 ((b1k x21.Number 0 (wr ((List.length m.Inputs : Int) - 1))) && (decide (x21.Value = 0))) _ _ s1 s2 s3 s7 s8 s10 hm2
       ·rw [b0p hc25] at hm2
        refine b0b fun K hK => ?_
        simp only [go_sem]
        refine hK _ _ ?_
        clear hK K
        simp only [go_sem]
        refine b0i (fun hc27 => ?_) (fun hc27 => ?_)
        ·rw [b0q hc27] at hm2
         obtain ⟨c31, h_c31, hm2⟩ := b0h hm2
         refine b8m (fun t h => t 1 = .fs 1 (List.map b03 c) /\ t 2 = B inside /\ t 3 = .fp (vM m) 0 /\ t 7 = I i_7 /\ t 8 = I k_8 /\ t 10 = B c31) (fun K hK => ?_) ?_
         ·simp only [go_sem, s3]
          refine b0z (b2t x21.Number 0 (wr ((List.length m.Counters : Int) - 1))) ?_
          simp only [go_sem]
          refine b0i (fun hg32 => ?_) (fun hg32 => ?_)
          ·simp only [hg32, eq_self, if_true] at h_c31
           obtain ⟨x30, h_x30, h_c31⟩ := b0h h_c31
           have h_x300 := b06 h_x30
           have h_x301 := b07 h_x30
           obtain rfl := sI9 h_c31
           simp only [go_sem, s3, b08 h_x30, hg32]
           refine b0z (b2t x21.Value 0 x30.Max) ?_
           simp only [go_sem, hg32]
           exact hK _ _ ⟨s1, s2, s3, s7, s8, (by first | (simp only [go_sem]; done) | rfl)⟩
          ·simp only [hg32, if_false, fT9] at h_c31
           obtain rfl := sI9 h_c31
           simp only [go_sem, hg32]
           exact hK _ _ ⟨s1, s2, s3, s7, s8, (by first | (simp only [go_sem]; done) | rfl)⟩
         ·rintro t h ⟨s1, s2, s3, s7, s8, s10⟩
          simp only [b00, b0e]
          exact J23 c31 _ _ s1 s2 s3 s7 s8 s10 hm2
        ·rw [b0p hc27] at hm2
         refine b0b fun K hK => ?_
         simp only [go_sem]
         refine hK _ _ ?_
         clear hK K
         simp only [go_sem]
         refine b0i (fun hc33 => ?_) (fun hc33 => ?_)
         ·rw [b0q hc33] at hm2
          refine b8m (fun t h => t 1 = .fs 1 (List.map b03 c) /\ t 2 = B inside /\ t 3 = .fp (vM m) 0 /\ t 7 = I i_7 /\ t 8 = I k_8 /\ t 10 = B ((inside && (b1k x21.Number 0 (wr ((List.length m.States : Int) - 1)))) && (decide (x21.Value = 0)))) (fun K hK => ?_) ?_
          ·simp only [go_sem, s2]
           refine b0i (fun hg34 => ?_) (fun hg34 => ?_)
           ·simp only [go_sem, s3, hg34]
            refine b0z (b2t x21.Number 0 (wr ((List.length m.States : Int) - 1))) ?_
            simp only [go_sem, hg34]
            refine b0i (fun hg35 => ?_) (fun hg35 => ?_)
            ·simp only [go_sem, hg34, hg35]
             exact hK _ _ ⟨s1, s2, s3, s7, s8, (by first | (simp only [go_sem, hg34, hg35]; done) | rfl)⟩
            ·simp only [go_sem, hg34, hg35]
             exact hK _ _ ⟨s1, s2, s3, s7, s8, (by first | (simp only [go_sem, hg34, hg35]; done) | rfl)⟩
           ·simp only [go_sem, hg34]
            exact hK _ _ ⟨s1, s2, s3, s7, s8, (by first | (simp only [go_sem, hg34]; done) | rfl)⟩
          ·rintro t h ⟨s1, s2, s3, s7, s8, s10⟩
           simp only [b00, b0e]
           exact J23 ((inside && (b1k x21.Number 0 (wr ((List.length m.States : Int) - 1)))) && (decide (x21.Value = 0))) _ _ s1 s2 s3 s7 s8 s10 hm2
         ·rw [b0p hc33] at hm2
          refine b0b fun K hK => ?_
          simp only [go_sem]
          refine hK _ _ ?_
          clear hK K
          simp only [go_sem]
          refine b0i (fun hc36 => ?_) (fun hc36 => ?_)
          ·rw [b0q hc36] at hm2
           refine b8m (fun t h => t 1 = .fs 1 (List.map b03 c) /\ t 2 = B inside /\ t 3 = .fp (vM m) 0 /\ t 7 = I i_7 /\ t 8 = I k_8 /\ t 10 = B ((b1k x21.Number 0 (wr ((List.length m.Outputs : Int) - 1))) && (decide (x21.Value = 0)))) (fun K hK => ?_) ?_
           ·simp only [go_sem, s3]
            refine b0z (b2t x21.Number 0 (wr ((List.length m.Outputs : Int) - 1))) ?_
            simp only [go_sem]
            refine b0i (fun hg37 => ?_) (fun hg37 => ?_)
            ·simp only [go_sem, hg37]
             exact hK _ _ ⟨s1, s2, s3, s7, s8, (by first | (simp only [go_sem, hg37]; done) | rfl)⟩
            ·simp only [go_sem, hg37]
             exact hK _ _ ⟨s1, s2, s3, s7, s8, (by first | (simp only [go_sem, hg37]; done) | rfl)⟩
           ·rintro t h ⟨s1, s2, s3, s7, s8, s10⟩
            simp only [b00, b0e]
            exact J23 ((b1k x21.Number 0 (wr ((List.length m.Outputs : Int) - 1))) && (decide (x21.Value = 0))) _ _ s1 s2 s3 s7 s8 s10 hm2
          ·rw [b0p hc36] at hm2
           simp only [b0r, b00, b0e]
           exact J23 false _ _ s1 s2 s3 s7 s8 (by first | (simp only [go_sem]; done) | rfl) hm2
      ·rw [b0p hc18] at hm2
       simp only [b1c, b1h, b1g, b00, b0e]
       obtain rfl := sI9 hm2
       obtain rfl := hb14 _ rfl
       try dsimp only at hm1
       exact J9  _ _ s1 s2 s3 s7 hm1
   ·rw [b0p hc7] at hm1
    simp only [b1c, b1h, b1g, b0e]
    obtain rfl := sI9 hm1
    obtain rfl := hb5 _ rfl
    try dsimp only at hm0
    exact J4  _ _  hm0
theorem b2t (hf : Has O "newel/newelref04.from" x_r04_from) : b65 O := by
 intro n low high
 generalize hm0 : b1k n low high = r
 unfold b1k at hm0
 refine b1l hf rfl (b0a (b0d _) (b0a (b0d _) (b0a (b0d _) b0o))) (b0d _) ?_
 refine b1d (fun t h => t 0 = I n /\ t 1 = I low /\ t 2 = I high) ⟨rfl, rfl, rfl⟩ fun t h ⟨s0, s1, s2⟩ => ?_
 simp only [x_r04_from]
 refine b0b fun K hK => ?_
 simp only [go_sem]
 refine hK _ _ ?_
 clear hK K
 refine b2q (fun t h => t 6 = B ((decide (low <= n)) && (decide (n <= high)))) (fun K hK => ?_) ?_
 ·simp only [go_sem, s0, s1]
  refine b0i (fun hg1 => ?_) (fun hg1 => ?_)
  ·simp only [go_sem, s0, s2, hg1]
   exact hK _ _ (by first | (simp only [go_sem, hg1]; done) | rfl)
  ·simp only [go_sem, hg1]
   exact hK _ _ (by first | (simp only [go_sem, hg1]; done) | rfl)
 ·rintro t h s6
  simp only [b0u, b0v]
  obtain rfl := hm0
  exact b01 (by simp only [go_sem, s6]) (b0d _)
theorem c84 (hf : Has O "newel/newelref04.literal" x_r04_literal) : c6s O := by
 intro m p input l r hm0
 unfold b9c at hm0
 refine b1l hf rfl (b0a (fM _) (b0a (.agg _ (b0a (b0d _) (b0a (b0d _) (b0a (b0d _) b0o)))) (b0a (b0d _) (b0a (.agg _ (b0a (b0d _) (b0a (b0d _) (b0a (b0d _) (b0a (b0d _) b0o))))) b0o)))) (b0d _) ?_
 refine b1d (fun t h => t 0 = .agg (vM m) /\ t 1 = .agg [I p.State, I p.Values.1, I p.Values.2] /\ t 2 = I input /\ t 3 = .agg [I l.Kind, I l.Number, I l.Value, B l.Not]) ⟨rfl, rfl, rfl, rfl⟩ fun t h ⟨s0, s1, s2, s3⟩ => ?_
 simp only [x_r04_literal]
 refine b0b fun K hK => ?_
 simp only [go_sem, s0, s1, s3]
 refine hK _ _ ?_
 clear hK K
 refine b0b fun K hK => ?_
 simp only [go_sem]
 refine hK _ _ ?_
 clear hK K
 refine b0s ?_
 refine b0b fun K hK => ?_
 simp only [go_sem]
 refine hK _ _ ?_
 clear hK K
 refine b0k fun K1 hK1 => ?_
 have J2 : ∀ (is_9 : Bool) (t : Slots) (h : Heap), t 7 = .fp [I l.Kind, I l.Number, I l.Value, B l.Not] 0 -> t 9 = B is_9 -> b6v l is_9 = some r -> K1 t h := by
  intro is_9 t h s7 s9 hm0
  refine hK1 _ _ ?_
  unfold b6v at hm0
  refine b0b fun K hK => ?_
  simp only [go_sem, s7, s9]
  refine hK _ _ ?_
  clear hK K
  simp only [b0u, b0v]
  obtain rfl := sI9 hm0
  exact b01 (by simp only [go_sem]) (b0d _)
 simp only [b0t]
 refine b0b fun K hK => ?_
 simp only [go_sem]
 refine hK _ _ ?_
 clear hK K
 simp only [go_sem]
 refine b0i (fun hc3 => ?_) (fun hc3 => ?_)
 ·rw [b0q hc3] at hm0
  obtain ⟨q5, h_q5, hm0⟩ := b0h hm0
  refine b02 fun K hK => ?_
  simp only [go_sem, s2, c3z h_q5]
  refine hK _ _ ?_
  clear hK K
  simp only [b00, b0e]
  exact J2 (decide ((b5x q5 1) = 1)) _ _ (by first | (simp only [go_sem]; done) | rfl) (by first | (simp only [go_sem]; done) | rfl) hm0
 ·rw [b0p hc3] at hm0
  refine b0b fun K hK => ?_
  simp only [go_sem]
  refine hK _ _ ?_
  clear hK K
  simp only [go_sem]
  refine b0i (fun hc6 => ?_) (fun hc6 => ?_)
  ·rw [b0q hc6] at hm0
   obtain ⟨x8, h_x8, hm0⟩ := b0h hm0
   have ha_x8 : ∀ v : Int, List.take (1 + Int.toNat (l.Number)) [I p.State, I p.Values.1, I p.Values.2] ++ [I v] ++ List.drop (1 + Int.toNat (l.Number)) [I p.Values.1, I p.Values.2] = [I p.State, I (b09 (l.Number) 0 v p.Values.1), I (b09 (l.Number) 1 v p.Values.2)] := fun v => (b6y (cs := [I p.State, I p.Values.1, I p.Values.2]) (off := 1) (v := v) h_x8 rfl).trans (by rw [b6x h_x8]; rfl)
   have hb_x8 : 1 + Int.toNat (l.Number) + 1 <= 3 := Nat.le_trans (Nat.add_le_add_left (b6d h_x8) 1) (by simp)
   refine b02 fun K hK => ?_
   simp only [go_sem, c8f (n := 2) (l := [p.Values.1, p.Values.2]) h_x8 rfl, b7m (cs := [I p.State, I p.Values.1, I p.Values.2]) (off := 1) h_x8 rfl]
   refine hK _ _ ?_
   clear hK K
   simp only [b00, b0e]
   exact J2 (decide (l.Value <= x8)) _ _ (by first | (simp only [go_sem]; done) | rfl) (by first | (simp only [go_sem]; done) | rfl) hm0
  ·rw [b0p hc6] at hm0
   refine b0b fun K hK => ?_
   simp only [go_sem]
   refine hK _ _ ?_
   clear hK K
   simp only [go_sem]
   refine b0i (fun hc9 => ?_) (fun hc9 => ?_)
   ·rw [b0q hc9] at hm0
    refine b02 fun K hK => ?_
    simp only [go_sem]
    refine hK _ _ ?_
    clear hK K
    simp only [b00, b0e]
    exact J2 (decide (p.State = l.Number)) _ _ (by first | (simp only [go_sem]; done) | rfl) (by first | (simp only [go_sem]; done) | rfl) hm0
   ·rw [b0p hc9] at hm0
    refine b0b fun K hK => ?_
    simp only [go_sem]
    refine hK _ _ ?_
    clear hK K
    simp only [go_sem]
    refine b0i (fun hc10 => ?_) (fun hc10 => ?_)
    ·rw [b0q hc10] at hm0
     obtain ⟨x13, h_x13, hm0⟩ := b0h hm0
     have h_x130 := b06 h_x13
     have h_x131 := b07 h_x13
     obtain ⟨q14, h_q14, hm0⟩ := b0h hm0
     refine b02 fun K hK => ?_
     simp only [go_sem, b08 h_x13, c3z h_q14]
     refine hK _ _ ?_
     clear hK K
     simp only [b00, b0e]
     exact J2 (decide ((b5x q14 1) = 1)) _ _ (by first | (simp only [go_sem]; done) | rfl) (by first | (simp only [go_sem]; done) | rfl) hm0
    ·rw [b0p hc10] at hm0
     simp only [b0r, b00, b0e]
     exact J2 false _ _ (by first | (simp only [go_sem]; done) | rfl) (by first | (simp only [go_sem]; done) | rfl) hm0
theorem c85 (hf : Has O "newel/newelref04.names" x_r04_names) : c6t O := by
 intro m r hm0
 unfold c1p at hm0
 refine b1l hf rfl (b0a (fM _) b0o) (b0f fun a _ => b0y a) ?_
 refine b1d (fun t h => t 0 = .agg (vM m)) rfl fun t h s0 => ?_
 simp only [x_r04_names]
 refine b0b fun K hK => ?_
 simp only [go_sem, s0]
 refine hK _ _ ?_
 clear hK K
 obtain ⟨l3, h_l3, hm0⟩ := b0h hm0
 obtain ⟨l4, h_l4, hm0⟩ := b0h hm0
 refine b0b fun K hK => ?_
 simp only [go_sem]
 refine b3j (f := eS) (l := ([])) (m := m.Inputs) ?_ ?_ ?_ ?_ h_l3 ?_
 ·exact (b3f (by simp only [go_sem]) (by simp only [go_sem]) (by simp only [go_sem]))
 ·exact b6p
 ·exact b6o
 ·exact (fun e => by cases e)
 simp only [go_sem]
 refine b3j (f := eS) (l := l3) (m := m.Outputs) ?_ ?_ ?_ ?_ h_l4 ?_
 ·exact (b3f (by simp only [go_sem]) (by simp only [go_sem]) (by simp only [go_sem]))
 ·exact b6p
 ·exact b6o
 ·exact (fun e => by cases e)
 simp only [go_sem]
 refine hK _ _ ?_
 clear hK K
 refine b0s ?_
 refine b0b fun K hK => ?_
 simp only [go_sem]
 refine hK _ _ ?_
 clear hK K
 refine b0k fun K5 hK5 => ?_
 have J6 : ∀ (l_3 : List ByteArray) (i3 : Nat) (t : Slots) (h : Heap), t 1 = .fp (vM m) 0 -> t 3 = .rs i3 0 (List.length l_3) -> h.ob i3 = some (1, List.map eS l_3) -> i3 < h.nx -> c5a m l_3 = some r -> K5 t h := by
  intro l_3 i3 t h s1 s3 Qb Qa hm0
  refine hK5 _ _ ?_
  unfold c5a at hm0
  refine b0s ?_
  refine b0b fun K hK => ?_
  simp only [go_sem]
  refine hK _ _ ?_
  clear hK K
  refine b0k fun K7 hK7 => ?_
  have J8 : ∀ (l_3_1 : List ByteArray) (i3_1 : Nat) (t : Slots) (h : Heap), t 3 = .rs i3_1 0 (List.length l_3_1) -> h.ob i3_1 = some (1, List.map eS l_3_1) -> i3_1 < h.nx -> c5b l_3_1 = some r -> K7 t h := by
   intro l_3_1 i3_1 t h s3 Qb Qa hm0
   refine hK7 _ _ ?_
   unfold c5b at hm0
   refine b0b fun K hK => ?_
   simp only [go_sem, s3]
   refine hK _ _ ?_
   clear hK K
   simp only [b0u, b0v]
   obtain rfl := sI9 hm0
   exact c3g (v := .rs i3_1 0 (List.length l_3_1)) (by simp only [go_sem]) (b5a (f := eS) (l := l_3_1) (id := i3_1) (by simp only [go_sem, Qb]) (by first | rfl | simp only [go_sem, lA9, mA9]) b0y c0x)
  simp only [b0t]
  obtain ⟨b9, hl9, hm0⟩ := b0h hm0
  refine b1p hl9 (fun | (l_3_1, i_5), t, h => ∃ i3_1 : Nat, t 1 = .fp (vM m) 0 /\ t 3 = .rs i3_1 0 (List.length l_3_1) /\ t 5 = I i_5 /\ h.ob i3_1 = some (1, List.map eS l_3_1) /\ i3_1 < h.nx) ?_ ?_
  ·exact ⟨i3, s1, (by first | exact s3 | simp only [go_sem, s3, lA9, mA9]), (by first | (simp only [go_sem]; done) | rfl), Qb, Qa⟩
  ·rintro ⟨l_3_1, i_5⟩ o t h ⟨i3_1, s1, s3, s5, Qb, Qa⟩ hm1 hb9
   simp only [c48] at hm1
   rw [d89]
   refine b0s ?_
   refine b0b fun K hK => ?_
   simp only [go_sem, s1, s5]
   refine hK _ _ ?_
   clear hK K
   refine b0k fun K10 hK10 => ?_
   simp only [go_sem]
   refine b0i (fun hc11 => ?_) (fun hc11 => ?_)
   ·rw [b0q hc11] at hm1
    simp only [b0r, b0e]
    refine hK10 _ _ ?_
    refine b0k fun K12 hK12 => ?_
    simp only [b0t]
    obtain ⟨x15, h_x15, hm1⟩ := b0h hm1
    have h_x150 := b06 h_x15
    have h_x151 := b07 h_x15
    obtain ⟨l16, h_l16, hm1⟩ := b0h hm1
    refine b02 fun K hK => ?_
    simp only [go_sem, s1, s3, s5, b08 h_x15, h_x151]
    refine b3j (f := eS) (l := l_3_1) (m := ([x15.Name])) ?_ ?_ ?_ ?_ h_l16 ?_
    ·exact (b3f (by simp only [go_sem, Qb, Qa]) (by simp only [go_sem]) (by simp only [go_sem, Qa]))
    ·exact (b5p (by simp only [go_sem]) (by simp only [go_sem]))
    ·exact (b5o (by first | exact b2g | exact b2h (by first | omega | (simp only [nxs] <;> omega)) | assumption | exact b2e (by assumption) (by first | omega | (simp only [go_sem, nxs] <;> omega))))
    ·exact (fun _ => by simp)
    simp only [go_sem]
    refine hK _ _ ?_
    clear hK K
    simp only [b00, b0e]
    refine hK12 _ _ ?_
    refine b02 fun K hK => ?_
    simp only [go_sem, s5]
    refine hK _ _ ?_
    clear hK K
    simp only [b0e]
    obtain rfl := sI9 hm1
    refine ⟨_, rfl, ?_⟩
    exact ⟨(nxs h.nx), s1, (by first | (simp only [go_sem]; done) | rfl), (by first | (simp only [go_sem]; done) | rfl), (by simp only [go_sem]), (by simp only [go_sem])⟩
   ·rw [b0p hc11] at hm1
    simp only [b1c, b1h, b1g, b0e]
    obtain rfl := sI9 hm1
    obtain rfl := hb9 _ rfl
    try dsimp only at hm0
    exact J8 l_3_1 i3_1 _ _ (by first | exact s3 | simp only [go_sem, s3, lA9, mA9]) Qb Qa hm0
 simp only [b0t]
 obtain ⟨b18, hl18, hm0⟩ := b0h hm0
 refine b1p hl18 (fun | (l_3, i_4), t, h => ∃ i3 : Nat, t 1 = .fp (vM m) 0 /\ t 3 = .rs i3 0 (List.length l_3) /\ t 4 = I i_4 /\ h.ob i3 = some (1, List.map eS l_3) /\ i3 < h.nx) ?_ ?_
 ·exact ⟨(nxs (nxs h.nx)), (by first | (simp only [go_sem]; done) | rfl), (by first | (simp only [go_sem]; done) | rfl), (by first | (simp only [go_sem]; done) | rfl), (by simp only [go_sem]), (by simp only [go_sem])⟩
 ·rintro ⟨l_3, i_4⟩ o t h ⟨i3, s1, s3, s4, Qb, Qa⟩ hm1 hb18
  simp only [c49] at hm1
  rw [d9a]
  refine b0s ?_
  refine b0b fun K hK => ?_
  simp only [go_sem, s1, s4]
  refine hK _ _ ?_
  clear hK K
  refine b0k fun K19 hK19 => ?_
  simp only [go_sem]
  refine b0i (fun hc20 => ?_) (fun hc20 => ?_)
  ·rw [b0q hc20] at hm1
   simp only [b0r, b0e]
   refine hK19 _ _ ?_
   refine b0k fun K21 hK21 => ?_
   simp only [b0t]
   obtain ⟨x24, h_x24, hm1⟩ := b0h hm1
   have h_x240 := b06 h_x24
   have h_x241 := b07 h_x24
   obtain ⟨l25, h_l25, hm1⟩ := b0h hm1
   refine b02 fun K hK => ?_
   simp only [go_sem, s1, s3, s4, b08 h_x24, h_x241]
   refine b3j (f := eS) (l := l_3) (m := ([x24.Name])) ?_ ?_ ?_ ?_ h_l25 ?_
   ·exact (b3f (by simp only [go_sem, Qb, Qa]) (by simp only [go_sem]) (by simp only [go_sem, Qa]))
   ·exact (b5p (by simp only [go_sem]) (by simp only [go_sem]))
   ·exact (b5o (by first | exact b2g | exact b2h (by first | omega | (simp only [nxs] <;> omega)) | assumption | exact b2e (by assumption) (by first | omega | (simp only [go_sem, nxs] <;> omega))))
   ·exact (fun _ => by simp)
   simp only [go_sem]
   refine hK _ _ ?_
   clear hK K
   simp only [b00, b0e]
   refine hK21 _ _ ?_
   refine b02 fun K hK => ?_
   simp only [go_sem, s4]
   refine hK _ _ ?_
   clear hK K
   simp only [b0e]
   obtain rfl := sI9 hm1
   refine ⟨_, rfl, ?_⟩
   exact ⟨(nxs h.nx), s1, (by first | (simp only [go_sem]; done) | rfl), (by first | (simp only [go_sem]; done) | rfl), (by simp only [go_sem]), (by simp only [go_sem])⟩
  ·rw [b0p hc20] at hm1
   simp only [b1c, b1h, b1g, b0e]
   obtain rfl := sI9 hm1
   obtain rfl := hb18 _ rfl
   try dsimp only at hm0
   exact J6 l_3 i3 _ _ s1 (by first | exact s3 | simp only [go_sem, s3, lA9, mA9]) Qb Qa hm0
theorem c86 (hf : Has O "newel/situation.Asked" x_situation_Asked) (b7o : b9j O) (c87 : c6v O) : c6u O := by
 intro m c r hm0
 unfold c1x at hm0
 refine b1l hf rfl (b0a (fM _) (b0a (b0f fun a _ => b4g a) b0o)) (b0d _) ?_
 refine b1d (fun t h => t 0 = .agg (vM m) /\ t 1 = .fs 1 (List.map b03 c)) ⟨rfl, rfl⟩ fun t h ⟨s0, s1⟩ => ?_
 simp only [x_situation_Asked]
 refine b0b fun K hK => ?_
 simp only [go_sem, s0]
 refine hK _ _ ?_
 clear hK K
 refine b0s ?_
 refine b0b fun K hK => ?_
 simp only [go_sem, s1]
 refine hK _ _ ?_
 clear hK K
 refine b0k fun K1 hK1 => ?_
 simp only [go_sem]
 refine b0i (fun hc2 => ?_) (fun hc2 => ?_)
 ·rw [b0q hc2] at hm0
  refine b0b fun K hK => ?_
  simp only [go_sem]
  refine hK _ _ ?_
  clear hK K
  simp only [b0u, b1i, b0v]
  obtain rfl := sI9 hm0
  exact b01 (by simp only [go_sem]) (b0d _)
 ·rw [b0p hc2] at hm0
  simp only [b0r, b0e]
  refine hK1 _ _ ?_
  refine b0s ?_
  refine b0b fun K hK => ?_
  simp only [go_sem, s1]
  refine hK _ _ ?_
  clear hK K
  refine b0k fun K3 hK3 => ?_
  have J4 : ∀ (t : Slots) (h : Heap), d0r = some r -> K3 t h := by
   intro t h hm0
   refine hK3 _ _ ?_
   unfold d0r at hm0
   refine b0b fun K hK => ?_
   simp only [go_sem]
   refine hK _ _ ?_
   clear hK K
   simp only [b0u, b0v]
   obtain rfl := sI9 hm0
   exact b01 (by simp only [go_sem]) (b0d _)
  simp only [b0t]
  obtain ⟨b5, hl5, hm0⟩ := b0h hm0
  refine b1p hl5 (fun | x_12, t, h => t 2 = .fp (vM m) 0 /\ t 10 = .fs 1 (List.map b03 c) /\ t 11 = I (List.length c : Int) /\ t 12 = I x_12) ?_ ?_
  ·exact ⟨(by first | (simp only [go_sem]; done) | rfl), (by first | (simp only [go_sem]; done) | rfl), (by first | (simp only [go_sem]; done) | rfl), (by first | (simp only [go_sem]; done) | rfl)⟩
  ·rintro x_12 o t h ⟨s2, s10, s11, s12⟩ hm1 hb5
   simp only [c1y] at hm1
   rw [d9b]
   refine b0b fun K hK => ?_
   simp only [go_sem, s11, s12]
   refine hK _ _ ?_
   clear hK K
   refine b0k fun K6 hK6 => ?_
   simp only [go_sem]
   refine b0i (fun hc7 => ?_) (fun hc7 => ?_)
   ·rw [b0q hc7] at hm1
    simp only [b0r, b0e]
    refine hK6 _ _ ?_
    refine b0k fun K8 hK8 => ?_
    simp only [b0t]
    obtain ⟨x10, h_x10, hm1⟩ := b0h hm1
    have h_x100 := b06 h_x10
    have h_x101 := b07 h_x10
    refine b0b fun K hK => ?_
    simp only [go_sem, s10, s12, b08 h_x10, h_x101]
    refine hK _ _ ?_
    clear hK K
    obtain ⟨c16, h_c16, hm1⟩ := b0h hm1
    refine b2q (fun t h => t 2 = .fp (vM m) 0 /\ t 10 = .fs 1 (List.map b03 c) /\ t 11 = I (List.length c : Int) /\ t 12 = I x_12 /\ t 23 = B c16) (fun K hK => ?_) ?_
    ·simp only [go_sem]
     refine b0i (fun hg17 => ?_) (fun hg17 => ?_)
     ·simp only [hg17, eq_self, if_true] at h_c16
      obtain rfl := sI9 h_c16
      simp only [go_sem, hg17]
      exact hK _ _ ⟨s2, s10, s11, s12, (by first | (simp only [go_sem]; done) | rfl)⟩
     ·simp only [hg17, if_false, fT9] at h_c16
      obtain ⟨y15, h_y15, h_c16⟩ := b0h h_c16
      obtain rfl := sI9 h_c16
      simp only [go_sem, s2, hg17]
      refine b0z (b7o x10 "newel/situation.Asked$1" [] [.fp (vM m) 0] (fun z14 => b7y z14 m) (.fn _ _ _ b0o (b0a (.fp _ _ (b0a (b0f fun a _ => b0y a) (b0a (b0f fun a _ => b0y a) (b0a (b0f fun a _ => b1r a) (b0a (b0f fun a _ => b1t a) (b0a (b0f fun a _ => b1s a) b0o)))))) b0o)) (fun z0 y hz => c87 z0 m y hz) _ h_y15) ?_
      simp only [go_sem, s2, hg17]
      exact hK _ _ ⟨s2, s10, s11, s12, (by first | (simp only [go_sem]; done) | rfl)⟩
    ·rintro t h ⟨s2, s10, s11, s12, s23⟩
     simp only [go_sem, s23]
     refine b0i (fun hc18 => ?_) (fun hc18 => ?_)
     ·rw [b0q hc18] at hm1
      refine b0b fun K hK => ?_
      simp only [go_sem]
      refine hK _ _ ?_
      clear hK K
      simp only [b0u, b1i, b13, b0v]
      obtain rfl := sI9 hm1
      obtain rfl := hb5 _ rfl
      try dsimp only at hm0
      obtain rfl := sI9 hm0
      exact b01 (by simp only [go_sem]) (b0d _)
     ·rw [b0p hc18] at hm1
      simp only [b0r, b00, b0e]
      refine hK8 _ _ ?_
      refine b02 fun K hK => ?_
      simp only [go_sem, s12]
      refine hK _ _ ?_
      clear hK K
      simp only [b0e]
      obtain rfl := sI9 hm1
      refine ⟨_, rfl, ?_⟩
      exact ⟨s2, s10, s11, (by first | (simp only [go_sem]; done) | rfl)⟩
   ·rw [b0p hc7] at hm1
    simp only [b1c, b1h, b1g, b0e]
    obtain rfl := sI9 hm1
    obtain rfl := hb5 _ rfl
    try dsimp only at hm0
    exact J4  _ _  hm0
theorem c87 (hf : Has O "newel/situation.Asked$1" x_situation_AskedD1) (c9c : c60 O) : c6v O := by
 intro x c0 r hm0
 unfold b7y at hm0
 refine b1l hf rfl (b0a (.agg _ (b0a (b0d _) (b0a (b0d _) (b0a (b0d _) (b0a (b0d _) b0o))))) (b0a (.fp _ _ (b0a (b0f fun a _ => b0y a) (b0a (b0f fun a _ => b0y a) (b0a (b0f fun a _ => b1r a) (b0a (b0f fun a _ => b1t a) (b0a (b0f fun a _ => b1s a) b0o)))))) b0o)) (b0d _) ?_
 refine b1d (fun t h => t 0 = .agg [I x.Kind, I x.Number, I x.Value, B x.Not] /\ t 1 = .fp (vM c0) 0) ⟨rfl, rfl⟩ fun t h ⟨s0, s1⟩ => ?_
 simp only [x_situation_AskedD1]
 refine b0b fun K hK => ?_
 simp only [go_sem, s0]
 refine hK _ _ ?_
 clear hK K
 obtain ⟨y2, h_y2, hm0⟩ := b0h hm0
 refine b0b fun K hK => ?_
 simp only [go_sem, s1]
 refine b0z (c9c c0 x _ h_y2) ?_
 simp only [go_sem]
 refine hK _ _ ?_
 clear hK K
 simp only [b0u, b0v]
 obtain rfl := sI9 hm0
 exact b01 (by simp only [go_sem]) (b0d _)
theorem c89 (hf : Has O "newel/situation.Check$1" x_situation_CheckD1) : c6x O := by
 intro x
 generalize hm0 : b6z x = r
 unfold b6z at hm0
 refine b1l hf rfl (b0a (.agg _ (b0a (b0d _) (b0a (b0d _) (b0a (b0d _) (b0a (b0d _) b0o))))) b0o) (b0d _) ?_
 refine b1d (fun t h => t 0 = .agg [I x.Kind, I x.Number, I x.Value, B x.Not]) rfl fun t h s0 => ?_
 simp only [x_situation_CheckD1]
 refine b0b fun K hK => ?_
 simp only [go_sem, s0]
 refine hK _ _ ?_
 clear hK K
 refine b0b fun K hK => ?_
 simp only [go_sem]
 refine hK _ _ ?_
 clear hK K
 simp only [b0u, b0v]
 obtain rfl := hm0
 exact b01 (by simp only [go_sem]) (b0d _)
theorem c9a (hf : Has O "newel/situation.Plain" x_situation_Plain) : c6y O := by
 intro word r hm0
 unfold c17 at hm0
 refine b1l hf rfl (b0a (b0d _) b0o) (b0d _) ?_
 refine b1d (fun t h => t 0 = .v (.string word)) rfl fun t h s0 => ?_
 simp only [x_situation_Plain]
 refine b0b fun K hK => ?_
 simp only [go_sem]
 refine hK _ _ ?_
 clear hK K
 refine b0s ?_
 refine b0b fun K hK => ?_
 simp only [go_sem, s0]
 refine g85 (O := O) ?_
 simp only [go_sem]
 refine hK _ _ ?_
 clear hK K
 refine b0k fun K1 hK1 => ?_
 have J2 : ∀ (t : Slots) (h : Heap), t 0 = .v (.string word) -> d0t word = some r -> K1 t h := by
  intro t h s0 hm0
  refine hK1 _ _ ?_
  unfold d0t at hm0
  refine b0b fun K hK => ?_
  simp only [go_sem, s0]
  refine hK _ _ ?_
  clear hK K
  simp only [b0u, b0v]
  obtain rfl := sI9 hm0
  exact b01 (by simp only [go_sem]) (b0d _)
 simp only [b0t]
 obtain ⟨b3, hl3, hm0⟩ := b0h hm0
 refine b1p hl3 (fun | x_8, t, h => t 0 = .v (.string word) /\ t 6 = .fs 1 (List.map b97 (b29 word)) /\ t 7 = I (List.length (b29 word) : Int) /\ t 8 = I x_8) ?_ ?_
 ·exact ⟨s0, (by first | (simp only [go_sem]; done) | rfl), (by first | (simp only [go_sem]; done) | rfl), (by first | (simp only [go_sem]; done) | rfl)⟩
 ·rintro x_8 o t h ⟨s0, s6, s7, s8⟩ hm1 hb3
  simp only [c18] at hm1
  rw [d9h]
  refine b0b fun K hK => ?_
  simp only [go_sem, s7, s8]
  refine hK _ _ ?_
  clear hK K
  refine b0k fun K4 hK4 => ?_
  simp only [go_sem]
  refine b0i (fun hc5 => ?_) (fun hc5 => ?_)
  ·rw [b0q hc5] at hm1
   simp only [b0r, b0e]
   refine hK4 _ _ ?_
   refine b0k fun K6 hK6 => ?_
   simp only [b0t]
   obtain ⟨x8, h_x8, hm1⟩ := b0h hm1
   have h_x80 := b06 h_x8
   have h_x81 := b07 h_x8
   refine b0b fun K hK => ?_
   simp only [go_sem, s6, s8, b08 h_x8, h_x81]
   refine hK _ _ ?_
   clear hK K
   refine b2q (fun t h => t 0 = .v (.string word) /\ t 6 = .fs 1 (List.map b97 (b29 word)) /\ t 7 = I (List.length (b29 word) : Int) /\ t 8 = I x_8 /\ t 17 = B ((decide (x8 < 97)) || (decide (122 < x8)))) (fun K hK => ?_) ?_
   ·simp only [go_sem]
    refine b0i (fun hg9 => ?_) (fun hg9 => ?_)
    ·simp only [go_sem, hg9]
     exact hK _ _ ⟨s0, s6, s7, s8, (by first | (simp only [go_sem, hg9]; done) | rfl)⟩
    ·simp only [go_sem, hg9]
     exact hK _ _ ⟨s0, s6, s7, s8, (by first | (simp only [go_sem, hg9]; done) | rfl)⟩
   ·rintro t h ⟨s0, s6, s7, s8, s17⟩
    simp only [go_sem, s17]
    refine b0i (fun hc10 => ?_) (fun hc10 => ?_)
    ·rw [b0q hc10] at hm1
     refine b0b fun K hK => ?_
     simp only [go_sem]
     refine hK _ _ ?_
     clear hK K
     simp only [b0u, b1i, b13, b0v]
     obtain rfl := sI9 hm1
     obtain rfl := hb3 _ rfl
     try dsimp only at hm0
     obtain rfl := sI9 hm0
     exact b01 (by simp only [go_sem]) (b0d _)
    ·rw [b0p hc10] at hm1
     simp only [b0r, b00, b0e]
     refine hK6 _ _ ?_
     refine b02 fun K hK => ?_
     simp only [go_sem, s8]
     refine hK _ _ ?_
     clear hK K
     simp only [b0e]
     obtain rfl := sI9 hm1
     refine ⟨_, rfl, ?_⟩
     exact ⟨s0, s6, s7, (by first | (simp only [go_sem]; done) | rfl)⟩
  ·rw [b0p hc5] at hm1
   simp only [b1c, b1h, b1g, b0e]
   obtain rfl := sI9 hm1
   obtain rfl := hb3 _ rfl
   try dsimp only at hm0
   exact J2  _ _ s0 hm0
theorem c9b (hf : Has O "newel/situation.Reserved" x_situation_Reserved) : c6z O := by
 intro word
 generalize hm0 : b70 word = r
 unfold b70 at hm0
 refine b1l hf rfl (b0a (b0d _) b0o) (b0d _) ?_
 refine b1d (fun t h => t 0 = .v (.string word)) rfl fun t h s0 => ?_
 simp only [x_situation_Reserved]
 refine b0b fun K hK => ?_
 simp only [go_sem]
 refine hK _ _ ?_
 clear hK K
 refine b0s ?_
 refine b0b fun K hK => ?_
 simp only [go_sem, s0]
 refine hK _ _ ?_
 clear hK K
 refine b0k fun K1 hK1 => ?_
 simp only [b0t]
 refine b0s ?_
 refine b0b fun K hK => ?_
 simp only [go_sem]
 refine hK _ _ ?_
 clear hK K
 refine b0k fun K2 hK2 => ?_
 have J3 : ∀ (x_4 : Bool) (t : Slots) (h : Heap), t 4 = B x_4 -> b48 x_4 = r -> K2 t h := by
  intro x_4 t h s4 hm0
  refine hK2 _ _ ?_
  unfold b48 at hm0
  simp only [go_sem, s4]
  refine b0i (fun hc4 => ?_) (fun hc4 => ?_)
  ·rw [b0q hc4] at hm0
   refine b0b fun K hK => ?_
   simp only [go_sem]
   refine hK _ _ ?_
   clear hK K
   simp only [b0u, b1i, b13, b0v]
   obtain rfl := hm0
   exact b01 (by simp only [go_sem]) (b0d _)
  ·rw [b0p hc4] at hm0
   simp only [b0r, b00, b0e]
   refine hK1 _ _ ?_
   refine b0b fun K hK => ?_
   simp only [go_sem]
   refine hK _ _ ?_
   clear hK K
   simp only [b0u, b0v]
   obtain rfl := hm0
   exact b01 (by simp only [go_sem]) (b0d _)
 simp only [go_sem]
 refine b0i (fun hc5 => ?_) (fun hc5 => ?_)
 ·rw [b0q hc5] at hm0
  simp only [b0r, b0e]
  exact J3 (decide (word = (ByteArray.mk #[97, 110, 121]))) _ _ (by first | (simp only [go_sem]; done) | rfl) hm0
 ·rw [b0p hc5] at hm0
  refine b0b fun K hK => ?_
  simp only [go_sem]
  refine hK _ _ ?_
  clear hK K
  simp only [go_sem]
  refine b0i (fun hc6 => ?_) (fun hc6 => ?_)
  ·rw [b0q hc6] at hm0
   simp only [b0r, b0e]
   exact J3 (decide (word = (ByteArray.mk #[116, 111]))) _ _ (by first | (simp only [go_sem]; done) | rfl) hm0
  ·rw [b0p hc6] at hm0
   refine b0b fun K hK => ?_
   simp only [go_sem]
   refine hK _ _ ?_
   clear hK K
   simp only [go_sem]
   refine b0i (fun hc7 => ?_) (fun hc7 => ?_)
   ·rw [b0q hc7] at hm0
    simp only [b0r, b0e]
    exact J3 (decide (word = (ByteArray.mk #[122, 101, 114, 111]))) _ _ (by first | (simp only [go_sem]; done) | rfl) hm0
   ·rw [b0p hc7] at hm0
    refine b0b fun K hK => ?_
    simp only [go_sem]
    refine hK _ _ ?_
    clear hK K
    simp only [go_sem]
    refine b0i (fun hc8 => ?_) (fun hc8 => ?_)
    ·rw [b0q hc8] at hm0
     simp only [b0r, b0e]
     exact J3 (decide (word = (ByteArray.mk #[109, 111, 114, 101]))) _ _ (by first | (simp only [go_sem]; done) | rfl) hm0
    ·rw [b0p hc8] at hm0
     refine b0b fun K hK => ?_
     simp only [go_sem]
     refine hK _ _ ?_
     clear hK K
     simp only [go_sem]
     refine b0i (fun hc9 => ?_) (fun hc9 => ?_)
     ·rw [b0q hc9] at hm0
      simp only [b0r, b0e]
      exact J3 (decide (word = (ByteArray.mk #[108, 101, 115, 115]))) _ _ (by first | (simp only [go_sem]; done) | rfl) hm0
     ·rw [b0p hc9] at hm0
      refine b0b fun K hK => ?_
      simp only [go_sem]
      refine hK _ _ ?_
      clear hK K
      simp only [go_sem]
      refine b0i (fun hc10 => ?_) (fun hc10 => ?_)
      ·rw [b0q hc10] at hm0
       simp only [b0r, b0e]
       exact J3 (decide (word = (ByteArray.mk #[105, 102]))) _ _ (by first | (simp only [go_sem]; done) | rfl) hm0
      ·rw [b0p hc10] at hm0
       refine b0b fun K hK => ?_
       simp only [go_sem]
       refine hK _ _ ?_
       clear hK K
       simp only [go_sem]
       refine b0i (fun hc11 => ?_) (fun hc11 => ?_)
       ·rw [b0q hc11] at hm0
        simp only [b0r, b0e]
        exact J3 (decide (word = (ByteArray.mk #[121, 101, 115]))) _ _ (by first | (simp only [go_sem]; done) | rfl) hm0
       ·rw [b0p hc11] at hm0
        refine b02 fun K hK => ?_
        simp only [go_sem]
        refine hK _ _ ?_
        clear hK K
        simp only [b0e]
        exact J3 (decide (word = (ByteArray.mk #[110, 111]))) _ _ (by first | (simp only [go_sem]; done) | rfl) hm0
theorem c9e (c9f : c63 O) (c9g : c64 O) : c62 O := by
 intro m r hm0
 unfold c2b at hm0
 split at hm0
 ·exact c9f m r hm0
 ·exact c9g m r hm0
theorem b27 (hf : Has O "newel/situation.within" x_situation_within) : b76 O := by
 intro n low high
 generalize hm0 : b1o n low high = r
 unfold b1o at hm0
 refine b1l hf rfl (b0a (b0d _) (b0a (b0d _) (b0a (b0d _) b0o))) (b0d _) ?_
 refine b1d (fun t h => t 0 = I n /\ t 1 = I low /\ t 2 = I high) ⟨rfl, rfl, rfl⟩ fun t h ⟨s0, s1, s2⟩ => ?_
 simp only [x_situation_within]
 refine b0b fun K hK => ?_
 simp only [go_sem]
 refine hK _ _ ?_
 clear hK K
 refine b2q (fun t h => t 6 = B ((decide (low <= n)) && (decide (n <= high)))) (fun K hK => ?_) ?_
 ·simp only [go_sem, s0, s1]
  refine b0i (fun hg1 => ?_) (fun hg1 => ?_)
  ·simp only [go_sem, s0, s2, hg1]
   exact hK _ _ (by first | (simp only [go_sem, hg1]; done) | rfl)
  ·simp only [go_sem, hg1]
   exact hK _ _ (by first | (simp only [go_sem, hg1]; done) | rfl)
 ·rintro t h s6
  simp only [b0u, b0v]
  obtain rfl := hm0
  exact b01 (by simp only [go_sem, s6]) (b0d _)
theorem c9j (hf : Has O "slices.ContainsFunc[newel/api.Cond,newel/api.Term]" x_slices_ContainsFunc_api_Cond_api_Term_) (c9k : c68 O) : c67 O := by
 intro s f_n f_a f_b f f_z f_h r hm0
 unfold c51 at hm0
 refine b1l hf rfl (b0a (b0f fun a _ => b4g a) (b0a f_z b0o)) (b0d _) ?_
 refine b1d (fun t h => t 0 = .fs 1 (List.map b03 s) /\ t 1 = .fn f_n f_a f_b) ⟨rfl, rfl⟩ fun t h ⟨s0, s1⟩ => ?_
 simp only [x_slices_ContainsFunc_api_Cond_api_Term_]
 refine b0b fun K hK => ?_
 simp only [go_sem]
 refine hK _ _ ?_
 clear hK K
 obtain ⟨y2, h_y2, hm0⟩ := b0h hm0
 refine b0b fun K hK => ?_
 simp only [go_sem, s0, s1]
 refine b0z (c9k s f_n f_a f_b f f_z f_h _ h_y2) ?_
 simp only [go_sem]
 refine hK _ _ ?_
 clear hK K
 simp only [b0u, b0v]
 obtain rfl := sI9 hm0
 exact b01 (by simp only [go_sem]) (b0d _)
end Go.Nw.KM
