/- That the texts make what their models say: printed by a program. -/
import Derived.Test.YtccjacnppmciaaaGreatDoorAM
import Derived.Test.YtccjacnppmciaaaGreatDoorP1
import Derived.Test.YtccjacnppmciaaaGreatDoorP2
set_option linter.all false
namespace Go.Nw.AM
open Go.Nw.Acc
set_option maxHeartbeats 4000000
variable {O : Orac} [MapsOk O]
theorem d3e (hf : Has O "newel/newelref04.literal" x_r04_literal) : d0h O := by
 intro m p input l r hm0;unfold c1a at hm0;refine b1i hf rfl (b0a (fM _) (b0a (.agg _ (b0a (b0e _) (b0a (b0e _) (b0a (b0e _) b0j)))) (b0a (b0e _) (b0a (.agg _ (b0a (b0e _) (b0a (b0e _) (b0a (b0e _) (b0a (b0e _) b0j))))) b0j)))) (b0e _) ?_;refine b1c (fun t h => t 0 = .agg (vM m) /\ t 1 = .agg [I p.State, I p.Values.1, I p.Values.2] /\ t 2 = I input /\ t 3 = .agg [I l.Kind, I l.Number, I l.Value, B l.Not]) ⟨rfl, rfl, rfl, rfl⟩ fun t h ⟨s0, s1, s2, s3⟩ => ?_;simp only [x_r04_literal];apply b0b;intro K hK;simp only [go_sem, s0, s1, s3];apply hK;apply b0b;intro K hK;simp only [go_sem];apply hK;refine b0v ?_;apply b0b;intro K hK;simp only [go_sem];apply hK;refine b0i fun K1 hK1 => ?_
 have J2 : ∀ (is_9 : Bool) (t : Slots) (h : Heap), t 7 = .fp [I l.Kind, I l.Number, I l.Value, B l.Not] 0 -> t 9 = B is_9 -> b7q l is_9 = some r -> K1 t h := by
  intro is_9 t h s7 s9 hm0;refine hK1 _ _ ?_;unfold b7q at hm0;apply b0b;intro K hK;simp only [go_sem, s7, s9];apply hK;simp only [b0x, b0y];obtain rfl := sI9 hm0;exact b04 vb9 (b0e _)
 simp only [b0u];apply b0b;intro K hK;simp only [go_sem];apply hK;simp only [go_sem];refine b0k (fun hc3 => ?_) (fun hc3 => ?_)
 ·rw [b0r hc3] at hm0;obtain ⟨q5, h_q5, hm0⟩ := b0g hm0;apply b03;intro K hK;simp only [go_sem, s2, c7d h_q5];apply hK;simp only [b02, b0f];exact J2 (decide ((b6y q5 1) = 1)) _ _ va9 va9 hm0
 ·rw [b0q hc3] at hm0;apply b0b;intro K hK;simp only [go_sem];apply hK;simp only [go_sem];refine b0k (fun hc6 => ?_) (fun hc6 => ?_)
  ·rw [b0r hc6] at hm0;obtain ⟨x8, h_x8, hm0⟩ := b0g hm0;have ha_x8 : ∀ v : Int, List.take (1 + Int.toNat (l.Number)) [I p.State, I p.Values.1, I p.Values.2] ++ [I v] ++ List.drop (1 + Int.toNat (l.Number)) [I p.Values.1, I p.Values.2] = [I p.State, I (b1n (l.Number) 0 v p.Values.1), I (b1n (l.Number) 1 v p.Values.2)] := fun v => (c1e (cs := [I p.State, I p.Values.1, I p.Values.2]) (off := 1) (v := v) h_x8 rfl).trans (by rw [c1d h_x8]; rfl);have hb_x8 : 1 + Int.toNat (l.Number) + 1 <= 3 := Nat.le_trans (Nat.add_le_add_left (c0a h_x8) 1) (by simp);apply b03;intro K hK;simp only [go_sem, d94 (n := 2) (l := [p.Values.1, p.Values.2]) h_x8 rfl, c0c (cs := [I p.State, I p.Values.1, I p.Values.2]) (off := 1) h_x8 rfl];apply hK;simp only [b02, b0f];exact J2 (decide (l.Value <= x8)) _ _ va9 va9 hm0
  ·rw [b0q hc6] at hm0;apply b0b;intro K hK;simp only [go_sem];apply hK;simp only [go_sem];refine b0k (fun hc9 => ?_) (fun hc9 => ?_)
   ·rw [b0r hc9] at hm0;apply b03;intro K hK;simp only [go_sem];apply hK;simp only [b02, b0f];exact J2 (decide (p.State = l.Number)) _ _ va9 va9 hm0
   ·rw [b0q hc9] at hm0;apply b0b;intro K hK;simp only [go_sem];apply hK;simp only [go_sem];refine b0k (fun hc10 => ?_) (fun hc10 => ?_)
    ·rw [b0r hc10] at hm0;obtain ⟨x13, h_x13, hm0⟩ := b0g hm0;have h_x130 := b05 h_x13;have h_x131 := b06 h_x13;obtain ⟨q14, h_q14, hm0⟩ := b0g hm0;apply b03;intro K hK;simp only [go_sem, b08 h_x13, c7d h_q14];apply hK;simp only [b02, b0f];exact J2 (decide ((b6y q14 1) = 1)) _ _ va9 va9 hm0
    ·rw [b0q hc10] at hm0;simp only [b0s, b02, b0f];exact J2 false _ _ va9 va9 hm0
theorem d3f (hf : Has O "newel/newelref04.names" x_r04_names) : d0i O := by
 intro m r hm0;unfold c4l at hm0;refine b1i hf rfl (b0a (fM _) b0j) (b0c fun a _ => b0z a) ?_;refine b1c (fun t h => t 0 = .agg (vM m)) rfl fun t h s0 => ?_;simp only [x_r04_names];apply b0b;intro K hK;simp only [go_sem, s0];apply hK;obtain ⟨l3, h_l3, hm0⟩ := b0g hm0;obtain ⟨l4, h_l4, hm0⟩ := b0g hm0;apply b0b;intro K hK;simp only [go_sem];refine b3a (f := eS) (l := ([])) (m := m.Inputs) ?_ ?_ ?_ ?_ h_l3 ?_
 ·exact (b2v vb9 vb9 vb9)
 ·exact b7j
 ·exact b7i
 ·exact (fun e => by cases e)
 simp only [go_sem];refine b3a (f := eS) (l := l3) (m := m.Outputs) ?_ ?_ ?_ ?_ h_l4 ?_
 ·exact (b2v vb9 vb9 vb9)
 ·exact b7j
 ·exact b7i
 ·exact (fun e => by cases e)
 simp only [go_sem];apply hK;refine b0v ?_;apply b0b;intro K hK;simp only [go_sem];apply hK;refine b0i fun K5 hK5 => ?_
 have J6 : ∀ (l_3 : List ByteArray) (i3 : Nat) (t : Slots) (h : Heap), t 1 = .fp (vM m) 0 -> t 3 = .rs i3 0 (List.length l_3) -> h.ob i3 = some (1, List.map eS l_3) -> i3 < h.nx -> c8u m l_3 = some r -> K5 t h := by
  intro l_3 i3 t h s1 s3 Q3 Q1 hm0;refine hK5 _ _ ?_;unfold c8u at hm0;refine b0v ?_;apply b0b;intro K hK;simp only [go_sem];apply hK;refine b0i fun K7 hK7 => ?_
  have J8 : ∀ (l_3_1 : List ByteArray) (i3_1 : Nat) (t : Slots) (h : Heap), t 3 = .rs i3_1 0 (List.length l_3_1) -> h.ob i3_1 = some (1, List.map eS l_3_1) -> i3_1 < h.nx -> c8v l_3_1 = some r -> K7 t h := by
   intro l_3_1 i3_1 t h s3 Q3 Q1 hm0;refine hK7 _ _ ?_;unfold c8v at hm0;apply b0b;intro K hK;simp only [go_sem, s3];apply hK;simp only [b0x, b0y];obtain rfl := sI9 hm0;exact b8e (v := .rs i3_1 0 (List.length l_3_1)) vb9 (b29 (f := eS) (l := l_3_1) (id := i3_1) (by simp only [go_sem, Q3]) vf9 b0z c3u)
  simp only [b0u];obtain ⟨b9, hl9, hm0⟩ := b0g hm0;refine b1j hl9 (fun | (l_3_1, i_5), t, h => ∃ i3_1 : Nat, t 1 = .fp (vM m) 0 /\ t 3 = .rs i3_1 0 (List.length l_3_1) /\ t 5 = I i_5 /\ h.ob i3_1 = some (1, List.map eS l_3_1) /\ i3_1 < h.nx) ?_ ?_
  ·exact ⟨i3, s1, (by first | exact s3 | simp only [go_sem, s3, lA9, mA9]), va9, Q3, Q1⟩
  ·rintro ⟨l_3_1, i_5⟩ o t h ⟨i3_1, s1, s3, s5, Q3, Q1⟩ hm1 hb9;simp only [c8s] at hm1;rw [g43];refine b0v ?_;apply b0b;intro K hK;simp only [go_sem, s1, s5];apply hK;refine b0i fun K10 hK10 => ?_;simp only [go_sem];refine b0k (fun hc11 => ?_) (fun hc11 => ?_)
   ·rw [b0r hc11] at hm1;simp only [b0s, b0f];refine hK10 _ _ ?_;refine b0i fun K12 hK12 => ?_;simp only [b0u];obtain ⟨x15, h_x15, hm1⟩ := b0g hm1;have h_x150 := b05 h_x15;have h_x151 := b06 h_x15;obtain ⟨l16, h_l16, hm1⟩ := b0g hm1;apply b03;intro K hK;simp only [go_sem, s1, s3, s5, b08 h_x15, h_x151];refine b3a (f := eS) (l := l_3_1) (m := ([x15.Name])) ?_ ?_ ?_ ?_ h_l16 ?_
    ·exact (b2v (by simp only [go_sem, Q3, Q1]) vb9 (by simp only [go_sem, Q1]))
    ·exact (b4t vb9 vb9)
    ·exact (b4r vd9)
    ·exact (fun _ => by simp)
    simp only [go_sem];apply hK;simp only [b02, b0f];refine hK12 _ _ ?_;apply b03;intro K hK;simp only [go_sem, s5];apply hK;simp only [b0f];obtain rfl := sI9 hm1;refine ⟨_, rfl, ?_⟩;exact ⟨(nxs h.nx), s1, va9, va9, vb9, vb9⟩
   ·rw [b0q hc11] at hm1;simp only [b09, b1b, b1a, b0f];obtain rfl := sI9 hm1;obtain rfl := hb9 _ rfl
    try dsimp only at hm0
    exact J8 l_3_1 i3_1 _ _ (by first | exact s3 | simp only [go_sem, s3, lA9, mA9]) Q3 Q1 hm0
 simp only [b0u];obtain ⟨b18, hl18, hm0⟩ := b0g hm0;refine b1j hl18 (fun | (l_3, i_4), t, h => ∃ i3 : Nat, t 1 = .fp (vM m) 0 /\ t 3 = .rs i3 0 (List.length l_3) /\ t 4 = I i_4 /\ h.ob i3 = some (1, List.map eS l_3) /\ i3 < h.nx) ?_ ?_
 ·exact ⟨(nxs (nxs h.nx)), va9, va9, va9, vb9, vb9⟩
 ·rintro ⟨l_3, i_4⟩ o t h ⟨i3, s1, s3, s4, Q3, Q1⟩ hm1 hb18;simp only [c8t] at hm1;rw [g44];refine b0v ?_;apply b0b;intro K hK;simp only [go_sem, s1, s4];apply hK;refine b0i fun K19 hK19 => ?_;simp only [go_sem];refine b0k (fun hc20 => ?_) (fun hc20 => ?_)
  ·rw [b0r hc20] at hm1;simp only [b0s, b0f];refine hK19 _ _ ?_;refine b0i fun K21 hK21 => ?_;simp only [b0u];obtain ⟨x24, h_x24, hm1⟩ := b0g hm1;have h_x240 := b05 h_x24;have h_x241 := b06 h_x24;obtain ⟨l25, h_l25, hm1⟩ := b0g hm1;apply b03;intro K hK;simp only [go_sem, s1, s3, s4, b08 h_x24, h_x241];refine b3a (f := eS) (l := l_3) (m := ([x24.Name])) ?_ ?_ ?_ ?_ h_l25 ?_
   ·exact (b2v (by simp only [go_sem, Q3, Q1]) vb9 (by simp only [go_sem, Q1]))
   ·exact (b4t vb9 vb9)
   ·exact (b4r vd9)
   ·exact (fun _ => by simp)
   simp only [go_sem];apply hK;simp only [b02, b0f];refine hK21 _ _ ?_;apply b03;intro K hK;simp only [go_sem, s4];apply hK;simp only [b0f];obtain rfl := sI9 hm1;refine ⟨_, rfl, ?_⟩;exact ⟨(nxs h.nx), s1, va9, va9, vb9, vb9⟩
  ·rw [b0q hc20] at hm1;simp only [b09, b1b, b1a, b0f];obtain rfl := sI9 hm1;obtain rfl := hb18 _ rfl
   try dsimp only at hm0
   exact J6 l_3 i3 _ _ s1 (by first | exact s3 | simp only [go_sem, s3, lA9, mA9]) Q3 Q1 hm0
theorem u0s (hf : Has O "newel/newelref10.CheckAccident" x_r10_CheckAccident) (c3j : c5l O) (s8v : u1m O) : u1k O := by
 intro a r hm0;unfold s9r at hm0;refine b1i hf rfl (b0a (fA _) b0j) (b0e _) ?_;refine b1c (fun t h => t 0 = .agg (vA a)) rfl fun t h s0 => ?_;simp only [x_r10_CheckAccident];apply b0b;intro K hK;simp only [go_sem, s0];apply hK;apply b0b;intro K hK;simp only [go_sem];apply hK;refine b0v ?_;apply b0b;intro K hK;simp only [go_sem];apply hK;refine b0i fun K1 hK1 => ?_
 have J2 : ∀ (l_3 : List (List (List Literal))) (i3 : Nat) (t : Slots) (h : Heap), t 1 = .fp (vA a) 0 -> t 3 = .rs i3 0 (List.length l_3) -> h.ob i3 = some (1, List.map b4v l_3) -> i3 < h.nx -> u11 a l_3 = some r -> K1 t h := by
  intro l_3 i3 t h s1 s3 Q3 Q1 hm0;refine hK1 _ _ ?_;unfold u11 at hm0;obtain ⟨y4, h_y4, hm0⟩ := b0g hm0;apply b0b;intro K hK;simp only [go_sem, s1, s3];refine b8l ?_ (c3j a.Machine l_3 _ h_y4) (.v _) ?_
  ·exact .cons (.refl _ (fM _)) (.cons (b29 (f := b4v) (l := l_3) (id := i3) (by simp only [go_sem, Q3]) vf9 b97 c7o) (.nil))
  simp only [go_sem];apply hK;refine b0v ?_;apply b0b;intro K hK;simp only [go_sem];apply hK;refine b0i fun K5 hK5 => ?_;simp only [go_sem];refine b0k (fun hc6 => ?_) (fun hc6 => ?_)
  ·rw [b0r hc6] at hm0;apply b0b;intro K hK;simp only [go_sem];apply hK;simp only [b0x, b1p, b0y];obtain rfl := sI9 hm0;exact b04 vb9 (b0e _)
  ·rw [b0q hc6] at hm0;simp only [b0s, b0f];refine hK5 _ _ ?_;refine b0v ?_;apply b0b;intro K hK;simp only [go_sem, s1];refine b01 (s8v a.Ticks 0 40) ?_;simp only [go_sem];apply hK;refine b0i fun K7 hK7 => ?_;simp only [go_sem];refine b0k (fun hc8 => ?_) (fun hc8 => ?_)
   ·rw [b0r hc8] at hm0;apply b0b;intro K hK;simp only [go_sem];apply hK;simp only [b0x, b1p, b0y];obtain rfl := sI9 hm0;exact b04 vb9 (b0e _)
   ·rw [b0q hc8] at hm0;simp only [b0s, b0f];refine hK7 _ _ ?_;refine b0v ?_;apply b0b;intro K hK;simp only [go_sem, s1];apply hK;refine b0i fun K9 hK9 => ?_;simp only [go_sem];refine b0k (fun hc10 => ?_) (fun hc10 => ?_)
    ·rw [b0r hc10] at hm0;apply b0b;intro K hK;simp only [go_sem];apply hK;simp only [b0x, b1p, b0y];obtain rfl := sI9 hm0;exact b04 vb9 (b0e _)
    ·rw [b0q hc10] at hm0;simp only [b0s, b0f];refine hK9 _ _ ?_;refine b0v ?_;apply b0b;intro K hK;simp only [go_sem];apply hK;refine b0i fun K11 hK11 => ?_
     have J12 : ∀ (t : Slots) (h : Heap), u30 = some r -> K11 t h := by
      intro t h hm0;refine hK11 _ _ ?_;unfold u30 at hm0;apply b0b;intro K hK;simp only [go_sem];apply hK;simp only [b0x, b0y];obtain rfl := sI9 hm0;exact b04 vb9 (b0e _)
     simp only [b0u];obtain ⟨b13, hl13, hm0⟩ := b0g hm0;refine b1j hl13 (fun | i_6, t, h => t 1 = .fp (vA a) 0 /\ t 6 = I i_6) ?_ ?_
     ·exact ⟨s1, va9⟩
     ·rintro i_6 o t h ⟨s1, s6⟩ hm1 hb13;simp only [u01] at hm1;rw [u5y];refine b0v ?_;apply b0b;intro K hK;simp only [go_sem, s1, s6];apply hK;refine b0i fun K14 hK14 => ?_;simp only [go_sem];refine b0k (fun hc15 => ?_) (fun hc15 => ?_)
      ·rw [b0r hc15] at hm1;simp only [b0s, b0f];refine hK14 _ _ ?_;refine b0i fun K16 hK16 => ?_;simp only [b0u];obtain ⟨x18, h_x18, hm1⟩ := b0g hm1;have h_x180 := b05 h_x18;have h_x181 := b06 h_x18;apply b0b;intro K hK;simp only [go_sem, s1, s6, b08 h_x18, h_x181];apply hK;refine b2p (fun t h => t 1 = .fp (vA a) 0 /\ t 6 = I i_6 /\ t 66 = B ((!(b98 x18.From 0 x18.To)) || (decide (a.Ticks <= x18.To)))) (fun K hK => ?_) ?_
       ·simp only [go_sem];refine b01 (s8v x18.From 0 x18.To) ?_;simp only [go_sem];refine b0k (fun hg19 => ?_) (fun hg19 => ?_)
        ·simp only [go_sem, hg19];exact hK _ _ ⟨s1, s6, (by first | (simp only [go_sem, hg19]; done) | rfl)⟩
        ·simp only [go_sem, s1, hg19];exact hK _ _ ⟨s1, s6, (by first | (simp only [go_sem, hg19]; done) | rfl)⟩
       ·rintro t h ⟨s1, s6, s66⟩;simp only [go_sem, s66];refine b0k (fun hc20 => ?_) (fun hc20 => ?_)
        ·rw [b0r hc20] at hm1;apply b0b;intro K hK;simp only [go_sem];apply hK;simp only [b0x, b1p, b2e, b0y];obtain rfl := sI9 hm1;obtain rfl := hb13 _ rfl
         try dsimp only at hm0
         obtain rfl := sI9 hm0;exact b04 vb9 (b0e _)
        ·rw [b0q hc20] at hm1;simp only [b0s, b02, b0f];refine hK16 _ _ ?_;apply b03;intro K hK;simp only [go_sem, s6];apply hK;simp only [b0f];obtain rfl := sI9 hm1;refine ⟨_, rfl, ?_⟩;exact ⟨s1, va9⟩
      ·rw [b0q hc15] at hm1;simp only [b09, b1b, b1a, b0f];obtain rfl := sI9 hm1;obtain rfl := hb13 _ rfl
       try dsimp only at hm0
       exact J12  _ _  hm0
 simp only [b0u];obtain ⟨b22, hl22, hm0⟩ := b0g hm0;refine b1j hl22 (fun | (l_3, i_4), t, h => ∃ i3 : Nat, t 1 = .fp (vA a) 0 /\ t 3 = .rs i3 0 (List.length l_3) /\ t 4 = I i_4 /\ h.ob i3 = some (1, List.map b4v l_3) /\ i3 < h.nx) ?_ ?_
 ·exact ⟨h.nx, va9, va9, va9, vb9, vb9⟩
 ·rintro ⟨l_3, i_4⟩ o t h ⟨i3, s1, s3, s4, Q3, Q1⟩ hm1 hb22;simp only [s9s] at hm1;rw [u5z];refine b0v ?_;apply b0b;intro K hK;simp only [go_sem, s1, s4];apply hK;refine b0i fun K23 hK23 => ?_;simp only [go_sem];refine b0k (fun hc24 => ?_) (fun hc24 => ?_)
  ·rw [b0r hc24] at hm1;simp only [b0s, b0f];refine hK23 _ _ ?_;refine b0i fun K25 hK25 => ?_;simp only [b0u];obtain ⟨x28, h_x28, hm1⟩ := b0g hm1;have h_x280 := b05 h_x28;have h_x281 := b06 h_x28;obtain ⟨l29, h_l29, hm1⟩ := b0g hm1;apply b03;intro K hK;simp only [go_sem, s1, s3, s4, b08 h_x28, h_x281];refine b3a (f := b4v) (l := l_3) (m := ([x28.Cond])) ?_ ?_ ?_ ?_ h_l29 ?_
   ·exact (b2v (by simp only [go_sem, Q3, Q1]) vb9 (by simp only [go_sem, Q1]))
   ·exact (b4t vb9 vb9)
   ·exact (b4r vd9)
   ·exact (fun _ => by simp)
   simp only [go_sem];apply hK;simp only [b02, b0f];refine hK25 _ _ ?_;apply b03;intro K hK;simp only [go_sem, s4];apply hK;simp only [b0f];obtain rfl := sI9 hm1;refine ⟨_, rfl, ?_⟩;exact ⟨(nxs h.nx), s1, va9, va9, vb9, vb9⟩
  ·rw [b0q hc24] at hm1;simp only [b09, b1b, b1a, b0f];obtain rfl := sI9 hm1;obtain rfl := hb22 _ rfl
   try dsimp only at hm0
   exact J2 l_3 i3 _ _ s1 (by first | exact s3 | simp only [go_sem, s3, lA9, mA9]) Q3 Q1 hm0
theorem u3q (hf : Has O "newel/newelref10.CopyAccident" x_r10_CopyAccident) (d3a : d0d O) (c0i : c5m O) : u2p O := by
 intro a r hm0;unfold u02 at hm0;refine b1i hf rfl (b0a (fA _) b0j) (fA _) ?_;refine b1c (fun t h => t 0 = .agg (vA a)) rfl fun t h s0 => ?_;simp only [x_r10_CopyAccident];apply b0b;intro K hK;simp only [go_sem, s0];apply hK;obtain ⟨y3, h_y3, hm0⟩ := b0g hm0;obtain ⟨y4, h_y4, hm0⟩ := b0g hm0;apply b0b;intro K hK;simp only [go_sem];refine b01 (d3a a.Machine _ h_y3) ?_;simp only [go_sem];refine b01 (c0i a.Assume _ h_y4) ?_;simp only [go_sem];apply hK;refine b0v ?_;apply b0b;intro K hK;simp only [go_sem];apply hK;refine b0i fun K5 hK5 => ?_
 have J6 : ∀ (o_3_7 : List Record) (i2 i3 : Nat) (v3 : AV) (t : Slots) (h : Heap), t 2 = .rp i2 0 0 -> t 3 = .rp i3 0 0 -> h.ob i2 = some (8, [[.v (.slice none 0 0), .v (.slice none 0 0), .v (.slice none 0 0), .v (.slice none 0 0), .v (.slice none 0 0), .v (.slice none 0 0), I 0, .v (.slice none 0 0)]]) -> i2 < h.nx -> h.ob i3 = some (8, [[.fs 1 (List.map eS y3.Inputs), .fs 1 (List.map eS y3.Outputs), .fs 2 (List.map b0o y3.Counters), .fs 2 (List.map b0p y3.States), .fs 4 (List.map b0m y3.Rules), .fs 1 (List.map b0t y4), I a.Ticks, v3]]) -> i3 < h.nx -> b2a h v3 4 (List.map b26 o_3_7) -> ¬i2 = i3 -> b07 v3 i2 -> b07 v3 i3 -> u31 a y3 y4 o_3_7 = some r -> K5 t h := by
  intro o_3_7 i2 i3 v3 t h s2 s3 Qo Qp Q3 Q1 Qj Qq Qr Qu hm0;refine hK5 _ _ ?_;unfold u31 at hm0;apply b0b;intro K hK;simp only [go_sem, s2, s3, Qo, Q3];apply hK;simp only [b0x, b0y];obtain rfl := sI9 hm0;exact b90 (id := i2) (m := 8) (cs := [.fs 1 (List.map eS y3.Inputs), .fs 1 (List.map eS y3.Outputs), .fs 2 (List.map b0o y3.Counters), .fs 2 (List.map b0p y3.States), .fs 4 (List.map b0m y3.Rules), .fs 1 (List.map b0t y4), I a.Ticks, v3]) (by simp only [go_sem, s2]) vb9 rfl (d79 (.cons (.refl _ (b0c fun a _ => b0z a)) (.cons (.refl _ (b0c fun a _ => b0z a)) (.cons (.refl _ (b0c fun a _ => b1q a)) (.cons (.refl _ (b0c fun a _ => b1s a)) (.cons (.refl _ (b0c fun a _ => b1r a)) (.cons (.refl _ (b0c fun a _ => b2j a)) (.cons (.refl _ (b0e _)) (.cons (r8x (f := b26) (l := o_3_7) (b3x Qj (by intro j hj hl; first | rfl | simp only [go_sem, b4s hj Qr]) (by first | omega | exact Nat.le_refl _ | (simp only [go_sem, nxs] <;> omega))) c17 u8r) (.nil))))))))))
 simp only [b0u];obtain ⟨b7, hl7, hm0⟩ := b0g hm0;refine b1j hl7 (fun | (o_3_7, i_4), t, h => ∃ i2 i3 : Nat, ∃ v3 : AV, t 1 = .fp (vA a) 0 /\ t 2 = .rp i2 0 0 /\ t 3 = .rp i3 0 0 /\ t 4 = I i_4 /\ h.ob i2 = some (8, [[.v (.slice none 0 0), .v (.slice none 0 0), .v (.slice none 0 0), .v (.slice none 0 0), .v (.slice none 0 0), .v (.slice none 0 0), I 0, .v (.slice none 0 0)]]) /\ i2 < h.nx /\ h.ob i3 = some (8, [[.fs 1 (List.map eS y3.Inputs), .fs 1 (List.map eS y3.Outputs), .fs 2 (List.map b0o y3.Counters), .fs 2 (List.map b0p y3.States), .fs 4 (List.map b0m y3.Rules), .fs 1 (List.map b0t y4), I a.Ticks, v3]]) /\ i3 < h.nx /\ b2a h v3 4 (List.map b26 o_3_7) /\ ¬i2 = i3 /\ b07 v3 i2 /\ b07 v3 i3) ?_ ?_
 ·exact ⟨h.nx, (nxs h.nx), (.v (.slice none 0 0)), va9, va9, va9, va9, vb9, vb9, vb9, vb9, c0o, ve9, vc9, vc9⟩
 ·rintro ⟨o_3_7, i_4⟩ o t h ⟨i2, i3, v3, s1, s2, s3, s4, Qo, Qp, Q3, Q1, Qj, Qq, Qr, Qu⟩ hm1 hb7;simp only [u03] at hm1;rw [u50];refine b0v ?_;apply b0b;intro K hK;simp only [go_sem, s1, s4];apply hK;refine b0i fun K8 hK8 => ?_;simp only [go_sem];refine b0k (fun hc9 => ?_) (fun hc9 => ?_)
  ·rw [b0r hc9] at hm1;simp only [b0s, b0f];refine hK8 _ _ ?_;refine b0i fun K10 hK10 => ?_;simp only [b0u];obtain ⟨x12, h_x12, hm1⟩ := b0g hm1;have h_x120 := b05 h_x12;have h_x121 := b06 h_x12;apply b0b;intro K hK;simp only [go_sem, s1, s4, b08 h_x12, h_x121];apply hK;obtain ⟨y14, h_y14, hm1⟩ := b0g hm1;apply b0b;intro K hK;simp only [go_sem];refine b01 (c0i x12.Cond _ h_y14) ?_;simp only [go_sem];apply hK;obtain ⟨l16, h_l16, hm1⟩ := b0g hm1;apply b03;intro K hK;simp only [go_sem, s3, Q3, Q1];refine b3a (f := b26) (l := o_3_7) (m := ([(Record.mk x12.From x12.To x12.All y14)])) ?_ ?_ ?_ ?_ h_l16 ?_
   ·exact (b3x Qj (by intro j hj hl; first | rfl | simp only [go_sem, hl]) (by first | omega | exact Nat.le_refl _ | (simp only [go_sem, nxs] <;> omega)))
   ·exact (b4t vb9 vb9)
   ·exact (b4r vd9)
   ·exact (fun _ => by simp)
   simp only [go_sem, s3, Q3, Q1, Qu];apply hK;simp only [b02, b0f];refine hK10 _ _ ?_;apply b03;intro K hK;simp only [go_sem, s4];apply hK;simp only [b0f];obtain rfl := sI9 hm1;refine ⟨_, rfl, ?_⟩;exact ⟨i2, i3, (.rs (nxs (nxs h.nx)) 0 (List.length l16)), s1, s2, s3, va9, (by simp only [go_sem, Qo, Qp, Qq, Qr]), (by simp only [go_sem, Qp]), vb9, (by simp only [go_sem, Q1]), (b2v (by simp only [go_sem, Q1, b8s Qj]) vh9 vb9), Qq, vc9, vc9⟩
  ·rw [b0q hc9] at hm1;simp only [b09, b1b, b1a, b0f];obtain rfl := sI9 hm1;obtain rfl := hb7 _ rfl
   try dsimp only at hm0
   exact J6 o_3_7 i2 i3 v3 _ _ s2 s3 Qo Qp Q3 Q1 Qj Qq Qr Qu hm0
theorem u3t (hf : Has O "newel/newelref10.IsTheory" x_r10_IsTheory) (s8v : u1m O) : u2s O := by
 intro a t_;generalize hm0 : l59 a t_ = r;unfold l59 at hm0;refine b1i hf rfl (b0a (fA _) (b0a (.agg _ (b0a (b0e _) (b0a (b0e _) (b0a (b0e _) b0j)))) b0j)) (b0e _) ?_;refine b1c (fun t h => t 0 = .agg (vA a) /\ t 1 = .agg [I t_.Input, I t_.Value, I t_.From]) ⟨rfl, rfl⟩ fun t h ⟨s0, s1⟩ => ?_;simp only [x_r10_IsTheory];apply b0b;intro K hK;simp only [go_sem, s0, s1];apply hK;refine b0v ?_;apply b0b;intro K hK;simp only [go_sem];apply hK;refine b0i fun K1 hK1 => ?_;simp only [go_sem];refine b0k (fun hc2 => ?_) (fun hc2 => ?_)
 ·rw [b0r hc2] at hm0;refine b2p (fun t h => t 4 = B ((decide (t_.Value = 0)) && (decide (t_.From = 0)))) (fun K hK => ?_) ?_
  ·simp only [go_sem];refine b0k (fun hg3 => ?_) (fun hg3 => ?_)
   ·simp only [go_sem, hg3];exact hK _ _ (by first | (simp only [go_sem, hg3]; done) | rfl)
   ·simp only [go_sem, hg3];exact hK _ _ (by first | (simp only [go_sem, hg3]; done) | rfl)
  ·rintro t h s4;simp only [b0x, b1p, b0y];obtain rfl := hm0;exact b04 (by simp only [go_sem, s4]) (b0e _)
 ·rw [b0q hc2] at hm0;simp only [b0s, b0f];refine hK1 _ _ ?_;refine b2p (fun t h => t 4 = B (((b98 t_.Input 0 (wr ((List.length a.Machine.Inputs : Int) - 1))) && (b98 t_.Value 0 1)) && (b98 t_.From 0 (wr (a.Ticks - 1))))) (fun K hK => ?_) ?_
  ·simp only [go_sem];refine b01 (s8v t_.Input 0 (wr ((List.length a.Machine.Inputs : Int) - 1))) ?_;simp only [go_sem];refine b0k (fun hg4 => ?_) (fun hg4 => ?_)
   ·simp only [go_sem, hg4];refine b01 (s8v t_.Value 0 1) ?_;simp only [go_sem, hg4];refine b0k (fun hg5 => ?_) (fun hg5 => ?_)
    ·simp only [go_sem, hg4, hg5];refine b01 (s8v t_.From 0 (wr (a.Ticks - 1))) ?_;simp only [go_sem, hg4, hg5];exact hK _ _ (by first | (simp only [go_sem, hg4, hg5]; done) | rfl)
    ·simp only [go_sem, hg4, hg5];exact hK _ _ (by first | (simp only [go_sem, hg4, hg5]; done) | rfl)
   ·simp only [go_sem, hg4];exact hK _ _ (by first | (simp only [go_sem, hg4]; done) | rfl)
  ·rintro t h s4;simp only [b0x, b0y];obtain rfl := hm0;exact b04 (by simp only [go_sem, s4]) (b0e _)
theorem x0m (hf : Has O "newel/newelref10.Refute" x_r10_Refute) (u0t : u1l O) (s9l : u1p O) (u3v : u2u O) : x0e O := by
 intro a t_ r hm0;unfold w92 at hm0;refine b1i hf rfl (b0a (fA _) (b0a (.agg _ (b0a (b0e _) (b0a (b0e _) (b0a (b0e _) b0j)))) b0j)) (.tup _ (b0a (b0c fun a _ => b1t a) (b0a (b0e _) b0j))) ?_;refine b1c (fun t h => t 0 = .agg (vA a) /\ t 1 = .agg [I t_.Input, I t_.Value, I t_.From]) ⟨rfl, rfl⟩ fun t h ⟨s0, s1⟩ => ?_;simp only [x_r10_Refute];apply b0b;intro K hK;simp only [go_sem, s0, s1];apply hK;obtain ⟨y2, h_y2, hm0⟩ := b0g hm0;apply b0b;intro K hK;simp only [go_sem];refine b01 (u0t a t_ _ h_y2) ?_;simp only [go_sem];apply hK;refine b0v ?_;apply b0b;intro K hK;simp only [go_sem];apply hK;refine b0i fun K3 hK3 => ?_;simp only [go_sem];refine b0k (fun hc4 => ?_) (fun hc4 => ?_)
 ·rw [b0r hc4] at hm0;apply b0b;intro K hK;simp only [go_sem];apply hK;simp only [b0x, b1p, b0y];obtain rfl := sI9 hm0;exact d66 (v := .v (.slice none 0 0)) (u := I y2) vb9 vb9 (.nil _) (.refl _ (b0e _))
 ·rw [b0q hc4] at hm0;simp only [b0s, b0f];refine hK3 _ _ ?_;obtain ⟨y6, h_y6, hm0⟩ := b0g hm0;apply b0b;intro K hK;simp only [go_sem];refine b01 (s9l a _ h_y6) ?_;simp only [go_sem];apply hK;refine b0v ?_;obtain ⟨y8, h_y8, hm0⟩ := b0g hm0;apply b0b;intro K hK;simp only [go_sem];refine b01 (u3v a t_ y6 _ h_y8) ?_;simp only [go_sem];apply hK;refine b0i fun K9 hK9 => ?_;simp only [go_sem];refine b0k (fun hc10 => ?_) (fun hc10 => ?_)
  ·rw [b0r hc10] at hm0;apply b0b;intro K hK;simp only [go_sem];apply hK;simp only [b0x, b1p, b0y];obtain rfl := sI9 hm0;exact d66 (v := .v (.slice none 0 0)) (u := I 3) vb9 vb9 (.nil _) (.refl _ (b0e _))
  ·rw [b0q hc10] at hm0;simp only [b0s, b0f];refine hK9 _ _ ?_;apply b0b;intro K hK;simp only [go_sem];apply hK;refine b0i fun K11 hK11 => ?_
   have J12 : ∀ (left_7 : List Int) (t : Slots) (h : Heap), t 7 = .fs 1 (List.map eI left_7) -> x0n left_7 = some r -> K11 t h := by
    intro left_7 t h s7 hm0;refine hK11 _ _ ?_;unfold x0n at hm0;apply b0b;intro K hK;simp only [go_sem, s7];apply hK;simp only [b0x, b0y];obtain rfl := sI9 hm0;exact d1m vb9 vb9 (b0c fun a _ => b1t a) (b0e _)
   simp only [b0u];obtain ⟨b13, hl13, hm0⟩ := b0g hm0;refine b1j hl13 (fun | (left_7, at_8), t, h => t 2 = .fp (vA a) 0 /\ t 3 = .fp [I t_.Input, I t_.Value, I t_.From] 0 /\ t 7 = .fs 1 (List.map eI left_7) /\ t 8 = I at_8) ?_ ?_
   ·exact ⟨va9, va9, va9, va9⟩
   ·rintro ⟨left_7, at_8⟩ o t h ⟨s2, s3, s7, s8⟩ hm1 hb13;simp only [w93] at hm1;rw [x0t];refine b0v ?_;apply b0b;intro K hK;simp only [go_sem, s7, s8];apply hK;refine b0i fun K14 hK14 => ?_;simp only [go_sem];refine b0k (fun hc15 => ?_) (fun hc15 => ?_)
    ·rw [b0r hc15] at hm1;simp only [b0s, b0f];refine hK14 _ _ ?_;simp only [b0u];obtain ⟨l20, h_l20, hm1⟩ := b0g hm1;obtain ⟨l21, h_l21, hm1⟩ := b0g hm1;obtain ⟨l22, h_l22, hm1⟩ := b0g hm1;obtain ⟨l23, h_l23, hm1⟩ := b0g hm1;apply b0b;intro K hK;simp only [go_sem, s7, s8];refine p9s (f := eI) (l := left_7) (lo := none) (hi := some at_8) h_l20 ?_;simp only [go_sem];refine b3a (f := eI) (l := ([])) (m := l20) ?_ ?_ ?_ ?_ h_l21 ?_
     ·exact (b2v vb9 vb9 vb9)
     ·exact b7j
     ·exact b7i
     ·exact (fun e => by cases e)
     simp only [go_sem, s7, s8];refine p9s (f := eI) (l := left_7) (lo := some (wr (at_8 + 1))) (hi := none) h_l22 ?_;simp only [go_sem];refine b3a (f := eI) (l := l21) (m := l22) ?_ ?_ ?_ ?_ h_l23 ?_
     ·exact (b2v vb9 vb9 vb9)
     ·exact b7j
     ·exact b7i
     ·exact (fun e => by cases e)
     simp only [go_sem];apply hK;obtain ⟨y25, h_y25, hm1⟩ := b0g hm1;apply b0b;intro K hK;simp only [go_sem, s2, s3];refine b8l ?_ (u3v a t_ l23 _ h_y25) (.v _) ?_
     ·exact .cons (.refl _ (fA _)) (.cons (.refl _ (.agg _ (b0a (b0e _) (b0a (b0e _) (b0a (b0e _) b0j))))) (.cons (b29 (f := eI) (l := l23) (id := (nxs (nxs h.nx))) vb9 vf9 b1t b8p) (.nil)))
     simp only [go_sem];apply hK;simp only [go_sem];refine b0k (fun hc26 => ?_) (fun hc26 => ?_)
     ·rw [b0r hc26] at hm1;apply b03;intro K hK;simp only [go_sem, s8];apply hK;simp only [b02, b0f];obtain rfl := sI9 hm1;refine ⟨_, rfl, ?_⟩;exact ⟨s2, s3, s7, va9⟩
     ·rw [b0q hc26] at hm1;apply b0b;intro K hK;simp only [go_sem];apply hK;refine g9m ?_;refine g9j (s := 7) (v := .rs (nxs (nxs h.nx)) 0 (List.length l23)) (f := eI) (l := l23) vb9 (b2v vb9 vb9 vb9) b1t b8p ?_;simp only [d75];simp only [b0s, b02, b0f];obtain rfl := sI9 hm1;refine ⟨_, rfl, ?_⟩;exact ⟨s2, s3, va9, s8⟩
    ·rw [b0q hc15] at hm1;simp only [b09, b1b, b1a, b0f];obtain rfl := sI9 hm1;obtain rfl := hb13 _ rfl
     try dsimp only at hm0
     exact J12 left_7 _ _ s7 hm0
theorem u0t (hf : Has O "newel/newelref10.check" x_r10_check) (u0s : u1k O) (u3t : u2s O) : u1l O := by
 intro a t_ r hm0;unfold y9g at hm0;refine b1i hf rfl (b0a (fA _) (b0a (.agg _ (b0a (b0e _) (b0a (b0e _) (b0a (b0e _) b0j)))) b0j)) (b0e _) ?_;refine b1c (fun t h => t 0 = .agg (vA a) /\ t 1 = .agg [I t_.Input, I t_.Value, I t_.From]) ⟨rfl, rfl⟩ fun t h ⟨s0, s1⟩ => ?_;simp only [x_r10_check];apply b0b;intro K hK;simp only [go_sem, s0, s1];apply hK;obtain ⟨y2, h_y2, hm0⟩ := b0g hm0;apply b0b;intro K hK;simp only [go_sem];refine b01 (u0s a _ h_y2) ?_;simp only [go_sem];apply hK;refine b0v ?_;apply b0b;intro K hK;simp only [go_sem];apply hK;refine b0i fun K3 hK3 => ?_;simp only [go_sem];refine b0k (fun hc4 => ?_) (fun hc4 => ?_)
 ·rw [b0r hc4] at hm0;apply b0b;intro K hK;simp only [go_sem];apply hK;simp only [b0x, b1p, b0y];obtain rfl := sI9 hm0;exact b04 vb9 (b0e _)
 ·rw [b0q hc4] at hm0;simp only [b0s, b0f];refine hK3 _ _ ?_;refine b0v ?_;apply b0b;intro K hK;simp only [go_sem];refine b01 (u3t a t_) ?_;simp only [go_sem];apply hK;refine b0i fun K5 hK5 => ?_;simp only [go_sem];refine b0k (fun hc6 => ?_) (fun hc6 => ?_)
  ·rw [b0r hc6] at hm0;apply b0b;intro K hK;simp only [go_sem];apply hK;simp only [b0x, b1p, b0y];obtain rfl := sI9 hm0;exact b04 vb9 (b0e _)
  ·rw [b0q hc6] at hm0;simp only [b0s, b0f];refine hK5 _ _ ?_;apply b0b;intro K hK;simp only [go_sem];apply hK;simp only [b0x, b0y];obtain rfl := sI9 hm0;exact b04 vb9 (b0e _)
theorem s9k (hf : Has O "newel/newelref10.index" x_r10_index) : u1n O := by
 intro l k r hm0;unfold s8y at hm0;refine b1i hf rfl (b0a (b0c fun a _ => u0m a) (b0a (.agg _ (b0a (b0e _) (b0a (b0e _) (b0a (b0e _) (b0a (b0e _) b0j))))) b0j)) (b0e _) ?_;refine b1c (fun t h => t 0 = .fs 4 (List.map b42 l) /\ t 1 = .agg [I k.place.State, I k.place.Values.1, I k.place.Values.2, I k.done]) ⟨rfl, rfl⟩ fun t h ⟨s0, s1⟩ => ?_;simp only [x_r10_index];apply b0b;intro K hK;simp only [go_sem, s1];apply hK;refine b0v ?_;apply b0b;intro K hK;simp only [go_sem];apply hK;refine b0i fun K1 hK1 => ?_
 have J2 : ∀ (t : Slots) (h : Heap), u13 = some r -> K1 t h := by
  intro t h hm0;refine hK1 _ _ ?_;unfold u13 at hm0;apply b0b;intro K hK;simp only [go_sem];apply hK;simp only [b0x, b0y];obtain rfl := sI9 hm0;exact b04 vb9 (b0e _)
 simp only [b0u];obtain ⟨b3, hl3, hm0⟩ := b0g hm0;refine b1j hl3 (fun | i_5, t, h => t 0 = .fs 4 (List.map b42 l) /\ t 3 = .fp [I k.place.State, I k.place.Values.1, I k.place.Values.2, I k.done] 0 /\ t 5 = I i_5) ?_ ?_
 ·exact ⟨s0, va9, va9⟩
 ·rintro i_5 o t h ⟨s0, s3, s5⟩ hm1 hb3;simp only [s9t] at hm1;rw [u53];refine b0v ?_;apply b0b;intro K hK;simp only [go_sem, s0, s5];apply hK;refine b0i fun K4 hK4 => ?_;simp only [go_sem];refine b0k (fun hc5 => ?_) (fun hc5 => ?_)
  ·rw [b0r hc5] at hm1;simp only [b0s, b0f];refine hK4 _ _ ?_;refine b0i fun K6 hK6 => ?_;simp only [b0u];obtain ⟨x8, h_x8, hm1⟩ := b0g hm1;have h_x80 := b05 h_x8;have h_x81 := b06 h_x8;apply b0b;intro K hK;simp only [go_sem, s0, s3, s5, b08 h_x8, h_x81];apply hK;simp only [go_sem];refine b0k (fun hc9 => ?_) (fun hc9 => ?_)
   ·rw [b0r hc9] at hm1;apply b0b;intro K hK;simp only [go_sem, s5];apply hK;simp only [b0x, b1p, b2e, b0y];obtain rfl := sI9 hm1;obtain rfl := hb3 _ rfl
    try dsimp only at hm0
    obtain rfl := sI9 hm0;exact b04 vb9 (b0e _)
   ·rw [b0q hc9] at hm1;simp only [b0s, b02, b0f];refine hK6 _ _ ?_;apply b03;intro K hK;simp only [go_sem, s5];apply hK;simp only [b0f];obtain rfl := sI9 hm1;refine ⟨_, rfl, ?_⟩;exact ⟨s0, s3, va9⟩
  ·rw [b0q hc5] at hm1;simp only [b09, b1b, b1a, b0f];obtain rfl := sI9 hm1;obtain rfl := hb3 _ rfl
   try dsimp only at hm0
   exact J2  _ _  hm0
theorem u0u (hf : Has O "newel/newelref10.layers" x_r10_layers) (s9m : u1q O) (s9k : u1n O) : u1o O := by
 intro a t_ l r hm0;unfold s9u at hm0;refine b1i hf rfl (b0a (fA _) (b0a (.agg _ (b0a (b0e _) (b0a (b0e _) (b0a (b0e _) b0j)))) (b0a (b0c fun a _ => b1t a) b0j))) (b0c fun a _ => u7o a) ?_;refine b1c (fun t h => t 0 = .agg (vA a) /\ t 1 = .agg [I t_.Input, I t_.Value, I t_.From] /\ t 2 = .fs 1 (List.map eI l)) ⟨rfl, rfl, rfl⟩ fun t h ⟨s0, s1, s2⟩ => ?_;simp only [x_r10_layers];apply b0b;intro K hK;simp only [go_sem, s0, s1];apply hK;obtain ⟨q2, h_q2, hm0⟩ := b0g hm0;apply b0b;intro K hK;simp only [go_sem, c23 h_q2];apply hK;refine b2p (fun t h => ∃ v8 : AV, ∃ hs8 : List AV, t 2 = .fs 1 (List.map eI l) /\ t 3 = .fp (vA a) 0 /\ t 4 = .fp [I t_.Input, I t_.Value, I t_.From] 0 /\ t 7 = I q2 /\ t 8 = v8 /\ RR h v8 hs8 4 b42 ([[(r10_knot.mk (Place.mk 0 (0, 0)) 0)]])) (fun K hK => ?_) ?_
 ·simp only [go_sem];exact hK _ _ ⟨(.rs (nxs h.nx) 0 1), [.rs h.nx 0 (1)], s2, va9, va9, va9, va9, (u9h vb9 rfl vb9 (b2v vb9 vb9 vb9) vc9)⟩
 ·rintro t h ⟨v8, hs8, s2, s3, s4, s7, s8, Q0⟩;refine b0v ?_;apply b0b;intro K hK;simp only [go_sem];apply hK;refine b0i fun K3 hK3 => ?_
  have J4 : ∀ (rows_8 : List (List r10_knot)) (v8_1 : AV) (hs8_1 : List AV) (t : Slots) (h : Heap), t 2 = .fs 1 (List.map eI l) -> t 3 = .fp (vA a) 0 -> t 4 = .fp [I t_.Input, I t_.Value, I t_.From] 0 -> t 7 = I q2 -> t 8 = v8_1 -> RR h v8_1 hs8_1 4 b42 rows_8 -> u18 a t_ l q2 rows_8 = some r -> K3 t h := by
   intro rows_8 v8_1 hs8_1 t h s2 s3 s4 s7 s8 Q0 hm0;refine hK3 _ _ ?_;unfold u18 at hm0;apply b0b;intro K hK;simp only [go_sem];apply hK;refine b0v ?_;apply b0b;intro K hK;simp only [go_sem];apply hK;refine b0i fun K5 hK5 => ?_
   have J6 : ∀ (want_15 : Int) (t : Slots) (h : Heap), t 2 = .fs 1 (List.map eI l) -> t 3 = .fp (vA a) 0 -> t 4 = .fp [I t_.Input, I t_.Value, I t_.From] 0 -> t 7 = I q2 -> t 8 = v8_1 -> t 15 = I want_15 -> RR h v8_1 hs8_1 4 b42 rows_8 -> u19 a t_ l q2 rows_8 want_15 = some r -> K5 t h := by
    intro want_15 t h s2 s3 s4 s7 s8 s15 Q0 hm0;refine hK5 _ _ ?_;unfold u19 at hm0;apply b0b;intro K hK;simp only [go_sem];apply hK;refine b0v ?_;apply b0b;intro K hK;simp only [go_sem];apply hK;refine b0i fun K7 hK7 => ?_
    have J8 : ∀ (last_17 : List r10_knot) (v8_2 v17 : AV) (t : Slots) (h : Heap), t 2 = .fs 1 (List.map eI l) -> t 3 = .fp (vA a) 0 -> t 4 = .fp [I t_.Input, I t_.Value, I t_.From] 0 -> t 7 = I q2 -> t 8 = v8_2 -> t 17 = v17 -> RR h v8_2 hs8_1 4 b42 rows_8 -> b2a h v17 4 (List.map b42 last_17) -> (∀ j, ¬b07 v17 j -> s8i v8_2 hs8_1 j) -> u2a a t_ l q2 rows_8 last_17 = some r -> K7 t h := by
     intro last_17 v8_2 v17 t h s2 s3 s4 s7 s8 s17 Q0 Qe Qg hm0;refine hK7 _ _ ?_;unfold u2a at hm0;obtain ⟨x10, h_x10, hm0⟩ := b0g hm0;have h_x100 := b05 h_x10;have h_x101 := b06 h_x10;obtain ⟨iqp891, rfl, Q2, Q7⟩ := r97 Q0 h_x10;obtain ⟨wp892, hw_wp892, os_wp892⟩ := r96 Q0 h_x10;refine b2p (fun t h => ∃ v8_3 : AV, ∃ hs8_2 : List AV, t 2 = .fs 1 (List.map eI l) /\ t 3 = .fp (vA a) 0 /\ t 4 = .fp [I t_.Input, I t_.Value, I t_.From] 0 /\ t 7 = I q2 /\ t 8 = v8_3 /\ RR h v8_3 hs8_2 4 b42 (List.set rows_8 (Int.toNat a.Ticks) last_17)) (fun K hK => ?_) ?_
     ·simp only [go_sem, s3, s8, s17, Q2, l79 Qe, l65 Qe, h_x100, h_x101, b3n hw_wp892, b5r v17];exact hK _ _ ⟨(.rs iqp891 0 (List.length rows_8)), (List.set hs8_1 (Int.toNat a.Ticks) (v17)), s2, s3, s4, s7, (by first | (simp only [go_sem, s8]; done) | rfl), (s1u Q0 h_x10 vb9 (b3x Qe (by intro j hj hl; first | rfl | simp only [go_sem, b1z (y8c (Qg j hj))]) (by first | omega | exact Nat.le_refl _ | (simp only [go_sem, nxs] <;> omega))) (by assumption) (by intro j hj hne hl; first | rfl | simp only [go_sem, hne]) (by first | omega | exact Nat.le_refl _ | (simp only [go_sem, nxs] <;> omega)))⟩
     ·try clear s2 s3 s4 s7 s8 s17 Q0 Qe Qg Q2 Q7
      rintro t h ⟨v8_3, hs8_2, s2, s3, s4, s7, s8, Q0⟩;refine b0v ?_;apply b0b;intro K hK;simp only [go_sem, s3];apply hK;refine b0i fun K11 hK11 => ?_
      have J12 : ∀ (rows_8_1 : List (List r10_knot)) (v8_4 : AV) (hs8_3 : List AV) (t : Slots) (h : Heap), t 8 = v8_4 -> RR h v8_4 hs8_3 4 b42 rows_8_1 -> u34 rows_8_1 = some r -> K11 t h := by
       intro rows_8_1 v8_4 hs8_3 t h s8 Q0 hm0;refine hK11 _ _ ?_;unfold u34 at hm0;apply b0b;intro K hK;simp only [go_sem, s8, b5r v8_4];apply hK;simp only [b0x, b0y];obtain rfl := sI9 hm0;exact b8e (v := v8_4) vb9 (s1q (e := s63) (r8j Q0 (by intro j hj  hl; first | rfl | simp only [go_sem, hl]) (by first | omega | exact Nat.le_refl _ | (simp only [go_sem, nxs] <;> omega))) (fun _ => rfl) u0m u3x)
      simp only [b0u];obtain ⟨b13, hl13, hm0⟩ := b0g hm0;refine b1j hl13 (fun | (rows_8_1, tick_19), t, h => ∃ v8_4 : AV, ∃ hs8_3 : List AV, t 2 = .fs 1 (List.map eI l) /\ t 3 = .fp (vA a) 0 /\ t 4 = .fp [I t_.Input, I t_.Value, I t_.From] 0 /\ t 7 = I q2 /\ t 8 = v8_4 /\ t 19 = I tick_19 /\ RR h v8_4 hs8_3 4 b42 rows_8_1) ?_ ?_
      ·exact ⟨v8_3, hs8_2, s2, s3, s4, s7, s8, va9, Q0⟩
      ·rintro ⟨rows_8_1, tick_19⟩ o t h ⟨v8_4, hs8_3, s2, s3, s4, s7, s8, s19, Q0⟩ hm1 hb13;simp only [u06] at hm1;rw [u6b];refine b0v ?_;apply b0b;intro K hK;simp only [go_sem, s19];apply hK;refine b0i fun K14 hK14 => ?_;simp only [go_sem];refine b0k (fun hc15 => ?_) (fun hc15 => ?_)
       ·rw [b0r hc15] at hm1;simp only [b0s, b0f];refine hK14 _ _ ?_;refine b0i fun K16 hK16 => ?_
        have J17 : ∀ (rows_8_2 : List (List r10_knot)) (v8_5 : AV) (hs8_4 : List AV) (t : Slots) (h : Heap), t 2 = .fs 1 (List.map eI l) -> t 3 = .fp (vA a) 0 -> t 4 = .fp [I t_.Input, I t_.Value, I t_.From] 0 -> t 7 = I q2 -> t 8 = v8_5 -> t 19 = I tick_19 -> RR h v8_5 hs8_4 4 b42 rows_8_2 -> u15 tick_19 rows_8_2 = some o -> K16 t h := by
         intro rows_8_2 v8_5 hs8_4 t h s2 s3 s4 s7 s8 s19 Q0 hm1;refine hK16 _ _ ?_;unfold u15 at hm1;apply b03;intro K hK;simp only [go_sem, s19];apply hK;simp only [b0f];obtain rfl := sI9 hm1;refine ⟨_, rfl, ?_⟩;exact ⟨v8_5, hs8_4, s2, s3, s4, s7, s8, va9, Q0⟩
        simp only [b0u];apply b0b;intro K hK;simp only [go_sem];apply hK;refine b0v ?_;apply b0b;intro K hK;simp only [go_sem];apply hK;refine b0i fun K18 hK18 => ?_
        have J19 : ∀ (good_20 : List r10_knot) (v8_5 v20 : AV) (t : Slots) (h : Heap), t 2 = .fs 1 (List.map eI l) -> t 3 = .fp (vA a) 0 -> t 4 = .fp [I t_.Input, I t_.Value, I t_.From] 0 -> t 7 = I q2 -> t 8 = v8_5 -> t 19 = I tick_19 -> t 20 = v20 -> RR h v8_5 hs8_3 4 b42 rows_8_1 -> b2a h v20 4 (List.map b42 good_20) -> (∀ j, ¬b07 v20 j -> s8i v8_5 hs8_3 j) -> u16 rows_8_1 tick_19 good_20 = some o -> K18 t h := by
         intro good_20 v8_5 v20 t h s2 s3 s4 s7 s8 s19 s20 Q0 Q4 Q5 hm1;refine hK18 _ _ ?_;unfold u16 at hm1;obtain ⟨x21, h_x21, hm1⟩ := b0g hm1;have h_x210 := b05 h_x21;have h_x211 := b06 h_x21;obtain ⟨iqp10051, rfl, Q2, Q7⟩ := r97 Q0 h_x21;obtain ⟨wp10052, hw_wp10052, os_wp10052⟩ := r96 Q0 h_x21;refine b9y (fun t h => ∃ v8_6 : AV, ∃ hs8_4 : List AV, t 2 = .fs 1 (List.map eI l) /\ t 3 = .fp (vA a) 0 /\ t 4 = .fp [I t_.Input, I t_.Value, I t_.From] 0 /\ t 7 = I q2 /\ t 8 = v8_6 /\ t 19 = I tick_19 /\ RR h v8_6 hs8_4 4 b42 (List.set rows_8_1 (Int.toNat tick_19) good_20)) (fun K hK => ?_) ?_
         ·simp only [go_sem, s8, s19, s20, Q2, l79 Q4, l65 Q4, h_x210, h_x211, b3n hw_wp10052, b5r v20];exact hK _ _ ⟨(.rs iqp10051 0 (List.length rows_8_1)), (List.set hs8_3 (Int.toNat tick_19) (v20)), s2, s3, s4, s7, (by first | (simp only [go_sem, s8]; done) | rfl), s19, (s1u Q0 h_x21 vb9 (b3x Q4 (by intro j hj hl; first | rfl | simp only [go_sem, b1z (y8c (Q5 j hj))]) (by first | omega | exact Nat.le_refl _ | (simp only [go_sem, nxs] <;> omega))) (by assumption) (by intro j hj hne hl; first | rfl | simp only [go_sem, hne]) (by first | omega | exact Nat.le_refl _ | (simp only [go_sem, nxs] <;> omega)))⟩
         ·try clear s2 s3 s4 s7 s8 s19 s20 Q0 Q4 Q5 Q2 Q7
          rintro t h ⟨v8_6, hs8_4, s2, s3, s4, s7, s8, s19, Q0⟩;simp only [b02, b0f];exact J17 (List.set rows_8_1 (Int.toNat tick_19) good_20) v8_6 hs8_4 _ _ s2 s3 s4 s7 s8 s19 Q0 hm1
        simp only [b0u];obtain ⟨b22, hl22, hm1⟩ := b0g hm1;refine b1j hl22 (fun | (good_20, i_21), t, h => ∃ v8_5 v20 : AV, t 2 = .fs 1 (List.map eI l) /\ t 3 = .fp (vA a) 0 /\ t 4 = .fp [I t_.Input, I t_.Value, I t_.From] 0 /\ t 7 = I q2 /\ t 8 = v8_5 /\ t 19 = I tick_19 /\ t 20 = v20 /\ t 21 = I i_21 /\ RR h v8_5 hs8_3 4 b42 rows_8_1 /\ b2a h v20 4 (List.map b42 good_20) /\ (∀ j, ¬b07 v20 j -> s8i v8_5 hs8_3 j)) ?_ ?_
        ·exact ⟨v8_4, (.v (.slice none 0 0)), s2, s3, s4, s7, s8, s19, va9, va9, Q0, c0o, s0r⟩
        ·rintro ⟨good_20, i_21⟩ o t h ⟨v8_5, v20, s2, s3, s4, s7, s8, s19, s20, s21, Q0, Q4, Q5⟩ hm2 hb22;simp only [s91] at hm2;rw [u6a];refine b0v ?_;obtain ⟨x24, h_x24, hm2⟩ := b0g hm2;have h_x240 := b05 h_x24;have h_x241 := b06 h_x24;obtain ⟨iqp10535, rfl, Q2, Q7⟩ := r97 Q0 h_x24;obtain ⟨wp10536, hw_wp10536, os_wp10536⟩ := r96 Q0 h_x24;refine b2p (fun t h => ∃ v8_6 : AV, t 2 = .fs 1 (List.map eI l) /\ t 3 = .fp (vA a) 0 /\ t 4 = .fp [I t_.Input, I t_.Value, I t_.From] 0 /\ t 7 = I q2 /\ t 8 = v8_6 /\ t 19 = I tick_19 /\ t 20 = v20 /\ t 21 = I i_21 /\ t 160 = B (decide (i_21 < (List.length x24 : Int))) /\ RR h v8_6 hs8_3 4 b42 rows_8_1 /\ b2a h v20 4 (List.map b42 good_20) /\ (∀ j, ¬b07 v20 j -> s8i v8_6 hs8_3 j)) (fun K hK => ?_) ?_
         ·simp only [go_sem, s8, s19, s21, Q2, h_x240, h_x241, b3n hw_wp10536, l3r os_wp10536];exact hK _ _ ⟨(.rs iqp10535 0 (List.length rows_8_1)), s2, s3, s4, s7, (by first | (simp only [go_sem, s8]; done) | rfl), s19, s20, s21, va9, (r8j Q0 (by intro j hj  hl; first | rfl | simp only [go_sem, hl]) (by first | omega | exact Nat.le_refl _ | (simp only [go_sem, nxs] <;> omega))), Q4, Q5⟩
         ·try clear s2 s3 s4 s7 s8 s19 s20 s21 Q0 Q4 Q5 Q2 Q7
          rintro t h ⟨v8_6, s2, s3, s4, s7, s8, s19, s20, s21, s160, Q0, Q4, Q5⟩;refine b0i fun K25 hK25 => ?_;simp only [go_sem, s160];refine b0k (fun hc26 => ?_) (fun hc26 => ?_)
          ·rw [b0r hc26] at hm2;simp only [b0s, b0f];refine hK25 _ _ ?_;refine b0i fun K27 hK27 => ?_
           have J28 : ∀ (good_20_1 : List r10_knot) (v8_7 v20_1 : AV) (t : Slots) (h : Heap), t 2 = .fs 1 (List.map eI l) -> t 3 = .fp (vA a) 0 -> t 4 = .fp [I t_.Input, I t_.Value, I t_.From] 0 -> t 7 = I q2 -> t 8 = v8_7 -> t 19 = I tick_19 -> t 20 = v20_1 -> t 21 = I i_21 -> RR h v8_7 hs8_3 4 b42 rows_8_1 -> b2a h v20_1 4 (List.map b42 good_20_1) -> (∀ j, ¬b07 v20_1 j -> s8i v8_7 hs8_3 j) -> u08 i_21 good_20_1 = some o -> K27 t h := by
            try clear s2 s3 s4 s7 s8 s19 s20 s21 s160 Q0 Q4 Q5
            intro good_20_1 v8_7 v20_1 t h s2 s3 s4 s7 s8 s19 s20 s21 Q0 Q4 Q5 hm2;refine hK27 _ _ ?_;unfold u08 at hm2;apply b03;intro K hK;simp only [go_sem, s21];apply hK;simp only [b0f];obtain rfl := sI9 hm2;refine ⟨_, rfl, ?_⟩;exact ⟨v8_7, v20_1, s2, s3, s4, s7, s8, s19, s20, va9, Q0, Q4, Q5⟩
           simp only [b0u];apply b0b;intro K hK;simp only [go_sem];apply hK;refine b0v ?_;apply b0b;intro K hK;simp only [go_sem];apply hK;refine b0i fun K29 hK29 => ?_
           have J30 : ∀ (can_22 : Bool) (v8_7 : AV) (t : Slots) (h : Heap), t 2 = .fs 1 (List.map eI l) -> t 3 = .fp (vA a) 0 -> t 4 = .fp [I t_.Input, I t_.Value, I t_.From] 0 -> t 7 = I q2 -> t 8 = v8_7 -> t 19 = I tick_19 -> t 20 = v20 -> t 21 = I i_21 -> t 22 = B can_22 -> RR h v8_7 hs8_3 4 b42 rows_8_1 -> b2a h v20 4 (List.map b42 good_20) -> (∀ j, ¬b07 v20 j -> s8i v8_7 hs8_3 j) -> u17 rows_8_1 tick_19 good_20 i_21 can_22 = some o -> K29 t h := by
            try clear s2 s3 s4 s7 s8 s19 s20 s21 s160 Q0 Q4 Q5
            intro can_22 v8_7 t h s2 s3 s4 s7 s8 s19 s20 s21 s22 Q0 Q4 Q5 hm2;refine hK29 _ _ ?_;unfold u17 at hm2;apply b0b;intro K hK;simp only [go_sem, s22];apply hK;simp only [go_sem];refine b0k (fun hc31 => ?_) (fun hc31 => ?_)
            ·rw [b0r hc31] at hm2;obtain ⟨x35, h_x35, hm2⟩ := b0g hm2;have h_x350 := b05 h_x35;have h_x351 := b06 h_x35;obtain ⟨iqp10714, rfl, Q2, Q7⟩ := r97 Q0 h_x35;obtain ⟨wp10715, hw_wp10715, os_wp10715⟩ := r96 Q0 h_x35;obtain ⟨x36, h_x36, hm2⟩ := b0g hm2;have h_x360 := b05 h_x36;have h_x361 := b06 h_x36;obtain ⟨irp10716, rfl, obr_irp10716, ltr_irp10716⟩ := l3q os_wp10715 h_x36;obtain ⟨l37, h_l37, hm2⟩ := b0g hm2;refine b9y (fun t h => ∃ v8_8 : AV, ∃ i20 : Nat, t 2 = .fs 1 (List.map eI l) /\ t 3 = .fp (vA a) 0 /\ t 4 = .fp [I t_.Input, I t_.Value, I t_.From] 0 /\ t 7 = I q2 /\ t 8 = v8_8 /\ t 19 = I tick_19 /\ t 20 = .rs i20 0 (List.length l37) /\ t 21 = I i_21 /\ RR h v8_8 hs8_3 4 b42 rows_8_1 /\ h.ob i20 = some (4, List.map b42 l37) /\ i20 < h.nx /\ s8i v8_8 hs8_3 i20) (fun K hK => ?_) ?_
             ·simp only [go_sem, s8, s19, s20, s21, Q2, h_x350, h_x351, b3n hw_wp10715, b3n h_x36, h_x360, h_x361, obr_irp10716, b5r v20];refine b3a (f := b42) (l := good_20) (m := ([(r10_knot.mk (Place.mk x36.place.State (x36.place.Values.1, x36.place.Values.2)) x36.done)])) ?_ ?_ ?_ ?_ h_l37 ?_
              ·exact (b3x Q4 (by intro j hj hl; first | rfl | simp only [go_sem, hl]) (by first | omega | exact Nat.le_refl _ | (simp only [go_sem, nxs] <;> omega)))
              ·exact (b4t vb9 vb9)
              ·exact (b4r vd9)
              ·exact (fun _ => by simp)
              simp only [go_sem];exact hK _ _ ⟨(.rs iqp10714 0 (List.length rows_8_1)), (nxs h.nx), s2, s3, s4, s7, (by first | (simp only [go_sem, s8]; done) | rfl), s19, va9, s21, (r8j Q0 (by intro j hj  hl; first | rfl | simp only [go_sem, hl, s1k Q5 j hj]) (by first | omega | exact Nat.le_refl _ | (simp only [go_sem, nxs] <;> omega))), (by simp only [go_sem, b8s Q4]), vb9, (by first | assumption | exact r7w Q0 vg9)⟩
             ·try clear s2 s3 s4 s7 s8 s19 s20 s21 s22 Q0 Q4 Q5 Q2 Q7
              rintro t h ⟨v8_8, i20, s2, s3, s4, s7, s8, s19, s20, s21, Q0, Qw, Qx, Qy⟩;simp only [b02, b0f];exact J28 l37 v8_8 (.rs i20 0 (List.length l37)) _ _ s2 s3 s4 s7 s8 s19 (by first | exact s20 | simp only [go_sem, s20, lA9, mA9]) s21 Q0 (b2v (by simp only [go_sem, Qw]) vh9 (by simp only [go_sem, Qx])) (r9d Qy) hm2
            ·rw [b0q hc31] at hm2;simp only [b0s, b02, b0f];exact J28 good_20 v8_7 v20 _ _ s2 s3 s4 s7 s8 s19 s20 s21 Q0 Q4 Q5 hm2
           simp only [b0u];obtain ⟨b38, hl38, hm2⟩ := b0g hm2;refine b1j hl38 (fun | (can_22, x_23), t, h => ∃ v8_7 : AV, t 2 = .fs 1 (List.map eI l) /\ t 3 = .fp (vA a) 0 /\ t 4 = .fp [I t_.Input, I t_.Value, I t_.From] 0 /\ t 7 = I q2 /\ t 8 = v8_7 /\ t 19 = I tick_19 /\ t 20 = v20 /\ t 21 = I i_21 /\ t 22 = B can_22 /\ t 23 = I x_23 /\ RR h v8_7 hs8_3 4 b42 rows_8_1 /\ b2a h v20 4 (List.map b42 good_20) /\ (∀ j, ¬b07 v20 j -> s8i v8_7 hs8_3 j)) ?_ ?_
           ·exact ⟨v8_6, s2, s3, s4, s7, s8, s19, s20, s21, va9, va9, Q0, Q4, Q5⟩
           ·try clear s2 s3 s4 s7 s8 s19 s20 s21 s160 Q0 Q4 Q5
            rintro ⟨can_22, x_23⟩ o t h ⟨v8_7, s2, s3, s4, s7, s8, s19, s20, s21, s22, s23, Q0, Q4, Q5⟩ hm3 hb38;simp only [s90] at hm3;rw [u59];refine b0v ?_;refine b2p (fun t h => t 2 = .fs 1 (List.map eI l) /\ t 3 = .fp (vA a) 0 /\ t 4 = .fp [I t_.Input, I t_.Value, I t_.From] 0 /\ t 7 = I q2 /\ t 8 = v8_7 /\ t 19 = I tick_19 /\ t 20 = v20 /\ t 21 = I i_21 /\ t 22 = B can_22 /\ t 23 = I x_23 /\ t 169 = B ((decide (x_23 < q2)) && (!can_22)) /\ RR h v8_7 hs8_3 4 b42 rows_8_1 /\ b2a h v20 4 (List.map b42 good_20) /\ (∀ j, ¬b07 v20 j -> s8i v8_7 hs8_3 j)) (fun K hK => ?_) ?_
            ·simp only [go_sem, s7, s23];refine b0k (fun hg39 => ?_) (fun hg39 => ?_)
             ·simp only [go_sem, s22, hg39];exact hK _ _ ⟨s2, s3, s4, s7, s8, s19, s20, s21, s22, s23, (by first | (simp only [go_sem, hg39]; done) | rfl), Q0, Q4, Q5⟩
             ·simp only [go_sem, hg39];exact hK _ _ ⟨s2, s3, s4, s7, s8, s19, s20, s21, s22, s23, (by first | (simp only [go_sem, hg39]; done) | rfl), Q0, Q4, Q5⟩
            ·try clear s2 s3 s4 s7 s8 s19 s20 s21 s22 s23 Q0 Q4 Q5
             rintro t h ⟨s2, s3, s4, s7, s8, s19, s20, s21, s22, s23, s169, Q0, Q4, Q5⟩;refine b0i fun K40 hK40 => ?_;simp only [go_sem, s169];refine b0k (fun hc41 => ?_) (fun hc41 => ?_)
             ·rw [b0r hc41] at hm3;simp only [b0s, b0f];refine hK40 _ _ ?_;refine b0i fun K42 hK42 => ?_;simp only [b0u];obtain ⟨x46, h_x46, hm3⟩ := b0g hm3;have h_x460 := b05 h_x46;have h_x461 := b06 h_x46;obtain ⟨iqp10790, rfl, Q2, Q7⟩ := r97 Q0 h_x46;obtain ⟨wp10791, hw_wp10791, os_wp10791⟩ := r96 Q0 h_x46;obtain ⟨x47, h_x47, hm3⟩ := b0g hm3;have h_x470 := b05 h_x47;have h_x471 := b06 h_x47;obtain ⟨irp10792, rfl, obr_irp10792, ltr_irp10792⟩ := l3q os_wp10791 h_x47;obtain ⟨y48, h_y48, hm3⟩ := b0g hm3;refine b2p (fun t h => ∃ v8_8 : AV, ∃ i24 : Nat, t 2 = .fs 1 (List.map eI l) /\ t 3 = .fp (vA a) 0 /\ t 4 = .fp [I t_.Input, I t_.Value, I t_.From] 0 /\ t 7 = I q2 /\ t 8 = v8_8 /\ t 19 = I tick_19 /\ t 20 = v20 /\ t 21 = I i_21 /\ t 23 = I x_23 /\ t 24 = .rp i24 0 0 /\ t 25 = B y48.2 /\ RR h v8_8 hs8_3 4 b42 rows_8_1 /\ b2a h v20 4 (List.map b42 good_20) /\ h.ob i24 = some (4, [[I y48.1.place.State, I y48.1.place.Values.1, I y48.1.place.Values.2, I y48.1.done]]) /\ i24 < h.nx /\ (∀ j, ¬b07 v20 j -> s8i v8_8 hs8_3 j) /\ s8i v8_8 hs8_3 i24 /\ b07 v20 i24) (fun K hK => ?_) ?_
              ·simp only [go_sem, s2, s3, s4, s8, s19, s21, s23, Q2, h_x460, h_x461, b3n hw_wp10791, b3n h_x47, h_x470, h_x471, obr_irp10792];refine b01 (s9m a t_ l tick_19 (r10_knot.mk (Place.mk x47.place.State (x47.place.Values.1, x47.place.Values.2)) x47.done) x_23 _ h_y48) ?_;simp only [go_sem];exact hK _ _ ⟨(.rs iqp10790 0 (List.length rows_8_1)), h.nx, s2, s3, s4, s7, (by first | (simp only [go_sem, s8]; done) | rfl), s19, s20, s21, s23, va9, va9, (r8j Q0 (by intro j hj  hl; first | rfl | simp only [go_sem, hl]) (by first | omega | exact Nat.le_refl _ | (simp only [go_sem, nxs] <;> omega))), (b3x Q4 (by intro j hj hl; first | rfl | simp only [go_sem, hl]) (by first | omega | exact Nat.le_refl _ | (simp only [go_sem, nxs] <;> omega))), vb9, vb9, Q5, (by first | assumption | exact r7w Q0 vg9), vc9⟩
              ·try clear s2 s3 s4 s7 s8 s19 s20 s21 s22 s23 s169 Q0 Q4 Q5 Q2 Q7
               rintro t h ⟨v8_8, i24, s2, s3, s4, s7, s8, s19, s20, s21, s23, s24, s25, Q0, Q4, Qv, Qz, Q5, Q10, Q11⟩;obtain ⟨x52, h_x52, hm3⟩ := b0g hm3;have h_x520 := b05 h_x52;have h_x521 := b06 h_x52;obtain ⟨iqp10799, rfl, Q2, Q7⟩ := r97 Q0 h_x52;obtain ⟨wp10800, hw_wp10800, os_wp10800⟩ := r96 Q0 h_x52;obtain ⟨c54, h_c54, hm3⟩ := b0g hm3;refine b9y (fun t h => ∃ v8_9 : AV, t 2 = .fs 1 (List.map eI l) /\ t 3 = .fp (vA a) 0 /\ t 4 = .fp [I t_.Input, I t_.Value, I t_.From] 0 /\ t 7 = I q2 /\ t 8 = v8_9 /\ t 19 = I tick_19 /\ t 20 = v20 /\ t 21 = I i_21 /\ t 22 = B c54 /\ t 23 = I x_23 /\ RR h v8_9 hs8_3 4 b42 rows_8_1 /\ b2a h v20 4 (List.map b42 good_20) /\ (∀ j, ¬b07 v20 j -> s8i v8_9 hs8_3 j)) (fun K hK => ?_) ?_
               ·simp only [go_sem, s25];refine b0k (fun hg55 => ?_) (fun hg55 => ?_)
                ·simp only [hg55, eq_self, if_true] at h_c54;obtain ⟨y53, h_y53, h_c54⟩ := b0g h_c54;obtain rfl := sI9 h_c54;simp only [go_sem, s8, s19, s24, Q2, Qv, h_x520, h_x521, b3n hw_wp10800, hg55];refine b8l ?_ (s9k x52 (r10_knot.mk (Place.mk y48.1.place.State (y48.1.place.Values.1, y48.1.place.Values.2)) y48.1.done) _ h_y53) (.v _) ?_
                 ·exact .cons (r8x (f := b42) (by first | exact os_wp10800 | exact b3x os_wp10800 (by intro j hj hl; first | rfl | simp only [go_sem, hl]) (by first | omega | exact Nat.le_refl _ | (simp only [go_sem, nxs] <;> omega))) u0m u3x) (.cons (.refl _ (.agg _ (b0a (b0e _) (b0a (b0e _) (b0a (b0e _) (b0a (b0e _) b0j)))))) (.nil))
                 simp only [go_sem, hg55];exact hK _ _ ⟨(.rs iqp10799 0 (List.length rows_8_1)), s2, s3, s4, s7, (by first | (simp only [go_sem, s8]; done) | rfl), s19, s20, s21, va9, s23, (r8j Q0 (by intro j hj  hl; first | rfl | simp only [go_sem, hl]) (by first | omega | exact Nat.le_refl _ | (simp only [go_sem, nxs] <;> omega))), Q4, Q5⟩
                ·simp only [hg55, if_false, fT9] at h_c54;obtain rfl := sI9 h_c54;simp only [go_sem, hg55];exact hK _ _ ⟨(.rs iqp10799 0 (List.length rows_8_1)), s2, s3, s4, s7, (by first | (simp only [go_sem, s8]; done) | rfl), s19, s20, s21, va9, s23, (r8j Q0 (by intro j hj  hl; first | rfl | simp only [go_sem, hl]) (by first | omega | exact Nat.le_refl _ | (simp only [go_sem, nxs] <;> omega))), Q4, Q5⟩
               ·try clear s2 s3 s4 s7 s8 s19 s20 s21 s23 s24 s25 Q0 Q4 Qv Qz Q5 Q10 Q11 Q2 Q7
                rintro t h ⟨v8_9, s2, s3, s4, s7, s8, s19, s20, s21, s22, s23, Q0, Q4, Q5⟩;simp only [b02, b0f];refine hK42 _ _ ?_;apply b03;intro K hK;simp only [go_sem, s23];apply hK;simp only [b0f];obtain rfl := sI9 hm3;refine ⟨_, rfl, ?_⟩;exact ⟨v8_9, s2, s3, s4, s7, s8, s19, s20, s21, s22, va9, Q0, Q4, Q5⟩
             ·rw [b0q hc41] at hm3;simp only [b09, b1b, b1a, b0f];obtain rfl := sI9 hm3;obtain rfl := hb38 _ rfl
              try dsimp only at hm2
              exact J30 can_22 v8_7 _ _ s2 s3 s4 s7 s8 s19 s20 s21 s22 Q0 Q4 Q5 hm2
          ·rw [b0q hc26] at hm2;simp only [b09, b1b, b1a, b0f];obtain rfl := sI9 hm2;obtain rfl := hb22 _ rfl
           try dsimp only at hm1
           exact J19 good_20 v8_6 v20 _ _ s2 s3 s4 s7 s8 s19 s20 Q0 Q4 Q5 hm1
       ·rw [b0q hc15] at hm1;simp only [b09, b1b, b1a, b0f];obtain rfl := sI9 hm1;obtain rfl := hb13 _ rfl
        try dsimp only at hm0
        exact J12 rows_8_1 v8_4 hs8_3 _ _ s8 Q0 hm0
    simp only [b0u];obtain ⟨b59, hl59, hm0⟩ := b0g hm0;refine b1j hl59 (fun | (last_17, i_18), t, h => ∃ v8_2 v17 : AV, t 2 = .fs 1 (List.map eI l) /\ t 3 = .fp (vA a) 0 /\ t 4 = .fp [I t_.Input, I t_.Value, I t_.From] 0 /\ t 7 = I q2 /\ t 8 = v8_2 /\ t 15 = I want_15 /\ t 17 = v17 /\ t 18 = I i_18 /\ RR h v8_2 hs8_1 4 b42 rows_8 /\ b2a h v17 4 (List.map b42 last_17) /\ (∀ j, ¬b07 v17 j -> s8i v8_2 hs8_1 j)) ?_ ?_
    ·exact ⟨v8_1, (.v (.slice none 0 0)), s2, s3, s4, s7, s8, s15, va9, va9, Q0, c0o, s0r⟩
    ·rintro ⟨last_17, i_18⟩ o t h ⟨v8_2, v17, s2, s3, s4, s7, s8, s15, s17, s18, Q0, Qe, Qg⟩ hm1 hb59;simp only [s9z] at hm1;rw [u58];refine b0v ?_;obtain ⟨x61, h_x61, hm1⟩ := b0g hm1;have h_x610 := b05 h_x61;have h_x611 := b06 h_x61;obtain ⟨iqp10859, rfl, Q2, Q7⟩ := r97 Q0 h_x61;obtain ⟨wp10860, hw_wp10860, os_wp10860⟩ := r96 Q0 h_x61;refine b2p (fun t h => ∃ v8_3 : AV, t 2 = .fs 1 (List.map eI l) /\ t 3 = .fp (vA a) 0 /\ t 4 = .fp [I t_.Input, I t_.Value, I t_.From] 0 /\ t 7 = I q2 /\ t 8 = v8_3 /\ t 15 = I want_15 /\ t 17 = v17 /\ t 18 = I i_18 /\ t 117 = B (decide (i_18 < (List.length x61 : Int))) /\ RR h v8_3 hs8_1 4 b42 rows_8 /\ b2a h v17 4 (List.map b42 last_17) /\ (∀ j, ¬b07 v17 j -> s8i v8_3 hs8_1 j)) (fun K hK => ?_) ?_
     ·simp only [go_sem, s3, s8, s18, Q2, h_x610, h_x611, b3n hw_wp10860, l3r os_wp10860];exact hK _ _ ⟨(.rs iqp10859 0 (List.length rows_8)), s2, s3, s4, s7, (by first | (simp only [go_sem, s8]; done) | rfl), s15, s17, s18, va9, (r8j Q0 (by intro j hj  hl; first | rfl | simp only [go_sem, hl]) (by first | omega | exact Nat.le_refl _ | (simp only [go_sem, nxs] <;> omega))), Qe, Qg⟩
     ·try clear s2 s3 s4 s7 s8 s15 s17 s18 Q0 Qe Qg Q2 Q7
      rintro t h ⟨v8_3, s2, s3, s4, s7, s8, s15, s17, s18, s117, Q0, Qe, Qg⟩;refine b0i fun K62 hK62 => ?_;simp only [go_sem, s117];refine b0k (fun hc63 => ?_) (fun hc63 => ?_)
      ·rw [b0r hc63] at hm1;simp only [b0s, b0f];refine hK62 _ _ ?_;refine b0i fun K64 hK64 => ?_
       have J65 : ∀ (last_17_1 : List r10_knot) (v8_4 v17_1 : AV) (t : Slots) (h : Heap), t 2 = .fs 1 (List.map eI l) -> t 3 = .fp (vA a) 0 -> t 4 = .fp [I t_.Input, I t_.Value, I t_.From] 0 -> t 7 = I q2 -> t 8 = v8_4 -> t 15 = I want_15 -> t 17 = v17_1 -> t 18 = I i_18 -> RR h v8_4 hs8_1 4 b42 rows_8 -> b2a h v17_1 4 (List.map b42 last_17_1) -> (∀ j, ¬b07 v17_1 j -> s8i v8_4 hs8_1 j) -> u09 i_18 last_17_1 = some o -> K64 t h := by
        try clear s2 s3 s4 s7 s8 s15 s17 s18 s117 Q0 Qe Qg
        intro last_17_1 v8_4 v17_1 t h s2 s3 s4 s7 s8 s15 s17 s18 Q0 Qe Qg hm1;refine hK64 _ _ ?_;unfold u09 at hm1;apply b03;intro K hK;simp only [go_sem, s18];apply hK;simp only [b0f];obtain rfl := sI9 hm1;refine ⟨_, rfl, ?_⟩;exact ⟨v8_4, v17_1, s2, s3, s4, s7, s8, s15, s17, va9, Q0, Qe, Qg⟩
       simp only [b0u];obtain ⟨iqp10876, rfl, Q2, Q7⟩ := r97 Q0 h_x61;obtain ⟨wp10877, hw_wp10877, os_wp10877⟩ := r96 Q0 h_x61;obtain ⟨x67, h_x67, hm1⟩ := b0g hm1;have h_x670 := b05 h_x67;have h_x671 := b06 h_x67;obtain ⟨irp10878, rfl, obr_irp10878, ltr_irp10878⟩ := l3q os_wp10877 h_x67;refine b2p (fun t h => ∃ v8_4 : AV, t 2 = .fs 1 (List.map eI l) /\ t 3 = .fp (vA a) 0 /\ t 4 = .fp [I t_.Input, I t_.Value, I t_.From] 0 /\ t 7 = I q2 /\ t 8 = v8_4 /\ t 15 = I want_15 /\ t 17 = v17 /\ t 18 = I i_18 /\ t 130 = B (decide (x67.done = want_15)) /\ RR h v8_4 hs8_1 4 b42 rows_8 /\ b2a h v17 4 (List.map b42 last_17) /\ (∀ j, ¬b07 v17 j -> s8i v8_4 hs8_1 j)) (fun K hK => ?_) ?_
       ·simp only [go_sem, s3, s8, s15, s18, Q2, b3n hw_wp10877, h_x610, h_x611, b3n h_x67, h_x670, h_x671, obr_irp10878];exact hK _ _ ⟨(.rs iqp10876 0 (List.length rows_8)), s2, s3, s4, s7, (by first | (simp only [go_sem, s8]; done) | rfl), s15, s17, s18, va9, (r8j Q0 (by intro j hj  hl; first | rfl | simp only [go_sem, hl]) (by first | omega | exact Nat.le_refl _ | (simp only [go_sem, nxs] <;> omega))), Qe, Qg⟩
       ·try clear s2 s3 s4 s7 s8 s15 s17 s18 s117 Q0 Qe Qg Q2 Q7
        rintro t h ⟨v8_4, s2, s3, s4, s7, s8, s15, s17, s18, s130, Q0, Qe, Qg⟩;simp only [go_sem, s130];refine b0k (fun hc68 => ?_) (fun hc68 => ?_)
        ·rw [b0r hc68] at hm1;obtain ⟨iqp10882, rfl, Q2, Q7⟩ := r97 Q0 h_x61;obtain ⟨wp10883, hw_wp10883, os_wp10883⟩ := r96 Q0 h_x61;obtain ⟨irp10884, rfl, obr_irp10884, ltr_irp10884⟩ := l3q os_wp10883 h_x67;obtain ⟨l70, h_l70, hm1⟩ := b0g hm1;refine b9y (fun t h => ∃ v8_5 : AV, ∃ i17 : Nat, t 2 = .fs 1 (List.map eI l) /\ t 3 = .fp (vA a) 0 /\ t 4 = .fp [I t_.Input, I t_.Value, I t_.From] 0 /\ t 7 = I q2 /\ t 8 = v8_5 /\ t 15 = I want_15 /\ t 17 = .rs i17 0 (List.length l70) /\ t 18 = I i_18 /\ RR h v8_5 hs8_1 4 b42 rows_8 /\ h.ob i17 = some (4, List.map b42 l70) /\ i17 < h.nx /\ s8i v8_5 hs8_1 i17) (fun K hK => ?_) ?_
         ·simp only [go_sem, s3, s8, s17, s18, Q2, b3n hw_wp10883, h_x610, h_x611, obr_irp10884, b3n h_x67, h_x670, h_x671, b5r v17];refine b3a (f := b42) (l := last_17) (m := ([(r10_knot.mk (Place.mk x67.place.State (x67.place.Values.1, x67.place.Values.2)) x67.done)])) ?_ ?_ ?_ ?_ h_l70 ?_
          ·exact (b3x Qe (by intro j hj hl; first | rfl | simp only [go_sem, hl]) (by first | omega | exact Nat.le_refl _ | (simp only [go_sem, nxs] <;> omega)))
          ·exact (b4t vb9 vb9)
          ·exact (b4r vd9)
          ·exact (fun _ => by simp)
          simp only [go_sem];exact hK _ _ ⟨(.rs iqp10882 0 (List.length rows_8)), (nxs h.nx), s2, s3, s4, s7, (by first | (simp only [go_sem, s8]; done) | rfl), s15, va9, s18, (r8j Q0 (by intro j hj  hl; first | rfl | simp only [go_sem, hl, s1k Qg j hj]) (by first | omega | exact Nat.le_refl _ | (simp only [go_sem, nxs] <;> omega))), (by simp only [go_sem, b8s Qe]), vb9, (by first | assumption | exact r7w Q0 vg9)⟩
         ·try clear s2 s3 s4 s7 s8 s15 s17 s18 s130 Q0 Qe Qg Q2 Q7
          rintro t h ⟨v8_5, i17, s2, s3, s4, s7, s8, s15, s17, s18, Q0, Q12, Q13, Q14⟩;simp only [b02, b0f];exact J65 l70 v8_5 (.rs i17 0 (List.length l70)) _ _ s2 s3 s4 s7 s8 s15 (by first | exact s17 | simp only [go_sem, s17, lA9, mA9]) s18 Q0 (b2v (by simp only [go_sem, Q12]) vh9 (by simp only [go_sem, Q13])) (r9d Q14) hm1
        ·rw [b0q hc68] at hm1;simp only [b0s, b02, b0f];exact J65 last_17 v8_4 v17 _ _ s2 s3 s4 s7 s8 s15 s17 s18 Q0 Qe Qg hm1
      ·rw [b0q hc63] at hm1;simp only [b09, b1b, b1a, b0f];obtain rfl := sI9 hm1;obtain rfl := hb59 _ rfl
       try dsimp only at hm0
       exact J8 last_17 v8_3 v17 _ _ s2 s3 s4 s7 s8 s17 Q0 Qe Qg hm0
   simp only [b0u];obtain ⟨b72, hl72, hm0⟩ := b0g hm0;refine b1j hl72 (fun | (want_15, i_16), t, h => t 2 = .fs 1 (List.map eI l) /\ t 3 = .fp (vA a) 0 /\ t 4 = .fp [I t_.Input, I t_.Value, I t_.From] 0 /\ t 7 = I q2 /\ t 8 = v8_1 /\ t 15 = I want_15 /\ t 16 = I i_16 /\ RR h v8_1 hs8_1 4 b42 rows_8) ?_ ?_
   ·exact ⟨s2, s3, s4, s7, s8, va9, va9, Q0⟩
   ·rintro ⟨want_15, i_16⟩ o t h ⟨s2, s3, s4, s7, s8, s15, s16, Q0⟩ hm1 hb72;simp only [s9y] at hm1;rw [u57];refine b0v ?_;apply b0b;intro K hK;simp only [go_sem, s2, s16];apply hK;refine b0i fun K73 hK73 => ?_;simp only [go_sem];refine b0k (fun hc74 => ?_) (fun hc74 => ?_)
    ·rw [b0r hc74] at hm1;simp only [b0s, b0f];refine hK73 _ _ ?_;refine b0i fun K75 hK75 => ?_
     have J76 : ∀ (want_15_1 : Int) (t : Slots) (h : Heap), t 2 = .fs 1 (List.map eI l) -> t 3 = .fp (vA a) 0 -> t 4 = .fp [I t_.Input, I t_.Value, I t_.From] 0 -> t 7 = I q2 -> t 8 = v8_1 -> t 15 = I want_15_1 -> t 16 = I i_16 -> RR h v8_1 hs8_1 4 b42 rows_8 -> u1a i_16 want_15_1 = some o -> K75 t h := by
      intro want_15_1 t h s2 s3 s4 s7 s8 s15 s16 Q0 hm1;refine hK75 _ _ ?_;unfold u1a at hm1;apply b03;intro K hK;simp only [go_sem, s16];apply hK;simp only [b0f];obtain rfl := sI9 hm1;refine ⟨_, rfl, ?_⟩;exact ⟨s2, s3, s4, s7, s8, s15, va9, Q0⟩
     simp only [b0u];obtain ⟨x79, h_x79, hm1⟩ := b0g hm1;have h_x790 := b05 h_x79;have h_x791 := b06 h_x79;obtain ⟨x80, h_x80, hm1⟩ := b0g hm1;have h_x800 := b05 h_x80;have h_x801 := b06 h_x80;apply b0b;intro K hK;simp only [go_sem, s2, s3, s16, b08 h_x79, h_x791, b08 h_x80];apply hK;simp only [go_sem];refine b0k (fun hc81 => ?_) (fun hc81 => ?_)
     ·rw [b0r hc81] at hm1;obtain ⟨q83, h_q83, hm1⟩ := b0g hm1;apply b03;intro K hK;simp only [go_sem, s2, s15, s16, c23 h_q83, b08 h_x79];apply hK;simp only [b02, b0f];exact J76 (bor want_15 q83) _ _ s2 s3 s4 s7 s8 va9 s16 Q0 hm1
     ·rw [b0q hc81] at hm1;simp only [b0s, b02, b0f];exact J76 want_15 _ _ s2 s3 s4 s7 s8 s15 s16 Q0 hm1
    ·rw [b0q hc74] at hm1;simp only [b09, b1b, b1a, b0f];obtain rfl := sI9 hm1;obtain rfl := hb72 _ rfl
     try dsimp only at hm0
     exact J6 want_15 _ _ s2 s3 s4 s7 s8 s15 Q0 hm0
  simp only [b0u];obtain ⟨b85, hl85, hm0⟩ := b0g hm0;refine b1j hl85 (fun | (rows_8, tick_9), t, h => ∃ v8_1 : AV, ∃ hs8_1 : List AV, t 2 = .fs 1 (List.map eI l) /\ t 3 = .fp (vA a) 0 /\ t 4 = .fp [I t_.Input, I t_.Value, I t_.From] 0 /\ t 7 = I q2 /\ t 8 = v8_1 /\ t 9 = I tick_9 /\ RR h v8_1 hs8_1 4 b42 rows_8) ?_ ?_
  ·exact ⟨v8, hs8, s2, s3, s4, s7, s8, va9, Q0⟩
  ·rintro ⟨rows_8, tick_9⟩ o t h ⟨v8_1, hs8_1, s2, s3, s4, s7, s8, s9, Q0⟩ hm1 hb85;simp only [s9x] at hm1;rw [u56];refine b0v ?_;apply b0b;intro K hK;simp only [go_sem, s3, s9];apply hK;refine b0i fun K86 hK86 => ?_;simp only [go_sem];refine b0k (fun hc87 => ?_) (fun hc87 => ?_)
   ·rw [b0r hc87] at hm1;simp only [b0s, b0f];refine hK86 _ _ ?_;refine b0i fun K88 hK88 => ?_
    have J89 : ∀ (rows_8_1 : List (List r10_knot)) (v8_2 : AV) (hs8_2 : List AV) (t : Slots) (h : Heap), t 2 = .fs 1 (List.map eI l) -> t 3 = .fp (vA a) 0 -> t 4 = .fp [I t_.Input, I t_.Value, I t_.From] 0 -> t 7 = I q2 -> t 8 = v8_2 -> t 9 = I tick_9 -> RR h v8_2 hs8_2 4 b42 rows_8_1 -> u2b tick_9 rows_8_1 = some o -> K88 t h := by
     intro rows_8_1 v8_2 hs8_2 t h s2 s3 s4 s7 s8 s9 Q0 hm1;refine hK88 _ _ ?_;unfold u2b at hm1;apply b03;intro K hK;simp only [go_sem, s9];apply hK;simp only [b0f];obtain rfl := sI9 hm1;refine ⟨_, rfl, ?_⟩;exact ⟨v8_2, hs8_2, s2, s3, s4, s7, s8, va9, Q0⟩
    simp only [b0u];apply b0b;intro K hK;simp only [go_sem];apply hK;refine b0v ?_;apply b0b;intro K hK;simp only [go_sem];apply hK;refine b0i fun K90 hK90 => ?_
    have J91 : ∀ (next_10 : List r10_knot) (v8_2 v10 : AV) (t : Slots) (h : Heap), t 2 = .fs 1 (List.map eI l) -> t 3 = .fp (vA a) 0 -> t 4 = .fp [I t_.Input, I t_.Value, I t_.From] 0 -> t 7 = I q2 -> t 8 = v8_2 -> t 9 = I tick_9 -> t 10 = v10 -> RR h v8_2 hs8_1 4 b42 rows_8 -> b2a h v10 4 (List.map b42 next_10) -> (∀ j, ¬b07 v10 j -> s8i v8_2 hs8_1 j) -> u2c rows_8 tick_9 next_10 = some o -> K90 t h := by
     intro next_10 v8_2 v10 t h s2 s3 s4 s7 s8 s9 s10 Q0 Q6 Q8 hm1;refine hK90 _ _ ?_;unfold u2c at hm1;obtain ⟨l93, h_l93, hm1⟩ := b0g hm1;refine b9y (fun t h => ∃ v8_3 : AV, ∃ hs8_2 : List AV, t 2 = .fs 1 (List.map eI l) /\ t 3 = .fp (vA a) 0 /\ t 4 = .fp [I t_.Input, I t_.Value, I t_.From] 0 /\ t 7 = I q2 /\ t 8 = v8_3 /\ t 9 = I tick_9 /\ RR h v8_3 hs8_2 4 b42 l93) (fun K hK => ?_) ?_
     ·simp only [go_sem, s8, s10, l79 Q6, l65 Q6, b5r v8_2, b5r v10];refine u8j (f := b42) (sz := 4) (rows := rows_8) (hs := hs8_1) (u := v10) ?_ ?_ ?_ h_l93 ?_
      ·exact (r8j Q0 (by intro j hj  hl; first | rfl | simp only [go_sem, hl]) (by first | omega | exact Nat.le_refl _ | (simp only [go_sem, nxs] <;> omega)))
      ·exact vb9
      ·exact (r7w Q0 vg9)
      simp only [go_sem];exact hK _ _ ⟨(.rs (nxs h.nx) 0 (List.length l93)), (hs8_1 ++ [v10]), s2, s3, s4, s7, va9, s9, (u9g (h := h) Q0 h_l93 (by simp only [go_sem, r7i Q0, mA9]) rfl vb9 (b3x Q6 (by intro j hj hl; first | rfl | simp only [go_sem, hl, s8n (Q8 j hj)]) (by first | omega | exact Nat.le_refl _ | (simp only [go_sem, nxs] <;> omega))) (by assumption) (by first | omega | exact Nat.le_refl _ | (simp only [go_sem, nxs] <;> omega)) vc9 (by intro j hj h2 hl; first | rfl | simp only [go_sem, h2, hl]) (by first | omega | exact Nat.le_refl _ | (simp only [go_sem, nxs] <;> omega)))⟩
     ·try clear s2 s3 s4 s7 s8 s9 s10 Q0 Q6 Q8
      rintro t h ⟨v8_3, hs8_2, s2, s3, s4, s7, s8, s9, Q0⟩;simp only [b02, b0f];exact J89 l93 v8_3 hs8_2 _ _ s2 s3 s4 s7 s8 s9 Q0 hm1
    simp only [b0u];obtain ⟨b94, hl94, hm1⟩ := b0g hm1;refine b1j hl94 (fun | (next_10, i_11), t, h => ∃ v8_2 v10 : AV, t 2 = .fs 1 (List.map eI l) /\ t 3 = .fp (vA a) 0 /\ t 4 = .fp [I t_.Input, I t_.Value, I t_.From] 0 /\ t 7 = I q2 /\ t 8 = v8_2 /\ t 9 = I tick_9 /\ t 10 = v10 /\ t 11 = I i_11 /\ RR h v8_2 hs8_1 4 b42 rows_8 /\ b2a h v10 4 (List.map b42 next_10) /\ (∀ j, ¬b07 v10 j -> s8i v8_2 hs8_1 j)) ?_ ?_
    ·exact ⟨v8_1, (.v (.slice none 0 0)), s2, s3, s4, s7, s8, s9, va9, va9, Q0, c0o, s0r⟩
    ·rintro ⟨next_10, i_11⟩ o t h ⟨v8_2, v10, s2, s3, s4, s7, s8, s9, s10, s11, Q0, Q6, Q8⟩ hm2 hb94;simp only [s9w] at hm2;rw [u55];refine b0v ?_;obtain ⟨x96, h_x96, hm2⟩ := b0g hm2;have h_x960 := b05 h_x96;have h_x961 := b06 h_x96;obtain ⟨iqp12135, rfl, Q2, Q7⟩ := r97 Q0 h_x96;obtain ⟨wp12136, hw_wp12136, os_wp12136⟩ := r96 Q0 h_x96;refine b2p (fun t h => ∃ v8_3 : AV, t 2 = .fs 1 (List.map eI l) /\ t 3 = .fp (vA a) 0 /\ t 4 = .fp [I t_.Input, I t_.Value, I t_.From] 0 /\ t 7 = I q2 /\ t 8 = v8_3 /\ t 9 = I tick_9 /\ t 10 = v10 /\ t 11 = I i_11 /\ t 47 = B (decide (i_11 < (List.length x96 : Int))) /\ RR h v8_3 hs8_1 4 b42 rows_8 /\ b2a h v10 4 (List.map b42 next_10) /\ (∀ j, ¬b07 v10 j -> s8i v8_3 hs8_1 j)) (fun K hK => ?_) ?_
     ·simp only [go_sem, s8, s9, s11, Q2, h_x960, h_x961, b3n hw_wp12136, l3r os_wp12136];exact hK _ _ ⟨(.rs iqp12135 0 (List.length rows_8)), s2, s3, s4, s7, (by first | (simp only [go_sem, s8]; done) | rfl), s9, s10, s11, va9, (r8j Q0 (by intro j hj  hl; first | rfl | simp only [go_sem, hl]) (by first | omega | exact Nat.le_refl _ | (simp only [go_sem, nxs] <;> omega))), Q6, Q8⟩
     ·try clear s2 s3 s4 s7 s8 s9 s10 s11 Q0 Q6 Q8 Q2 Q7
      rintro t h ⟨v8_3, s2, s3, s4, s7, s8, s9, s10, s11, s47, Q0, Q6, Q8⟩;refine b0i fun K97 hK97 => ?_;simp only [go_sem, s47];refine b0k (fun hc98 => ?_) (fun hc98 => ?_)
      ·rw [b0r hc98] at hm2;simp only [b0s, b0f];refine hK97 _ _ ?_;refine b0i fun K99 hK99 => ?_
       have J100 : ∀ (next_10_1 : List r10_knot) (v8_4 v10_1 : AV) (t : Slots) (h : Heap), t 2 = .fs 1 (List.map eI l) -> t 3 = .fp (vA a) 0 -> t 4 = .fp [I t_.Input, I t_.Value, I t_.From] 0 -> t 7 = I q2 -> t 8 = v8_4 -> t 9 = I tick_9 -> t 10 = v10_1 -> t 11 = I i_11 -> RR h v8_4 hs8_1 4 b42 rows_8 -> b2a h v10_1 4 (List.map b42 next_10_1) -> (∀ j, ¬b07 v10_1 j -> s8i v8_4 hs8_1 j) -> u14 i_11 next_10_1 = some o -> K99 t h := by
        try clear s2 s3 s4 s7 s8 s9 s10 s11 s47 Q0 Q6 Q8
        intro next_10_1 v8_4 v10_1 t h s2 s3 s4 s7 s8 s9 s10 s11 Q0 Q6 Q8 hm2;refine hK99 _ _ ?_;unfold u14 at hm2;apply b03;intro K hK;simp only [go_sem, s11];apply hK;simp only [b0f];obtain rfl := sI9 hm2;refine ⟨_, rfl, ?_⟩;exact ⟨v8_4, v10_1, s2, s3, s4, s7, s8, s9, s10, va9, Q0, Q6, Q8⟩
       simp only [b0u];apply b0b;intro K hK;simp only [go_sem];apply hK;simp only [b0u];obtain ⟨b101, hl101, hm2⟩ := b0g hm2;refine b1j hl101 (fun | (next_10_1, x_12), t, h => ∃ v8_4 v10_1 : AV, t 2 = .fs 1 (List.map eI l) /\ t 3 = .fp (vA a) 0 /\ t 4 = .fp [I t_.Input, I t_.Value, I t_.From] 0 /\ t 7 = I q2 /\ t 8 = v8_4 /\ t 9 = I tick_9 /\ t 10 = v10_1 /\ t 11 = I i_11 /\ t 12 = I x_12 /\ RR h v8_4 hs8_1 4 b42 rows_8 /\ b2a h v10_1 4 (List.map b42 next_10_1) /\ (∀ j, ¬b07 v10_1 j -> s8i v8_4 hs8_1 j)) ?_ ?_
       ·exact ⟨v8_3, v10, s2, s3, s4, s7, s8, s9, s10, s11, va9, Q0, Q6, Q8⟩
       ·try clear s2 s3 s4 s7 s8 s9 s10 s11 s47 Q0 Q6 Q8
        rintro ⟨next_10_1, x_12⟩ o t h ⟨v8_4, v10_1, s2, s3, s4, s7, s8, s9, s10, s11, s12, Q0, Q6, Q8⟩ hm3 hb101;simp only [s9v] at hm3;rw [u54];refine b0v ?_;apply b0b;intro K hK;simp only [go_sem, s7, s12];apply hK;refine b0i fun K102 hK102 => ?_;simp only [go_sem];refine b0k (fun hc103 => ?_) (fun hc103 => ?_)
        ·rw [b0r hc103] at hm3;simp only [b0s, b0f];refine hK102 _ _ ?_;refine b0i fun K104 hK104 => ?_
         have J105 : ∀ (next_10_2 : List r10_knot) (v8_5 v10_2 : AV) (t : Slots) (h : Heap), t 2 = .fs 1 (List.map eI l) -> t 3 = .fp (vA a) 0 -> t 4 = .fp [I t_.Input, I t_.Value, I t_.From] 0 -> t 7 = I q2 -> t 8 = v8_5 -> t 9 = I tick_9 -> t 10 = v10_2 -> t 11 = I i_11 -> t 12 = I x_12 -> RR h v8_5 hs8_1 4 b42 rows_8 -> b2a h v10_2 4 (List.map b42 next_10_2) -> (∀ j, ¬b07 v10_2 j -> s8i v8_5 hs8_1 j) -> u07 x_12 next_10_2 = some o -> K104 t h := by
          try clear s2 s3 s4 s7 s8 s9 s10 s11 s12 Q0 Q6 Q8
          intro next_10_2 v8_5 v10_2 t h s2 s3 s4 s7 s8 s9 s10 s11 s12 Q0 Q6 Q8 hm3;refine hK104 _ _ ?_;unfold u07 at hm3;apply b03;intro K hK;simp only [go_sem, s12];apply hK;simp only [b0f];obtain rfl := sI9 hm3;refine ⟨_, rfl, ?_⟩;exact ⟨v8_5, v10_2, s2, s3, s4, s7, s8, s9, s10, s11, va9, Q0, Q6, Q8⟩
         simp only [b0u];obtain ⟨x109, h_x109, hm3⟩ := b0g hm3;have h_x1090 := b05 h_x109;have h_x1091 := b06 h_x109;obtain ⟨iqp12194, rfl, Q2, Q7⟩ := r97 Q0 h_x109;obtain ⟨wp12195, hw_wp12195, os_wp12195⟩ := r96 Q0 h_x109;obtain ⟨x110, h_x110, hm3⟩ := b0g hm3;have h_x1100 := b05 h_x110;have h_x1101 := b06 h_x110;obtain ⟨irp12196, rfl, obr_irp12196, ltr_irp12196⟩ := l3q os_wp12195 h_x110;obtain ⟨y111, h_y111, hm3⟩ := b0g hm3;refine b2p (fun t h => ∃ v8_5 : AV, ∃ i13 : Nat, t 2 = .fs 1 (List.map eI l) /\ t 3 = .fp (vA a) 0 /\ t 4 = .fp [I t_.Input, I t_.Value, I t_.From] 0 /\ t 7 = I q2 /\ t 8 = v8_5 /\ t 9 = I tick_9 /\ t 10 = v10_1 /\ t 11 = I i_11 /\ t 12 = I x_12 /\ t 13 = .rp i13 0 0 /\ t 14 = B y111.2 /\ RR h v8_5 hs8_1 4 b42 rows_8 /\ b2a h v10_1 4 (List.map b42 next_10_1) /\ h.ob i13 = some (4, [[I y111.1.place.State, I y111.1.place.Values.1, I y111.1.place.Values.2, I y111.1.done]]) /\ i13 < h.nx /\ (∀ j, ¬b07 v10_1 j -> s8i v8_5 hs8_1 j) /\ s8i v8_5 hs8_1 i13 /\ b07 v10_1 i13) (fun K hK => ?_) ?_
         ·simp only [go_sem, s2, s3, s4, s8, s9, s11, s12, Q2, h_x1090, h_x1091, b3n hw_wp12195, b3n h_x110, h_x1100, h_x1101, obr_irp12196];refine b01 (s9m a t_ l tick_9 (r10_knot.mk (Place.mk x110.place.State (x110.place.Values.1, x110.place.Values.2)) x110.done) x_12 _ h_y111) ?_;simp only [go_sem];exact hK _ _ ⟨(.rs iqp12194 0 (List.length rows_8)), h.nx, s2, s3, s4, s7, (by first | (simp only [go_sem, s8]; done) | rfl), s9, s10, s11, s12, va9, va9, (r8j Q0 (by intro j hj  hl; first | rfl | simp only [go_sem, hl]) (by first | omega | exact Nat.le_refl _ | (simp only [go_sem, nxs] <;> omega))), (b3x Q6 (by intro j hj hl; first | rfl | simp only [go_sem, hl]) (by first | omega | exact Nat.le_refl _ | (simp only [go_sem, nxs] <;> omega))), vb9, vb9, Q8, (by first | assumption | exact r7w Q0 vg9), vc9⟩
         ·try clear s2 s3 s4 s7 s8 s9 s10 s11 s12 Q0 Q6 Q8 Q2 Q7
          rintro t h ⟨v8_5, i13, s2, s3, s4, s7, s8, s9, s10, s11, s12, s13, s14, Q0, Q6, Qi, Qs, Q8, Qt, Qk⟩;obtain ⟨c115, h_c115, hm3⟩ := b0g hm3;refine b2p (fun t h => t 2 = .fs 1 (List.map eI l) /\ t 3 = .fp (vA a) 0 /\ t 4 = .fp [I t_.Input, I t_.Value, I t_.From] 0 /\ t 7 = I q2 /\ t 8 = v8_5 /\ t 9 = I tick_9 /\ t 10 = v10_1 /\ t 11 = I i_11 /\ t 12 = I x_12 /\ t 13 = .rp i13 0 0 /\ t 77 = B c115 /\ RR h v8_5 hs8_1 4 b42 rows_8 /\ b2a h v10_1 4 (List.map b42 next_10_1) /\ h.ob i13 = some (4, [[I y111.1.place.State, I y111.1.place.Values.1, I y111.1.place.Values.2, I y111.1.done]]) /\ i13 < h.nx /\ (∀ j, ¬b07 v10_1 j -> s8i v8_5 hs8_1 j) /\ s8i v8_5 hs8_1 i13 /\ b07 v10_1 i13) (fun K hK => ?_) ?_
          ·simp only [go_sem, s14];refine b0k (fun hg116 => ?_) (fun hg116 => ?_)
           ·simp only [hg116, eq_self, if_true] at h_c115;obtain ⟨y114, h_y114, h_c115⟩ := b0g h_c115;obtain rfl := sI9 h_c115;simp only [go_sem, s10, s13, Qi, hg116, b5r v10_1];refine b8l ?_ (s9k next_10_1 (r10_knot.mk (Place.mk y111.1.place.State (y111.1.place.Values.1, y111.1.place.Values.2)) y111.1.done) _ h_y114) (.v _) ?_
            ·exact .cons (r8x (f := b42) (l := next_10_1) (b3x Q6 (by intro j hj hl; first | rfl | simp only [go_sem, hl, s8n (Q8 j hj), b4s hj Qk]) (by first | omega | exact Nat.le_refl _ | (simp only [go_sem, nxs] <;> omega))) u0m u3x) (.cons (.refl _ (.agg _ (b0a (b0e _) (b0a (b0e _) (b0a (b0e _) (b0a (b0e _) b0j)))))) (.nil))
            simp only [go_sem, hg116];exact hK _ _ ⟨s2, s3, s4, s7, s8, s9, s10, s11, s12, s13, va9, Q0, Q6, Qi, Qs, Q8, Qt, Qk⟩
           ·simp only [hg116, if_false, fT9] at h_c115;obtain rfl := sI9 h_c115;simp only [go_sem, hg116];exact hK _ _ ⟨s2, s3, s4, s7, s8, s9, s10, s11, s12, s13, va9, Q0, Q6, Qi, Qs, Q8, Qt, Qk⟩
          ·try clear s2 s3 s4 s7 s8 s9 s10 s11 s12 s13 s14 Q0 Q6 Qi Qs Q8 Qt Qk
           rintro t h ⟨s2, s3, s4, s7, s8, s9, s10, s11, s12, s13, s77, Q0, Q6, Qi, Qs, Q8, Qt, Qk⟩;simp only [go_sem, s77];refine b0k (fun hc117 => ?_) (fun hc117 => ?_)
           ·rw [b0r hc117] at hm3;obtain ⟨l119, h_l119, hm3⟩ := b0g hm3;apply b03;intro K hK;simp only [go_sem, s10, s13, Qi, b5r v10_1];refine b3a (f := b42) (l := next_10_1) (m := ([(r10_knot.mk (Place.mk y111.1.place.State (y111.1.place.Values.1, y111.1.place.Values.2)) y111.1.done)])) ?_ ?_ ?_ ?_ h_l119 ?_
            ·exact (b3x Q6 (by intro j hj hl; first | rfl | simp only [go_sem, hl]) (by first | omega | exact Nat.le_refl _ | (simp only [go_sem, nxs] <;> omega)))
            ·exact (b4t vb9 vb9)
            ·exact (b4r vd9)
            ·exact (fun _ => by simp)
            simp only [go_sem];apply hK;simp only [b02, b0f];exact J105 l119 v8_5 (.rs (nxs h.nx) 0 (List.length l119)) _ _ s2 s3 s4 s7 s8 s9 va9 s11 s12 (r8j Q0 (by intro j hj  hl; first | rfl | simp only [go_sem, hl, s1k Q8 j hj]) (by first | omega | exact Nat.le_refl _ | (simp only [go_sem, nxs] <;> omega))) (b2v (by simp only [go_sem, b8s Q6]) vh9 vb9) (r9d (by first | assumption | exact r7w Q0 vg9)) hm3
           ·rw [b0q hc117] at hm3;simp only [b0s, b02, b0f];exact J105 next_10_1 v8_5 v10_1 _ _ s2 s3 s4 s7 s8 s9 s10 s11 s12 Q0 Q6 Q8 hm3
        ·rw [b0q hc103] at hm3;simp only [b09, b1b, b1a, b02, b0f];obtain rfl := sI9 hm3;obtain rfl := hb101 _ rfl
         try dsimp only at hm2
         exact J100 next_10_1 v8_4 v10_1 _ _ s2 s3 s4 s7 s8 s9 s10 s11 Q0 Q6 Q8 hm2
      ·rw [b0q hc98] at hm2;simp only [b09, b1b, b1a, b0f];obtain rfl := sI9 hm2;obtain rfl := hb94 _ rfl
       try dsimp only at hm1
       exact J91 next_10 v8_3 v10 _ _ s2 s3 s4 s7 s8 s9 s10 Q0 Q6 Q8 hm1
   ·rw [b0q hc87] at hm1;simp only [b09, b1b, b1a, b0f];obtain rfl := sI9 hm1;obtain rfl := hb85 _ rfl
    try dsimp only at hm0
    exact J4 rows_8 v8_1 hs8_1 _ _ s2 s3 s4 s7 s8 Q0 hm0
theorem u3v (hf : Has O "newel/newelref10.possible" x_r10_possible) (u0u : u1o O) : u2u O := by
 intro a t_ l r hm0;unfold s88 at hm0;refine b1i hf rfl (b0a (fA _) (b0a (.agg _ (b0a (b0e _) (b0a (b0e _) (b0a (b0e _) b0j)))) (b0a (b0c fun a _ => b1t a) b0j))) (b0e _) ?_;refine b1c (fun t h => t 0 = .agg (vA a) /\ t 1 = .agg [I t_.Input, I t_.Value, I t_.From] /\ t 2 = .fs 1 (List.map eI l)) ⟨rfl, rfl, rfl⟩ fun t h ⟨s0, s1, s2⟩ => ?_;simp only [x_r10_possible];apply b0b;intro K hK;simp only [go_sem, s0, s1];apply hK;obtain ⟨y3, h_y3, hm0⟩ := b0g hm0;obtain ⟨x4, h_x4, hm0⟩ := b0g hm0;have h_x40 := b05 h_x4;have h_x41 := b06 h_x4;apply b0b;intro K hK;simp only [go_sem, s2];refine b01 (u0u a t_ l _ h_y3) ?_;simp only [go_sem, b08 h_x4];apply hK;simp only [b0x, b0y];obtain rfl := sI9 hm0;exact b04 vb9 (b0e _)
theorem s9l (hf : Has O "newel/newelref10.records" x_r10_records) : u1p O := by
 intro a r hm0;unfold s8s at hm0;refine b1i hf rfl (b0a (fA _) b0j) (b0c fun a _ => b1t a) ?_;refine b1c (fun t h => t 0 = .agg (vA a)) rfl fun t h s0 => ?_;simp only [x_r10_records];apply b0b;intro K hK;simp only [go_sem, s0];apply hK;apply b0b;intro K hK;simp only [go_sem];apply hK;refine b0v ?_;apply b0b;intro K hK;simp only [go_sem];apply hK;refine b0i fun K1 hK1 => ?_
 have J2 : ∀ (out_3 : List Int) (v3 : AV) (t : Slots) (h : Heap), t 3 = v3 -> b2a h v3 1 (List.map eI out_3) -> u2d out_3 = some r -> K1 t h := by
  intro out_3 v3 t h s3 Qf hm0;refine hK1 _ _ ?_;unfold u2d at hm0;apply b0b;intro K hK;simp only [go_sem, s3, b5r v3];apply hK;simp only [b0x, b0y];obtain rfl := sI9 hm0;exact b8e (v := v3) vb9 (r8x (f := eI) (l := out_3) (b3x Qf (by intro j hj hl; first | rfl | simp only [go_sem, hl]) (by first | omega | exact Nat.le_refl _ | (simp only [go_sem, nxs] <;> omega))) b1t b8p)
 simp only [b0u];obtain ⟨b3, hl3, hm0⟩ := b0g hm0;refine b1j hl3 (fun | (out_3, i_4), t, h => ∃ v3 : AV, t 1 = .fp (vA a) 0 /\ t 3 = v3 /\ t 4 = I i_4 /\ b2a h v3 1 (List.map eI out_3)) ?_ ?_
 ·exact ⟨(.v (.slice none 0 0)), va9, va9, va9, c0o⟩
 ·rintro ⟨out_3, i_4⟩ o t h ⟨v3, s1, s3, s4, Qf⟩ hm1 hb3;simp only [u1b] at hm1;rw [u6c];refine b0v ?_;apply b0b;intro K hK;simp only [go_sem, s1, s4];apply hK;refine b0i fun K4 hK4 => ?_;simp only [go_sem];refine b0k (fun hc5 => ?_) (fun hc5 => ?_)
  ·rw [b0r hc5] at hm1;simp only [b0s, b0f];refine hK4 _ _ ?_;refine b0i fun K6 hK6 => ?_;simp only [b0u];obtain ⟨l8, h_l8, hm1⟩ := b0g hm1;apply b03;intro K hK;simp only [go_sem, s3, s4, b5r v3];refine b3a (f := eI) (l := out_3) (m := ([i_4])) ?_ ?_ ?_ ?_ h_l8 ?_
   ·exact (b3x Qf (by intro j hj hl; first | rfl | simp only [go_sem, hl]) (by first | omega | exact Nat.le_refl _ | (simp only [go_sem, nxs] <;> omega)))
   ·exact (b4t vb9 vb9)
   ·exact (b4r vd9)
   ·exact (fun _ => by simp)
   simp only [go_sem];apply hK;simp only [b02, b0f];refine hK6 _ _ ?_;apply b03;intro K hK;simp only [go_sem, s4];apply hK;simp only [b0f];obtain rfl := sI9 hm1;refine ⟨_, rfl, ?_⟩;exact ⟨(.rs (nxs h.nx) 0 (List.length l8)), s1, va9, va9, (b2v (by simp only [go_sem, b8s Qf]) vh9 vb9)⟩
  ·rw [b0q hc5] at hm1;simp only [b09, b1b, b1a, b0f];obtain rfl := sI9 hm1;obtain rfl := hb3 _ rfl
   try dsimp only at hm0
   exact J2 out_3 v3 _ _ s3 Qf hm0
theorem s9m (hf : Has O "newel/newelref10.step" x_r10_step) (c3h : c5j O) (s3y : b9a O) (u3s : u2r O) (c3k : c5n O) : u1q O := by
 intro a t_ l tick k x r hm0;unfold l97 at hm0;refine b1i hf rfl (b0a (fA _) (b0a (.agg _ (b0a (b0e _) (b0a (b0e _) (b0a (b0e _) b0j)))) (b0a (b0c fun a _ => b1t a) (b0a (b0e _) (b0a (.agg _ (b0a (b0e _) (b0a (b0e _) (b0a (b0e _) (b0a (b0e _) b0j))))) (b0a (b0e _) b0j)))))) (.tup _ (b0a (.agg _ (b0a (b0e _) (b0a (b0e _) (b0a (b0e _) (b0a (b0e _) b0j))))) (b0a (b0e _) b0j))) ?_;refine b1c (fun t h => t 0 = .agg (vA a) /\ t 1 = .agg [I t_.Input, I t_.Value, I t_.From] /\ t 2 = .fs 1 (List.map eI l) /\ t 3 = I tick /\ t 4 = .agg [I k.place.State, I k.place.Values.1, I k.place.Values.2, I k.done] /\ t 5 = I x) ⟨rfl, rfl, rfl, rfl, rfl, rfl⟩ fun t h ⟨s0, s1, s2, s3, s4, s5⟩ => ?_;simp only [x_r10_step];apply b0b;intro K hK;simp only [go_sem, s0, s1, s4];apply hK;refine b0v ?_;obtain ⟨y2, h_y2, hm0⟩ := b0g hm0;apply b0b;intro K hK;simp only [go_sem, s5];refine b01 (c3h a.Machine (Place.mk k.place.State (k.place.Values.1, k.place.Values.2)) x a.Assume _ h_y2) ?_;simp only [go_sem];apply hK;refine b0i fun K3 hK3 => ?_;simp only [go_sem];refine b0k (fun hc4 => ?_) (fun hc4 => ?_)
 ·rw [b0r hc4] at hm0;apply b0b;intro K hK;simp only [go_sem];apply hK;simp only [b0x, b1p, b0y];obtain rfl := sI9 hm0;exact p2s (id := (nxs h.nx)) (m := 4) (cs := [I k.place.State, I k.place.Values.1, I k.place.Values.2, I k.done]) (u := B false) vb9 vb9 rfl vb9 (.refl _ (.agg _ (b0a (b0e _) (b0a (b0e _) (b0a (b0e _) (b0a (b0e _) b0j)))))) (.refl _ (b0e _))
 ·rw [b0q hc4] at hm0;simp only [b0s, b0f];refine hK3 _ _ ?_;refine b0v ?_;apply b0b;intro K hK;simp only [go_sem];apply hK;refine b0i fun K5 hK5 => ?_
  have J6 : ∀ (k_10_3 : Int) (i10 i12 : Nat) (t : Slots) (h : Heap), t 3 = I tick -> t 5 = I x -> t 6 = .fp (vA a) 0 -> t 7 = .fp [I t_.Input, I t_.Value, I t_.From] 0 -> t 10 = .rp i10 0 0 -> t 12 = .rp i12 0 0 -> h.ob i10 = some (4, [[I k.place.State, I k.place.Values.1, I k.place.Values.2, I k_10_3]]) -> i10 < h.nx -> h.ob i12 = some (4, [[I 0, I 0, I 0, I 0]]) -> i12 < h.nx -> ¬i10 = i12 -> u2e a t_ tick k x k_10_3 = some r -> K5 t h := by
   intro k_10_3 i10 i12 t h s3 s5 s6 s7 s10 s12 Q9 Qa Qb Qc Qd hm0;refine hK5 _ _ ?_;unfold u2e at hm0;obtain ⟨y9, h_y9, hm0⟩ := b0g hm0;obtain ⟨y10, h_y10, hm0⟩ := b0g hm0;apply b0b;intro K hK;simp only [go_sem, s3, s5, s6, s7, s10, Q9];refine b01 (u3s t_ tick x _ h_y9) ?_;simp only [go_sem];refine b01 (c3k a.Machine (Place.mk k.place.State (k.place.Values.1, k.place.Values.2)) y9 _ h_y10) ?_;simp only [go_sem, s10, Q9];apply hK;apply b0b;intro K hK;simp only [go_sem, s10, s12, Qb, b1z Qd];apply hK;simp only [b0x, b0y];obtain rfl := sI9 hm0;exact p2s (id := i12) (m := 4) (cs := [I y10.State, I y10.Values.1, I y10.Values.2, I k_10_3]) (u := B true) (by simp only [go_sem, s12]) vb9 rfl vb9 (.refl _ (.agg _ (b0a (b0e _) (b0a (b0e _) (b0a (b0e _) (b0a (b0e _) b0j)))))) (.refl _ (b0e _))
  simp only [b0u];obtain ⟨b11, hl11, hm0⟩ := b0g hm0;refine b1j hl11 (fun | (k_10_3, i_14), t, h => ∃ i10 i12 : Nat, t 2 = .fs 1 (List.map eI l) /\ t 3 = I tick /\ t 5 = I x /\ t 6 = .fp (vA a) 0 /\ t 7 = .fp [I t_.Input, I t_.Value, I t_.From] 0 /\ t 10 = .rp i10 0 0 /\ t 12 = .rp i12 0 0 /\ t 14 = I i_14 /\ h.ob i10 = some (4, [[I k.place.State, I k.place.Values.1, I k.place.Values.2, I k_10_3]]) /\ i10 < h.nx /\ h.ob i12 = some (4, [[I 0, I 0, I 0, I 0]]) /\ i12 < h.nx /\ ¬i10 = i12) ?_ ?_
  ·exact ⟨h.nx, (nxs h.nx), s2, s3, s5, va9, va9, va9, va9, va9, vb9, vb9, vb9, vb9, ve9⟩
  ·rintro ⟨k_10_3, i_14⟩ o t h ⟨i10, i12, s2, s3, s5, s6, s7, s10, s12, s14, Q9, Qa, Qb, Qc, Qd⟩ hm1 hb11;simp only [s92] at hm1;rw [u6d];refine b0v ?_;apply b0b;intro K hK;simp only [go_sem, s2, s14];apply hK;refine b0i fun K12 hK12 => ?_;simp only [go_sem];refine b0k (fun hc13 => ?_) (fun hc13 => ?_)
   ·rw [b0r hc13] at hm1;simp only [b0s, b0f];refine hK12 _ _ ?_;refine b0i fun K14 hK14 => ?_
    have J15 : ∀ (k_10_3_1 : Int) (t : Slots) (h : Heap), t 2 = .fs 1 (List.map eI l) -> t 3 = I tick -> t 5 = I x -> t 6 = .fp (vA a) 0 -> t 7 = .fp [I t_.Input, I t_.Value, I t_.From] 0 -> t 10 = .rp i10 0 0 -> t 12 = .rp i12 0 0 -> t 14 = I i_14 -> h.ob i10 = some (4, [[I k.place.State, I k.place.Values.1, I k.place.Values.2, I k_10_3_1]]) -> i10 < h.nx -> h.ob i12 = some (4, [[I 0, I 0, I 0, I 0]]) -> i12 < h.nx -> ¬i10 = i12 -> s8z i_14 k_10_3_1 = some o -> K14 t h := by
     try clear s2 s3 s5 s6 s7 s10 s12 s14 Q9 Qa Qb Qc Qd
     intro k_10_3_1 t h s2 s3 s5 s6 s7 s10 s12 s14 Q9 Qa Qb Qc Qd hm1;refine hK14 _ _ ?_;unfold s8z at hm1;apply b03;intro K hK;simp only [go_sem, s14];apply hK;simp only [b0f];obtain rfl := sI9 hm1;refine ⟨_, rfl, ?_⟩;exact ⟨i10, i12, s2, s3, s5, s6, s7, s10, s12, va9, Q9, Qa, Qb, Qc, Qd⟩
    simp only [b0u];obtain ⟨x18, h_x18, hm1⟩ := b0g hm1;have h_x180 := b05 h_x18;have h_x181 := b06 h_x18;obtain ⟨x19, h_x19, hm1⟩ := b0g hm1;have h_x190 := b05 h_x19;have h_x191 := b06 h_x19;apply b0b;intro K hK;simp only [go_sem, s2, s6, s14, b08 h_x18, h_x181, b08 h_x19];apply hK;refine b0v ?_;refine b2p (fun t h => ∃ i15 : Nat, t 2 = .fs 1 (List.map eI l) /\ t 3 = I tick /\ t 5 = I x /\ t 6 = .fp (vA a) 0 /\ t 7 = .fp [I t_.Input, I t_.Value, I t_.From] 0 /\ t 10 = .rp i10 0 0 /\ t 12 = .rp i12 0 0 /\ t 14 = I i_14 /\ t 15 = .rp i15 0 0 /\ t 50 = B ((decide (tick < x19.From)) || (decide (x19.To < tick))) /\ h.ob i10 = some (4, [[I k.place.State, I k.place.Values.1, I k.place.Values.2, I k_10_3]]) /\ i10 < h.nx /\ h.ob i12 = some (4, [[I 0, I 0, I 0, I 0]]) /\ i12 < h.nx /\ h.ob i15 = some (4, [[I x19.From, I x19.To, B x19.All, .fs 1 (List.map b0t x19.Cond)]]) /\ i15 < h.nx /\ ¬i10 = i12 /\ ¬i10 = i15 /\ ¬i12 = i15) (fun K hK => ?_) ?_
    ·simp only [go_sem, s3];refine b0k (fun hg20 => ?_) (fun hg20 => ?_)
     ·simp only [go_sem, hg20];exact hK _ _ ⟨h.nx, s2, s3, s5, s6, s7, s10, s12, s14, va9, (by first | (simp only [go_sem, hg20]; done) | rfl), (by simp only [go_sem, Q9, Qa]), (by simp only [go_sem, Qa]), (by simp only [go_sem, Qb, Qc]), (by simp only [go_sem, Qc]), vb9, vb9, Qd, ve9, ve9⟩
     ·simp only [go_sem, s3, hg20];exact hK _ _ ⟨h.nx, s2, s3, s5, s6, s7, s10, s12, s14, va9, (by first | (simp only [go_sem, hg20]; done) | rfl), (by simp only [go_sem, Q9, Qa]), (by simp only [go_sem, Qa]), (by simp only [go_sem, Qb, Qc]), (by simp only [go_sem, Qc]), vb9, vb9, Qd, ve9, ve9⟩
    ·try clear s2 s3 s5 s6 s7 s10 s12 s14 Q9 Qa Qb Qc Qd
     rintro t h ⟨i15, s2, s3, s5, s6, s7, s10, s12, s14, s15, s50, Q9, Qa, Qb, Qc, Qh, Ql, Qd, Qm, Qn⟩;refine b0i fun K21 hK21 => ?_;simp only [go_sem, s50];refine b0k (fun hc22 => ?_) (fun hc22 => ?_)
     ·rw [b0r hc22] at hm1;simp only [b09, b1b, b1a, b0f];exact J15 k_10_3 _ _ s2 s3 s5 s6 s7 s10 s12 s14 Q9 Qa Qb Qc Qd hm1
     ·rw [b0q hc22] at hm1;simp only [b0s, b0f];refine hK21 _ _ ?_;obtain ⟨y24, h_y24, hm1⟩ := b0g hm1;apply b0b;intro K hK;simp only [go_sem, s5, s6, s10, s15, Q9, Qh];refine b01 (s3y a.Machine (Place.mk k.place.State (k.place.Values.1, k.place.Values.2)) x x19.Cond _ h_y24) ?_;simp only [go_sem];apply hK;refine b0v ?_;refine b2p (fun t h => t 2 = .fs 1 (List.map eI l) /\ t 3 = I tick /\ t 5 = I x /\ t 6 = .fp (vA a) 0 /\ t 7 = .fp [I t_.Input, I t_.Value, I t_.From] 0 /\ t 10 = .rp i10 0 0 /\ t 12 = .rp i12 0 0 /\ t 14 = I i_14 /\ t 15 = .rp i15 0 0 /\ t 16 = B y24 /\ t 64 = B (x19.All && (!y24)) /\ h.ob i10 = some (4, [[I k.place.State, I k.place.Values.1, I k.place.Values.2, I k_10_3]]) /\ i10 < h.nx /\ h.ob i12 = some (4, [[I 0, I 0, I 0, I 0]]) /\ i12 < h.nx /\ h.ob i15 = some (4, [[I x19.From, I x19.To, B x19.All, .fs 1 (List.map b0t x19.Cond)]]) /\ i15 < h.nx /\ ¬i10 = i12 /\ ¬i10 = i15 /\ ¬i12 = i15) (fun K hK => ?_) ?_
      ·simp only [go_sem, s15, Qh];refine b0k (fun hg25 => ?_) (fun hg25 => ?_)
       ·simp only [go_sem, hg25];exact hK _ _ ⟨s2, s3, s5, s6, s7, s10, s12, s14, s15, va9, (by first | (simp only [go_sem, hg25]; done) | rfl), Q9, Qa, Qb, Qc, Qh, Ql, Qd, Qm, Qn⟩
       ·simp only [go_sem, hg25];exact hK _ _ ⟨s2, s3, s5, s6, s7, s10, s12, s14, s15, va9, (by first | (simp only [go_sem, hg25]; done) | rfl), Q9, Qa, Qb, Qc, Qh, Ql, Qd, Qm, Qn⟩
      ·try clear s2 s3 s5 s6 s7 s10 s12 s14 s15 s50 Q9 Qa Qb Qc Qh Ql Qd Qm Qn
       rintro t h ⟨s2, s3, s5, s6, s7, s10, s12, s14, s15, s16, s64, Q9, Qa, Qb, Qc, Qh, Ql, Qd, Qm, Qn⟩;refine b0i fun K26 hK26 => ?_;simp only [go_sem, s64];refine b0k (fun hc27 => ?_) (fun hc27 => ?_)
       ·rw [b0r hc27] at hm1;apply b0b;intro K hK;simp only [go_sem, s10, s12, Q9, Qb];apply hK;simp only [b0x, b1p, b2e, b0y];obtain rfl := sI9 hm1;obtain rfl := hb11 _ rfl
        try dsimp only at hm0
        obtain rfl := sI9 hm0;exact p2s (id := i12) (m := 4) (cs := [I k.place.State, I k.place.Values.1, I k.place.Values.2, I k_10_3]) (u := B false) (by simp only [go_sem, s12]) vb9 rfl vb9 (.refl _ (.agg _ (b0a (b0e _) (b0a (b0e _) (b0a (b0e _) (b0a (b0e _) b0j)))))) (.refl _ (b0e _))
       ·rw [b0q hc27] at hm1;simp only [b0s, b0f];refine hK26 _ _ ?_;refine b2p (fun t h => t 2 = .fs 1 (List.map eI l) /\ t 3 = I tick /\ t 5 = I x /\ t 6 = .fp (vA a) 0 /\ t 7 = .fp [I t_.Input, I t_.Value, I t_.From] 0 /\ t 10 = .rp i10 0 0 /\ t 12 = .rp i12 0 0 /\ t 14 = I i_14 /\ t 71 = B ((!x19.All) && y24) /\ h.ob i10 = some (4, [[I k.place.State, I k.place.Values.1, I k.place.Values.2, I k_10_3]]) /\ i10 < h.nx /\ h.ob i12 = some (4, [[I 0, I 0, I 0, I 0]]) /\ i12 < h.nx /\ ¬i10 = i12) (fun K hK => ?_) ?_
        ·simp only [go_sem, s15, Qh];refine b0k (fun hg28 => ?_) (fun hg28 => ?_)
         ·simp only [go_sem, s16, hg28];exact hK _ _ ⟨s2, s3, s5, s6, s7, s10, s12, s14, (by first | (simp only [go_sem, hg28]; done) | rfl), Q9, Qa, Qb, Qc, Qd⟩
         ·simp only [go_sem, hg28];exact hK _ _ ⟨s2, s3, s5, s6, s7, s10, s12, s14, (by first | (simp only [go_sem, hg28]; done) | rfl), Q9, Qa, Qb, Qc, Qd⟩
        ·try clear s2 s3 s5 s6 s7 s10 s12 s14 s15 s16 s64 Q9 Qa Qb Qc Qh Ql Qd Qm Qn
         rintro t h ⟨s2, s3, s5, s6, s7, s10, s12, s14, s71, Q9, Qa, Qb, Qc, Qd⟩;simp only [go_sem, s71];refine b0k (fun hc29 => ?_) (fun hc29 => ?_)
         ·rw [b0r hc29] at hm1;obtain ⟨q31, h_q31, hm1⟩ := b0g hm1;apply b03;intro K hK;simp only [go_sem, s2, s10, s14, Q9, c23 h_q31, b08 h_x18];apply hK;simp only [b02, b0f];exact J15 (bor k_10_3 q31) _ _ s2 s3 s5 s6 s7 s10 s12 s14 vb9 (by simp only [go_sem, Qa]) (by simp only [go_sem, Qb, b1z Qd]) (by simp only [go_sem, Qc]) Qd hm1
         ·rw [b0q hc29] at hm1;simp only [b0s, b02, b0f];exact J15 k_10_3 _ _ s2 s3 s5 s6 s7 s10 s12 s14 Q9 Qa Qb Qc Qd hm1
   ·rw [b0q hc13] at hm1;simp only [b09, b1b, b1a, b0f];obtain rfl := sI9 hm1;obtain rfl := hb11 _ rfl
    try dsimp only at hm0
    exact J6 k_10_3 i10 i12 _ _ s3 s5 s6 s7 s10 s12 Q9 Qa Qb Qc Qd hm0
theorem c3p (hf : Has O "newel/situation.Asked" x_situation_Asked) (b8n : c1o O) (d3g : d0j O) : c5t O := by
 intro m c r hm0;unfold c1h at hm0;refine b1i hf rfl (b0a (fM _) (b0a (b0c fun a _ => b2j a) b0j)) (b0e _) ?_;refine b1c (fun t h => t 0 = .agg (vM m) /\ t 1 = .fs 1 (List.map b0t c)) ⟨rfl, rfl⟩ fun t h ⟨s0, s1⟩ => ?_;simp only [x_situation_Asked];apply b0b;intro K hK;simp only [go_sem, s0];apply hK;refine b0v ?_;apply b0b;intro K hK;simp only [go_sem, s1];apply hK;refine b0i fun K1 hK1 => ?_;simp only [go_sem];refine b0k (fun hc2 => ?_) (fun hc2 => ?_)
 ·rw [b0r hc2] at hm0;apply b0b;intro K hK;simp only [go_sem];apply hK;simp only [b0x, b1p, b0y];obtain rfl := sI9 hm0;exact b04 vb9 (b0e _)
 ·rw [b0q hc2] at hm0;simp only [b0s, b0f];refine hK1 _ _ ?_;refine b0v ?_;apply b0b;intro K hK;simp only [go_sem, s1];apply hK;refine b0i fun K3 hK3 => ?_
  have J4 : ∀ (t : Slots) (h : Heap), d46 = some r -> K3 t h := by
   intro t h hm0;refine hK3 _ _ ?_;unfold d46 at hm0;apply b0b;intro K hK;simp only [go_sem];apply hK;simp only [b0x, b0y];obtain rfl := sI9 hm0;exact b04 vb9 (b0e _)
  simp only [b0u];obtain ⟨b5, hl5, hm0⟩ := b0g hm0;refine b1j hl5 (fun | x_12, t, h => t 2 = .fp (vM m) 0 /\ t 10 = .fs 1 (List.map b0t c) /\ t 11 = I (List.length c : Int) /\ t 12 = I x_12) ?_ ?_
  ·exact ⟨va9, va9, va9, va9⟩
  ·rintro x_12 o t h ⟨s2, s10, s11, s12⟩ hm1 hb5;simp only [c4u] at hm1;rw [g45];apply b0b;intro K hK;simp only [go_sem, s11, s12];apply hK;refine b0i fun K6 hK6 => ?_;simp only [go_sem];refine b0k (fun hc7 => ?_) (fun hc7 => ?_)
   ·rw [b0r hc7] at hm1;simp only [b0s, b0f];refine hK6 _ _ ?_;refine b0i fun K8 hK8 => ?_;simp only [b0u];obtain ⟨x10, h_x10, hm1⟩ := b0g hm1;have h_x100 := b05 h_x10;have h_x101 := b06 h_x10;apply b0b;intro K hK;simp only [go_sem, s10, s12, b08 h_x10, h_x101];apply hK;obtain ⟨c16, h_c16, hm1⟩ := b0g hm1;refine b2p (fun t h => t 2 = .fp (vM m) 0 /\ t 10 = .fs 1 (List.map b0t c) /\ t 11 = I (List.length c : Int) /\ t 12 = I x_12 /\ t 23 = B c16) (fun K hK => ?_) ?_
    ·simp only [go_sem];refine b0k (fun hg17 => ?_) (fun hg17 => ?_)
     ·simp only [hg17, eq_self, if_true] at h_c16;obtain rfl := sI9 h_c16;simp only [go_sem, hg17];exact hK _ _ ⟨s2, s10, s11, s12, va9⟩
     ·simp only [hg17, if_false, fT9] at h_c16;obtain ⟨y15, h_y15, h_c16⟩ := b0g h_c16;obtain rfl := sI9 h_c16;simp only [go_sem, s2, hg17];refine b01 (b8n x10 "newel/situation.Asked$1" [] [.fp (vM m) 0] (fun z14 => b82 z14 m) (.fn _ _ _ b0j (b0a (.fp _ _ (b0a (b0c fun a _ => b0z a) (b0a (b0c fun a _ => b0z a) (b0a (b0c fun a _ => b1q a) (b0a (b0c fun a _ => b1s a) (b0a (b0c fun a _ => b1r a) b0j)))))) b0j)) (fun z0 y hz => d3g z0 m y hz) _ h_y15) ?_;simp only [go_sem, s2, hg17];exact hK _ _ ⟨s2, s10, s11, s12, va9⟩
    ·rintro t h ⟨s2, s10, s11, s12, s23⟩;simp only [go_sem, s23];refine b0k (fun hc18 => ?_) (fun hc18 => ?_)
     ·rw [b0r hc18] at hm1;apply b0b;intro K hK;simp only [go_sem];apply hK;simp only [b0x, b1p, b2e, b0y];obtain rfl := sI9 hm1;obtain rfl := hb5 _ rfl
      try dsimp only at hm0
      obtain rfl := sI9 hm0;exact b04 vb9 (b0e _)
     ·rw [b0q hc18] at hm1;simp only [b0s, b02, b0f];refine hK8 _ _ ?_;apply b03;intro K hK;simp only [go_sem, s12];apply hK;simp only [b0f];obtain rfl := sI9 hm1;refine ⟨_, rfl, ?_⟩;exact ⟨s2, s10, s11, va9⟩
   ·rw [b0q hc7] at hm1;simp only [b09, b1b, b1a, b0f];obtain rfl := sI9 hm1;obtain rfl := hb5 _ rfl
    try dsimp only at hm0
    exact J4  _ _  hm0
theorem d3g (hf : Has O "newel/situation.Asked$1" x_situation_AskedD1) (d3l : d0o O) : d0j O := by
 intro x c0 r hm0;unfold b82 at hm0;refine b1i hf rfl (b0a (.agg _ (b0a (b0e _) (b0a (b0e _) (b0a (b0e _) (b0a (b0e _) b0j))))) (b0a (.fp _ _ (b0a (b0c fun a _ => b0z a) (b0a (b0c fun a _ => b0z a) (b0a (b0c fun a _ => b1q a) (b0a (b0c fun a _ => b1s a) (b0a (b0c fun a _ => b1r a) b0j)))))) b0j)) (b0e _) ?_;refine b1c (fun t h => t 0 = .agg [I x.Kind, I x.Number, I x.Value, B x.Not] /\ t 1 = .fp (vM c0) 0) ⟨rfl, rfl⟩ fun t h ⟨s0, s1⟩ => ?_;simp only [x_situation_AskedD1];apply b0b;intro K hK;simp only [go_sem, s0];apply hK;obtain ⟨y2, h_y2, hm0⟩ := b0g hm0;apply b0b;intro K hK;simp only [go_sem, s1];refine b01 (d3l c0 x _ h_y2) ?_;simp only [go_sem];apply hK;simp only [b0x, b0y];obtain rfl := sI9 hm0;exact b04 vb9 (b0e _)
theorem d3h (hf : Has O "newel/situation.Check" x_situation_Check) (b4q : c5u O) (d3m : d0p O) (c3p : c5t O) (b8n : c1o O) (d3i : d0l O) : d0k O := by
 intro m r hm0;unfold c4v at hm0;refine b1i hf rfl (b0a (fM _) b0j) (b0e _) ?_;refine b1c (fun t h => t 0 = .agg (vM m)) rfl fun t h s0 => ?_;simp only [x_situation_Check];apply b0b;intro K hK;simp only [go_sem, s0];apply hK;refine b0v ?_;obtain ⟨c4, h_c4, hm0⟩ := b0g hm0;refine b2p (fun t h => t 1 = .fp (vM m) 0 /\ t 46 = B c4) (fun K hK => ?_) ?_
 ·simp only [go_sem];refine b0k (fun hg5 => ?_) (fun hg5 => ?_)
  ·simp only [hg5, eq_self, if_true, Bool.true_or] at h_c4;obtain rfl := sI9 h_c4;simp only [go_sem, hg5];exact hK _ _ ⟨va9, va9⟩
  ·simp only [go_sem, hg5];refine b0k (fun hg6 => ?_) (fun hg6 => ?_)
   ·simp only [hg5, hg6, eq_self, if_true, Bool.true_or, Bool.or_true] at h_c4;obtain rfl := sI9 h_c4;simp only [go_sem, hg5, hg6];exact hK _ _ ⟨va9, va9⟩
   ·simp only [go_sem, hg5, hg6];refine b0k (fun hg7 => ?_) (fun hg7 => ?_)
    ·simp only [hg5, hg6, hg7, eq_self, if_true, Bool.true_or, Bool.or_true, Bool.or_false] at h_c4;obtain rfl := sI9 h_c4;simp only [go_sem, hg5, hg6, hg7];exact hK _ _ ⟨va9, va9⟩
    ·simp only [go_sem, hg5, hg6, hg7];refine b01 (b4q (List.length m.States : Int) 1 12) ?_;simp only [go_sem, hg5, hg6, hg7];refine b0k (fun hg8 => ?_) (fun hg8 => ?_)
     ·simp only [hg5, hg6, hg7, hg8, eq_self, if_true, Bool.true_or, Bool.or_true, Bool.or_false] at h_c4;obtain rfl := sI9 h_c4;simp only [go_sem, hg5, hg6, hg7, hg8];exact hK _ _ ⟨va9, va9⟩
     ·simp only [go_sem, hg5, hg6, hg7, hg8];refine b0k (fun hg9 => ?_) (fun hg9 => ?_)
      ·simp only [hg5, hg6, hg7, hg8, hg9, eq_self, if_true, Bool.or_true, Bool.or_false] at h_c4;obtain rfl := sI9 h_c4;simp only [go_sem, hg5, hg6, hg7, hg8, hg9];exact hK _ _ ⟨va9, va9⟩
      ·simp only [hg5, hg6, hg7, hg8, hg9, if_false, Bool.or_false, fT9] at h_c4;obtain ⟨y3, h_y3, h_c4⟩ := b0g h_c4;obtain rfl := sI9 h_c4;simp only [go_sem, hg5, hg6, hg7, hg8, hg9];refine b01 (d3m m _ h_y3) ?_;simp only [go_sem, hg5, hg6, hg7, hg8, hg9];exact hK _ _ ⟨va9, va9⟩
 ·rintro t h ⟨s1, s46⟩;refine b0i fun K10 hK10 => ?_;simp only [go_sem, s46];refine b0k (fun hc11 => ?_) (fun hc11 => ?_)
  ·rw [b0r hc11] at hm0;apply b0b;intro K hK;simp only [go_sem];apply hK;simp only [b0x, b1p, b0y];obtain rfl := sI9 hm0;exact b04 vb9 (b0e _)
  ·rw [b0q hc11] at hm0;simp only [b0s, b0f];refine hK10 _ _ ?_;refine b0v ?_;apply b0b;intro K hK;simp only [go_sem, s1];apply hK;refine b0i fun K12 hK12 => ?_
   have J13 : ∀ (t : Slots) (h : Heap), t 1 = .fp (vM m) 0 -> p84 m = some r -> K12 t h := by
    intro t h s1 hm0;refine hK12 _ _ ?_;unfold p84 at hm0;refine b0v ?_;apply b0b;intro K hK;simp only [go_sem, s1];apply hK;refine b0i fun K14 hK14 => ?_
    have J15 : ∀ (t : Slots) (h : Heap), t 1 = .fp (vM m) 0 -> c85 m = some r -> K14 t h := by
     intro t h s1 hm0;refine hK14 _ _ ?_;unfold c85 at hm0;refine b0v ?_;apply b0b;intro K hK;simp only [go_sem, s1];apply hK;refine b0i fun K16 hK16 => ?_
     have J17 : ∀ (t : Slots) (h : Heap), d47 = some r -> K16 t h := by
      intro t h hm0;refine hK16 _ _ ?_;unfold d47 at hm0;apply b0b;intro K hK;simp only [go_sem];apply hK;simp only [b0x, b0y];obtain rfl := sI9 hm0;exact b04 vb9 (b0e _)
     simp only [b0u];obtain ⟨b18, hl18, hm0⟩ := b0g hm0;refine b1j hl18 (fun | x_79, t, h => t 1 = .fp (vM m) 0 /\ t 77 = .fs 4 (List.map b0m m.Rules) /\ t 78 = I (List.length m.Rules : Int) /\ t 79 = I x_79) ?_ ?_
     ·exact ⟨s1, va9, va9, va9⟩
     ·rintro x_79 o t h ⟨s1, s77, s78, s79⟩ hm1 hb18;simp only [b83] at hm1;rw [g49];apply b0b;intro K hK;simp only [go_sem, s78, s79];apply hK;refine b0i fun K19 hK19 => ?_;simp only [go_sem];refine b0k (fun hc20 => ?_) (fun hc20 => ?_)
      ·rw [b0r hc20] at hm1;simp only [b0s, b0f];refine hK19 _ _ ?_;refine b0i fun K21 hK21 => ?_
       have J22 : ∀ (t : Slots) (h : Heap), t 1 = .fp (vM m) 0 -> t 77 = .fs 4 (List.map b0m m.Rules) -> t 78 = I (List.length m.Rules : Int) -> t 79 = I x_79 -> c86 x_79 = some o -> K21 t h := by
        intro t h s1 s77 s78 s79 hm1;refine hK21 _ _ ?_;unfold c86 at hm1;apply b03;intro K hK;simp only [go_sem, s79];apply hK;simp only [b0f];obtain rfl := sI9 hm1;refine ⟨_, rfl, ?_⟩;exact ⟨s1, s77, s78, va9⟩
       simp only [b0u];obtain ⟨x24, h_x24, hm1⟩ := b0g hm1;have h_x240 := b05 h_x24;have h_x241 := b06 h_x24;apply b0b;intro K hK;simp only [go_sem, s77, s79, b08 h_x24, h_x241];apply hK;refine b0v ?_;obtain ⟨c28, h_c28, hm1⟩ := b0g hm1;refine b2p (fun t h => ∃ i8 : Nat, t 1 = .fp (vM m) 0 /\ t 8 = .rp i8 0 0 /\ t 77 = .fs 4 (List.map b0m m.Rules) /\ t 78 = I (List.length m.Rules : Int) /\ t 79 = I x_79 /\ t 113 = B (c28 || (decide (4 < (List.length x24.Sets : Int)))) /\ h.ob i8 = some (4, [[I x24.From, I x24.To, .fs 1 (List.map b0t x24.When), .fs 2 (List.map b2o x24.Sets)]]) /\ i8 < h.nx) (fun K hK => ?_) ?_
       ·simp only [go_sem, s1];refine b01 (b4q x24.From (-1) (wr ((List.length m.States : Int) - 1))) ?_;simp only [go_sem];refine b0k (fun hg29 => ?_) (fun hg29 => ?_)
        ·simp only [hg29, eq_self, if_true, Bool.true_or] at h_c28;obtain rfl := sI9 h_c28;simp only [go_sem, hg29];exact hK _ _ ⟨h.nx, s1, va9, s77, s78, s79, va9, vb9, vb9⟩
        ·simp only [go_sem, s1, hg29];refine b01 (b4q x24.To 0 (wr ((List.length m.States : Int) - 1))) ?_;simp only [go_sem, hg29];refine b0k (fun hg30 => ?_) (fun hg30 => ?_)
         ·simp only [hg29, hg30, eq_self, if_true, Bool.or_true] at h_c28;obtain rfl := sI9 h_c28;simp only [go_sem, hg29, hg30];exact hK _ _ ⟨h.nx, s1, va9, s77, s78, s79, va9, vb9, vb9⟩
         ·simp only [hg29, hg30, if_false, Bool.or_false, fT9] at h_c28;obtain ⟨y27, h_y27, h_c28⟩ := b0g h_c28;obtain rfl := sI9 h_c28;simp only [go_sem, s1, hg29, hg30];refine b01 (c3p m x24.When _ h_y27) ?_;simp only [go_sem, hg29, hg30];refine b0k (fun hg31 => ?_) (fun hg31 => ?_)
          ·simp only [go_sem, hg29, hg30, hg31];exact hK _ _ ⟨h.nx, s1, va9, s77, s78, s79, (by first | (simp only [go_sem, hg31]; done) | rfl), vb9, vb9⟩
          ·simp only [go_sem, hg29, hg30, hg31];exact hK _ _ ⟨h.nx, s1, va9, s77, s78, s79, (by first | (simp only [go_sem, hg31]; done) | rfl), vb9, vb9⟩
       ·rintro t h ⟨i8, s1, s8, s77, s78, s79, s113, Q2, Q7⟩;refine b0i fun K32 hK32 => ?_;simp only [go_sem, s113];refine b0k (fun hc33 => ?_) (fun hc33 => ?_)
        ·rw [b0r hc33] at hm1;apply b0b;intro K hK;simp only [go_sem];apply hK;simp only [b0x, b1p, b2e, b0y];obtain rfl := sI9 hm1;obtain rfl := hb18 _ rfl
         try dsimp only at hm0
         obtain rfl := sI9 hm0;exact b04 vb9 (b0e _)
        ·rw [b0q hc33] at hm1;simp only [b0s, b0f];refine hK32 _ _ ?_;refine b0v ?_;apply b0b;intro K hK;simp only [go_sem, s8, Q2];apply hK;refine b0i fun K34 hK34 => ?_
         have J35 : ∀ (t : Slots) (h : Heap), t 1 = .fp (vM m) 0 -> t 8 = .rp i8 0 0 -> t 77 = .fs 4 (List.map b0m m.Rules) -> t 78 = I (List.length m.Rules : Int) -> t 79 = I x_79 -> h.ob i8 = some (4, [[I x24.From, I x24.To, .fs 1 (List.map b0t x24.When), .fs 2 (List.map b2o x24.Sets)]]) -> i8 < h.nx -> c87 m x_79 x24 = some o -> K34 t h := by
          intro t h s1 s8 s77 s78 s79 Q2 Q7 hm1;refine hK34 _ _ ?_;unfold c87 at hm1;apply b0b;intro K hK;simp only [go_sem, s8, Q2];apply hK;simp only [b0u];obtain ⟨b36, hl36, hm1⟩ := b0g hm1;refine b1j hl36 (fun | x_127, t, h => t 1 = .fp (vM m) 0 /\ t 77 = .fs 4 (List.map b0m m.Rules) /\ t 78 = I (List.length m.Rules : Int) /\ t 79 = I x_79 /\ t 125 = .fs 2 (List.map b2o x24.Sets) /\ t 126 = I (List.length x24.Sets : Int) /\ t 127 = I x_127) ?_ ?_
          ·exact ⟨s1, s77, s78, s79, va9, va9, va9⟩
          ·rintro x_127 o t h ⟨s1, s77, s78, s79, s125, s126, s127⟩ hm2 hb36;simp only [c4y] at hm2;rw [g48];apply b0b;intro K hK;simp only [go_sem, s126, s127];apply hK;refine b0i fun K37 hK37 => ?_;simp only [go_sem];refine b0k (fun hc38 => ?_) (fun hc38 => ?_)
           ·rw [b0r hc38] at hm2;simp only [b0s, b0f];refine hK37 _ _ ?_;refine b0i fun K39 hK39 => ?_;simp only [b0u];obtain ⟨x41, h_x41, hm2⟩ := b0g hm2;have h_x410 := b05 h_x41;have h_x411 := b06 h_x41;apply b0b;intro K hK;simp only [go_sem, s125, s127, b08 h_x41, h_x411];apply hK;refine b2p (fun t h => t 1 = .fp (vM m) 0 /\ t 77 = .fs 4 (List.map b0m m.Rules) /\ t 78 = I (List.length m.Rules : Int) /\ t 79 = I x_79 /\ t 125 = .fs 2 (List.map b2o x24.Sets) /\ t 126 = I (List.length x24.Sets : Int) /\ t 127 = I x_127 /\ t 144 = B ((!(b2q x41.Kind 1 3)) || (!(b2q x41.Counter 0 (wr ((List.length m.Counters : Int) - 1)))))) (fun K hK => ?_) ?_
            ·simp only [go_sem];refine b01 (b4q x41.Kind 1 3) ?_;simp only [go_sem];refine b0k (fun hg42 => ?_) (fun hg42 => ?_)
             ·simp only [go_sem, hg42];exact hK _ _ ⟨s1, s77, s78, s79, s125, s126, s127, (by first | (simp only [go_sem, hg42]; done) | rfl)⟩
             ·simp only [go_sem, s1, hg42];refine b01 (b4q x41.Counter 0 (wr ((List.length m.Counters : Int) - 1))) ?_;simp only [go_sem, hg42];exact hK _ _ ⟨s1, s77, s78, s79, s125, s126, s127, (by first | (simp only [go_sem, hg42]; done) | rfl)⟩
            ·rintro t h ⟨s1, s77, s78, s79, s125, s126, s127, s144⟩;simp only [go_sem, s144];refine b0k (fun hc43 => ?_) (fun hc43 => ?_)
             ·rw [b0r hc43] at hm2;apply b0b;intro K hK;simp only [go_sem];apply hK;simp only [b0x, b1p, b2e, b0y];obtain rfl := sI9 hm2;obtain rfl := hb36 _ rfl
              try dsimp only at hm1
              obtain rfl := sI9 hm1;obtain rfl := hb18 _ rfl
              try dsimp only at hm0
              obtain rfl := sI9 hm0;exact b04 vb9 (b0e _)
             ·rw [b0q hc43] at hm2;simp only [b0s, b02, b0f];refine hK39 _ _ ?_;apply b03;intro K hK;simp only [go_sem, s127];apply hK;simp only [b0f];obtain rfl := sI9 hm2;refine ⟨_, rfl, ?_⟩;exact ⟨s1, s77, s78, s79, s125, s126, va9⟩
           ·rw [b0q hc38] at hm2;simp only [b09, b1b, b1a, b02, b0f];obtain rfl := sI9 hm2;obtain rfl := hb36 _ rfl
            try dsimp only at hm1
            exact J22  _ _ s1 s77 s78 s79 hm1
         simp only [b0u];obtain ⟨b45, hl45, hm1⟩ := b0g hm1;refine b1j hl45 (fun | x_117, t, h => t 1 = .fp (vM m) 0 /\ t 8 = .rp i8 0 0 /\ t 77 = .fs 4 (List.map b0m m.Rules) /\ t 78 = I (List.length m.Rules : Int) /\ t 79 = I x_79 /\ t 115 = .fs 1 (List.map b0t x24.When) /\ t 116 = I (List.length x24.When : Int) /\ t 117 = I x_117 /\ h.ob i8 = some (4, [[I x24.From, I x24.To, .fs 1 (List.map b0t x24.When), .fs 2 (List.map b2o x24.Sets)]]) /\ i8 < h.nx) ?_ ?_
         ·exact ⟨s1, s8, s77, s78, s79, va9, va9, va9, Q2, Q7⟩
         ·rintro x_117 o t h ⟨s1, s8, s77, s78, s79, s115, s116, s117, Q2, Q7⟩ hm2 hb45;simp only [c4x] at hm2;rw [g47];apply b0b;intro K hK;simp only [go_sem, s116, s117];apply hK;refine b0i fun K46 hK46 => ?_;simp only [go_sem];refine b0k (fun hc47 => ?_) (fun hc47 => ?_)
          ·rw [b0r hc47] at hm2;simp only [b0s, b0f];refine hK46 _ _ ?_;refine b0i fun K48 hK48 => ?_;simp only [b0u];obtain ⟨x50, h_x50, hm2⟩ := b0g hm2;have h_x500 := b05 h_x50;have h_x501 := b06 h_x50;apply b0b;intro K hK;simp only [go_sem, s115, s117, b08 h_x50, h_x501];apply hK;obtain ⟨y54, h_y54, hm2⟩ := b0g hm2;apply b0b;intro K hK;simp only [go_sem];refine b01 (b8n x50 "newel/situation.Check$1" [] [] (fun z53 => some (b7s z53)) (.fn _ _ _ b0j b0j) (fun z0 y hz => by cases hz; exact d3i z0) _ h_y54) ?_;simp only [go_sem];apply hK;simp only [go_sem];refine b0k (fun hc55 => ?_) (fun hc55 => ?_)
           ·rw [b0r hc55] at hm2;apply b0b;intro K hK;simp only [go_sem];apply hK;simp only [b0x, b1p, b2e, b0y];obtain rfl := sI9 hm2;obtain rfl := hb45 _ rfl
            try dsimp only at hm1
            obtain rfl := sI9 hm1;obtain rfl := hb18 _ rfl
            try dsimp only at hm0
            obtain rfl := sI9 hm0;exact b04 vb9 (b0e _)
           ·rw [b0q hc55] at hm2;simp only [b0s, b02, b0f];refine hK48 _ _ ?_;apply b03;intro K hK;simp only [go_sem, s117];apply hK;simp only [b0f];obtain rfl := sI9 hm2;refine ⟨_, rfl, ?_⟩;exact ⟨s1, s8, s77, s78, s79, s115, s116, va9, Q2, Q7⟩
          ·rw [b0q hc47] at hm2;simp only [b09, b1b, b1a, b0f];obtain rfl := sI9 hm2;obtain rfl := hb45 _ rfl
           try dsimp only at hm1
           exact J35  _ _ s1 s8 s77 s78 s79 Q2 Q7 hm1
      ·rw [b0q hc20] at hm1;simp only [b09, b1b, b1a, b0f];obtain rfl := sI9 hm1;obtain rfl := hb18 _ rfl
       try dsimp only at hm0
       exact J17  _ _  hm0
    simp only [b0u];obtain ⟨b58, hl58, hm0⟩ := b0g hm0;refine b1j hl58 (fun | x_62, t, h => t 1 = .fp (vM m) 0 /\ t 60 = .fs 2 (List.map b0p m.States) /\ t 61 = I (List.length m.States : Int) /\ t 62 = I x_62) ?_ ?_
    ·exact ⟨s1, va9, va9, va9⟩
    ·rintro x_62 o t h ⟨s1, s60, s61, s62⟩ hm1 hb58;simp only [c4w] at hm1;rw [g46];apply b0b;intro K hK;simp only [go_sem, s61, s62];apply hK;refine b0i fun K59 hK59 => ?_;simp only [go_sem];refine b0k (fun hc60 => ?_) (fun hc60 => ?_)
     ·rw [b0r hc60] at hm1;simp only [b0s, b0f];refine hK59 _ _ ?_;refine b0i fun K61 hK61 => ?_;simp only [b0u];obtain ⟨x63, h_x63, hm1⟩ := b0g hm1;have h_x630 := b05 h_x63;have h_x631 := b06 h_x63;apply b0b;intro K hK;simp only [go_sem, s60, s62, b08 h_x63, h_x631];apply hK;obtain ⟨q65, h_q65, hm1⟩ := b0g hm1;apply b0b;intro K hK;simp only [go_sem, s1, c23 h_q65];refine b01 (b4q x63.Shows 0 (wr (q65 - 1))) ?_;simp only [go_sem];apply hK;simp only [go_sem];refine b0k (fun hc66 => ?_) (fun hc66 => ?_)
      ·rw [b0r hc66] at hm1;apply b0b;intro K hK;simp only [go_sem];apply hK;simp only [b0x, b1p, b2e, b0y];obtain rfl := sI9 hm1;obtain rfl := hb58 _ rfl
       try dsimp only at hm0
       obtain rfl := sI9 hm0;exact b04 vb9 (b0e _)
      ·rw [b0q hc66] at hm1;simp only [b0s, b02, b0f];refine hK61 _ _ ?_;apply b03;intro K hK;simp only [go_sem, s62];apply hK;simp only [b0f];obtain rfl := sI9 hm1;refine ⟨_, rfl, ?_⟩;exact ⟨s1, s60, s61, va9⟩
     ·rw [b0q hc60] at hm1;simp only [b09, b1b, b1a, b0f];obtain rfl := sI9 hm1;obtain rfl := hb58 _ rfl
      try dsimp only at hm0
      exact J15  _ _ s1 hm0
   simp only [b0u];obtain ⟨b68, hl68, hm0⟩ := b0g hm0;refine b1j hl68 (fun | x_50, t, h => t 1 = .fp (vM m) 0 /\ t 48 = .fs 2 (List.map b0o m.Counters) /\ t 49 = I (List.length m.Counters : Int) /\ t 50 = I x_50) ?_ ?_
   ·exact ⟨s1, va9, va9, va9⟩
   ·rintro x_50 o t h ⟨s1, s48, s49, s50⟩ hm1 hb68;simp only [c4z] at hm1;rw [g5a];apply b0b;intro K hK;simp only [go_sem, s49, s50];apply hK;refine b0i fun K69 hK69 => ?_;simp only [go_sem];refine b0k (fun hc70 => ?_) (fun hc70 => ?_)
    ·rw [b0r hc70] at hm1;simp only [b0s, b0f];refine hK69 _ _ ?_;refine b0i fun K71 hK71 => ?_;simp only [b0u];obtain ⟨x73, h_x73, hm1⟩ := b0g hm1;have h_x730 := b05 h_x73;have h_x731 := b06 h_x73;apply b0b;intro K hK;simp only [go_sem, s48, s50, b08 h_x73, h_x731];apply hK;apply b0b;intro K hK;simp only [go_sem];refine b01 (b4q x73.Max 1 7) ?_;simp only [go_sem];apply hK;simp only [go_sem];refine b0k (fun hc74 => ?_) (fun hc74 => ?_)
     ·rw [b0r hc74] at hm1;apply b0b;intro K hK;simp only [go_sem];apply hK;simp only [b0x, b1p, b2e, b0y];obtain rfl := sI9 hm1;obtain rfl := hb68 _ rfl
      try dsimp only at hm0
      obtain rfl := sI9 hm0;exact b04 vb9 (b0e _)
     ·rw [b0q hc74] at hm1;simp only [b0s, b02, b0f];refine hK71 _ _ ?_;apply b03;intro K hK;simp only [go_sem, s50];apply hK;simp only [b0f];obtain rfl := sI9 hm1;refine ⟨_, rfl, ?_⟩;exact ⟨s1, s48, s49, va9⟩
    ·rw [b0q hc70] at hm1;simp only [b09, b1b, b1a, b0f];obtain rfl := sI9 hm1;obtain rfl := hb68 _ rfl
     try dsimp only at hm0
     exact J13  _ _ s1 hm0
theorem d3j (hf : Has O "newel/situation.Plain" x_situation_Plain) : d0m O := by
 intro word r hm0;unfold r1j at hm0;refine b1i hf rfl (b0a (b0e _) b0j) (b0e _) ?_;refine b1c (fun t h => t 0 = .v (.string word)) rfl fun t h s0 => ?_;simp only [x_situation_Plain];apply b0b;intro K hK;simp only [go_sem];apply hK;refine b0v ?_;apply b0b;intro K hK;simp only [go_sem, s0];refine j5y (O := O) ?_;simp only [go_sem];apply hK;refine b0i fun K1 hK1 => ?_
 have J2 : ∀ (t : Slots) (h : Heap), t 0 = .v (.string word) -> d48 word = some r -> K1 t h := by
  intro t h s0 hm0;refine hK1 _ _ ?_;unfold d48 at hm0;apply b0b;intro K hK;simp only [go_sem, s0];apply hK;simp only [b0x, b0y];obtain rfl := sI9 hm0;exact b04 vb9 (b0e _)
 simp only [b0u];obtain ⟨b3, hl3, hm0⟩ := b0g hm0;refine b1j hl3 (fun | x_8, t, h => t 0 = .v (.string word) /\ t 6 = .fs 1 (List.map c2m (b3q word)) /\ t 7 = I (List.length (b3q word) : Int) /\ t 8 = I x_8) ?_ ?_
 ·exact ⟨s0, va9, va9, va9⟩
 ·rintro x_8 o t h ⟨s0, s6, s7, s8⟩ hm1 hb3;simp only [c42] at hm1;rw [g5b];apply b0b;intro K hK;simp only [go_sem, s7, s8];apply hK;refine b0i fun K4 hK4 => ?_;simp only [go_sem];refine b0k (fun hc5 => ?_) (fun hc5 => ?_)
  ·rw [b0r hc5] at hm1;simp only [b0s, b0f];refine hK4 _ _ ?_;refine b0i fun K6 hK6 => ?_;simp only [b0u];obtain ⟨x8, h_x8, hm1⟩ := b0g hm1;have h_x80 := b05 h_x8;have h_x81 := b06 h_x8;apply b0b;intro K hK;simp only [go_sem, s6, s8, b08 h_x8, h_x81];apply hK;refine b2p (fun t h => t 0 = .v (.string word) /\ t 6 = .fs 1 (List.map c2m (b3q word)) /\ t 7 = I (List.length (b3q word) : Int) /\ t 8 = I x_8 /\ t 17 = B ((decide (x8 < 97)) || (decide (122 < x8)))) (fun K hK => ?_) ?_
   ·simp only [go_sem];refine b0k (fun hg9 => ?_) (fun hg9 => ?_)
    ·simp only [go_sem, hg9];exact hK _ _ ⟨s0, s6, s7, s8, (by first | (simp only [go_sem, hg9]; done) | rfl)⟩
    ·simp only [go_sem, hg9];exact hK _ _ ⟨s0, s6, s7, s8, (by first | (simp only [go_sem, hg9]; done) | rfl)⟩
   ·rintro t h ⟨s0, s6, s7, s8, s17⟩;simp only [go_sem, s17];refine b0k (fun hc10 => ?_) (fun hc10 => ?_)
    ·rw [b0r hc10] at hm1;apply b0b;intro K hK;simp only [go_sem];apply hK;simp only [b0x, b1p, b2e, b0y];obtain rfl := sI9 hm1;obtain rfl := hb3 _ rfl
     try dsimp only at hm0
     obtain rfl := sI9 hm0;exact b04 vb9 (b0e _)
    ·rw [b0q hc10] at hm1;simp only [b0s, b02, b0f];refine hK6 _ _ ?_;apply b03;intro K hK;simp only [go_sem, s8];apply hK;simp only [b0f];obtain rfl := sI9 hm1;refine ⟨_, rfl, ?_⟩;exact ⟨s0, s6, s7, va9⟩
  ·rw [b0q hc5] at hm1;simp only [b09, b1b, b1a, b0f];obtain rfl := sI9 hm1;obtain rfl := hb3 _ rfl
   try dsimp only at hm0
   exact J2  _ _ s0 hm0
theorem d3k (hf : Has O "newel/situation.Reserved" x_situation_Reserved) : d0n O := by
 intro word;generalize hm0 : b84 word = r;unfold b84 at hm0;refine b1i hf rfl (b0a (b0e _) b0j) (b0e _) ?_;refine b1c (fun t h => t 0 = .v (.string word)) rfl fun t h s0 => ?_;simp only [x_situation_Reserved];apply b0b;intro K hK;simp only [go_sem];apply hK;refine b0v ?_;apply b0b;intro K hK;simp only [go_sem, s0];apply hK;refine b0i fun K1 hK1 => ?_;simp only [b0u];refine b0v ?_;apply b0b;intro K hK;simp only [go_sem];apply hK;refine b0i fun K2 hK2 => ?_
 have J3 : ∀ (x_4 : Bool) (t : Slots) (h : Heap), t 4 = B x_4 -> b5w x_4 = r -> K2 t h := by
  intro x_4 t h s4 hm0;refine hK2 _ _ ?_;unfold b5w at hm0;simp only [go_sem, s4];refine b0k (fun hc4 => ?_) (fun hc4 => ?_)
  ·rw [b0r hc4] at hm0;apply b0b;intro K hK;simp only [go_sem];apply hK;simp only [b0x, b1p, b2e, b0y];obtain rfl := hm0;exact b04 vb9 (b0e _)
  ·rw [b0q hc4] at hm0;simp only [b0s, b02, b0f];refine hK1 _ _ ?_;apply b0b;intro K hK;simp only [go_sem];apply hK;simp only [b0x, b0y];obtain rfl := hm0;exact b04 vb9 (b0e _)
 simp only [go_sem];refine b0k (fun hc5 => ?_) (fun hc5 => ?_)
 ·rw [b0r hc5] at hm0;simp only [b0s, b0f];exact J3 (decide (word = (ByteArray.mk #[97, 110, 121]))) _ _ va9 hm0
 ·rw [b0q hc5] at hm0;apply b0b;intro K hK;simp only [go_sem];apply hK;simp only [go_sem];refine b0k (fun hc6 => ?_) (fun hc6 => ?_)
  ·rw [b0r hc6] at hm0;simp only [b0s, b0f];exact J3 (decide (word = (ByteArray.mk #[116, 111]))) _ _ va9 hm0
  ·rw [b0q hc6] at hm0;apply b0b;intro K hK;simp only [go_sem];apply hK;simp only [go_sem];refine b0k (fun hc7 => ?_) (fun hc7 => ?_)
   ·rw [b0r hc7] at hm0;simp only [b0s, b0f];exact J3 (decide (word = (ByteArray.mk #[122, 101, 114, 111]))) _ _ va9 hm0
   ·rw [b0q hc7] at hm0;apply b0b;intro K hK;simp only [go_sem];apply hK;simp only [go_sem];refine b0k (fun hc8 => ?_) (fun hc8 => ?_)
    ·rw [b0r hc8] at hm0;simp only [b0s, b0f];exact J3 (decide (word = (ByteArray.mk #[109, 111, 114, 101]))) _ _ va9 hm0
    ·rw [b0q hc8] at hm0;apply b0b;intro K hK;simp only [go_sem];apply hK;simp only [go_sem];refine b0k (fun hc9 => ?_) (fun hc9 => ?_)
     ·rw [b0r hc9] at hm0;simp only [b0s, b0f];exact J3 (decide (word = (ByteArray.mk #[108, 101, 115, 115]))) _ _ va9 hm0
     ·rw [b0q hc9] at hm0;apply b0b;intro K hK;simp only [go_sem];apply hK;simp only [go_sem];refine b0k (fun hc10 => ?_) (fun hc10 => ?_)
      ·rw [b0r hc10] at hm0;simp only [b0s, b0f];exact J3 (decide (word = (ByteArray.mk #[105, 102]))) _ _ va9 hm0
      ·rw [b0q hc10] at hm0;apply b0b;intro K hK;simp only [go_sem];apply hK;simp only [go_sem];refine b0k (fun hc11 => ?_) (fun hc11 => ?_)
       ·rw [b0r hc11] at hm0;simp only [b0s, b0f];exact J3 (decide (word = (ByteArray.mk #[121, 101, 115]))) _ _ va9 hm0
       ·rw [b0q hc11] at hm0;apply b03;intro K hK;simp only [go_sem];apply hK;simp only [b0f];exact J3 (decide (word = (ByteArray.mk #[110, 111]))) _ _ va9 hm0
theorem d3l (hf : Has O "newel/situation.asks" x_situation_asks) (b4q : c5u O) : d0o O := by
 intro m x r hm0;unfold c43 at hm0;refine b1i hf rfl (b0a (fM _) (b0a (.agg _ (b0a (b0e _) (b0a (b0e _) (b0a (b0e _) (b0a (b0e _) b0j))))) b0j)) (b0e _) ?_;refine b1c (fun t h => t 0 = .agg (vM m) /\ t 1 = .agg [I x.Kind, I x.Number, I x.Value, B x.Not]) ⟨rfl, rfl⟩ fun t h ⟨s0, s1⟩ => ?_;simp only [x_situation_asks];apply b0b;intro K hK;simp only [go_sem, s0, s1];apply hK;refine b0v ?_;apply b0b;intro K hK;simp only [go_sem];apply hK;refine b0i fun K1 hK1 => ?_;simp only [b0u];apply b0b;intro K hK;simp only [go_sem];apply hK;simp only [go_sem];refine b0k (fun hc2 => ?_) (fun hc2 => ?_)
 ·rw [b0r hc2] at hm0;refine b2p (fun t h => t 4 = B ((b2q x.Number 0 (wr ((List.length m.Inputs : Int) - 1))) && (decide (x.Value = 0)))) (fun K hK => ?_) ?_
  ·simp only [go_sem];refine b01 (b4q x.Number 0 (wr ((List.length m.Inputs : Int) - 1))) ?_;simp only [go_sem];refine b0k (fun hg3 => ?_) (fun hg3 => ?_)
   ·simp only [go_sem, hg3];exact hK _ _ (by first | (simp only [go_sem, hg3]; done) | rfl)
   ·simp only [go_sem, hg3];exact hK _ _ (by first | (simp only [go_sem, hg3]; done) | rfl)
  ·rintro t h s4;simp only [b0x, b1p, b2e, b0y];obtain rfl := sI9 hm0;exact b04 (by simp only [go_sem, s4]) (b0e _)
 ·rw [b0q hc2] at hm0;apply b0b;intro K hK;simp only [go_sem];apply hK;simp only [go_sem];refine b0k (fun hc4 => ?_) (fun hc4 => ?_)
  ·rw [b0r hc4] at hm0;obtain ⟨c8, h_c8, hm0⟩ := b0g hm0;refine b2p (fun t h => t 4 = B c8) (fun K hK => ?_) ?_
   ·simp only [go_sem];refine b01 (b4q x.Number 0 (wr ((List.length m.Counters : Int) - 1))) ?_;simp only [go_sem];refine b0k (fun hg9 => ?_) (fun hg9 => ?_)
    ·simp only [hg9, eq_self, if_true] at h_c8;obtain ⟨x7, h_x7, h_c8⟩ := b0g h_c8;have h_x70 := b05 h_x7;have h_x71 := b06 h_x7;obtain rfl := sI9 h_c8;simp only [go_sem, b08 h_x7, hg9];refine b01 (b4q x.Value 0 x7.Max) ?_;simp only [go_sem, hg9];exact hK _ _ va9
    ·simp only [hg9, if_false, fT9] at h_c8;obtain rfl := sI9 h_c8;simp only [go_sem, hg9];exact hK _ _ va9
   ·rintro t h s4;simp only [b0x, b1p, b2e, b0y];obtain rfl := sI9 hm0;exact b04 (by simp only [go_sem, s4]) (b0e _)
  ·rw [b0q hc4] at hm0;apply b0b;intro K hK;simp only [go_sem];apply hK;simp only [go_sem];refine b0k (fun hc10 => ?_) (fun hc10 => ?_)
   ·rw [b0r hc10] at hm0;refine b2p (fun t h => t 4 = B ((b2q x.Number 0 (wr ((List.length m.States : Int) - 1))) && (decide (x.Value = 0)))) (fun K hK => ?_) ?_
    ·simp only [go_sem];refine b01 (b4q x.Number 0 (wr ((List.length m.States : Int) - 1))) ?_;simp only [go_sem];refine b0k (fun hg11 => ?_) (fun hg11 => ?_)
     ·simp only [go_sem, hg11];exact hK _ _ (by first | (simp only [go_sem, hg11]; done) | rfl)
     ·simp only [go_sem, hg11];exact hK _ _ (by first | (simp only [go_sem, hg11]; done) | rfl)
    ·rintro t h s4;simp only [b0x, b1p, b2e, b0y];obtain rfl := sI9 hm0;exact b04 (by simp only [go_sem, s4]) (b0e _)
   ·rw [b0q hc10] at hm0;apply b0b;intro K hK;simp only [go_sem];apply hK;simp only [go_sem];refine b0k (fun hc12 => ?_) (fun hc12 => ?_)
    ·rw [b0r hc12] at hm0;refine b2p (fun t h => t 4 = B ((b2q x.Number 0 (wr ((List.length m.Outputs : Int) - 1))) && (decide (x.Value = 0)))) (fun K hK => ?_) ?_
     ·simp only [go_sem];refine b01 (b4q x.Number 0 (wr ((List.length m.Outputs : Int) - 1))) ?_;simp only [go_sem];refine b0k (fun hg13 => ?_) (fun hg13 => ?_)
      ·simp only [go_sem, hg13];exact hK _ _ (by first | (simp only [go_sem, hg13]; done) | rfl)
      ·simp only [go_sem, hg13];exact hK _ _ (by first | (simp only [go_sem, hg13]; done) | rfl)
     ·rintro t h s4;simp only [b0x, b1p, b2e, b0y];obtain rfl := sI9 hm0;exact b04 (by simp only [go_sem, s4]) (b0e _)
    ·rw [b0q hc12] at hm0;simp only [b0s, b02, b0f];refine hK1 _ _ ?_;apply b0b;intro K hK;simp only [go_sem];apply hK;simp only [b0x, b0y];obtain rfl := sI9 hm0;exact b04 vb9 (b0e _)
theorem d3m (hf : Has O "newel/situation.named" x_situation_named) (d3n : d0q O) (d3j : d0m O) (d3k : d0n O) : d0p O := by
 intro m r hm0;unfold c44 at hm0;refine b1i hf rfl (b0a (fM _) b0j) (b0e _) ?_;refine b1c (fun t h => t 0 = .agg (vM m)) rfl fun t h s0 => ?_;simp only [x_situation_named];apply b0b;intro K hK;simp only [go_sem, s0];apply hK;apply b0b;intro K hK;simp only [go_sem];refine g0d (O := O) (e := List.map (eM vS vI) ([] : List (ByteArray × Int))) rfl ?_;simp only [go_sem];apply hK;refine b0v ?_;obtain ⟨y2, h_y2, hm0⟩ := b0g hm0;apply b0b;intro K hK;simp only [go_sem];refine b01 (d3n m _ h_y2) ?_;simp only [go_sem];apply hK;refine b0i fun K3 hK3 => ?_
 have J4 : ∀ (t : Slots) (h : Heap), d49 = some r -> K3 t h := by
  intro t h hm0;refine hK3 _ _ ?_;unfold d49 at hm0;apply b0b;intro K hK;simp only [go_sem];apply hK;simp only [b0x, b0y];obtain rfl := sI9 hm0;exact b04 vb9 (b0e _)
 simp only [b0u];obtain ⟨b5, hl5, hm0⟩ := b0g hm0;refine b1j hl5 (fun | (seen_3, x_10), t, h => ∃ i3 : Nat, t 3 = .mp i3 /\ t 8 = .fs 1 (List.map eS y2) /\ t 9 = I (List.length y2 : Int) /\ t 10 = I x_10 /\ h.ob i3 = some (0, List.map (eM vS vI) seen_3) /\ i3 < h.nx) ?_ ?_
 ·exact ⟨h.nx, va9, va9, va9, va9, vb9, vb9⟩
 ·rintro ⟨seen_3, x_10⟩ o t h ⟨i3, s3, s8, s9, s10, Q3, Q1⟩ hm1 hb5;simp only [c1i] at hm1;rw [g5c];apply b0b;intro K hK;simp only [go_sem, s9, s10];apply hK;refine b0i fun K6 hK6 => ?_;simp only [go_sem];refine b0k (fun hc7 => ?_) (fun hc7 => ?_)
  ·rw [b0r hc7] at hm1;simp only [b0s, b0f];refine hK6 _ _ ?_;refine b0i fun K8 hK8 => ?_;simp only [b0u];obtain ⟨x10, h_x10, hm1⟩ := b0g hm1;have h_x100 := b05 h_x10;have h_x101 := b06 h_x10;apply b0b;intro K hK;simp only [go_sem, s8, s10, b08 h_x10, h_x101];apply hK;apply b0b;intro K hK;simp only [go_sem, s3];refine g0c (O := O) (fk := vS) (fv := vI) (l := seen_3) (x := x10) (z := 0) g1s d3z ?_ ?_ ?_
   ·rfl
   ·simp only [go_sem, Q3]
   simp only [go_sem];refine d2i (O := O) (fk := vS) (fv := vI) (l := seen_3) (x := x10) (v := (wr ((b2w seen_3 x10 0) + 1))) j8d d3z ?_ ?_ ?_
   ·rfl
   ·simp only [go_sem, Q3]
   simp only [go_sem];apply hK;obtain ⟨y12, h_y12, hm1⟩ := b0g hm1;refine b2p (fun t h => t 3 = .mp i3 /\ t 8 = .fs 1 (List.map eS y2) /\ t 9 = I (List.length y2 : Int) /\ t 10 = I x_10 /\ t 35 = B ((((!y12) || (decide (8 < (ByteArray.size x10 : Int)))) || (b84 x10)) || (decide (1 < (b2w (b3w seen_3 x10 (wr ((b2w seen_3 x10 0) + 1))) x10 0)))) /\ h.ob i3 = some (0, List.map (eM vS vI) (b3w seen_3 x10 (wr ((b2w seen_3 x10 0) + 1)))) /\ i3 < h.nx) (fun K hK => ?_) ?_
   ·simp only [go_sem];refine b01 (d3j x10 _ h_y12) ?_;simp only [go_sem];refine b0k (fun hg13 => ?_) (fun hg13 => ?_)
    ·simp only [go_sem, hg13];exact hK _ _ ⟨s3, s8, s9, s10, (by first | (simp only [go_sem, hg13]; done) | rfl), vb9, (by simp only [go_sem, Q1])⟩
    ·simp only [go_sem, hg13];refine b0k (fun hg14 => ?_) (fun hg14 => ?_)
     ·simp only [go_sem, hg13, hg14];exact hK _ _ ⟨s3, s8, s9, s10, (by first | (simp only [go_sem, hg13, hg14]; done) | rfl), vb9, (by simp only [go_sem, Q1])⟩
     ·simp only [go_sem, hg13, hg14];refine b01 (d3k x10) ?_;simp only [go_sem, hg13, hg14];refine b0k (fun hg15 => ?_) (fun hg15 => ?_)
      ·simp only [go_sem, hg13, hg14, hg15];exact hK _ _ ⟨s3, s8, s9, s10, (by first | (simp only [go_sem, hg13, hg14, hg15]; done) | rfl), vb9, (by simp only [go_sem, Q1])⟩
      ·simp only [go_sem, s3, hg13, hg14, hg15];refine g0c (O := O) (fk := vS) (fv := vI) (l := (b3w seen_3 x10 (wr ((b2w seen_3 x10 0) + 1)))) (x := x10) (z := 0) g1s d3z ?_ ?_ ?_
       ·rfl
       ·simp only [go_sem]
       simp only [go_sem, hg13, hg14, hg15];exact hK _ _ ⟨s3, s8, s9, s10, (by first | (simp only [go_sem, hg13, hg14, hg15]; done) | rfl), vb9, (by simp only [go_sem, Q1])⟩
   ·rintro t h ⟨s3, s8, s9, s10, s35, Q3, Q1⟩;simp only [go_sem, s35];refine b0k (fun hc16 => ?_) (fun hc16 => ?_)
    ·rw [b0r hc16] at hm1;apply b0b;intro K hK;simp only [go_sem];apply hK;simp only [b0x, b1p, b2e, b0y];obtain rfl := sI9 hm1;obtain rfl := hb5 _ rfl
     try dsimp only at hm0
     obtain rfl := sI9 hm0;exact b04 vb9 (b0e _)
    ·rw [b0q hc16] at hm1;simp only [b0s, b02, b0f];refine hK8 _ _ ?_;apply b03;intro K hK;simp only [go_sem, s10];apply hK;simp only [b0f];obtain rfl := sI9 hm1;refine ⟨_, rfl, ?_⟩;exact ⟨i3, s3, s8, s9, va9, Q3, Q1⟩
  ·rw [b0q hc7] at hm1;simp only [b09, b1b, b1a, b0f];obtain rfl := sI9 hm1;obtain rfl := hb5 _ rfl
   try dsimp only at hm0
   exact J4  _ _  hm0
theorem d3n (d3o : d0r O) (d3p : d0s O) : d0q O := by
 intro m r hm0;unfold c45 at hm0;split at hm0
 ·exact d3o m r hm0
 ·exact d3p m r hm0
theorem d3o (hf : Has O "newel/situation.names" x_situation_names) (d3q : d0t O) : d0r O := by
 intro m r hm0;unfold c88 at hm0;refine b1i hf rfl (b0a (fM _) b0j) (b0c fun a _ => b0z a) ?_;refine b1c (fun t h => t 0 = .agg (vM m)) rfl fun t h s0 => ?_;simp only [x_situation_names];apply b0b;intro K hK;simp only [go_sem, s0];apply hK;obtain ⟨y2, h_y2, hm0⟩ := b0g hm0;apply b0b;intro K hK;simp only [go_sem];refine j4w (e := eS) (l := y2) ?_ (d3q ([m.Inputs, m.Outputs]) _ h_y2) ?_
 ·exact .cons (b29 (f := b4f) (l := ([m.Inputs, m.Outputs])) (id := h.nx) vb9 vf9 c65 g1e) (.nil)
 simp only [go_sem];apply hK;refine b0v ?_;apply b0b;intro K hK;simp only [go_sem];apply hK;refine b0i fun K3 hK3 => ?_
 have J4 : ∀ (l_3 : List ByteArray) (i3 : Nat) (t : Slots) (h : Heap), t 1 = .fp (vM m) 0 -> t 3 = .rs i3 0 (List.length l_3) -> h.ob i3 = some (1, List.map eS l_3) -> i3 < h.nx -> c9b m l_3 = some r -> K3 t h := by
  intro l_3 i3 t h s1 s3 Q3 Q1 hm0;refine hK3 _ _ ?_;unfold c9b at hm0;refine b0v ?_;apply b0b;intro K hK;simp only [go_sem, s1];apply hK;refine b0i fun K5 hK5 => ?_
  have J6 : ∀ (l_3_1 : List ByteArray) (i3_1 : Nat) (t : Slots) (h : Heap), t 3 = .rs i3_1 0 (List.length l_3_1) -> h.ob i3_1 = some (1, List.map eS l_3_1) -> i3_1 < h.nx -> c9c l_3_1 = some r -> K5 t h := by
   intro l_3_1 i3_1 t h s3 Q3 Q1 hm0;refine hK5 _ _ ?_;unfold c9c at hm0;apply b0b;intro K hK;simp only [go_sem, s3];apply hK;simp only [b0x, b0y];obtain rfl := sI9 hm0;exact b8e (v := .rs i3_1 0 (List.length l_3_1)) vb9 (b29 (f := eS) (l := l_3_1) (id := i3_1) (by simp only [go_sem, Q3]) vf9 b0z c3u)
  simp only [b0u];obtain ⟨b7, hl7, hm0⟩ := b0g hm0;refine b1j hl7 (fun | (l_3_1, x_30), t, h => ∃ i3_1 : Nat, t 3 = .rs i3_1 0 (List.length l_3_1) /\ t 28 = .fs 2 (List.map b0p m.States) /\ t 29 = I (List.length m.States : Int) /\ t 30 = I x_30 /\ h.ob i3_1 = some (1, List.map eS l_3_1) /\ i3_1 < h.nx) ?_ ?_
  ·exact ⟨i3, (by first | exact s3 | simp only [go_sem, s3, lA9, mA9]), va9, va9, va9, Q3, Q1⟩
  ·rintro ⟨l_3_1, x_30⟩ o t h ⟨i3_1, s3, s28, s29, s30, Q3, Q1⟩ hm1 hb7;simp only [c89] at hm1;rw [d5k];apply b0b;intro K hK;simp only [go_sem, s29, s30];apply hK;refine b0i fun K8 hK8 => ?_;simp only [go_sem];refine b0k (fun hc9 => ?_) (fun hc9 => ?_)
   ·rw [b0r hc9] at hm1;simp only [b0s, b0f];refine hK8 _ _ ?_;refine b0i fun K10 hK10 => ?_;simp only [b0u];obtain ⟨x12, h_x12, hm1⟩ := b0g hm1;have h_x120 := b05 h_x12;have h_x121 := b06 h_x12;apply b0b;intro K hK;simp only [go_sem, s28, s30, b08 h_x12, h_x121];apply hK;obtain ⟨l14, h_l14, hm1⟩ := b0g hm1;apply b03;intro K hK;simp only [go_sem, s3];refine b3a (f := eS) (l := l_3_1) (m := ([x12.Name])) ?_ ?_ ?_ ?_ h_l14 ?_
    ·exact (b2v (by simp only [go_sem, Q3, Q1]) vb9 (by simp only [go_sem, Q1]))
    ·exact (b4t vb9 vb9)
    ·exact (b4r vd9)
    ·exact (fun _ => by simp)
    simp only [go_sem];apply hK;simp only [b02, b0f];refine hK10 _ _ ?_;apply b03;intro K hK;simp only [go_sem, s30];apply hK;simp only [b0f];obtain rfl := sI9 hm1;refine ⟨_, rfl, ?_⟩;exact ⟨(nxs (nxs h.nx)), va9, s28, s29, va9, vb9, vb9⟩
   ·rw [b0q hc9] at hm1;simp only [b09, b1b, b1a, b0f];obtain rfl := sI9 hm1;obtain rfl := hb7 _ rfl
    try dsimp only at hm0
    exact J6 l_3_1 i3_1 _ _ (by first | exact s3 | simp only [go_sem, s3, lA9, mA9]) Q3 Q1 hm0
 simp only [b0u];obtain ⟨b16, hl16, hm0⟩ := b0g hm0;refine b1j hl16 (fun | (l_3, x_17), t, h => ∃ i3 : Nat, t 1 = .fp (vM m) 0 /\ t 3 = .rs i3 0 (List.length l_3) /\ t 15 = .fs 2 (List.map b0o m.Counters) /\ t 16 = I (List.length m.Counters : Int) /\ t 17 = I x_17 /\ h.ob i3 = some (1, List.map eS l_3) /\ i3 < h.nx) ?_ ?_
 ·exact ⟨(nxs h.nx), va9, va9, va9, va9, va9, vb9, vb9⟩
 ·rintro ⟨l_3, x_17⟩ o t h ⟨i3, s1, s3, s15, s16, s17, Q3, Q1⟩ hm1 hb16;simp only [c9a] at hm1;rw [d5l];apply b0b;intro K hK;simp only [go_sem, s16, s17];apply hK;refine b0i fun K17 hK17 => ?_;simp only [go_sem];refine b0k (fun hc18 => ?_) (fun hc18 => ?_)
  ·rw [b0r hc18] at hm1;simp only [b0s, b0f];refine hK17 _ _ ?_;refine b0i fun K19 hK19 => ?_;simp only [b0u];obtain ⟨x21, h_x21, hm1⟩ := b0g hm1;have h_x210 := b05 h_x21;have h_x211 := b06 h_x21;apply b0b;intro K hK;simp only [go_sem, s15, s17, b08 h_x21, h_x211];apply hK;obtain ⟨l23, h_l23, hm1⟩ := b0g hm1;apply b03;intro K hK;simp only [go_sem, s3];refine b3a (f := eS) (l := l_3) (m := ([x21.Name])) ?_ ?_ ?_ ?_ h_l23 ?_
   ·exact (b2v (by simp only [go_sem, Q3, Q1]) vb9 (by simp only [go_sem, Q1]))
   ·exact (b4t vb9 vb9)
   ·exact (b4r vd9)
   ·exact (fun _ => by simp)
   simp only [go_sem];apply hK;simp only [b02, b0f];refine hK19 _ _ ?_;apply b03;intro K hK;simp only [go_sem, s17];apply hK;simp only [b0f];obtain rfl := sI9 hm1;refine ⟨_, rfl, ?_⟩;exact ⟨(nxs (nxs h.nx)), s1, va9, s15, s16, va9, vb9, vb9⟩
  ·rw [b0q hc18] at hm1;simp only [b09, b1b, b1a, b0f];obtain rfl := sI9 hm1;obtain rfl := hb16 _ rfl
   try dsimp only at hm0
   exact J4 l_3 i3 _ _ s1 (by first | exact s3 | simp only [go_sem, s3, lA9, mA9]) Q3 Q1 hm0
theorem d3p (hf : Has O "newel/situation.names" x_situation_names) (d3r : d0u O) : d0s O := by
 intro m r hm0;unfold c9d at hm0;refine b1i hf rfl (b0a (fM _) b0j) (b0c fun a _ => b0z a) ?_;refine b1c (fun t h => t 0 = .agg (vM m)) rfl fun t h s0 => ?_;simp only [x_situation_names];apply b0b;intro K hK;simp only [go_sem, s0];apply hK;obtain ⟨y2, h_y2, hm0⟩ := b0g hm0;apply b0b;intro K hK;simp only [go_sem];refine b8l ?_ (d3r ([m.Inputs, m.Outputs]) _ h_y2) (.v _) ?_
 ·exact .cons (b29 (f := b4f) (l := ([m.Inputs, m.Outputs])) (id := h.nx) vb9 vf9 c65 g1e) (.nil)
 simp only [go_sem];apply hK;refine b0v ?_;apply b0b;intro K hK;simp only [go_sem];apply hK;refine b0i fun K3 hK3 => ?_
 have J4 : ∀ (l_3 : List ByteArray) (v3 : AV) (t : Slots) (h : Heap), t 1 = .fp (vM m) 0 -> t 3 = v3 -> b2a h v3 1 (List.map eS l_3) -> c9g m l_3 = some r -> K3 t h := by
  intro l_3 v3 t h s1 s3 Qf hm0;refine hK3 _ _ ?_;unfold c9g at hm0;refine b0v ?_;apply b0b;intro K hK;simp only [go_sem, s1];apply hK;refine b0i fun K5 hK5 => ?_
  have J6 : ∀ (l_3_1 : List ByteArray) (v3_1 : AV) (t : Slots) (h : Heap), t 3 = v3_1 -> b2a h v3_1 1 (List.map eS l_3_1) -> c9h l_3_1 = some r -> K5 t h := by
   intro l_3_1 v3_1 t h s3 Qf hm0;refine hK5 _ _ ?_;unfold c9h at hm0;apply b0b;intro K hK;simp only [go_sem, s3, b5r v3_1];apply hK;simp only [b0x, b0y];obtain rfl := sI9 hm0;exact b8e (v := v3_1) vb9 (r8x (f := eS) (l := l_3_1) (b3x Qf (by intro j hj hl; first | rfl | simp only [go_sem, hl]) (by first | omega | exact Nat.le_refl _ | (simp only [go_sem, nxs] <;> omega))) b0z c3u)
  simp only [b0u];obtain ⟨b7, hl7, hm0⟩ := b0g hm0;refine b1j hl7 (fun | (l_3_1, x_30), t, h => ∃ v3_1 : AV, t 3 = v3_1 /\ t 28 = .fs 2 (List.map b0p m.States) /\ t 29 = I (List.length m.States : Int) /\ t 30 = I x_30 /\ b2a h v3_1 1 (List.map eS l_3_1)) ?_ ?_
  ·exact ⟨v3, s3, va9, va9, va9, Qf⟩
  ·rintro ⟨l_3_1, x_30⟩ o t h ⟨v3_1, s3, s28, s29, s30, Qf⟩ hm1 hb7;simp only [c9e] at hm1;rw [d5k];apply b0b;intro K hK;simp only [go_sem, s29, s30];apply hK;refine b0i fun K8 hK8 => ?_;simp only [go_sem];refine b0k (fun hc9 => ?_) (fun hc9 => ?_)
   ·rw [b0r hc9] at hm1;simp only [b0s, b0f];refine hK8 _ _ ?_;refine b0i fun K10 hK10 => ?_;simp only [b0u];obtain ⟨x12, h_x12, hm1⟩ := b0g hm1;have h_x120 := b05 h_x12;have h_x121 := b06 h_x12;apply b0b;intro K hK;simp only [go_sem, s28, s30, b08 h_x12, h_x121];apply hK;obtain ⟨l14, h_l14, hm1⟩ := b0g hm1;apply b03;intro K hK;simp only [go_sem, s3, b5r v3_1];refine b3a (f := eS) (l := l_3_1) (m := ([x12.Name])) ?_ ?_ ?_ ?_ h_l14 ?_
    ·exact (b3x Qf (by intro j hj hl; first | rfl | simp only [go_sem, hl]) (by first | omega | exact Nat.le_refl _ | (simp only [go_sem, nxs] <;> omega)))
    ·exact (b4t vb9 vb9)
    ·exact (b4r vd9)
    ·exact (fun _ => by simp)
    simp only [go_sem];apply hK;simp only [b02, b0f];refine hK10 _ _ ?_;apply b03;intro K hK;simp only [go_sem, s30];apply hK;simp only [b0f];obtain rfl := sI9 hm1;refine ⟨_, rfl, ?_⟩;exact ⟨(.rs (nxs (nxs h.nx)) 0 (List.length l14)), va9, s28, s29, va9, (b2v (by simp only [go_sem, b8s Qf]) vh9 vb9)⟩
   ·rw [b0q hc9] at hm1;simp only [b09, b1b, b1a, b0f];obtain rfl := sI9 hm1;obtain rfl := hb7 _ rfl
    try dsimp only at hm0
    exact J6 l_3_1 v3_1 _ _ s3 Qf hm0
 simp only [b0u];obtain ⟨b16, hl16, hm0⟩ := b0g hm0;refine b1j hl16 (fun | (l_3, x_17), t, h => ∃ v3 : AV, t 1 = .fp (vM m) 0 /\ t 3 = v3 /\ t 15 = .fs 2 (List.map b0o m.Counters) /\ t 16 = I (List.length m.Counters : Int) /\ t 17 = I x_17 /\ b2a h v3 1 (List.map eS l_3)) ?_ ?_
 ·exact ⟨(.v (.slice none 0 0)), va9, va9, va9, va9, va9, c0o⟩
 ·rintro ⟨l_3, x_17⟩ o t h ⟨v3, s1, s3, s15, s16, s17, Qf⟩ hm1 hb16;simp only [c9f] at hm1;rw [d5l];apply b0b;intro K hK;simp only [go_sem, s16, s17];apply hK;refine b0i fun K17 hK17 => ?_;simp only [go_sem];refine b0k (fun hc18 => ?_) (fun hc18 => ?_)
  ·rw [b0r hc18] at hm1;simp only [b0s, b0f];refine hK17 _ _ ?_;refine b0i fun K19 hK19 => ?_;simp only [b0u];obtain ⟨x21, h_x21, hm1⟩ := b0g hm1;have h_x210 := b05 h_x21;have h_x211 := b06 h_x21;apply b0b;intro K hK;simp only [go_sem, s15, s17, b08 h_x21, h_x211];apply hK;obtain ⟨l23, h_l23, hm1⟩ := b0g hm1;apply b03;intro K hK;simp only [go_sem, s3, b5r v3];refine b3a (f := eS) (l := l_3) (m := ([x21.Name])) ?_ ?_ ?_ ?_ h_l23 ?_
   ·exact (b3x Qf (by intro j hj hl; first | rfl | simp only [go_sem, hl]) (by first | omega | exact Nat.le_refl _ | (simp only [go_sem, nxs] <;> omega)))
   ·exact (b4t vb9 vb9)
   ·exact (b4r vd9)
   ·exact (fun _ => by simp)
   simp only [go_sem];apply hK;simp only [b02, b0f];refine hK19 _ _ ?_;apply b03;intro K hK;simp only [go_sem, s17];apply hK;simp only [b0f];obtain rfl := sI9 hm1;refine ⟨_, rfl, ?_⟩;exact ⟨(.rs (nxs (nxs h.nx)) 0 (List.length l23)), s1, va9, s15, s16, va9, (b2v (by simp only [go_sem, b8s Qf]) vh9 vb9)⟩
  ·rw [b0q hc18] at hm1;simp only [b09, b1b, b1a, b0f];obtain rfl := sI9 hm1;obtain rfl := hb16 _ rfl
   try dsimp only at hm0
   exact J4 l_3 v3 _ _ s1 s3 Qf hm0
theorem b4q (hf : Has O "newel/situation.within" x_situation_within) : c5u O := by
 intro n low high;generalize hm0 : b2q n low high = r;unfold b2q at hm0;refine b1i hf rfl (b0a (b0e _) (b0a (b0e _) (b0a (b0e _) b0j))) (b0e _) ?_;refine b1c (fun t h => t 0 = I n /\ t 1 = I low /\ t 2 = I high) ⟨rfl, rfl, rfl⟩ fun t h ⟨s0, s1, s2⟩ => ?_;simp only [x_situation_within];apply b0b;intro K hK;simp only [go_sem];apply hK;refine b2p (fun t h => t 6 = B ((decide (low <= n)) && (decide (n <= high)))) (fun K hK => ?_) ?_
 ·simp only [go_sem, s0, s1];refine b0k (fun hg1 => ?_) (fun hg1 => ?_)
  ·simp only [go_sem, s0, s2, hg1];exact hK _ _ (by first | (simp only [go_sem, hg1]; done) | rfl)
  ·simp only [go_sem, hg1];exact hK _ _ (by first | (simp only [go_sem, hg1]; done) | rfl)
 ·rintro t h s6;simp only [b0x, b0y];obtain rfl := hm0;exact b04 (by simp only [go_sem, s6]) (b0e _)
theorem d3t (hf : Has O "slices.ContainsFunc[newel/api.Cond,newel/api.Term]" x_slices_ContainsFunc_api_Cond_api_Term_) (d3v : d0y O) : d0w O := by
 intro s f_n f_a f_b f f_z f_h r hm0;unfold c9k at hm0;refine b1i hf rfl (b0a (b0c fun a _ => b2j a) (b0a f_z b0j)) (b0e _) ?_;refine b1c (fun t h => t 0 = .fs 1 (List.map b0t s) /\ t 1 = .fn f_n f_a f_b) ⟨rfl, rfl⟩ fun t h ⟨s0, s1⟩ => ?_;simp only [x_slices_ContainsFunc_api_Cond_api_Term_];apply b0b;intro K hK;simp only [go_sem];apply hK;obtain ⟨y2, h_y2, hm0⟩ := b0g hm0;apply b0b;intro K hK;simp only [go_sem, s0, s1];refine b01 (d3v s f_n f_a f_b f f_z f_h _ h_y2) ?_;simp only [go_sem];apply hK;simp only [b0x, b0y];obtain rfl := sI9 hm0;exact b04 vb9 (b0e _)
theorem b8n (hf : Has O "slices.ContainsFunc[newel/api.Term,newel/api.Literal]" x_slices_ContainsFunc_api_Term_api_Literal_) (d3w : d0z O) : c1o O := by
 intro s f_n f_a f_b f f_z f_h r hm0;unfold b7t at hm0;refine b1i hf rfl (b0a (b0c fun a _ => c2w a) (b0a f_z b0j)) (b0e _) ?_;refine b1c (fun t h => t 0 = .fs 4 (List.map b3k s) /\ t 1 = .fn f_n f_a f_b) ⟨rfl, rfl⟩ fun t h ⟨s0, s1⟩ => ?_;simp only [x_slices_ContainsFunc_api_Term_api_Literal_];apply b0b;intro K hK;simp only [go_sem];apply hK;obtain ⟨y2, h_y2, hm0⟩ := b0g hm0;apply b0b;intro K hK;simp only [go_sem, s0, s1];refine b01 (d3w s f_n f_a f_b f f_z f_h _ h_y2) ?_;simp only [go_sem];apply hK;simp only [b0x, b0y];obtain rfl := sI9 hm0;exact b04 vb9 (b0e _)
theorem d3v (hf : Has O "slices.IndexFunc[newel/api.Cond,newel/api.Term]" x_slices_IndexFunc_api_Cond_api_Term_) : d0y O := by
 intro s f_n f_a f_b f f_z f_h r hm0;unfold d5c at hm0;refine b1i hf rfl (b0a (b0c fun a _ => b2j a) (b0a f_z b0j)) (b0e _) ?_;refine b1c (fun t h => t 0 = .fs 1 (List.map b0t s) /\ t 1 = .fn f_n f_a f_b) ⟨rfl, rfl⟩ fun t h ⟨s0, s1⟩ => ?_;simp only [x_slices_IndexFunc_api_Cond_api_Term_];apply b0b;intro K hK;simp only [go_sem];apply hK;refine b0v ?_;apply b0b;intro K hK;simp only [go_sem, s0];apply hK;refine b0i fun K1 hK1 => ?_
 have J2 : ∀ (t : Slots) (h : Heap), d5d = some r -> K1 t h := by
  intro t h hm0;refine hK1 _ _ ?_;unfold d5d at hm0;apply b0b;intro K hK;simp only [go_sem];apply hK;simp only [b0x, b0y];obtain rfl := sI9 hm0;exact b04 vb9 (b0e _)
 simp only [b0u];obtain ⟨b3, hl3, hm0⟩ := b0g hm0;refine b1j hl3 (fun | x_8, t, h => t 0 = .fs 1 (List.map b0t s) /\ t 1 = .fn f_n f_a f_b /\ t 7 = I (List.length s : Int) /\ t 8 = I x_8) ?_ ?_
 ·exact ⟨s0, s1, va9, va9⟩
 ·rintro x_8 o t h ⟨s0, s1, s7, s8⟩ hm1 hb3;simp only [g3d] at hm1;rw [g5e];apply b0b;intro K hK;simp only [go_sem, s7, s8];apply hK;refine b0i fun K4 hK4 => ?_;simp only [go_sem];refine b0k (fun hc5 => ?_) (fun hc5 => ?_)
  ·rw [b0r hc5] at hm1;simp only [b0s, b0f];refine hK4 _ _ ?_;refine b0i fun K6 hK6 => ?_;simp only [b0u];apply b0b;intro K hK;simp only [go_sem, s8];apply hK;obtain ⟨x9, h_x9, hm1⟩ := b0g hm1;have h_x90 := b05 h_x9;have h_x91 := b06 h_x9;obtain ⟨y10, h_y10, hm1⟩ := b0g hm1;apply b0b;intro K hK;simp only [go_sem, s0, s1, b08 h_x9, h_x91];refine o5t (f_h x9 _ h_y10) ?_;simp only [go_sem];apply hK;simp only [go_sem];refine b0k (fun hc11 => ?_) (fun hc11 => ?_)
   ·rw [b0r hc11] at hm1;apply b0b;intro K hK;simp only [go_sem];apply hK;simp only [b0x, b1p, b2e, b0y];obtain rfl := sI9 hm1;obtain rfl := hb3 _ rfl
    try dsimp only at hm0
    obtain rfl := sI9 hm0;exact b04 vb9 (b0e _)
   ·rw [b0q hc11] at hm1;simp only [b0s, b02, b0f];refine hK6 _ _ ?_;apply b03;intro K hK;simp only [go_sem, s8];apply hK;simp only [b0f];obtain rfl := sI9 hm1;refine ⟨_, rfl, ?_⟩;exact ⟨s0, s1, s7, va9⟩
  ·rw [b0q hc5] at hm1;simp only [b09, b1b, b1a, b0f];obtain rfl := sI9 hm1;obtain rfl := hb3 _ rfl
   try dsimp only at hm0
   exact J2  _ _  hm0
theorem d3w (hf : Has O "slices.IndexFunc[newel/api.Term,newel/api.Literal]" x_slices_IndexFunc_api_Term_api_Literal_) : d0z O := by
 intro s f_n f_a f_b f f_z f_h r hm0;unfold d5e at hm0;refine b1i hf rfl (b0a (b0c fun a _ => c2w a) (b0a f_z b0j)) (b0e _) ?_;refine b1c (fun t h => t 0 = .fs 4 (List.map b3k s) /\ t 1 = .fn f_n f_a f_b) ⟨rfl, rfl⟩ fun t h ⟨s0, s1⟩ => ?_;simp only [x_slices_IndexFunc_api_Term_api_Literal_];apply b0b;intro K hK;simp only [go_sem];apply hK;refine b0v ?_;apply b0b;intro K hK;simp only [go_sem, s0];apply hK;refine b0i fun K1 hK1 => ?_
 have J2 : ∀ (t : Slots) (h : Heap), d5f = some r -> K1 t h := by
  intro t h hm0;refine hK1 _ _ ?_;unfold d5f at hm0;apply b0b;intro K hK;simp only [go_sem];apply hK;simp only [b0x, b0y];obtain rfl := sI9 hm0;exact b04 vb9 (b0e _)
 simp only [b0u];obtain ⟨b3, hl3, hm0⟩ := b0g hm0;refine b1j hl3 (fun | x_8, t, h => t 0 = .fs 4 (List.map b3k s) /\ t 1 = .fn f_n f_a f_b /\ t 7 = I (List.length s : Int) /\ t 8 = I x_8) ?_ ?_
 ·exact ⟨s0, s1, va9, va9⟩
 ·rintro x_8 o t h ⟨s0, s1, s7, s8⟩ hm1 hb3;simp only [g3e] at hm1;rw [g5f];apply b0b;intro K hK;simp only [go_sem, s7, s8];apply hK;refine b0i fun K4 hK4 => ?_;simp only [go_sem];refine b0k (fun hc5 => ?_) (fun hc5 => ?_)
  ·rw [b0r hc5] at hm1;simp only [b0s, b0f];refine hK4 _ _ ?_;refine b0i fun K6 hK6 => ?_;simp only [b0u];apply b0b;intro K hK;simp only [go_sem, s8];apply hK;obtain ⟨x9, h_x9, hm1⟩ := b0g hm1;have h_x90 := b05 h_x9;have h_x91 := b06 h_x9;obtain ⟨y10, h_y10, hm1⟩ := b0g hm1;apply b0b;intro K hK;simp only [go_sem, s0, s1, b08 h_x9, h_x91];refine o5t (f_h x9 _ h_y10) ?_;simp only [go_sem];apply hK;simp only [go_sem];refine b0k (fun hc11 => ?_) (fun hc11 => ?_)
   ·rw [b0r hc11] at hm1;apply b0b;intro K hK;simp only [go_sem];apply hK;simp only [b0x, b1p, b2e, b0y];obtain rfl := sI9 hm1;obtain rfl := hb3 _ rfl
    try dsimp only at hm0
    obtain rfl := sI9 hm0;exact b04 vb9 (b0e _)
   ·rw [b0q hc11] at hm1;simp only [b0s, b02, b0f];refine hK6 _ _ ?_;apply b03;intro K hK;simp only [go_sem, s8];apply hK;simp only [b0f];obtain rfl := sI9 hm1;refine ⟨_, rfl, ?_⟩;exact ⟨s0, s1, s7, va9⟩
  ·rw [b0q hc5] at hm1;simp only [b09, b1b, b1a, b0f];obtain rfl := sI9 hm1;obtain rfl := hb3 _ rfl
   try dsimp only at hm0
   exact J2  _ _  hm0
end Go.Nw.AM
