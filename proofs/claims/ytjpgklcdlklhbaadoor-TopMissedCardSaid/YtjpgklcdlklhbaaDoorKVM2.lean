/- That the texts make what their models say: printed by a program. -/
import Derived.Test.YtjpgklcdlklhbaaDoorVM
set_option linter.all false
namespace Go.Nw.VM
open Go.Nw.Tp4
set_option maxHeartbeats 4000000
variable {O : Orac} [MapsOk O]
theorem C0l (hf : Has O "newel/ways.place" x_ways_place) (c15 : B8j O) : B97 O := by
 intro s l r hm0;unfold B9o at hm0;refine b1i hf rfl (b0a (.agg _ (b0a (b0e _) (b0a (b0c fun a _ => c82 a) (b0a (b0c fun a _ => b1t a) b0j)))) (b0a (b0c fun a _ => b1t a) b0j)) (b0e _) ?_;refine b1c (fun t h => t 0 = .agg [I s.Places, .fs 7 (List.map z9o s.Passages), .fs 1 (List.map eI s.Exits)] /\ t 1 = .fs 1 (List.map eI l)) ⟨rfl, rfl⟩ fun t h ⟨s0, s1⟩ => ?_;simp only [x_ways_place];apply b0b;intro K hK;simp only [go_sem, s0];apply hK;refine b0v ?_;apply b0b;intro K hK;simp only [go_sem, s1];apply hK;refine b0i fun K1 hK1 => ?_
 have J2 : ∀ (t : Slots) (h : Heap), C0w = some r -> K1 t h := by
  intro t h hm0;refine hK1 _ _ ?_;unfold C0w at hm0;apply b0b;intro K hK;simp only [go_sem];apply hK;simp only [b0x, b1p, b2e, b0y];obtain rfl := sI9 hm0;exact b04 vb9 (b0e _)
 simp only [b0u];obtain ⟨b3, hl3, hm0⟩ := b0g hm0;refine b1j hl3 (fun | x_9, t, h => t 2 = .fp [I s.Places, .fs 7 (List.map z9o s.Passages), .fs 1 (List.map eI s.Exits)] 0 /\ t 7 = .fs 1 (List.map eI l) /\ t 8 = I (List.length l : Int) /\ t 9 = I x_9) ?_ ?_
 ·exact ⟨va9, va9, va9, va9⟩
 ·rintro x_9 o t h ⟨s2, s7, s8, s9⟩ hm1 hb3;simp only [B9p] at hm1;rw [C1i];apply b0b;intro K hK;simp only [go_sem, s8, s9];apply hK;refine b0i fun K4 hK4 => ?_;simp only [go_sem];refine b0k (fun hc5 => ?_) (fun hc5 => ?_)
  ·rw [b0r hc5] at hm1;simp only [b0s, b02, b0f];refine hK4 _ _ ?_;refine b0i fun K6 hK6 => ?_;simp only [b0u];obtain ⟨x8, h_x8, hm1⟩ := b0g hm1;have h_x80 := b05 h_x8;have h_x81 := b06 h_x8;apply b0b;intro K hK;simp only [go_sem, s7, s9, b08 h_x8, b3n h_x8, h_x80, h_x81];apply hK;apply b0b;intro K hK;simp only [go_sem, s2];refine b01 (c15 x8 0 (wr (s.Places - 1))) ?_;simp only [go_sem, s2];apply hK;simp only [go_sem];refine b0k (fun hc9 => ?_) (fun hc9 => ?_)
   ·rw [b0r hc9] at hm1;apply b0b;intro K hK;simp only [go_sem];apply hK;simp only [b0x, b1p, b2e, b0y];obtain rfl := sI9 hm1;obtain rfl := hb3 _ rfl
    try dsimp only at hm0
    obtain rfl := sI9 hm0;exact b04 vb9 (b0e _)
   ·rw [b0q hc9] at hm1;simp only [b0s, b02, b0f];refine hK6 _ _ ?_;apply b03;intro K hK;simp only [go_sem, s9];apply hK;simp only [b02, b0f];obtain rfl := sI9 hm1;refine ⟨_, rfl, ?_⟩;exact ⟨s2, s7, s8, (by first | (simp only [go_sem, s9, lA9, mA9]; done) | rfl)⟩
  ·rw [b0q hc5] at hm1;simp only [b09, b1b, b1a, c0s, b02, b0f, Nat.reduceEqDiff, nF9];obtain rfl := sI9 hm1;obtain rfl := hb3 _ rfl
   try dsimp only at hm0
   exact J2  _ _  hm0
end Go.Nw.VM
