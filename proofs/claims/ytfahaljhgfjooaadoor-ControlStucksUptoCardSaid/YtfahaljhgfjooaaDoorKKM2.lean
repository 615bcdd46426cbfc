/- That the texts make what their models say: printed by a program. -/
import Derived.Test.YtfahaljhgfjooaaDoorKM
set_option linter.all false
namespace Go.Nw.KM
open Go.Nw.Ctl
set_option maxHeartbeats 4000000
variable {O : Orac} [MapsOk O]
theorem d1z (hf : Has O "newel/newelref04.Word" x_r04_Word) : c8z O := by
 intro s r hm0
 unfold c0d at hm0
 refine b1h hf rfl (b0a (b0e _) b0l) (b0e _) ?_
 refine b1f (fun t h => t 0 = .v (.string s)) rfl fun t h s0 => ?_
 simp only [x_r04_Word]
 refine b0b fun K hK => ?_
 simp only [go_sem]
 refine hK _ _ ?_
 clear hK K
 refine b0v ?_
 refine b0b fun K hK => ?_
 simp only [go_sem]
 refine hK _ _ ?_
 clear hK K
 refine b0i fun K1 hK1 => ?_
 have J2 : ∀ (t : Slots) (h : Heap), t 0 = .v (.string s) -> c6y s = some r -> K1 t h := by
  intro t h s0 hm0
  refine hK1 _ _ ?_
  unfold c6y at hm0
  refine b0v ?_
  refine b0b fun K hK => ?_
  simp only [go_sem]
  refine hK _ _ ?_
  clear hK K
  refine b0i fun K3 hK3 => ?_
  have J4 : ∀ (t : Slots) (h : Heap), t 0 = .v (.string s) -> d3e s = some r -> K3 t h := by
   intro t h s0 hm0
   refine hK3 _ _ ?_
   unfold d3e at hm0
   refine b0b fun K hK => ?_
   simp only [go_sem, s0]
   refine hK _ _ ?_
   clear hK K
   simp only [b0x, b0y]
   obtain rfl := sI9 hm0
   exact b04 (by simp only [go_sem]) (b0e _)
  simp only [b0u]
  obtain ⟨b5, hl5, hm0⟩ := b0g hm0
  refine b1l hl5 (fun | i_4, t, h => t 0 = .v (.string s) /\ t 4 = I i_4) ?_ ?_
  ·exact ⟨s0, (by first | (simp only [go_sem]; done) | rfl)⟩
  ·rintro i_4 o t h ⟨s0, s4⟩ hm1 hb5
   simp only [c25] at hm1
   rw [g2n]
   refine b0v ?_
   refine b0b fun K hK => ?_
   simp only [go_sem, s0, s4]
   refine hK _ _ ?_
   clear hK K
   refine b0i fun K6 hK6 => ?_
   simp only [go_sem]
   refine b0j (fun hc7 => ?_) (fun hc7 => ?_)
   ·rw [b0q hc7] at hm1
    simp only [b0r, b0f]
    refine hK6 _ _ ?_
    refine b0i fun K8 hK8 => ?_
    simp only [b0u]
    obtain ⟨x10, h_x10, hm1⟩ := b0g hm1
    refine b2z (fun t h => t 0 = .v (.string s) /\ t 4 = I i_4 /\ t 32 = B ((decide (x10 < 97)) || (decide (122 < x10)))) (fun K hK => ?_) ?_
    ·simp only [go_sem, s0, s4, d75 h_x10]
     refine b0j (fun hg11 => ?_) (fun hg11 => ?_)
     ·simp only [go_sem, hg11]
      exact hK _ _ ⟨s0, s4, (by first | (simp only [go_sem, hg11]; done) | rfl)⟩
     ·simp only [go_sem, s0, s4, d75 h_x10, hg11]
      exact hK _ _ ⟨s0, s4, (by first | (simp only [go_sem, hg11]; done) | rfl)⟩
    ·rintro t h ⟨s0, s4, s32⟩
     simp only [go_sem, s32]
     refine b0j (fun hc12 => ?_) (fun hc12 => ?_)
     ·rw [b0q hc12] at hm1
      refine b0b fun K hK => ?_
      simp only [go_sem]
      refine hK _ _ ?_
      clear hK K
      simp only [b0x, b1n, b2b, b0y]
      obtain rfl := sI9 hm1
      obtain rfl := hb5 _ rfl
      try dsimp only at hm0
      obtain rfl := sI9 hm0
      exact b04 (by simp only [go_sem]) (b0e _)
     ·rw [b0p hc12] at hm1
      simp only [b0r, b01, b0f]
      refine hK8 _ _ ?_
      refine b02 fun K hK => ?_
      simp only [go_sem, s4]
      refine hK _ _ ?_
      clear hK K
      simp only [b0f]
      obtain rfl := sI9 hm1
      refine ⟨_, rfl, ?_⟩
      exact ⟨s0, (by first | (simp only [go_sem]; done) | rfl)⟩
   ·rw [b0p hc7] at hm1
    simp only [b1b, b1e, b1d, b0f]
    obtain rfl := sI9 hm1
    obtain rfl := hb5 _ rfl
    try dsimp only at hm0
    exact J4  _ _ s0 hm0
 simp only [b0u]
 obtain ⟨b14, hl14, hm0⟩ := b0g hm0
 refine b1l hl14 (fun | i_3, t, h => t 0 = .v (.string s) /\ t 3 = I i_3) ?_ ?_
 ·exact ⟨s0, (by first | (simp only [go_sem]; done) | rfl)⟩
 ·rintro i_3 o t h ⟨s0, s3⟩ hm1 hb14
  simp only [c26] at hm1
  rw [g2o]
  refine b0v ?_
  refine b0b fun K hK => ?_
  simp only [go_sem, s3]
  refine hK _ _ ?_
  clear hK K
  refine b0i fun K15 hK15 => ?_
  simp only [go_sem]
  refine b0j (fun hc16 => ?_) (fun hc16 => ?_)
  ·rw [b0q hc16] at hm1
   simp only [b0r, b0f]
   refine hK15 _ _ ?_
   refine b0i fun K17 hK17 => ?_
   simp only [b0u]
   obtain ⟨x19, h_x19, hm1⟩ := b0g hm1
   have h_x190 := b06 h_x19
   have h_x191 := b07 h_x19
   refine b0b fun K hK => ?_
   simp only [go_sem, s0, s3, b1a h_x19, h_x191]
   refine hK _ _ ?_
   clear hK K
   simp only [go_sem]
   refine b0j (fun hc20 => ?_) (fun hc20 => ?_)
   ·rw [b0q hc20] at hm1
    refine b0b fun K hK => ?_
    simp only [go_sem]
    refine hK _ _ ?_
    clear hK K
    simp only [b0x, b1n, b2b, b0y]
    obtain rfl := sI9 hm1
    obtain rfl := hb14 _ rfl
    try dsimp only at hm0
    obtain rfl := sI9 hm0
    exact b04 (by simp only [go_sem]) (b0e _)
   ·rw [b0p hc20] at hm1
    simp only [b0r, b01, b0f]
    refine hK17 _ _ ?_
    refine b02 fun K hK => ?_
    simp only [go_sem, s3]
    refine hK _ _ ?_
    clear hK K
    simp only [b0f]
    obtain rfl := sI9 hm1
    refine ⟨_, rfl, ?_⟩
    exact ⟨s0, (by first | (simp only [go_sem]; done) | rfl)⟩
  ·rw [b0p hc16] at hm1
   simp only [b1b, b1e, b1d, b0f]
   obtain rfl := sI9 hm1
   obtain rfl := hb14 _ rfl
   try dsimp only at hm0
   exact J2  _ _ s0 hm0
theorem c2c (hf : Has O "newel/newelref04.condition" x_r04_condition) (b4f : c35 O) : c34 O := by
 intro m c inside r hm0
 unfold c0e at hm0
 refine b1h hf rfl (b0a (.agg _ (b0a (b0c fun a _ => b00 a) (b0a (b0c fun a _ => b00 a) (b0a (b0c fun a _ => b1r a) (b0a (b0c fun a _ => b1t a) (b0a (b0c fun a _ => b1s a) b0l)))))) (b0a (b0c fun a _ => b2l a) (b0a (b0e _) b0l))) (b0e _) ?_
 refine b1f (fun t h => t 0 = .agg [.fs 1 (List.map eS m.Inputs), .fs 1 (List.map eS m.Outputs), .fs 2 (List.map b0m m.Counters), .fs 2 (List.map b0n m.States), .fs 4 (List.map b0k m.Rules)] /\ t 1 = .fs 1 (List.map b0t c) /\ t 2 = B inside) ⟨rfl, rfl, rfl⟩ fun t h ⟨s0, s1, s2⟩ => ?_
 simp only [x_r04_condition]
 refine b0b fun K hK => ?_
 simp only [go_sem, s0]
 refine hK _ _ ?_
 clear hK K
 refine b0v ?_
 refine b0b fun K hK => ?_
 simp only [go_sem, s1]
 refine hK _ _ ?_
 clear hK K
 refine b0i fun K1 hK1 => ?_
 simp only [go_sem]
 refine b0j (fun hc2 => ?_) (fun hc2 => ?_)
 ·rw [b0q hc2] at hm0
  refine b0b fun K hK => ?_
  simp only [go_sem]
  refine hK _ _ ?_
  clear hK K
  simp only [b0x, b1n, b0y]
  obtain rfl := sI9 hm0
  exact b04 (by simp only [go_sem]) (b0e _)
 ·rw [b0p hc2] at hm0
  simp only [b0r, b0f]
  refine hK1 _ _ ?_
  refine b0v ?_
  refine b0b fun K hK => ?_
  simp only [go_sem]
  refine hK _ _ ?_
  clear hK K
  refine b0i fun K3 hK3 => ?_
  have J4 : ∀ (t : Slots) (h : Heap), d3f = some r -> K3 t h := by
   intro t h hm0
   refine hK3 _ _ ?_
   unfold d3f at hm0
   refine b0b fun K hK => ?_
   simp only [go_sem]
   refine hK _ _ ?_
   clear hK K
   simp only [b0x, b0y]
   obtain rfl := sI9 hm0
   exact b04 (by simp only [go_sem]) (b0e _)
  simp only [b0u]
  obtain ⟨b5, hl5, hm0⟩ := b0g hm0
  refine b1l hl5 (fun | i_7, t, h => t 1 = .fs 1 (List.map b0t c) /\ t 2 = B inside /\ t 3 = .fp [.fs 1 (List.map eS m.Inputs), .fs 1 (List.map eS m.Outputs), .fs 2 (List.map b0m m.Counters), .fs 2 (List.map b0n m.States), .fs 4 (List.map b0k m.Rules)] 0 /\ t 7 = I i_7) ?_ ?_
  ·exact ⟨s1, s2, (by first | (simp only [go_sem]; done) | rfl), (by first | (simp only [go_sem]; done) | rfl)⟩
  ·rintro i_7 o t h ⟨s1, s2, s3, s7⟩ hm1 hb5
   simp only [c0f] at hm1
   rw [g2q]
   refine b0v ?_
   refine b0b fun K hK => ?_
   simp only [go_sem, s1, s7]
   refine hK _ _ ?_
   clear hK K
   refine b0i fun K6 hK6 => ?_
   simp only [go_sem]
   refine b0j (fun hc7 => ?_) (fun hc7 => ?_)
   ·rw [b0q hc7] at hm1
    simp only [b0r, b0f]
    refine hK6 _ _ ?_
    refine b0i fun K8 hK8 => ?_
    have J9 : ∀ (t : Slots) (h : Heap), t 1 = .fs 1 (List.map b0t c) -> t 2 = B inside -> t 3 = .fp [.fs 1 (List.map eS m.Inputs), .fs 1 (List.map eS m.Outputs), .fs 2 (List.map b0m m.Counters), .fs 2 (List.map b0n m.States), .fs 4 (List.map b0k m.Rules)] 0 -> t 7 = I i_7 -> c6z i_7 = some o -> K8 t h := by
     intro t h s1 s2 s3 s7 hm1
     refine hK8 _ _ ?_
     unfold c6z at hm1
     refine b02 fun K hK => ?_
     simp only [go_sem, s7]
     refine hK _ _ ?_
     clear hK K
     simp only [b0f]
     obtain rfl := sI9 hm1
     refine ⟨_, rfl, ?_⟩
     exact ⟨s1, s2, s3, (by first | (simp only [go_sem]; done) | rfl)⟩
    simp only [b0u]
    refine b0v ?_
    obtain ⟨x11, h_x11, hm1⟩ := b0g hm1
    have h_x110 := b06 h_x11
    have h_x111 := b07 h_x11
    refine b0b fun K hK => ?_
    simp only [go_sem, s1, s7, b1a h_x11, h_x111]
    refine hK _ _ ?_
    clear hK K
    refine b0i fun K12 hK12 => ?_
    simp only [go_sem]
    refine b0j (fun hc13 => ?_) (fun hc13 => ?_)
    ·rw [b0q hc13] at hm1
     refine b0b fun K hK => ?_
     simp only [go_sem]
     refine hK _ _ ?_
     clear hK K
     simp only [b0x, b1n, b2b, b0y]
     obtain rfl := sI9 hm1
     obtain rfl := hb5 _ rfl
     try dsimp only at hm0
     obtain rfl := sI9 hm0
     exact b04 (by simp only [go_sem]) (b0e _)
    ·rw [b0p hc13] at hm1
     simp only [b0r, b0f]
     refine hK12 _ _ ?_
     refine b0b fun K hK => ?_
     simp only [go_sem]
     refine hK _ _ ?_
     clear hK K
     simp only [b0u]
     obtain ⟨b14, hl14, hm1⟩ := b0g hm1
     refine b1l hl14 (fun | k_8, t, h => t 1 = .fs 1 (List.map b0t c) /\ t 2 = B inside /\ t 3 = .fp [.fs 1 (List.map eS m.Inputs), .fs 1 (List.map eS m.Outputs), .fs 2 (List.map b0m m.Counters), .fs 2 (List.map b0n m.States), .fs 4 (List.map b0k m.Rules)] 0 /\ t 7 = I i_7 /\ t 8 = I k_8) ?_ ?_
     ·exact ⟨s1, s2, s3, s7, (by first | (simp only [go_sem]; done) | rfl)⟩
     ·rintro k_8 o t h ⟨s1, s2, s3, s7, s8⟩ hm2 hb14
      simp only [b8v] at hm2
      rw [g2p]
      refine b0v ?_
      obtain ⟨x16, h_x16, hm2⟩ := b0g hm2
      have h_x160 := b06 h_x16
      have h_x161 := b07 h_x16
      refine b0b fun K hK => ?_
      simp only [go_sem, s1, s7, s8, b1a h_x16]
      refine hK _ _ ?_
      clear hK K
      refine b0i fun K17 hK17 => ?_
      simp only [go_sem]
      refine b0j (fun hc18 => ?_) (fun hc18 => ?_)
      ·rw [b0q hc18] at hm2
       simp only [b0r, b0f]
       refine hK17 _ _ ?_
       refine b0i fun K19 hK19 => ?_
       simp only [b0u]
       obtain ⟨x21, h_x21, hm2⟩ := b0g hm2
       have h_x210 := b06 h_x21
       have h_x211 := b07 h_x21
       refine b0b fun K hK => ?_
       simp only [go_sem, s1, s7, s8, b1a h_x21, h_x211, b1a h_x16]
       refine hK _ _ ?_
       clear hK K
       refine b0b fun K hK => ?_
       simp only [go_sem]
       refine hK _ _ ?_
       clear hK K
       refine b0v ?_
       refine b0b fun K hK => ?_
       simp only [go_sem]
       refine hK _ _ ?_
       clear hK K
       refine b0i fun K22 hK22 => ?_
       have J23 : ∀ (is_10 : Bool) (t : Slots) (h : Heap), t 1 = .fs 1 (List.map b0t c) -> t 2 = B inside -> t 3 = .fp [.fs 1 (List.map eS m.Inputs), .fs 1 (List.map eS m.Outputs), .fs 2 (List.map b0m m.Counters), .fs 2 (List.map b0n m.States), .fs 4 (List.map b0k m.Rules)] 0 -> t 7 = I i_7 -> t 8 = I k_8 -> t 10 = B is_10 -> b7g k_8 is_10 = some o -> K22 t h := by
        intro is_10 t h s1 s2 s3 s7 s8 s10 hm2
        refine hK22 _ _ ?_
        unfold b7g at hm2
        refine b0b fun K hK => ?_
        simp only [go_sem, s10]
        refine hK _ _ ?_
        clear hK K
        simp only [go_sem]
        refine b0j (fun hc24 => ?_) (fun hc24 => ?_)
        ·rw [b0q hc24] at hm2
         refine b0b fun K hK => ?_
         simp only [go_sem]
         refine hK _ _ ?_
         clear hK K
         simp only [b0x, b1n, b2b, b0y]
         obtain rfl := sI9 hm2
         obtain rfl := hb14 _ rfl
         try dsimp only at hm1
         obtain rfl := sI9 hm1
         obtain rfl := hb5 _ rfl
         try dsimp only at hm0
         obtain rfl := sI9 hm0
         exact b04 (by simp only [go_sem]) (b0e _)
        ·rw [b0p hc24] at hm2
         simp only [b0r, b01, b0f]
         refine hK19 _ _ ?_
         refine b02 fun K hK => ?_
         simp only [go_sem, s8]
         refine hK _ _ ?_
         clear hK K
         simp only [b0f]
         obtain rfl := sI9 hm2
         refine ⟨_, rfl, ?_⟩
         exact ⟨s1, s2, s3, s7, (by first | (simp only [go_sem]; done) | rfl)⟩
       simp only [b0u]
       refine b0b fun K hK => ?_
       simp only [go_sem]
       refine hK _ _ ?_
       clear hK K
       simp only [go_sem]
       refine b0j (fun hc25 => ?_) (fun hc25 => ?_)
       ·rw [b0q hc25] at hm2
        refine b9j (fun t h => t 1 = .fs 1 (List.map b0t c) /\ t 2 = B inside /\ t 3 = .fp [.fs 1 (List.map eS m.Inputs), .fs 1 (List.map eS m.Outputs), .fs 2 (List.map b0m m.Counters), .fs 2 (List.map b0n m.States), .fs 4 (List.map b0k m.Rules)] 0 /\ t 7 = I i_7 /\ t 8 = I k_8 /\ t 10 = B ((b15 x21.Number 0 (wr ((List.length m.Inputs : Int) - 1))) && (decide (x21.Value = 0)))) (fun K hK => ?_) ?_
        ·simp only [go_sem, s3]
         refine b03 (b4f x21.Number 0 (wr ((List.length m.Inputs : Int) - 1))) ?_
         simp only [go_sem]
         refine b0j (fun hg26 => ?_) (fun hg26 => ?_)
         ·simp only [go_sem, hg26]
          exact hK _ _ ⟨s1, s2, s3, s7, s8, (by first | (simp only [go_sem, hg26]; done) | rfl)⟩
         ·simp only [go_sem, hg26]
          exact hK _ _ ⟨s1, s2, s3, s7, s8, (by first | (simp only [go_sem, hg26]; done) | rfl)⟩
        ·rintro t h ⟨s1, s2, s3, s7, s8, s10⟩
         simp only [b01, b0f]
         exact J23 ((b15 x21.Number 0 (wr ((List.length m.Inputs : Int) - 1))) && (decide (x21.Value = 0))) _ _ s1 s2 s3 s7 s8 s10 hm2
       ·rw [b0p hc25] at hm2
        refine b0b fun K hK => ?_
        simp only [go_sem]
        refine hK _ _ ?_
        clear hK K
        simp only [go_sem]
        refine b0j (fun hc27 => ?_) (fun hc27 => ?_)
        ·rw [b0q hc27] at hm2
         obtain ⟨c31, h_c31, hm2⟩ := b0g hm2
         refine b9j (fun t h => t 1 = .fs 1 (List.map b0t c) /\ t 2 = B inside /\ t 3 = .fp [.fs 1 (List.map eS m.Inputs), .fs 1 (List.map eS m.Outputs), .fs 2 (List.map b0m m.Counters), .fs 2 (List.map b0n m.States), .fs 4 (List.map b0k m.Rules)] 0 /\ t 7 = I i_7 /\ t 8 = I k_8 /\ t 10 = B c31) (fun K hK => ?_) ?_
         ·simp only [go_sem, s3]
          refine b03 (b4f x21.Number 0 (wr ((List.length m.Counters : Int) - 1))) ?_
          simp only [go_sem]
          refine b0j (fun hg32 => ?_) (fun hg32 => ?_)
          ·simp only [hg32, eq_self, if_true] at h_c31
           obtain ⟨x30, h_x30, h_c31⟩ := b0g h_c31
           have h_x300 := b06 h_x30
           have h_x301 := b07 h_x30
           obtain rfl := sI9 h_c31
           simp only [go_sem, s3, b1a h_x30, hg32]
           refine b03 (b4f x21.Value 0 x30.Max) ?_
           simp only [go_sem, hg32]
           exact hK _ _ ⟨s1, s2, s3, s7, s8, (by first | (simp only [go_sem]; done) | rfl)⟩
          ·simp only [hg32, if_false, Bool.false_eq_true] at h_c31
           obtain rfl := sI9 h_c31
           simp only [go_sem, hg32]
           exact hK _ _ ⟨s1, s2, s3, s7, s8, (by first | (simp only [go_sem]; done) | rfl)⟩
         ·rintro t h ⟨s1, s2, s3, s7, s8, s10⟩
          simp only [b01, b0f]
          exact J23 c31 _ _ s1 s2 s3 s7 s8 s10 hm2
        ·rw [b0p hc27] at hm2
         refine b0b fun K hK => ?_
         simp only [go_sem]
         refine hK _ _ ?_
         clear hK K
         simp only [go_sem]
         refine b0j (fun hc33 => ?_) (fun hc33 => ?_)
         ·rw [b0q hc33] at hm2
          refine b9j (fun t h => t 1 = .fs 1 (List.map b0t c) /\ t 2 = B inside /\ t 3 = .fp [.fs 1 (List.map eS m.Inputs), .fs 1 (List.map eS m.Outputs), .fs 2 (List.map b0m m.Counters), .fs 2 (List.map b0n m.States), .fs 4 (List.map b0k m.Rules)] 0 /\ t 7 = I i_7 /\ t 8 = I k_8 /\ t 10 = B ((inside && (b15 x21.Number 0 (wr ((List.length m.States : Int) - 1)))) && (decide (x21.Value = 0)))) (fun K hK => ?_) ?_
          ·simp only [go_sem, s2]
           refine b0j (fun hg34 => ?_) (fun hg34 => ?_)
           ·simp only [go_sem, s3, hg34]
            refine b03 (b4f x21.Number 0 (wr ((List.length m.States : Int) - 1))) ?_
            simp only [go_sem, hg34]
            refine b0j (fun hg35 => ?_) (fun hg35 => ?_)
            ·simp only [go_sem, hg34, hg35]
             exact hK _ _ ⟨s1, s2, s3, s7, s8, (by first | (simp only [go_sem, hg34, hg35]; done) | rfl)⟩
            ·simp only [go_sem, hg34, hg35]
             exact hK _ _ ⟨s1, s2, s3, s7, s8, (by first | (simp only [go_sem, hg34, hg35]; done) | rfl)⟩
           ·simp only [go_sem, hg34]
            exact hK _ _ ⟨s1, s2, s3, s7, s8, (by first | (simp only [go_sem, hg34]; done) | rfl)⟩
          ·rintro t h ⟨s1, s2, s3, s7, s8, s10⟩
           simp only [b01, b0f]
           exact J23 ((inside && (b15 x21.Number 0 (wr ((List.length m.States : Int) - 1)))) && (decide (x21.Value = 0))) _ _ s1 s2 s3 s7 s8 s10 hm2
         ·rw [b0p hc33] at hm2
          refine b0b fun K hK => ?_
          simp only [go_sem]
          refine hK _ _ ?_
          clear hK K
          simp only [go_sem]
          refine b0j (fun hc36 => ?_) (fun hc36 => ?_)
          ·rw [b0q hc36] at hm2
           refine b9j (fun t h => t 1 = .fs 1 (List.map b0t c) /\ t 2 = B inside /\ t 3 = .fp [.fs 1 (List.map eS m.Inputs), .fs 1 (List.map eS m.Outputs), .fs 2 (List.map b0m m.Counters), .fs 2 (List.map b0n m.States), .fs 4 (List.map b0k m.Rules)] 0 /\ t 7 = I i_7 /\ t 8 = I k_8 /\ t 10 = B ((b15 x21.Number 0 (wr ((List.length m.Outputs : Int) - 1))) && (decide (x21.Value = 0)))) (fun K hK => ?_) ?_
           ·simp only [go_sem, s3]
            refine b03 (b4f x21.Number 0 (wr ((List.length m.Outputs : Int) - 1))) ?_
            simp only [go_sem]
            refine b0j (fun hg37 => ?_) (fun hg37 => ?_)
            ·simp only [go_sem, hg37]
             exact hK _ _ ⟨s1, s2, s3, s7, s8, (by first | (simp only [go_sem, hg37]; done) | rfl)⟩
            ·simp only [go_sem, hg37]
             exact hK _ _ ⟨s1, s2, s3, s7, s8, (by first | (simp only [go_sem, hg37]; done) | rfl)⟩
           ·rintro t h ⟨s1, s2, s3, s7, s8, s10⟩
            simp only [b01, b0f]
            exact J23 ((b15 x21.Number 0 (wr ((List.length m.Outputs : Int) - 1))) && (decide (x21.Value = 0))) _ _ s1 s2 s3 s7 s8 s10 hm2
          ·rw [b0p hc36] at hm2
           simp only [b0r, b01, b0f]
           exact J23 false _ _ s1 s2 s3 s7 s8 (by first | (simp only [go_sem]; done) | rfl) hm2
      ·rw [b0p hc18] at hm2
       simp only [b1b, b1e, b1d, b01, b0f]
       obtain rfl := sI9 hm2
       obtain rfl := hb14 _ rfl
       try dsimp only at hm1
       exact J9  _ _ s1 s2 s3 s7 hm1
   ·rw [b0p hc7] at hm1
    simp only [b1b, b1e, b1d, b0f]
    obtain rfl := sI9 hm1
    obtain rfl := hb5 _ rfl
    try dsimp only at hm0
    exact J4  _ _  hm0
theorem d11 (hf : Has O "newel/newelref04.explore" x_r04_explore) (d10 : c80 O) (d1t : c8t O) (d1w : c8w O) (d1x : c8x O) (d12 : c82 O) : c81 O := by
 intro m assume input value r hm0
 unfold b7h at hm0
 refine b1h hf rfl (b0a (.agg _ (b0a (b0c fun a _ => b00 a) (b0a (b0c fun a _ => b00 a) (b0a (b0c fun a _ => b1r a) (b0a (b0c fun a _ => b1t a) (b0a (b0c fun a _ => b1s a) b0l)))))) (b0a (b0c fun a _ => b2l a) (b0a (b0e _) (b0a (b0e _) b0l)))) (.agg _ (b0a (b0c fun a _ => b4s a) (b0a (b0c fun a _ => b13 a) (b0a (b0c fun a _ => b13 a) b0l)))) ?_
 refine b1f (fun t h => t 0 = .agg [.fs 1 (List.map eS m.Inputs), .fs 1 (List.map eS m.Outputs), .fs 2 (List.map b0m m.Counters), .fs 2 (List.map b0n m.States), .fs 4 (List.map b0k m.Rules)] /\ t 1 = .fs 1 (List.map b0t assume) /\ t 2 = I input /\ t 3 = I value) ⟨rfl, rfl, rfl, rfl⟩ fun t h ⟨s0, s1, s2, s3⟩ => ?_
 simp only [x_r04_explore]
 refine b0b fun K hK => ?_
 simp only [go_sem, s0]
 refine hK _ _ ?_
 clear hK K
 refine b0b fun K hK => ?_
 simp only [go_sem]
 refine hK _ _ ?_
 clear hK K
 refine b0v ?_
 refine b0b fun K hK => ?_
 simp only [go_sem]
 refine hK _ _ ?_
 clear hK K
 refine b0i fun K1 hK1 => ?_
 have J2 : ∀ (g_9_0 : List Place) (g_9_1 : List Int) (g_9_2 : List Int) (i8 : Nat) (i9 : Nat) (i9_1 : Nat) (i9_2 : Nat) (i9_3 : Nat) (t : Slots) (h : Heap), t 8 = .rp i8 0 0 -> t 9 = .rp i9 0 0 -> h.ob i8 = some (3, [[.v (.slice none 0 0), .v (.slice none 0 0), .v (.slice none 0 0)]]) -> i8 < h.nx -> h.ob i9 = some (3, [[.rs i9_1 0 (List.length g_9_0), .rs i9_2 0 (List.length g_9_1), .rs i9_3 0 (List.length g_9_2)]]) -> i9 < h.nx -> h.ob i9_1 = some (3, List.map b1y g_9_0) -> i9_1 < h.nx -> h.ob i9_2 = some (1, List.map eI g_9_1) -> i9_2 < h.nx -> h.ob i9_3 = some (1, List.map eI g_9_2) -> i9_3 < h.nx -> ¬i8 = i9 -> ¬i8 = i9_1 -> ¬i8 = i9_2 -> ¬i8 = i9_3 -> ¬i9 = i9_1 -> ¬i9 = i9_2 -> ¬i9 = i9_3 -> ¬i9_1 = i9_2 -> ¬i9_1 = i9_3 -> ¬i9_2 = i9_3 -> c60 g_9_0 g_9_1 g_9_2 = some r -> K1 t h := by
  intro g_9_0 g_9_1 g_9_2 i8 i9 i9_1 i9_2 i9_3 t h s8 s9 Q1 Q4 Q5 Q2 Q6 Q8 Qa Q9 Qb Q7 Qc Qd Qe Qf Qi Qg Qh Qj Qk Ql hm0
  refine hK1 _ _ ?_
  unfold c60 at hm0
  refine b0b fun K hK => ?_
  simp only [go_sem, s8, s9, Q1, Q5]
  refine hK _ _ ?_
  clear hK K
  simp only [b0x, b0y]
  obtain rfl := sI9 hm0
  exact b9l (id := i8) (m := 3) (cs := [.rs i9_1 0 (List.length g_9_0), .rs i9_2 0 (List.length g_9_1), .rs i9_3 0 (List.length g_9_2)]) (by simp only [go_sem, s8]) (by simp only [go_sem]) rfl (d57 (.cons (b3e (f := b1y) (l := g_9_0) (id := i9_1) (by simp only [go_sem, Q6, b1z Qd]) (by first | rfl | simp only [go_sem, lA9, mA9]) b4s d2p) (.cons (b3e (f := eI) (l := g_9_1) (id := i9_2) (by simp only [go_sem, Qa, b1z Qe]) (by first | rfl | simp only [go_sem, lA9, mA9]) b13 b8k) (.cons (b3e (f := eI) (l := g_9_2) (id := i9_3) (by simp only [go_sem, Qb, b1z Qf]) (by first | rfl | simp only [go_sem, lA9, mA9]) b13 b8k) (.nil)))))
 simp only [b0u]
 obtain ⟨b3, hl3, hm0⟩ := b0g hm0
 refine b1l hl3 (fun | (g_9_0, g_9_1, g_9_2, i_10), t, h => ∃ i8 : Nat, ∃ i9 : Nat, ∃ i9_1 : Nat, ∃ i9_2 : Nat, ∃ i9_3 : Nat, t 1 = .fs 1 (List.map b0t assume) /\ t 2 = I input /\ t 3 = I value /\ t 4 = .fp [.fs 1 (List.map eS m.Inputs), .fs 1 (List.map eS m.Outputs), .fs 2 (List.map b0m m.Counters), .fs 2 (List.map b0n m.States), .fs 4 (List.map b0k m.Rules)] 0 /\ t 8 = .rp i8 0 0 /\ t 9 = .rp i9 0 0 /\ t 10 = I i_10 /\ h.ob i8 = some (3, [[.v (.slice none 0 0), .v (.slice none 0 0), .v (.slice none 0 0)]]) /\ i8 < h.nx /\ h.ob i9 = some (3, [[.rs i9_1 0 (List.length g_9_0), .rs i9_2 0 (List.length g_9_1), .rs i9_3 0 (List.length g_9_2)]]) /\ i9 < h.nx /\ h.ob i9_1 = some (3, List.map b1y g_9_0) /\ i9_1 < h.nx /\ h.ob i9_2 = some (1, List.map eI g_9_1) /\ i9_2 < h.nx /\ h.ob i9_3 = some (1, List.map eI g_9_2) /\ i9_3 < h.nx /\ ¬i8 = i9 /\ ¬i8 = i9_1 /\ ¬i8 = i9_2 /\ ¬i8 = i9_3 /\ ¬i9 = i9_1 /\ ¬i9 = i9_2 /\ ¬i9 = i9_3 /\ ¬i9_1 = i9_2 /\ ¬i9_1 = i9_3 /\ ¬i9_2 = i9_3) ?_ ?_
 ·exact ⟨h.nx, (nxs (nxs (nxs (nxs h.nx)))), (nxs h.nx), (nxs (nxs h.nx)), (nxs (nxs (nxs h.nx))), s1, s2, s3, (by first | (simp only [go_sem]; done) | rfl), (by first | (simp only [go_sem]; done) | rfl), (by first | (simp only [go_sem]; done) | rfl), (by first | (simp only [go_sem]; done) | rfl), (by simp only [go_sem]), (by simp only [go_sem]), (by simp only [go_sem]), (by simp only [go_sem]), (by simp only [go_sem]), (by simp only [go_sem]), (by simp only [go_sem]), (by simp only [go_sem]), (by simp only [go_sem]), (by simp only [go_sem]), (by first | first | assumption | omega | (simp only [nxs] <;> omega)), (by first | first | assumption | omega | (simp only [nxs] <;> omega)), (by first | first | assumption | omega | (simp only [nxs] <;> omega)), (by first | first | assumption | omega | (simp only [nxs] <;> omega)), (by first | first | assumption | omega | (simp only [nxs] <;> omega)), (by first | first | assumption | omega | (simp only [nxs] <;> omega)), (by first | first | assumption | omega | (simp only [nxs] <;> omega)), (by first | first | assumption | omega | (simp only [nxs] <;> omega)), (by first | first | assumption | omega | (simp only [nxs] <;> omega)), (by first | first | assumption | omega | (simp only [nxs] <;> omega))⟩
 ·rintro ⟨g_9_0, g_9_1, g_9_2, i_10⟩ o t h ⟨i8, i9, i9_1, i9_2, i9_3, s1, s2, s3, s4, s8, s9, s10, Q1, Q4, Q5, Q2, Q6, Q8, Qa, Q9, Qb, Q7, Qc, Qd, Qe, Qf, Qi, Qg, Qh, Qj, Qk, Ql⟩ hm1 hb3
  simp only [c0g] at hm1
  rw [g2s]
  refine b0v ?_
  refine b0b fun K hK => ?_
  simp only [go_sem, s9, s10, Q5]
  refine hK _ _ ?_
  clear hK K
  refine b0i fun K4 hK4 => ?_
  simp only [go_sem]
  refine b0j (fun hc5 => ?_) (fun hc5 => ?_)
  ·rw [b0q hc5] at hm1
   simp only [b0r, b0f]
   refine hK4 _ _ ?_
   refine b0i fun K6 hK6 => ?_
   have J7 : ∀ (g_9_0_1 : List Place) (g_9_1_1 : List Int) (g_9_2_1 : List Int) (i9_4 : Nat) (i9_5 : Nat) (i9_6 : Nat) (t : Slots) (h : Heap), t 1 = .fs 1 (List.map b0t assume) -> t 2 = I input -> t 3 = I value -> t 4 = .fp [.fs 1 (List.map eS m.Inputs), .fs 1 (List.map eS m.Outputs), .fs 2 (List.map b0m m.Counters), .fs 2 (List.map b0n m.States), .fs 4 (List.map b0k m.Rules)] 0 -> t 8 = .rp i8 0 0 -> t 9 = .rp i9 0 0 -> t 10 = I i_10 -> h.ob i8 = some (3, [[.v (.slice none 0 0), .v (.slice none 0 0), .v (.slice none 0 0)]]) -> i8 < h.nx -> h.ob i9 = some (3, [[.rs i9_4 0 (List.length g_9_0_1), .rs i9_5 0 (List.length g_9_1_1), .rs i9_6 0 (List.length g_9_2_1)]]) -> i9 < h.nx -> h.ob i9_4 = some (3, List.map b1y g_9_0_1) -> i9_4 < h.nx -> h.ob i9_5 = some (1, List.map eI g_9_1_1) -> i9_5 < h.nx -> h.ob i9_6 = some (1, List.map eI g_9_2_1) -> i9_6 < h.nx -> ¬i8 = i9 -> ¬i8 = i9_4 -> ¬i8 = i9_5 -> ¬i8 = i9_6 -> ¬i9 = i9_4 -> ¬i9 = i9_5 -> ¬i9 = i9_6 -> ¬i9_4 = i9_5 -> ¬i9_4 = i9_6 -> ¬i9_5 = i9_6 -> c61 i_10 g_9_0_1 g_9_1_1 g_9_2_1 = some o -> K6 t h := by
    try clear s1 s2 s3 s4 s8 s9 s10 Q1 Q4 Q5 Q2 Q6 Q8 Qa Q9 Qb Q7 Qc Qd Qe Qf Qi Qg Qh Qj Qk Ql
    intro g_9_0_1 g_9_1_1 g_9_2_1 i9_4 i9_5 i9_6 t h s1 s2 s3 s4 s8 s9 s10 Q1 Q4 Q5 Q2 Q6 Q8 Qa Q9 Qb Q7 Qc Qd Qe Qf Qi Qg Qh Qj Qk Ql hm1
    refine hK6 _ _ ?_
    unfold c61 at hm1
    refine b02 fun K hK => ?_
    simp only [go_sem, s10]
    refine hK _ _ ?_
    clear hK K
    simp only [b0f]
    obtain rfl := sI9 hm1
    refine ⟨_, rfl, ?_⟩
    exact ⟨i8, i9, i9_4, i9_5, i9_6, s1, s2, s3, s4, s8, s9, (by first | (simp only [go_sem]; done) | rfl), Q1, Q4, Q5, Q2, Q6, Q8, Qa, Q9, Qb, Q7, Qc, Qd, Qe, Qf, Qi, Qg, Qh, Qj, Qk, Ql⟩
   simp only [b0u]
   refine b0b fun K hK => ?_
   simp only [go_sem]
   refine hK _ _ ?_
   clear hK K
   simp only [b0u]
   obtain ⟨b8, hl8, hm1⟩ := b0g hm1
   refine b1l hl8 (fun | (g_9_0_1, g_9_1_1, g_9_2_1, x_11), t, h => ∃ i9_4 : Nat, ∃ i9_5 : Nat, ∃ i9_6 : Nat, t 1 = .fs 1 (List.map b0t assume) /\ t 2 = I input /\ t 3 = I value /\ t 4 = .fp [.fs 1 (List.map eS m.Inputs), .fs 1 (List.map eS m.Outputs), .fs 2 (List.map b0m m.Counters), .fs 2 (List.map b0n m.States), .fs 4 (List.map b0k m.Rules)] 0 /\ t 8 = .rp i8 0 0 /\ t 9 = .rp i9 0 0 /\ t 10 = I i_10 /\ t 11 = I x_11 /\ h.ob i8 = some (3, [[.v (.slice none 0 0), .v (.slice none 0 0), .v (.slice none 0 0)]]) /\ i8 < h.nx /\ h.ob i9 = some (3, [[.rs i9_4 0 (List.length g_9_0_1), .rs i9_5 0 (List.length g_9_1_1), .rs i9_6 0 (List.length g_9_2_1)]]) /\ i9 < h.nx /\ h.ob i9_4 = some (3, List.map b1y g_9_0_1) /\ i9_4 < h.nx /\ h.ob i9_5 = some (1, List.map eI g_9_1_1) /\ i9_5 < h.nx /\ h.ob i9_6 = some (1, List.map eI g_9_2_1) /\ i9_6 < h.nx /\ ¬i8 = i9 /\ ¬i8 = i9_4 /\ ¬i8 = i9_5 /\ ¬i8 = i9_6 /\ ¬i9 = i9_4 /\ ¬i9 = i9_5 /\ ¬i9 = i9_6 /\ ¬i9_4 = i9_5 /\ ¬i9_4 = i9_6 /\ ¬i9_5 = i9_6) ?_ ?_
   ·exact ⟨i9_1, i9_2, i9_3, s1, s2, s3, s4, s8, s9, s10, (by first | (simp only [go_sem]; done) | rfl), Q1, Q4, Q5, Q2, Q6, Q8, Qa, Q9, Qb, Q7, Qc, Qd, Qe, Qf, Qi, Qg, Qh, Qj, Qk, Ql⟩
   ·try clear s1 s2 s3 s4 s8 s9 s10 Q1 Q4 Q5 Q2 Q6 Q8 Qa Q9 Qb Q7 Qc Qd Qe Qf Qi Qg Qh Qj Qk Ql
    rintro ⟨g_9_0_1, g_9_1_1, g_9_2_1, x_11⟩ o t h ⟨i9_4, i9_5, i9_6, s1, s2, s3, s4, s8, s9, s10, s11, Q1, Q4, Q5, Q2, Q6, Q8, Qa, Q9, Qb, Q7, Qc, Qd, Qe, Qf, Qi, Qg, Qh, Qj, Qk, Ql⟩ hm2 hb8
    simp only [c3a] at hm2
    rw [g2r]
    refine b0v ?_
    obtain ⟨y10, h_y10, hm2⟩ := b0g hm2
    refine b0b fun K hK => ?_
    simp only [go_sem, s4, s11]
    refine b03 (d10 m _ h_y10) ?_
    simp only [go_sem]
    refine hK _ _ ?_
    clear hK K
    refine b0i fun K11 hK11 => ?_
    simp only [go_sem]
    refine b0j (fun hc12 => ?_) (fun hc12 => ?_)
    ·rw [b0q hc12] at hm2
     simp only [b0r, b0f]
     refine hK11 _ _ ?_
     refine b0i fun K13 hK13 => ?_
     have J14 : ∀ (g_9_0_2 : List Place) (g_9_1_2 : List Int) (g_9_2_2 : List Int) (i9_7 : Nat) (i9_8 : Nat) (i9_9 : Nat) (t : Slots) (h : Heap), t 1 = .fs 1 (List.map b0t assume) -> t 2 = I input -> t 3 = I value -> t 4 = .fp [.fs 1 (List.map eS m.Inputs), .fs 1 (List.map eS m.Outputs), .fs 2 (List.map b0m m.Counters), .fs 2 (List.map b0n m.States), .fs 4 (List.map b0k m.Rules)] 0 -> t 8 = .rp i8 0 0 -> t 9 = .rp i9 0 0 -> t 10 = I i_10 -> t 11 = I x_11 -> h.ob i8 = some (3, [[.v (.slice none 0 0), .v (.slice none 0 0), .v (.slice none 0 0)]]) -> i8 < h.nx -> h.ob i9 = some (3, [[.rs i9_7 0 (List.length g_9_0_2), .rs i9_8 0 (List.length g_9_1_2), .rs i9_9 0 (List.length g_9_2_2)]]) -> i9 < h.nx -> h.ob i9_7 = some (3, List.map b1y g_9_0_2) -> i9_7 < h.nx -> h.ob i9_8 = some (1, List.map eI g_9_1_2) -> i9_8 < h.nx -> h.ob i9_9 = some (1, List.map eI g_9_2_2) -> i9_9 < h.nx -> ¬i8 = i9 -> ¬i8 = i9_7 -> ¬i8 = i9_8 -> ¬i8 = i9_9 -> ¬i9 = i9_7 -> ¬i9 = i9_8 -> ¬i9 = i9_9 -> ¬i9_7 = i9_8 -> ¬i9_7 = i9_9 -> ¬i9_8 = i9_9 -> c0h x_11 g_9_0_2 g_9_1_2 g_9_2_2 = some o -> K13 t h := by
      try clear s1 s2 s3 s4 s8 s9 s10 s11 Q1 Q4 Q5 Q2 Q6 Q8 Qa Q9 Qb Q7 Qc Qd Qe Qf Qi Qg Qh Qj Qk Ql
      intro g_9_0_2 g_9_1_2 g_9_2_2 i9_7 i9_8 i9_9 t h s1 s2 s3 s4 s8 s9 s10 s11 Q1 Q4 Q5 Q2 Q6 Q8 Qa Q9 Qb Q7 Qc Qd Qe Qf Qi Qg Qh Qj Qk Ql hm2
      refine hK13 _ _ ?_
      unfold c0h at hm2
      refine b02 fun K hK => ?_
      simp only [go_sem, s11]
      refine hK _ _ ?_
      clear hK K
      simp only [b0f]
      obtain rfl := sI9 hm2
      refine ⟨_, rfl, ?_⟩
      exact ⟨i9_7, i9_8, i9_9, s1, s2, s3, s4, s8, s9, s10, (by first | (simp only [go_sem]; done) | rfl), Q1, Q4, Q5, Q2, Q6, Q8, Qa, Q9, Qb, Q7, Qc, Qd, Qe, Qf, Qi, Qg, Qh, Qj, Qk, Ql⟩
     simp only [b0u]
     refine b0v ?_
     obtain ⟨x17, h_x17, hm2⟩ := b0g hm2
     have h_x170 := b06 h_x17
     have h_x171 := b07 h_x17
     obtain ⟨y18, h_y18, hm2⟩ := b0g hm2
     refine b0b fun K hK => ?_
     simp only [go_sem, s1, s4, s9, s10, s11, Q5, Q6, b47 h_x17, h_x170, h_x171]
     refine b03 (d1t m x17 x_11 assume _ h_y18) ?_
     simp only [go_sem]
     refine hK _ _ ?_
     clear hK K
     refine b0i fun K19 hK19 => ?_
     simp only [go_sem]
     refine b0j (fun hc20 => ?_) (fun hc20 => ?_)
     ·rw [b0q hc20] at hm2
      simp only [b1b, b1e, b1d, b0f]
      exact J14 g_9_0_1 g_9_1_1 g_9_2_1 i9_4 i9_5 i9_6 _ _ s1 s2 s3 s4 s8 s9 s10 s11 Q1 Q4 Q5 Q2 Q6 Q8 Qa Q9 Qb Q7 Qc Qd Qe Qf Qi Qg Qh Qj Qk Ql hm2
     ·rw [b0p hc20] at hm2
      simp only [b0r, b0f]
      refine hK19 _ _ ?_
      obtain ⟨y23, h_y23, hm2⟩ := b0g hm2
      obtain ⟨y24, h_y24, hm2⟩ := b0g hm2
      refine b0b fun K hK => ?_
      simp only [go_sem, s2, s3, s4, s9, s10, s11, Q5, Q6, b47 h_x17, h_x170, h_x171]
      refine b03 (d1w x_11 input value _ h_y23) ?_
      simp only [go_sem]
      refine b03 (d1x m x17 y23 _ h_y24) ?_
      simp only [go_sem]
      refine hK _ _ ?_
      clear hK K
      obtain ⟨y26, h_y26, hm2⟩ := b0g hm2
      refine b0b fun K hK => ?_
      simp only [go_sem, s9, Q5, Q2]
      refine c5o ?_ (d12 g_9_0_1 (Place.mk y24.State (y24.Values.1, y24.Values.2)) _ h_y26) (.v _) ?_
      ·exact .cons (b3e (f := b1y) (l := g_9_0_1) (id := i9_4) (by simp only [go_sem, Q6, Q8]) (by first | rfl | simp only [go_sem, lA9, mA9]) b4s d2p) (.cons (.refl _ (.agg _ (b0a (b0e _) (b0a (b0e _) (b0a (b0e _) b0l))))) (.nil))
      simp only [go_sem]
      refine hK _ _ ?_
      clear hK K
      simp only [go_sem]
      refine b0j (fun hc27 => ?_) (fun hc27 => ?_)
      ·rw [b0q hc27] at hm2
       obtain ⟨l29, h_l29, hm2⟩ := b0g hm2
       refine b0b fun K hK => ?_
       simp only [go_sem, s9, Q5, Q2]
       refine b22 (f := b1y) (l := g_9_0_1) (m := ([(Place.mk y24.State (y24.Values.1, y24.Values.2))])) ?_ ?_ ?_ ?_ h_l29 ?_
       ·exact (b2p (by simp only [go_sem, Q6, Q8]) (by simp only [go_sem]) (by simp only [go_sem, Q8]))
       ·exact (b4j (by simp only [go_sem]) (by simp only [go_sem]))
       ·exact (b4h (by first | exact b1v | exact b1x (by first | omega | (simp only [nxs] <;> omega)) | assumption | exact b1u (by assumption) (by first | omega | (simp only [go_sem, nxs] <;> omega))))
       ·exact (fun _ => by simp)
       simp only [go_sem, s9, Q5, Q2, Qi]
       refine hK _ _ ?_
       clear hK K
       obtain ⟨l31, h_l31, hm2⟩ := b0g hm2
       refine b0b fun K hK => ?_
       simp only [go_sem, s9, s10]
       refine b22 (f := eI) (l := g_9_1_1) (m := ([i_10])) ?_ ?_ ?_ ?_ h_l31 ?_
       ·exact (b2p (by simp only [go_sem, Qa, Q9, b1z Qg, b1z Qj]) (by simp only [go_sem]) (by simp only [go_sem, Q9]))
       ·exact (b4j (by simp only [go_sem]) (by simp only [go_sem]))
       ·exact (b4h (by first | exact b1v | exact b1x (by first | omega | (simp only [nxs] <;> omega)) | assumption | exact b1u (by assumption) (by first | omega | (simp only [go_sem, nxs] <;> omega))))
       ·exact (fun _ => by simp)
       simp only [go_sem, s9, Q2, Qg]
       refine hK _ _ ?_
       clear hK K
       obtain ⟨l33, h_l33, hm2⟩ := b0g hm2
       refine b02 fun K hK => ?_
       simp only [go_sem, s9, s11]
       refine b22 (f := eI) (l := g_9_2_1) (m := ([x_11])) ?_ ?_ ?_ ?_ h_l33 ?_
       ·exact (b2p (by simp only [go_sem, Qb, Q7, b1z Qh, b1z Qk, b1z Ql]) (by simp only [go_sem]) (by simp only [go_sem, Q7]))
       ·exact (b4j (by simp only [go_sem]) (by simp only [go_sem]))
       ·exact (b4h (by first | exact b1v | exact b1x (by first | omega | (simp only [nxs] <;> omega)) | assumption | exact b1u (by assumption) (by first | omega | (simp only [go_sem, nxs] <;> omega))))
       ·exact (fun _ => by simp)
       simp only [go_sem, s9, Q2, Qh]
       refine hK _ _ ?_
       clear hK K
       simp only [b01, b0f]
       exact J14 l29 l31 l33 (nxs (nxs h.nx)) (nxs (nxs (nxs (nxs h.nx)))) (nxs (nxs (nxs (nxs (nxs (nxs h.nx)))))) _ _ s1 s2 s3 s4 s8 s9 s10 s11 (by simp only [go_sem, Q1, Q4, Qc, Qd, Qe, Qf]) (by simp only [go_sem, Q4]) (by simp only [go_sem]) (by simp only [go_sem, Q2]) (by simp only [go_sem, Q2, Q9, Q7]) (by simp only [go_sem]) (by simp only [go_sem, Q2, Q7]) (by simp only [go_sem]) (by simp only [go_sem, Q2]) (by simp only [go_sem]) Qc (by first | first | assumption | omega | (simp only [nxs] <;> omega)) (by first | first | assumption | omega | (simp only [nxs] <;> omega)) (by first | first | assumption | omega | (simp only [nxs] <;> omega)) (by first | first | assumption | omega | (simp only [nxs] <;> omega)) (by first | first | assumption | omega | (simp only [nxs] <;> omega)) (by first | first | assumption | omega | (simp only [nxs] <;> omega)) (by first | first | assumption | omega | (simp only [nxs] <;> omega)) (by first | first | assumption | omega | (simp only [nxs] <;> omega)) (by first | first | assumption | omega | (simp only [nxs] <;> omega)) hm2
      ·rw [b0p hc27] at hm2
       simp only [b0r, b01, b0f]
       exact J14 g_9_0_1 g_9_1_1 g_9_2_1 i9_4 i9_5 i9_6 _ _ s1 s2 s3 s4 s8 s9 s10 s11 (by simp only [go_sem, Q1, Q4]) (by simp only [go_sem, Q4]) (by simp only [go_sem, Q5, Q2]) (by simp only [go_sem, Q2]) (by simp only [go_sem, Q6, Q8]) (by simp only [go_sem, Q8]) (by simp only [go_sem, Qa, Q9]) (by simp only [go_sem, Q9]) (by simp only [go_sem, Qb, Q7]) (by simp only [go_sem, Q7]) Qc Qd Qe Qf Qi Qg Qh Qj Qk Ql hm2
    ·rw [b0p hc12] at hm2
     simp only [b1b, b1e, b1d, b01, b0f]
     obtain rfl := sI9 hm2
     obtain rfl := hb8 _ rfl
     try dsimp only at hm1
     exact J7 g_9_0_1 g_9_1_1 g_9_2_1 i9_4 i9_5 i9_6 _ _ s1 s2 s3 s4 s8 s9 s10 Q1 Q4 Q5 Q2 Q6 Q8 Qa Q9 Qb Q7 Qc Qd Qe Qf Qi Qg Qh Qj Qk Ql hm1
  ·rw [b0p hc5] at hm1
   simp only [b1b, b1e, b1d, b0f]
   obtain rfl := sI9 hm1
   obtain rfl := hb3 _ rfl
   try dsimp only at hm0
   exact J2 g_9_0 g_9_1 g_9_2 i8 i9 i9_1 i9_2 i9_3 _ _ s8 s9 Q1 Q4 Q5 Q2 Q6 Q8 Qa Q9 Qb Q7 Qc Qd Qe Qf Qi Qg Qh Qj Qk Ql hm0
theorem b4f (hf : Has O "newel/newelref04.from" x_r04_from) : c35 O := by
 intro n low high
 generalize hm0 : b15 n low high = r
 unfold b15 at hm0
 refine b1h hf rfl (b0a (b0e _) (b0a (b0e _) (b0a (b0e _) b0l))) (b0e _) ?_
 refine b1f (fun t h => t 0 = I n /\ t 1 = I low /\ t 2 = I high) ⟨rfl, rfl, rfl⟩ fun t h ⟨s0, s1, s2⟩ => ?_
 simp only [x_r04_from]
 refine b0b fun K hK => ?_
 simp only [go_sem]
 refine hK _ _ ?_
 clear hK K
 refine b2z (fun t h => t 6 = B ((decide (low <= n)) && (decide (n <= high)))) (fun K hK => ?_) ?_
 ·simp only [go_sem, s0, s1]
  refine b0j (fun hg1 => ?_) (fun hg1 => ?_)
  ·simp only [go_sem, s0, s2, hg1]
   exact hK _ _ (by first | (simp only [go_sem, hg1]; done) | rfl)
  ·simp only [go_sem, hg1]
   exact hK _ _ (by first | (simp only [go_sem, hg1]; done) | rfl)
 ·rintro t h s6
  simp only [b0x, b0y]
  obtain rfl := hm0
  exact b04 (by simp only [go_sem, s6]) (b0e _)
theorem d12 (hf : Has O "newel/newelref04.index" x_r04_index) : c82 O := by
 intro l p r hm0
 unfold c3b at hm0
 refine b1h hf rfl (b0a (b0c fun a _ => b4s a) (b0a (.agg _ (b0a (b0e _) (b0a (b0e _) (b0a (b0e _) b0l)))) b0l)) (b0e _) ?_
 refine b1f (fun t h => t 0 = .fs 3 (List.map b1y l) /\ t 1 = .agg [I p.State, I p.Values.1, I p.Values.2]) ⟨rfl, rfl⟩ fun t h ⟨s0, s1⟩ => ?_
 simp only [x_r04_index]
 refine b0b fun K hK => ?_
 simp only [go_sem, s1]
 refine hK _ _ ?_
 clear hK K
 refine b0v ?_
 refine b0b fun K hK => ?_
 simp only [go_sem]
 refine hK _ _ ?_
 clear hK K
 refine b0i fun K1 hK1 => ?_
 have J2 : ∀ (t : Slots) (h : Heap), d3g = some r -> K1 t h := by
  intro t h hm0
  refine hK1 _ _ ?_
  unfold d3g at hm0
  refine b0b fun K hK => ?_
  simp only [go_sem]
  refine hK _ _ ?_
  clear hK K
  simp only [b0x, b0y]
  obtain rfl := sI9 hm0
  exact b04 (by simp only [go_sem]) (b0e _)
 simp only [b0u]
 obtain ⟨b3, hl3, hm0⟩ := b0g hm0
 refine b1l hl3 (fun | i_5, t, h => t 0 = .fs 3 (List.map b1y l) /\ t 3 = .fp [I p.State, I p.Values.1, I p.Values.2] 0 /\ t 5 = I i_5) ?_ ?_
 ·exact ⟨s0, (by first | (simp only [go_sem]; done) | rfl), (by first | (simp only [go_sem]; done) | rfl)⟩
 ·rintro i_5 o t h ⟨s0, s3, s5⟩ hm1 hb3
  simp only [c0i] at hm1
  rw [g2t]
  refine b0v ?_
  refine b0b fun K hK => ?_
  simp only [go_sem, s0, s5]
  refine hK _ _ ?_
  clear hK K
  refine b0i fun K4 hK4 => ?_
  simp only [go_sem]
  refine b0j (fun hc5 => ?_) (fun hc5 => ?_)
  ·rw [b0q hc5] at hm1
   simp only [b0r, b0f]
   refine hK4 _ _ ?_
   refine b0i fun K6 hK6 => ?_
   simp only [b0u]
   obtain ⟨x8, h_x8, hm1⟩ := b0g hm1
   have h_x80 := b06 h_x8
   have h_x81 := b07 h_x8
   refine b0b fun K hK => ?_
   simp only [go_sem, s0, s3, s5, b1a h_x8, h_x81]
   refine hK _ _ ?_
   clear hK K
   simp only [go_sem]
   refine b0j (fun hc9 => ?_) (fun hc9 => ?_)
   ·rw [b0q hc9] at hm1
    refine b0b fun K hK => ?_
    simp only [go_sem, s5]
    refine hK _ _ ?_
    clear hK K
    simp only [b0x, b1n, b2b, b0y]
    obtain rfl := sI9 hm1
    obtain rfl := hb3 _ rfl
    try dsimp only at hm0
    obtain rfl := sI9 hm0
    exact b04 (by simp only [go_sem]) (b0e _)
   ·rw [b0p hc9] at hm1
    simp only [b0r, b01, b0f]
    refine hK6 _ _ ?_
    refine b02 fun K hK => ?_
    simp only [go_sem, s5]
    refine hK _ _ ?_
    clear hK K
    simp only [b0f]
    obtain rfl := sI9 hm1
    refine ⟨_, rfl, ?_⟩
    exact ⟨s0, s3, (by first | (simp only [go_sem]; done) | rfl)⟩
  ·rw [b0p hc5] at hm1
   simp only [b1b, b1e, b1d, b0f]
   obtain rfl := sI9 hm1
   obtain rfl := hb3 _ rfl
   try dsimp only at hm0
   exact J2  _ _  hm0
theorem d13 (hf : Has O "newel/newelref04.literal" x_r04_literal) : c83 O := by
 intro m p input l r hm0
 unfold c0j at hm0
 refine b1h hf rfl (b0a (.agg _ (b0a (b0c fun a _ => b00 a) (b0a (b0c fun a _ => b00 a) (b0a (b0c fun a _ => b1r a) (b0a (b0c fun a _ => b1t a) (b0a (b0c fun a _ => b1s a) b0l)))))) (b0a (.agg _ (b0a (b0e _) (b0a (b0e _) (b0a (b0e _) b0l)))) (b0a (b0e _) (b0a (.agg _ (b0a (b0e _) (b0a (b0e _) (b0a (b0e _) (b0a (b0e _) b0l))))) b0l)))) (b0e _) ?_
 refine b1f (fun t h => t 0 = .agg [.fs 1 (List.map eS m.Inputs), .fs 1 (List.map eS m.Outputs), .fs 2 (List.map b0m m.Counters), .fs 2 (List.map b0n m.States), .fs 4 (List.map b0k m.Rules)] /\ t 1 = .agg [I p.State, I p.Values.1, I p.Values.2] /\ t 2 = I input /\ t 3 = .agg [I l.Kind, I l.Number, I l.Value, B l.Not]) ⟨rfl, rfl, rfl, rfl⟩ fun t h ⟨s0, s1, s2, s3⟩ => ?_
 simp only [x_r04_literal]
 refine b0b fun K hK => ?_
 simp only [go_sem, s0, s1, s3]
 refine hK _ _ ?_
 clear hK K
 refine b0b fun K hK => ?_
 simp only [go_sem]
 refine hK _ _ ?_
 clear hK K
 refine b0v ?_
 refine b0b fun K hK => ?_
 simp only [go_sem]
 refine hK _ _ ?_
 clear hK K
 refine b0i fun K1 hK1 => ?_
 have J2 : ∀ (is_9 : Bool) (t : Slots) (h : Heap), t 7 = .fp [I l.Kind, I l.Number, I l.Value, B l.Not] 0 -> t 9 = B is_9 -> b7i l is_9 = some r -> K1 t h := by
  intro is_9 t h s7 s9 hm0
  refine hK1 _ _ ?_
  unfold b7i at hm0
  refine b0b fun K hK => ?_
  simp only [go_sem, s7, s9]
  refine hK _ _ ?_
  clear hK K
  simp only [b0x, b0y]
  obtain rfl := sI9 hm0
  exact b04 (by simp only [go_sem]) (b0e _)
 simp only [b0u]
 refine b0b fun K hK => ?_
 simp only [go_sem]
 refine hK _ _ ?_
 clear hK K
 simp only [go_sem]
 refine b0j (fun hc3 => ?_) (fun hc3 => ?_)
 ·rw [b0q hc3] at hm0
  obtain ⟨q5, h_q5, hm0⟩ := b0g hm0
  refine b02 fun K hK => ?_
  simp only [go_sem, s2, c5n h_q5]
  refine hK _ _ ?_
  clear hK K
  simp only [b01, b0f]
  exact J2 (decide ((b6o q5 1) = 1)) _ _ (by first | (simp only [go_sem]; done) | rfl) (by first | (simp only [go_sem]; done) | rfl) hm0
 ·rw [b0p hc3] at hm0
  refine b0b fun K hK => ?_
  simp only [go_sem]
  refine hK _ _ ?_
  clear hK K
  simp only [go_sem]
  refine b0j (fun hc6 => ?_) (fun hc6 => ?_)
  ·rw [b0q hc6] at hm0
   obtain ⟨x8, h_x8, hm0⟩ := b0g hm0
   have ha_x8 : ∀ v : Int, List.take (1 + Int.toNat (l.Number)) [I p.State, I p.Values.1, I p.Values.2] ++ [I v] ++ List.drop (1 + Int.toNat (l.Number)) [I p.Values.1, I p.Values.2] = [I p.State, I (b1k (l.Number) 0 v p.Values.1), I (b1k (l.Number) 1 v p.Values.2)] := fun v => (c0n (cs := [I p.State, I p.Values.1, I p.Values.2]) (off := 1) (v := v) h_x8 rfl).trans (by rw [c0m h_x8]; rfl)
   have hb_x8 : 1 + Int.toNat (l.Number) + 1 <= 3 := Nat.le_trans (Nat.add_le_add_left (b9t h_x8) 1) (by simp)
   refine b02 fun K hK => ?_
   simp only [go_sem, d74 (n := 2) (l := [p.Values.1, p.Values.2]) h_x8 rfl, b9v (cs := [I p.State, I p.Values.1, I p.Values.2]) (off := 1) h_x8 rfl]
   refine hK _ _ ?_
   clear hK K
   simp only [b01, b0f]
   exact J2 (decide (l.Value <= x8)) _ _ (by first | (simp only [go_sem]; done) | rfl) (by first | (simp only [go_sem]; done) | rfl) hm0
  ·rw [b0p hc6] at hm0
   refine b0b fun K hK => ?_
   simp only [go_sem]
   refine hK _ _ ?_
   clear hK K
   simp only [go_sem]
   refine b0j (fun hc9 => ?_) (fun hc9 => ?_)
   ·rw [b0q hc9] at hm0
    refine b02 fun K hK => ?_
    simp only [go_sem]
    refine hK _ _ ?_
    clear hK K
    simp only [b01, b0f]
    exact J2 (decide (p.State = l.Number)) _ _ (by first | (simp only [go_sem]; done) | rfl) (by first | (simp only [go_sem]; done) | rfl) hm0
   ·rw [b0p hc9] at hm0
    refine b0b fun K hK => ?_
    simp only [go_sem]
    refine hK _ _ ?_
    clear hK K
    simp only [go_sem]
    refine b0j (fun hc10 => ?_) (fun hc10 => ?_)
    ·rw [b0q hc10] at hm0
     obtain ⟨x13, h_x13, hm0⟩ := b0g hm0
     have h_x130 := b06 h_x13
     have h_x131 := b07 h_x13
     obtain ⟨q14, h_q14, hm0⟩ := b0g hm0
     refine b02 fun K hK => ?_
     simp only [go_sem, b1a h_x13, c5n h_q14]
     refine hK _ _ ?_
     clear hK K
     simp only [b01, b0f]
     exact J2 (decide ((b6o q14 1) = 1)) _ _ (by first | (simp only [go_sem]; done) | rfl) (by first | (simp only [go_sem]; done) | rfl) hm0
    ·rw [b0p hc10] at hm0
     simp only [b0r, b01, b0f]
     exact J2 false _ _ (by first | (simp only [go_sem]; done) | rfl) (by first | (simp only [go_sem]; done) | rfl) hm0
theorem d14 (hf : Has O "newel/newelref04.names" x_r04_names) : c84 O := by
 intro m r hm0
 unfold c3c at hm0
 refine b1h hf rfl (b0a (.agg _ (b0a (b0c fun a _ => b00 a) (b0a (b0c fun a _ => b00 a) (b0a (b0c fun a _ => b1r a) (b0a (b0c fun a _ => b1t a) (b0a (b0c fun a _ => b1s a) b0l)))))) b0l) (b0c fun a _ => b00 a) ?_
 refine b1f (fun t h => t 0 = .agg [.fs 1 (List.map eS m.Inputs), .fs 1 (List.map eS m.Outputs), .fs 2 (List.map b0m m.Counters), .fs 2 (List.map b0n m.States), .fs 4 (List.map b0k m.Rules)]) rfl fun t h s0 => ?_
 simp only [x_r04_names]
 refine b0b fun K hK => ?_
 simp only [go_sem, s0]
 refine hK _ _ ?_
 clear hK K
 obtain ⟨l3, h_l3, hm0⟩ := b0g hm0
 obtain ⟨l4, h_l4, hm0⟩ := b0g hm0
 refine b0b fun K hK => ?_
 simp only [go_sem]
 refine b22 (f := eS) (l := ([])) (m := m.Inputs) ?_ ?_ ?_ ?_ h_l3 ?_
 ·exact (b2p (by simp only [go_sem]) (by simp only [go_sem]) (by simp only [go_sem]))
 ·exact b7b
 ·exact b69
 ·exact (fun e => by cases e)
 simp only [go_sem]
 refine b22 (f := eS) (l := l3) (m := m.Outputs) ?_ ?_ ?_ ?_ h_l4 ?_
 ·exact (b2p (by simp only [go_sem]) (by simp only [go_sem]) (by simp only [go_sem]))
 ·exact b7b
 ·exact b69
 ·exact (fun e => by cases e)
 simp only [go_sem]
 refine hK _ _ ?_
 clear hK K
 refine b0v ?_
 refine b0b fun K hK => ?_
 simp only [go_sem]
 refine hK _ _ ?_
 clear hK K
 refine b0i fun K5 hK5 => ?_
 have J6 : ∀ (l_3 : List ByteArray) (i3 : Nat) (t : Slots) (h : Heap), t 1 = .fp [.fs 1 (List.map eS m.Inputs), .fs 1 (List.map eS m.Outputs), .fs 2 (List.map b0m m.Counters), .fs 2 (List.map b0n m.States), .fs 4 (List.map b0k m.Rules)] 0 -> t 3 = .rs i3 0 (List.length l_3) -> h.ob i3 = some (1, List.map eS l_3) -> i3 < h.nx -> c64 m l_3 = some r -> K5 t h := by
  intro l_3 i3 t h s1 s3 Q3 Q0 hm0
  refine hK5 _ _ ?_
  unfold c64 at hm0
  refine b0v ?_
  refine b0b fun K hK => ?_
  simp only [go_sem]
  refine hK _ _ ?_
  clear hK K
  refine b0i fun K7 hK7 => ?_
  have J8 : ∀ (l_3_1 : List ByteArray) (i3_1 : Nat) (t : Slots) (h : Heap), t 3 = .rs i3_1 0 (List.length l_3_1) -> h.ob i3_1 = some (1, List.map eS l_3_1) -> i3_1 < h.nx -> c65 l_3_1 = some r -> K7 t h := by
   intro l_3_1 i3_1 t h s3 Q3 Q0 hm0
   refine hK7 _ _ ?_
   unfold c65 at hm0
   refine b0b fun K hK => ?_
   simp only [go_sem, s3]
   refine hK _ _ ?_
   clear hK K
   simp only [b0x, b0y]
   obtain rfl := sI9 hm0
   exact b8b (v := .rs i3_1 0 (List.length l_3_1)) (by simp only [go_sem]) (b3e (f := eS) (l := l_3_1) (id := i3_1) (by simp only [go_sem, Q3]) (by first | rfl | simp only [go_sem, lA9, mA9]) b00 c2j)
  simp only [b0u]
  obtain ⟨b9, hl9, hm0⟩ := b0g hm0
  refine b1l hl9 (fun | (l_3_1, i_5), t, h => ∃ i3_1 : Nat, t 1 = .fp [.fs 1 (List.map eS m.Inputs), .fs 1 (List.map eS m.Outputs), .fs 2 (List.map b0m m.Counters), .fs 2 (List.map b0n m.States), .fs 4 (List.map b0k m.Rules)] 0 /\ t 3 = .rs i3_1 0 (List.length l_3_1) /\ t 5 = I i_5 /\ h.ob i3_1 = some (1, List.map eS l_3_1) /\ i3_1 < h.nx) ?_ ?_
  ·exact ⟨i3, s1, (by first | exact s3 | simp only [go_sem, s3, lA9, mA9]), (by first | (simp only [go_sem]; done) | rfl), Q3, Q0⟩
  ·rintro ⟨l_3_1, i_5⟩ o t h ⟨i3_1, s1, s3, s5, Q3, Q0⟩ hm1 hb9
   simp only [c62] at hm1
   rw [g2u]
   refine b0v ?_
   refine b0b fun K hK => ?_
   simp only [go_sem, s1, s5]
   refine hK _ _ ?_
   clear hK K
   refine b0i fun K10 hK10 => ?_
   simp only [go_sem]
   refine b0j (fun hc11 => ?_) (fun hc11 => ?_)
   ·rw [b0q hc11] at hm1
    simp only [b0r, b0f]
    refine hK10 _ _ ?_
    refine b0i fun K12 hK12 => ?_
    simp only [b0u]
    obtain ⟨x15, h_x15, hm1⟩ := b0g hm1
    have h_x150 := b06 h_x15
    have h_x151 := b07 h_x15
    obtain ⟨l16, h_l16, hm1⟩ := b0g hm1
    refine b02 fun K hK => ?_
    simp only [go_sem, s1, s3, s5, b1a h_x15, h_x151]
    refine b22 (f := eS) (l := l_3_1) (m := ([x15.Name])) ?_ ?_ ?_ ?_ h_l16 ?_
    ·exact (b2p (by simp only [go_sem, Q3, Q0]) (by simp only [go_sem]) (by simp only [go_sem, Q0]))
    ·exact (b4j (by simp only [go_sem]) (by simp only [go_sem]))
    ·exact (b4h (by first | exact b1v | exact b1x (by first | omega | (simp only [nxs] <;> omega)) | assumption | exact b1u (by assumption) (by first | omega | (simp only [go_sem, nxs] <;> omega))))
    ·exact (fun _ => by simp)
    simp only [go_sem]
    refine hK _ _ ?_
    clear hK K
    simp only [b01, b0f]
    refine hK12 _ _ ?_
    refine b02 fun K hK => ?_
    simp only [go_sem, s5]
    refine hK _ _ ?_
    clear hK K
    simp only [b0f]
    obtain rfl := sI9 hm1
    refine ⟨_, rfl, ?_⟩
    exact ⟨(nxs h.nx), s1, (by first | (simp only [go_sem]; done) | rfl), (by first | (simp only [go_sem]; done) | rfl), (by simp only [go_sem]), (by simp only [go_sem])⟩
   ·rw [b0p hc11] at hm1
    simp only [b1b, b1e, b1d, b0f]
    obtain rfl := sI9 hm1
    obtain rfl := hb9 _ rfl
    try dsimp only at hm0
    exact J8 l_3_1 i3_1 _ _ (by first | exact s3 | simp only [go_sem, s3, lA9, mA9]) Q3 Q0 hm0
 simp only [b0u]
 obtain ⟨b18, hl18, hm0⟩ := b0g hm0
 refine b1l hl18 (fun | (l_3, i_4), t, h => ∃ i3 : Nat, t 1 = .fp [.fs 1 (List.map eS m.Inputs), .fs 1 (List.map eS m.Outputs), .fs 2 (List.map b0m m.Counters), .fs 2 (List.map b0n m.States), .fs 4 (List.map b0k m.Rules)] 0 /\ t 3 = .rs i3 0 (List.length l_3) /\ t 4 = I i_4 /\ h.ob i3 = some (1, List.map eS l_3) /\ i3 < h.nx) ?_ ?_
 ·exact ⟨(nxs (nxs h.nx)), (by first | (simp only [go_sem]; done) | rfl), (by first | (simp only [go_sem]; done) | rfl), (by first | (simp only [go_sem]; done) | rfl), (by simp only [go_sem]), (by simp only [go_sem])⟩
 ·rintro ⟨l_3, i_4⟩ o t h ⟨i3, s1, s3, s4, Q3, Q0⟩ hm1 hb18
  simp only [c63] at hm1
  rw [g2v]
  refine b0v ?_
  refine b0b fun K hK => ?_
  simp only [go_sem, s1, s4]
  refine hK _ _ ?_
  clear hK K
  refine b0i fun K19 hK19 => ?_
  simp only [go_sem]
  refine b0j (fun hc20 => ?_) (fun hc20 => ?_)
  ·rw [b0q hc20] at hm1
   simp only [b0r, b0f]
   refine hK19 _ _ ?_
   refine b0i fun K21 hK21 => ?_
   simp only [b0u]
   obtain ⟨x24, h_x24, hm1⟩ := b0g hm1
   have h_x240 := b06 h_x24
   have h_x241 := b07 h_x24
   obtain ⟨l25, h_l25, hm1⟩ := b0g hm1
   refine b02 fun K hK => ?_
   simp only [go_sem, s1, s3, s4, b1a h_x24, h_x241]
   refine b22 (f := eS) (l := l_3) (m := ([x24.Name])) ?_ ?_ ?_ ?_ h_l25 ?_
   ·exact (b2p (by simp only [go_sem, Q3, Q0]) (by simp only [go_sem]) (by simp only [go_sem, Q0]))
   ·exact (b4j (by simp only [go_sem]) (by simp only [go_sem]))
   ·exact (b4h (by first | exact b1v | exact b1x (by first | omega | (simp only [nxs] <;> omega)) | assumption | exact b1u (by assumption) (by first | omega | (simp only [go_sem, nxs] <;> omega))))
   ·exact (fun _ => by simp)
   simp only [go_sem]
   refine hK _ _ ?_
   clear hK K
   simp only [b01, b0f]
   refine hK21 _ _ ?_
   refine b02 fun K hK => ?_
   simp only [go_sem, s4]
   refine hK _ _ ?_
   clear hK K
   simp only [b0f]
   obtain rfl := sI9 hm1
   refine ⟨_, rfl, ?_⟩
   exact ⟨(nxs h.nx), s1, (by first | (simp only [go_sem]; done) | rfl), (by first | (simp only [go_sem]; done) | rfl), (by simp only [go_sem]), (by simp only [go_sem])⟩
  ·rw [b0p hc20] at hm1
   simp only [b1b, b1e, b1d, b0f]
   obtain rfl := sI9 hm1
   obtain rfl := hb18 _ rfl
   try dsimp only at hm0
   exact J6 l_3 i3 _ _ s1 (by first | exact s3 | simp only [go_sem, s3, lA9, mA9]) Q3 Q0 hm0
theorem c2d (hf : Has O "newel/situation.Asked" x_situation_Asked) (b8i : c0z O) (d15 : c85 O) : c36 O := by
 intro m c r hm0
 unfold c0q at hm0
 refine b1h hf rfl (b0a (.agg _ (b0a (b0c fun a _ => b00 a) (b0a (b0c fun a _ => b00 a) (b0a (b0c fun a _ => b1r a) (b0a (b0c fun a _ => b1t a) (b0a (b0c fun a _ => b1s a) b0l)))))) (b0a (b0c fun a _ => b2l a) b0l)) (b0e _) ?_
 refine b1f (fun t h => t 0 = .agg [.fs 1 (List.map eS m.Inputs), .fs 1 (List.map eS m.Outputs), .fs 2 (List.map b0m m.Counters), .fs 2 (List.map b0n m.States), .fs 4 (List.map b0k m.Rules)] /\ t 1 = .fs 1 (List.map b0t c)) ⟨rfl, rfl⟩ fun t h ⟨s0, s1⟩ => ?_
 simp only [x_situation_Asked]
 refine b0b fun K hK => ?_
 simp only [go_sem, s0]
 refine hK _ _ ?_
 clear hK K
 refine b0v ?_
 refine b0b fun K hK => ?_
 simp only [go_sem, s1]
 refine hK _ _ ?_
 clear hK K
 refine b0i fun K1 hK1 => ?_
 simp only [go_sem]
 refine b0j (fun hc2 => ?_) (fun hc2 => ?_)
 ·rw [b0q hc2] at hm0
  refine b0b fun K hK => ?_
  simp only [go_sem]
  refine hK _ _ ?_
  clear hK K
  simp only [b0x, b1n, b0y]
  obtain rfl := sI9 hm0
  exact b04 (by simp only [go_sem]) (b0e _)
 ·rw [b0p hc2] at hm0
  simp only [b0r, b0f]
  refine hK1 _ _ ?_
  refine b0v ?_
  refine b0b fun K hK => ?_
  simp only [go_sem, s1]
  refine hK _ _ ?_
  clear hK K
  refine b0i fun K3 hK3 => ?_
  have J4 : ∀ (t : Slots) (h : Heap), d3s = some r -> K3 t h := by
   intro t h hm0
   refine hK3 _ _ ?_
   unfold d3s at hm0
   refine b0b fun K hK => ?_
   simp only [go_sem]
   refine hK _ _ ?_
   clear hK K
   simp only [b0x, b0y]
   obtain rfl := sI9 hm0
   exact b04 (by simp only [go_sem]) (b0e _)
  simp only [b0u]
  obtain ⟨b5, hl5, hm0⟩ := b0g hm0
  refine b1l hl5 (fun | x_12, t, h => t 2 = .fp [.fs 1 (List.map eS m.Inputs), .fs 1 (List.map eS m.Outputs), .fs 2 (List.map b0m m.Counters), .fs 2 (List.map b0n m.States), .fs 4 (List.map b0k m.Rules)] 0 /\ t 10 = .fs 1 (List.map b0t c) /\ t 11 = I (List.length c : Int) /\ t 12 = I x_12) ?_ ?_
  ·exact ⟨(by first | (simp only [go_sem]; done) | rfl), (by first | (simp only [go_sem]; done) | rfl), (by first | (simp only [go_sem]; done) | rfl), (by first | (simp only [go_sem]; done) | rfl)⟩
  ·rintro x_12 o t h ⟨s2, s10, s11, s12⟩ hm1 hb5
   simp only [c3l] at hm1
   rw [g2w]
   refine b0b fun K hK => ?_
   simp only [go_sem, s11, s12]
   refine hK _ _ ?_
   clear hK K
   refine b0i fun K6 hK6 => ?_
   simp only [go_sem]
   refine b0j (fun hc7 => ?_) (fun hc7 => ?_)
   ·rw [b0q hc7] at hm1
    simp only [b0r, b0f]
    refine hK6 _ _ ?_
    refine b0i fun K8 hK8 => ?_
    simp only [b0u]
    obtain ⟨x10, h_x10, hm1⟩ := b0g hm1
    have h_x100 := b06 h_x10
    have h_x101 := b07 h_x10
    refine b0b fun K hK => ?_
    simp only [go_sem, s10, s12, b1a h_x10, h_x101]
    refine hK _ _ ?_
    clear hK K
    obtain ⟨c16, h_c16, hm1⟩ := b0g hm1
    refine b2z (fun t h => t 2 = .fp [.fs 1 (List.map eS m.Inputs), .fs 1 (List.map eS m.Outputs), .fs 2 (List.map b0m m.Counters), .fs 2 (List.map b0n m.States), .fs 4 (List.map b0k m.Rules)] 0 /\ t 10 = .fs 1 (List.map b0t c) /\ t 11 = I (List.length c : Int) /\ t 12 = I x_12 /\ t 23 = B c16) (fun K hK => ?_) ?_
    ·simp only [go_sem]
     refine b0j (fun hg17 => ?_) (fun hg17 => ?_)
     ·simp only [hg17, eq_self, if_true] at h_c16
      obtain rfl := sI9 h_c16
      simp only [go_sem, hg17]
      exact hK _ _ ⟨s2, s10, s11, s12, (by first | (simp only [go_sem]; done) | rfl)⟩
     ·simp only [hg17, if_false, Bool.false_eq_true] at h_c16
      obtain ⟨y15, h_y15, h_c16⟩ := b0g h_c16
      obtain rfl := sI9 h_c16
      simp only [go_sem, s2, hg17]
      refine b03 (b8i x10 "newel/situation.Asked$1" [] [.fp [.fs 1 (List.map eS m.Inputs), .fs 1 (List.map eS m.Outputs), .fs 2 (List.map b0m m.Counters), .fs 2 (List.map b0n m.States), .fs 4 (List.map b0k m.Rules)] 0] (fun z14 => b8y z14 m) (.fn _ _ _ b0l (b0a (.fp _ _ (b0a (b0c fun a _ => b00 a) (b0a (b0c fun a _ => b00 a) (b0a (b0c fun a _ => b1r a) (b0a (b0c fun a _ => b1t a) (b0a (b0c fun a _ => b1s a) b0l)))))) b0l)) (fun z0 y hz => d15 z0 m y hz) _ h_y15) ?_
      simp only [go_sem, s2, hg17]
      exact hK _ _ ⟨s2, s10, s11, s12, (by first | (simp only [go_sem]; done) | rfl)⟩
    ·rintro t h ⟨s2, s10, s11, s12, s23⟩
     simp only [go_sem, s23]
     refine b0j (fun hc18 => ?_) (fun hc18 => ?_)
     ·rw [b0q hc18] at hm1
      refine b0b fun K hK => ?_
      simp only [go_sem]
      refine hK _ _ ?_
      clear hK K
      simp only [b0x, b1n, b2b, b0y]
      obtain rfl := sI9 hm1
      obtain rfl := hb5 _ rfl
      try dsimp only at hm0
      obtain rfl := sI9 hm0
      exact b04 (by simp only [go_sem]) (b0e _)
     ·rw [b0p hc18] at hm1
      simp only [b0r, b01, b0f]
      refine hK8 _ _ ?_
      refine b02 fun K hK => ?_
      simp only [go_sem, s12]
      refine hK _ _ ?_
      clear hK K
      simp only [b0f]
      obtain rfl := sI9 hm1
      refine ⟨_, rfl, ?_⟩
      exact ⟨s2, s10, s11, (by first | (simp only [go_sem]; done) | rfl)⟩
   ·rw [b0p hc7] at hm1
    simp only [b1b, b1e, b1d, b0f]
    obtain rfl := sI9 hm1
    obtain rfl := hb5 _ rfl
    try dsimp only at hm0
    exact J4  _ _  hm0
theorem d15 (hf : Has O "newel/situation.Asked$1" x_situation_AskedD1) (d2a : c9a O) : c85 O := by
 intro x c0 r hm0
 unfold b8y at hm0
 refine b1h hf rfl (b0a (.agg _ (b0a (b0e _) (b0a (b0e _) (b0a (b0e _) (b0a (b0e _) b0l))))) (b0a (.fp _ _ (b0a (b0c fun a _ => b00 a) (b0a (b0c fun a _ => b00 a) (b0a (b0c fun a _ => b1r a) (b0a (b0c fun a _ => b1t a) (b0a (b0c fun a _ => b1s a) b0l)))))) b0l)) (b0e _) ?_
 refine b1f (fun t h => t 0 = .agg [I x.Kind, I x.Number, I x.Value, B x.Not] /\ t 1 = .fp [.fs 1 (List.map eS c0.Inputs), .fs 1 (List.map eS c0.Outputs), .fs 2 (List.map b0m c0.Counters), .fs 2 (List.map b0n c0.States), .fs 4 (List.map b0k c0.Rules)] 0) ⟨rfl, rfl⟩ fun t h ⟨s0, s1⟩ => ?_
 simp only [x_situation_AskedD1]
 refine b0b fun K hK => ?_
 simp only [go_sem, s0]
 refine hK _ _ ?_
 clear hK K
 obtain ⟨y2, h_y2, hm0⟩ := b0g hm0
 refine b0b fun K hK => ?_
 simp only [go_sem, s1]
 refine b03 (d2a c0 x _ h_y2) ?_
 simp only [go_sem]
 refine hK _ _ ?_
 clear hK K
 simp only [b0x, b0y]
 obtain rfl := sI9 hm0
 exact b04 (by simp only [go_sem]) (b0e _)
theorem d16 (hf : Has O "newel/situation.Check" x_situation_Check) (b4g : c37 O) (d2b : c9b O) (c2d : c36 O) (b8i : c0z O) (d17 : c87 O) : c86 O := by
 intro m r hm0
 unfold c3m at hm0
 refine b1h hf rfl (b0a (.agg _ (b0a (b0c fun a _ => b00 a) (b0a (b0c fun a _ => b00 a) (b0a (b0c fun a _ => b1r a) (b0a (b0c fun a _ => b1t a) (b0a (b0c fun a _ => b1s a) b0l)))))) b0l) (b0e _) ?_
 refine b1f (fun t h => t 0 = .agg [.fs 1 (List.map eS m.Inputs), .fs 1 (List.map eS m.Outputs), .fs 2 (List.map b0m m.Counters), .fs 2 (List.map b0n m.States), .fs 4 (List.map b0k m.Rules)]) rfl fun t h s0 => ?_
 simp only [x_situation_Check]
 refine b0b fun K hK => ?_
 simp only [go_sem, s0]
 refine hK _ _ ?_
 clear hK K
 refine b0v ?_
 obtain ⟨c4, h_c4, hm0⟩ := b0g hm0
 refine b2z (fun t h => t 1 = .fp [.fs 1 (List.map eS m.Inputs), .fs 1 (List.map eS m.Outputs), .fs 2 (List.map b0m m.Counters), .fs 2 (List.map b0n m.States), .fs 4 (List.map b0k m.Rules)] 0 /\ t 46 = B c4) (fun K hK => ?_) ?_
 ·simp only [go_sem]
  refine b0j (fun hg5 => ?_) (fun hg5 => ?_)
  ·simp only [hg5, eq_self, if_true, Bool.true_or] at h_c4
   obtain rfl := sI9 h_c4
   simp only [go_sem, hg5]
   exact hK _ _ ⟨(by first | (simp only [go_sem]; done) | rfl), (by first | (simp only [go_sem]; done) | rfl)⟩
  ·simp only [go_sem, hg5]
   refine b0j (fun hg6 => ?_) (fun hg6 => ?_)
   ·simp only [hg5, hg6, eq_self, if_true, Bool.true_or, Bool.or_true] at h_c4
    obtain rfl := sI9 h_c4
    simp only [go_sem, hg5, hg6]
    exact hK _ _ ⟨(by first | (simp only [go_sem]; done) | rfl), (by first | (simp only [go_sem]; done) | rfl)⟩
   ·simp only [go_sem, hg5, hg6]
    refine b0j (fun hg7 => ?_) (fun hg7 => ?_)
    ·simp only [hg5, hg6, hg7, eq_self, if_true, Bool.true_or, Bool.or_true, Bool.or_false] at h_c4
     obtain rfl := sI9 h_c4
     simp only [go_sem, hg5, hg6, hg7]
     exact hK _ _ ⟨(by first | (simp only [go_sem]; done) | rfl), (by first | (simp only [go_sem]; done) | rfl)⟩
    ·simp only [go_sem, hg5, hg6, hg7]
     refine b03 (b4g (List.length m.States : Int) 1 12) ?_
     simp only [go_sem, hg5, hg6, hg7]
     refine b0j (fun hg8 => ?_) (fun hg8 => ?_)
     ·simp only [hg5, hg6, hg7, hg8, eq_self, if_true, Bool.true_or, Bool.or_true, Bool.or_false] at h_c4
      obtain rfl := sI9 h_c4
      simp only [go_sem, hg5, hg6, hg7, hg8]
      exact hK _ _ ⟨(by first | (simp only [go_sem]; done) | rfl), (by first | (simp only [go_sem]; done) | rfl)⟩
     ·simp only [go_sem, hg5, hg6, hg7, hg8]
      refine b0j (fun hg9 => ?_) (fun hg9 => ?_)
      ·simp only [hg5, hg6, hg7, hg8, hg9, eq_self, if_true, Bool.or_true, Bool.or_false] at h_c4
       obtain rfl := sI9 h_c4
       simp only [go_sem, hg5, hg6, hg7, hg8, hg9]
       exact hK _ _ ⟨(by first | (simp only [go_sem]; done) | rfl), (by first | (simp only [go_sem]; done) | rfl)⟩
      ·simp only [hg5, hg6, hg7, hg8, hg9, if_false, Bool.or_false, Bool.false_eq_true] at h_c4
       obtain ⟨y3, h_y3, h_c4⟩ := b0g h_c4
       obtain rfl := sI9 h_c4
       simp only [go_sem, hg5, hg6, hg7, hg8, hg9]
       refine b03 (d2b m _ h_y3) ?_
       simp only [go_sem, hg5, hg6, hg7, hg8, hg9]
       exact hK _ _ ⟨(by first | (simp only [go_sem]; done) | rfl), (by first | (simp only [go_sem]; done) | rfl)⟩
 ·rintro t h ⟨s1, s46⟩
  refine b0i fun K10 hK10 => ?_
  simp only [go_sem, s46]
  refine b0j (fun hc11 => ?_) (fun hc11 => ?_)
  ·rw [b0q hc11] at hm0
   refine b0b fun K hK => ?_
   simp only [go_sem]
   refine hK _ _ ?_
   clear hK K
   simp only [b0x, b1n, b0y]
   obtain rfl := sI9 hm0
   exact b04 (by simp only [go_sem]) (b0e _)
  ·rw [b0p hc11] at hm0
   simp only [b0r, b0f]
   refine hK10 _ _ ?_
   refine b0v ?_
   refine b0b fun K hK => ?_
   simp only [go_sem, s1]
   refine hK _ _ ?_
   clear hK K
   refine b0i fun K12 hK12 => ?_
   have J13 : ∀ (t : Slots) (h : Heap), t 1 = .fp [.fs 1 (List.map eS m.Inputs), .fs 1 (List.map eS m.Outputs), .fs 2 (List.map b0m m.Counters), .fs 2 (List.map b0n m.States), .fs 4 (List.map b0k m.Rules)] 0 -> c7f m = some r -> K12 t h := by
    intro t h s1 hm0
    refine hK12 _ _ ?_
    unfold c7f at hm0
    refine b0v ?_
    refine b0b fun K hK => ?_
    simp only [go_sem, s1]
    refine hK _ _ ?_
    clear hK K
    refine b0i fun K14 hK14 => ?_
    have J15 : ∀ (t : Slots) (h : Heap), t 1 = .fp [.fs 1 (List.map eS m.Inputs), .fs 1 (List.map eS m.Outputs), .fs 2 (List.map b0m m.Counters), .fs 2 (List.map b0n m.States), .fs 4 (List.map b0k m.Rules)] 0 -> c7g m = some r -> K14 t h := by
     intro t h s1 hm0
     refine hK14 _ _ ?_
     unfold c7g at hm0
     refine b0v ?_
     refine b0b fun K hK => ?_
     simp only [go_sem, s1]
     refine hK _ _ ?_
     clear hK K
     refine b0i fun K16 hK16 => ?_
     have J17 : ∀ (t : Slots) (h : Heap), d3t = some r -> K16 t h := by
      intro t h hm0
      refine hK16 _ _ ?_
      unfold d3t at hm0
      refine b0b fun K hK => ?_
      simp only [go_sem]
      refine hK _ _ ?_
      clear hK K
      simp only [b0x, b0y]
      obtain rfl := sI9 hm0
      exact b04 (by simp only [go_sem]) (b0e _)
     simp only [b0u]
     obtain ⟨b18, hl18, hm0⟩ := b0g hm0
     refine b1l hl18 (fun | x_79, t, h => t 1 = .fp [.fs 1 (List.map eS m.Inputs), .fs 1 (List.map eS m.Outputs), .fs 2 (List.map b0m m.Counters), .fs 2 (List.map b0n m.States), .fs 4 (List.map b0k m.Rules)] 0 /\ t 77 = .fs 4 (List.map b0k m.Rules) /\ t 78 = I (List.length m.Rules : Int) /\ t 79 = I x_79) ?_ ?_
     ·exact ⟨s1, (by first | (simp only [go_sem]; done) | rfl), (by first | (simp only [go_sem]; done) | rfl), (by first | (simp only [go_sem]; done) | rfl)⟩
     ·rintro x_79 o t h ⟨s1, s77, s78, s79⟩ hm1 hb18
      simp only [b8z] at hm1
      rw [g20]
      refine b0b fun K hK => ?_
      simp only [go_sem, s78, s79]
      refine hK _ _ ?_
      clear hK K
      refine b0i fun K19 hK19 => ?_
      simp only [go_sem]
      refine b0j (fun hc20 => ?_) (fun hc20 => ?_)
      ·rw [b0q hc20] at hm1
       simp only [b0r, b0f]
       refine hK19 _ _ ?_
       refine b0i fun K21 hK21 => ?_
       have J22 : ∀ (t : Slots) (h : Heap), t 1 = .fp [.fs 1 (List.map eS m.Inputs), .fs 1 (List.map eS m.Outputs), .fs 2 (List.map b0m m.Counters), .fs 2 (List.map b0n m.States), .fs 4 (List.map b0k m.Rules)] 0 -> t 77 = .fs 4 (List.map b0k m.Rules) -> t 78 = I (List.length m.Rules : Int) -> t 79 = I x_79 -> c7h x_79 = some o -> K21 t h := by
        intro t h s1 s77 s78 s79 hm1
        refine hK21 _ _ ?_
        unfold c7h at hm1
        refine b02 fun K hK => ?_
        simp only [go_sem, s79]
        refine hK _ _ ?_
        clear hK K
        simp only [b0f]
        obtain rfl := sI9 hm1
        refine ⟨_, rfl, ?_⟩
        exact ⟨s1, s77, s78, (by first | (simp only [go_sem]; done) | rfl)⟩
       simp only [b0u]
       obtain ⟨x24, h_x24, hm1⟩ := b0g hm1
       have h_x240 := b06 h_x24
       have h_x241 := b07 h_x24
       refine b0b fun K hK => ?_
       simp only [go_sem, s77, s79, b1a h_x24, h_x241]
       refine hK _ _ ?_
       clear hK K
       refine b0v ?_
       obtain ⟨c28, h_c28, hm1⟩ := b0g hm1
       refine b2z (fun t h => ∃ i8 : Nat, t 1 = .fp [.fs 1 (List.map eS m.Inputs), .fs 1 (List.map eS m.Outputs), .fs 2 (List.map b0m m.Counters), .fs 2 (List.map b0n m.States), .fs 4 (List.map b0k m.Rules)] 0 /\ t 8 = .rp i8 0 0 /\ t 77 = .fs 4 (List.map b0k m.Rules) /\ t 78 = I (List.length m.Rules : Int) /\ t 79 = I x_79 /\ t 113 = B (c28 || (decide (4 < (List.length x24.Sets : Int)))) /\ h.ob i8 = some (4, [[I x24.From, I x24.To, .fs 1 (List.map b0t x24.When), .fs 2 (List.map b2k x24.Sets)]]) /\ i8 < h.nx) (fun K hK => ?_) ?_
       ·simp only [go_sem, s1]
        refine b03 (b4g x24.From (-1) (wr ((List.length m.States : Int) - 1))) ?_
        simp only [go_sem]
        refine b0j (fun hg29 => ?_) (fun hg29 => ?_)
        ·simp only [hg29, eq_self, if_true, Bool.true_or] at h_c28
         obtain rfl := sI9 h_c28
         simp only [go_sem, hg29]
         exact hK _ _ ⟨h.nx, s1, (by first | (simp only [go_sem]; done) | rfl), s77, s78, s79, (by first | (simp only [go_sem]; done) | rfl), (by simp only [go_sem]), (by simp only [go_sem])⟩
        ·simp only [go_sem, s1, hg29]
         refine b03 (b4g x24.To 0 (wr ((List.length m.States : Int) - 1))) ?_
         simp only [go_sem, hg29]
         refine b0j (fun hg30 => ?_) (fun hg30 => ?_)
         ·simp only [hg29, hg30, eq_self, if_true, Bool.or_true] at h_c28
          obtain rfl := sI9 h_c28
          simp only [go_sem, hg29, hg30]
          exact hK _ _ ⟨h.nx, s1, (by first | (simp only [go_sem]; done) | rfl), s77, s78, s79, (by first | (simp only [go_sem]; done) | rfl), (by simp only [go_sem]), (by simp only [go_sem])⟩
         ·simp only [hg29, hg30, if_false, Bool.or_false, Bool.false_eq_true] at h_c28
          obtain ⟨y27, h_y27, h_c28⟩ := b0g h_c28
          obtain rfl := sI9 h_c28
          simp only [go_sem, s1, hg29, hg30]
          refine b03 (c2d m x24.When _ h_y27) ?_
          simp only [go_sem, hg29, hg30]
          refine b0j (fun hg31 => ?_) (fun hg31 => ?_)
          ·simp only [go_sem, hg29, hg30, hg31]
           exact hK _ _ ⟨h.nx, s1, (by first | (simp only [go_sem]; done) | rfl), s77, s78, s79, (by first | (simp only [go_sem, hg31]; done) | rfl), (by simp only [go_sem]), (by simp only [go_sem])⟩
          ·simp only [go_sem, hg29, hg30, hg31]
           exact hK _ _ ⟨h.nx, s1, (by first | (simp only [go_sem]; done) | rfl), s77, s78, s79, (by first | (simp only [go_sem, hg31]; done) | rfl), (by simp only [go_sem]), (by simp only [go_sem])⟩
       ·rintro t h ⟨i8, s1, s8, s77, s78, s79, s113, Q1, Q4⟩
        refine b0i fun K32 hK32 => ?_
        simp only [go_sem, s113]
        refine b0j (fun hc33 => ?_) (fun hc33 => ?_)
        ·rw [b0q hc33] at hm1
         refine b0b fun K hK => ?_
         simp only [go_sem]
         refine hK _ _ ?_
         clear hK K
         simp only [b0x, b1n, b2b, b0y]
         obtain rfl := sI9 hm1
         obtain rfl := hb18 _ rfl
         try dsimp only at hm0
         obtain rfl := sI9 hm0
         exact b04 (by simp only [go_sem]) (b0e _)
        ·rw [b0p hc33] at hm1
         simp only [b0r, b0f]
         refine hK32 _ _ ?_
         refine b0v ?_
         refine b0b fun K hK => ?_
         simp only [go_sem, s8, Q1]
         refine hK _ _ ?_
         clear hK K
         refine b0i fun K34 hK34 => ?_
         have J35 : ∀ (t : Slots) (h : Heap), t 1 = .fp [.fs 1 (List.map eS m.Inputs), .fs 1 (List.map eS m.Outputs), .fs 2 (List.map b0m m.Counters), .fs 2 (List.map b0n m.States), .fs 4 (List.map b0k m.Rules)] 0 -> t 8 = .rp i8 0 0 -> t 77 = .fs 4 (List.map b0k m.Rules) -> t 78 = I (List.length m.Rules : Int) -> t 79 = I x_79 -> h.ob i8 = some (4, [[I x24.From, I x24.To, .fs 1 (List.map b0t x24.When), .fs 2 (List.map b2k x24.Sets)]]) -> i8 < h.nx -> c7i m x_79 x24 = some o -> K34 t h := by
          intro t h s1 s8 s77 s78 s79 Q1 Q4 hm1
          refine hK34 _ _ ?_
          unfold c7i at hm1
          refine b0b fun K hK => ?_
          simp only [go_sem, s8, Q1]
          refine hK _ _ ?_
          clear hK K
          simp only [b0u]
          obtain ⟨b36, hl36, hm1⟩ := b0g hm1
          refine b1l hl36 (fun | x_127, t, h => t 1 = .fp [.fs 1 (List.map eS m.Inputs), .fs 1 (List.map eS m.Outputs), .fs 2 (List.map b0m m.Counters), .fs 2 (List.map b0n m.States), .fs 4 (List.map b0k m.Rules)] 0 /\ t 77 = .fs 4 (List.map b0k m.Rules) /\ t 78 = I (List.length m.Rules : Int) /\ t 79 = I x_79 /\ t 125 = .fs 2 (List.map b2k x24.Sets) /\ t 126 = I (List.length x24.Sets : Int) /\ t 127 = I x_127) ?_ ?_
          ·exact ⟨s1, s77, s78, s79, (by first | (simp only [go_sem]; done) | rfl), (by first | (simp only [go_sem]; done) | rfl), (by first | (simp only [go_sem]; done) | rfl)⟩
          ·rintro x_127 o t h ⟨s1, s77, s78, s79, s125, s126, s127⟩ hm2 hb36
           simp only [c3p] at hm2
           rw [g2z]
           refine b0b fun K hK => ?_
           simp only [go_sem, s126, s127]
           refine hK _ _ ?_
           clear hK K
           refine b0i fun K37 hK37 => ?_
           simp only [go_sem]
           refine b0j (fun hc38 => ?_) (fun hc38 => ?_)
           ·rw [b0q hc38] at hm2
            simp only [b0r, b0f]
            refine hK37 _ _ ?_
            refine b0i fun K39 hK39 => ?_
            simp only [b0u]
            obtain ⟨x41, h_x41, hm2⟩ := b0g hm2
            have h_x410 := b06 h_x41
            have h_x411 := b07 h_x41
            refine b0b fun K hK => ?_
            simp only [go_sem, s125, s127, b1a h_x41, h_x411]
            refine hK _ _ ?_
            clear hK K
            refine b2z (fun t h => t 1 = .fp [.fs 1 (List.map eS m.Inputs), .fs 1 (List.map eS m.Outputs), .fs 2 (List.map b0m m.Counters), .fs 2 (List.map b0n m.States), .fs 4 (List.map b0k m.Rules)] 0 /\ t 77 = .fs 4 (List.map b0k m.Rules) /\ t 78 = I (List.length m.Rules : Int) /\ t 79 = I x_79 /\ t 125 = .fs 2 (List.map b2k x24.Sets) /\ t 126 = I (List.length x24.Sets : Int) /\ t 127 = I x_127 /\ t 144 = B ((!(b2m x41.Kind 1 3)) || (!(b2m x41.Counter 0 (wr ((List.length m.Counters : Int) - 1)))))) (fun K hK => ?_) ?_
            ·simp only [go_sem]
             refine b03 (b4g x41.Kind 1 3) ?_
             simp only [go_sem]
             refine b0j (fun hg42 => ?_) (fun hg42 => ?_)
             ·simp only [go_sem, hg42]
              exact hK _ _ ⟨s1, s77, s78, s79, s125, s126, s127, (by first | (simp only [go_sem, hg42]; done) | rfl)⟩
             ·simp only [go_sem, s1, hg42]
              refine b03 (b4g x41.Counter 0 (wr ((List.length m.Counters : Int) - 1))) ?_
              simp only [go_sem, hg42]
              exact hK _ _ ⟨s1, s77, s78, s79, s125, s126, s127, (by first | (simp only [go_sem, hg42]; done) | rfl)⟩
            ·rintro t h ⟨s1, s77, s78, s79, s125, s126, s127, s144⟩
             simp only [go_sem, s144]
             refine b0j (fun hc43 => ?_) (fun hc43 => ?_)
             ·rw [b0q hc43] at hm2
              refine b0b fun K hK => ?_
              simp only [go_sem]
              refine hK _ _ ?_
              clear hK K
              simp only [b0x, b1n, b2b, b0y]
              obtain rfl := sI9 hm2
              obtain rfl := hb36 _ rfl
              try dsimp only at hm1
              obtain rfl := sI9 hm1
              obtain rfl := hb18 _ rfl
              try dsimp only at hm0
              obtain rfl := sI9 hm0
              exact b04 (by simp only [go_sem]) (b0e _)
             ·rw [b0p hc43] at hm2
              simp only [b0r, b01, b0f]
              refine hK39 _ _ ?_
              refine b02 fun K hK => ?_
              simp only [go_sem, s127]
              refine hK _ _ ?_
              clear hK K
              simp only [b0f]
              obtain rfl := sI9 hm2
              refine ⟨_, rfl, ?_⟩
              exact ⟨s1, s77, s78, s79, s125, s126, (by first | (simp only [go_sem]; done) | rfl)⟩
           ·rw [b0p hc38] at hm2
            simp only [b1b, b1e, b1d, b01, b0f]
            obtain rfl := sI9 hm2
            obtain rfl := hb36 _ rfl
            try dsimp only at hm1
            exact J22  _ _ s1 s77 s78 s79 hm1
         simp only [b0u]
         obtain ⟨b45, hl45, hm1⟩ := b0g hm1
         refine b1l hl45 (fun | x_117, t, h => t 1 = .fp [.fs 1 (List.map eS m.Inputs), .fs 1 (List.map eS m.Outputs), .fs 2 (List.map b0m m.Counters), .fs 2 (List.map b0n m.States), .fs 4 (List.map b0k m.Rules)] 0 /\ t 8 = .rp i8 0 0 /\ t 77 = .fs 4 (List.map b0k m.Rules) /\ t 78 = I (List.length m.Rules : Int) /\ t 79 = I x_79 /\ t 115 = .fs 1 (List.map b0t x24.When) /\ t 116 = I (List.length x24.When : Int) /\ t 117 = I x_117 /\ h.ob i8 = some (4, [[I x24.From, I x24.To, .fs 1 (List.map b0t x24.When), .fs 2 (List.map b2k x24.Sets)]]) /\ i8 < h.nx) ?_ ?_
         ·exact ⟨s1, s8, s77, s78, s79, (by first | (simp only [go_sem]; done) | rfl), (by first | (simp only [go_sem]; done) | rfl), (by first | (simp only [go_sem]; done) | rfl), Q1, Q4⟩
         ·rintro x_117 o t h ⟨s1, s8, s77, s78, s79, s115, s116, s117, Q1, Q4⟩ hm2 hb45
          simp only [c3o] at hm2
          rw [g2y]
          refine b0b fun K hK => ?_
          simp only [go_sem, s116, s117]
          refine hK _ _ ?_
          clear hK K
          refine b0i fun K46 hK46 => ?_
          simp only [go_sem]
          refine b0j (fun hc47 => ?_) (fun hc47 => ?_)
          ·rw [b0q hc47] at hm2
           simp only [b0r, b0f]
           refine hK46 _ _ ?_
           refine b0i fun K48 hK48 => ?_
           simp only [b0u]
           obtain ⟨x50, h_x50, hm2⟩ := b0g hm2
           have h_x500 := b06 h_x50
           have h_x501 := b07 h_x50
           refine b0b fun K hK => ?_
           simp only [go_sem, s115, s117, b1a h_x50, h_x501]
           refine hK _ _ ?_
           clear hK K
           obtain ⟨y54, h_y54, hm2⟩ := b0g hm2
           refine b0b fun K hK => ?_
           simp only [go_sem]
           refine b03 (b8i x50 "newel/situation.Check$1" [] [] (fun z53 => some (b7k z53)) (.fn _ _ _ b0l b0l) (fun z0 y hz => by cases hz; exact d17 z0) _ h_y54) ?_
           simp only [go_sem]
           refine hK _ _ ?_
           clear hK K
           simp only [go_sem]
           refine b0j (fun hc55 => ?_) (fun hc55 => ?_)
           ·rw [b0q hc55] at hm2
            refine b0b fun K hK => ?_
            simp only [go_sem]
            refine hK _ _ ?_
            clear hK K
            simp only [b0x, b1n, b2b, b0y]
            obtain rfl := sI9 hm2
            obtain rfl := hb45 _ rfl
            try dsimp only at hm1
            obtain rfl := sI9 hm1
            obtain rfl := hb18 _ rfl
            try dsimp only at hm0
            obtain rfl := sI9 hm0
            exact b04 (by simp only [go_sem]) (b0e _)
           ·rw [b0p hc55] at hm2
            simp only [b0r, b01, b0f]
            refine hK48 _ _ ?_
            refine b02 fun K hK => ?_
            simp only [go_sem, s117]
            refine hK _ _ ?_
            clear hK K
            simp only [b0f]
            obtain rfl := sI9 hm2
            refine ⟨_, rfl, ?_⟩
            exact ⟨s1, s8, s77, s78, s79, s115, s116, (by first | (simp only [go_sem]; done) | rfl), Q1, Q4⟩
          ·rw [b0p hc47] at hm2
           simp only [b1b, b1e, b1d, b0f]
           obtain rfl := sI9 hm2
           obtain rfl := hb45 _ rfl
           try dsimp only at hm1
           exact J35  _ _ s1 s8 s77 s78 s79 Q1 Q4 hm1
      ·rw [b0p hc20] at hm1
       simp only [b1b, b1e, b1d, b0f]
       obtain rfl := sI9 hm1
       obtain rfl := hb18 _ rfl
       try dsimp only at hm0
       exact J17  _ _  hm0
    simp only [b0u]
    obtain ⟨b58, hl58, hm0⟩ := b0g hm0
    refine b1l hl58 (fun | x_62, t, h => t 1 = .fp [.fs 1 (List.map eS m.Inputs), .fs 1 (List.map eS m.Outputs), .fs 2 (List.map b0m m.Counters), .fs 2 (List.map b0n m.States), .fs 4 (List.map b0k m.Rules)] 0 /\ t 60 = .fs 2 (List.map b0n m.States) /\ t 61 = I (List.length m.States : Int) /\ t 62 = I x_62) ?_ ?_
    ·exact ⟨s1, (by first | (simp only [go_sem]; done) | rfl), (by first | (simp only [go_sem]; done) | rfl), (by first | (simp only [go_sem]; done) | rfl)⟩
    ·rintro x_62 o t h ⟨s1, s60, s61, s62⟩ hm1 hb58
     simp only [c3n] at hm1
     rw [g2x]
     refine b0b fun K hK => ?_
     simp only [go_sem, s61, s62]
     refine hK _ _ ?_
     clear hK K
     refine b0i fun K59 hK59 => ?_
     simp only [go_sem]
     refine b0j (fun hc60 => ?_) (fun hc60 => ?_)
     ·rw [b0q hc60] at hm1
      simp only [b0r, b0f]
      refine hK59 _ _ ?_
      refine b0i fun K61 hK61 => ?_
      simp only [b0u]
      obtain ⟨x63, h_x63, hm1⟩ := b0g hm1
      have h_x630 := b06 h_x63
      have h_x631 := b07 h_x63
      refine b0b fun K hK => ?_
      simp only [go_sem, s60, s62, b1a h_x63, h_x631]
      refine hK _ _ ?_
      clear hK K
      obtain ⟨q65, h_q65, hm1⟩ := b0g hm1
      refine b0b fun K hK => ?_
      simp only [go_sem, s1, b8g h_q65]
      refine b03 (b4g x63.Shows 0 (wr (q65 - 1))) ?_
      simp only [go_sem]
      refine hK _ _ ?_
      clear hK K
      simp only [go_sem]
      refine b0j (fun hc66 => ?_) (fun hc66 => ?_)
      ·rw [b0q hc66] at hm1
       refine b0b fun K hK => ?_
       simp only [go_sem]
       refine hK _ _ ?_
       clear hK K
       simp only [b0x, b1n, b2b, b0y]
       obtain rfl := sI9 hm1
       obtain rfl := hb58 _ rfl
       try dsimp only at hm0
       obtain rfl := sI9 hm0
       exact b04 (by simp only [go_sem]) (b0e _)
      ·rw [b0p hc66] at hm1
       simp only [b0r, b01, b0f]
       refine hK61 _ _ ?_
       refine b02 fun K hK => ?_
       simp only [go_sem, s62]
       refine hK _ _ ?_
       clear hK K
       simp only [b0f]
       obtain rfl := sI9 hm1
       refine ⟨_, rfl, ?_⟩
       exact ⟨s1, s60, s61, (by first | (simp only [go_sem]; done) | rfl)⟩
     ·rw [b0p hc60] at hm1
      simp only [b1b, b1e, b1d, b0f]
      obtain rfl := sI9 hm1
      obtain rfl := hb58 _ rfl
      try dsimp only at hm0
      exact J15  _ _ s1 hm0
   simp only [b0u]
   obtain ⟨b68, hl68, hm0⟩ := b0g hm0
   refine b1l hl68 (fun | x_50, t, h => t 1 = .fp [.fs 1 (List.map eS m.Inputs), .fs 1 (List.map eS m.Outputs), .fs 2 (List.map b0m m.Counters), .fs 2 (List.map b0n m.States), .fs 4 (List.map b0k m.Rules)] 0 /\ t 48 = .fs 2 (List.map b0m m.Counters) /\ t 49 = I (List.length m.Counters : Int) /\ t 50 = I x_50) ?_ ?_
   ·exact ⟨s1, (by first | (simp only [go_sem]; done) | rfl), (by first | (simp only [go_sem]; done) | rfl), (by first | (simp only [go_sem]; done) | rfl)⟩
   ·rintro x_50 o t h ⟨s1, s48, s49, s50⟩ hm1 hb68
    simp only [c3q] at hm1
    rw [g21]
    refine b0b fun K hK => ?_
    simp only [go_sem, s49, s50]
    refine hK _ _ ?_
    clear hK K
    refine b0i fun K69 hK69 => ?_
    simp only [go_sem]
    refine b0j (fun hc70 => ?_) (fun hc70 => ?_)
    ·rw [b0q hc70] at hm1
     simp only [b0r, b0f]
     refine hK69 _ _ ?_
     refine b0i fun K71 hK71 => ?_
     simp only [b0u]
     obtain ⟨x73, h_x73, hm1⟩ := b0g hm1
     have h_x730 := b06 h_x73
     have h_x731 := b07 h_x73
     refine b0b fun K hK => ?_
     simp only [go_sem, s48, s50, b1a h_x73, h_x731]
     refine hK _ _ ?_
     clear hK K
     refine b0b fun K hK => ?_
     simp only [go_sem]
     refine b03 (b4g x73.Max 1 7) ?_
     simp only [go_sem]
     refine hK _ _ ?_
     clear hK K
     simp only [go_sem]
     refine b0j (fun hc74 => ?_) (fun hc74 => ?_)
     ·rw [b0q hc74] at hm1
      refine b0b fun K hK => ?_
      simp only [go_sem]
      refine hK _ _ ?_
      clear hK K
      simp only [b0x, b1n, b2b, b0y]
      obtain rfl := sI9 hm1
      obtain rfl := hb68 _ rfl
      try dsimp only at hm0
      obtain rfl := sI9 hm0
      exact b04 (by simp only [go_sem]) (b0e _)
     ·rw [b0p hc74] at hm1
      simp only [b0r, b01, b0f]
      refine hK71 _ _ ?_
      refine b02 fun K hK => ?_
      simp only [go_sem, s50]
      refine hK _ _ ?_
      clear hK K
      simp only [b0f]
      obtain rfl := sI9 hm1
      refine ⟨_, rfl, ?_⟩
      exact ⟨s1, s48, s49, (by first | (simp only [go_sem]; done) | rfl)⟩
    ·rw [b0p hc70] at hm1
     simp only [b1b, b1e, b1d, b0f]
     obtain rfl := sI9 hm1
     obtain rfl := hb68 _ rfl
     try dsimp only at hm0
     exact J13  _ _ s1 hm0
theorem d18 (hf : Has O "newel/situation.Plain" x_situation_Plain) : c88 O := by
 intro word r hm0
 unfold c3r at hm0
 refine b1h hf rfl (b0a (b0e _) b0l) (b0e _) ?_
 refine b1f (fun t h => t 0 = .v (.string word)) rfl fun t h s0 => ?_
 simp only [x_situation_Plain]
 refine b0b fun K hK => ?_
 simp only [go_sem]
 refine hK _ _ ?_
 clear hK K
 refine b0v ?_
 refine b0b fun K hK => ?_
 simp only [go_sem, s0]
 refine j3t (O := O) ?_
 simp only [go_sem]
 refine hK _ _ ?_
 clear hK K
 refine b0i fun K1 hK1 => ?_
 have J2 : ∀ (t : Slots) (h : Heap), t 0 = .v (.string word) -> d3u word = some r -> K1 t h := by
  intro t h s0 hm0
  refine hK1 _ _ ?_
  unfold d3u at hm0
  refine b0b fun K hK => ?_
  simp only [go_sem, s0]
  refine hK _ _ ?_
  clear hK K
  simp only [b0x, b0y]
  obtain rfl := sI9 hm0
  exact b04 (by simp only [go_sem]) (b0e _)
 simp only [b0u]
 obtain ⟨b3, hl3, hm0⟩ := b0g hm0
 refine b1l hl3 (fun | x_8, t, h => t 0 = .v (.string word) /\ t 6 = .fs 1 (List.map c1t (b3i word)) /\ t 7 = I (List.length (b3i word) : Int) /\ t 8 = I x_8) ?_ ?_
 ·exact ⟨s0, (by first | (simp only [go_sem]; done) | rfl), (by first | (simp only [go_sem]; done) | rfl), (by first | (simp only [go_sem]; done) | rfl)⟩
 ·rintro x_8 o t h ⟨s0, s6, s7, s8⟩ hm1 hb3
  simp only [c3s] at hm1
  rw [g22]
  refine b0b fun K hK => ?_
  simp only [go_sem, s7, s8]
  refine hK _ _ ?_
  clear hK K
  refine b0i fun K4 hK4 => ?_
  simp only [go_sem]
  refine b0j (fun hc5 => ?_) (fun hc5 => ?_)
  ·rw [b0q hc5] at hm1
   simp only [b0r, b0f]
   refine hK4 _ _ ?_
   refine b0i fun K6 hK6 => ?_
   simp only [b0u]
   obtain ⟨x8, h_x8, hm1⟩ := b0g hm1
   have h_x80 := b06 h_x8
   have h_x81 := b07 h_x8
   refine b0b fun K hK => ?_
   simp only [go_sem, s6, s8, b1a h_x8, h_x81]
   refine hK _ _ ?_
   clear hK K
   refine b2z (fun t h => t 0 = .v (.string word) /\ t 6 = .fs 1 (List.map c1t (b3i word)) /\ t 7 = I (List.length (b3i word) : Int) /\ t 8 = I x_8 /\ t 17 = B ((decide (x8 < 97)) || (decide (122 < x8)))) (fun K hK => ?_) ?_
   ·simp only [go_sem]
    refine b0j (fun hg9 => ?_) (fun hg9 => ?_)
    ·simp only [go_sem, hg9]
     exact hK _ _ ⟨s0, s6, s7, s8, (by first | (simp only [go_sem, hg9]; done) | rfl)⟩
    ·simp only [go_sem, hg9]
     exact hK _ _ ⟨s0, s6, s7, s8, (by first | (simp only [go_sem, hg9]; done) | rfl)⟩
   ·rintro t h ⟨s0, s6, s7, s8, s17⟩
    simp only [go_sem, s17]
    refine b0j (fun hc10 => ?_) (fun hc10 => ?_)
    ·rw [b0q hc10] at hm1
     refine b0b fun K hK => ?_
     simp only [go_sem]
     refine hK _ _ ?_
     clear hK K
     simp only [b0x, b1n, b2b, b0y]
     obtain rfl := sI9 hm1
     obtain rfl := hb3 _ rfl
     try dsimp only at hm0
     obtain rfl := sI9 hm0
     exact b04 (by simp only [go_sem]) (b0e _)
    ·rw [b0p hc10] at hm1
     simp only [b0r, b01, b0f]
     refine hK6 _ _ ?_
     refine b02 fun K hK => ?_
     simp only [go_sem, s8]
     refine hK _ _ ?_
     clear hK K
     simp only [b0f]
     obtain rfl := sI9 hm1
     refine ⟨_, rfl, ?_⟩
     exact ⟨s0, s6, s7, (by first | (simp only [go_sem]; done) | rfl)⟩
  ·rw [b0p hc5] at hm1
   simp only [b1b, b1e, b1d, b0f]
   obtain rfl := sI9 hm1
   obtain rfl := hb3 _ rfl
   try dsimp only at hm0
   exact J2  _ _ s0 hm0
theorem d19 (hf : Has O "newel/situation.Reserved" x_situation_Reserved) : c89 O := by
 intro word
 generalize hm0 : b80 word = r
 unfold b80 at hm0
 refine b1h hf rfl (b0a (b0e _) b0l) (b0e _) ?_
 refine b1f (fun t h => t 0 = .v (.string word)) rfl fun t h s0 => ?_
 simp only [x_situation_Reserved]
 refine b0b fun K hK => ?_
 simp only [go_sem]
 refine hK _ _ ?_
 clear hK K
 refine b0v ?_
 refine b0b fun K hK => ?_
 simp only [go_sem, s0]
 refine hK _ _ ?_
 clear hK K
 refine b0i fun K1 hK1 => ?_
 simp only [b0u]
 refine b0v ?_
 refine b0b fun K hK => ?_
 simp only [go_sem]
 refine hK _ _ ?_
 clear hK K
 refine b0i fun K2 hK2 => ?_
 have J3 : ∀ (x_4 : Bool) (t : Slots) (h : Heap), t 4 = B x_4 -> b5p x_4 = r -> K2 t h := by
  intro x_4 t h s4 hm0
  refine hK2 _ _ ?_
  unfold b5p at hm0
  simp only [go_sem, s4]
  refine b0j (fun hc4 => ?_) (fun hc4 => ?_)
  ·rw [b0q hc4] at hm0
   refine b0b fun K hK => ?_
   simp only [go_sem]
   refine hK _ _ ?_
   clear hK K
   simp only [b0x, b1n, b2b, b0y]
   obtain rfl := hm0
   exact b04 (by simp only [go_sem]) (b0e _)
  ·rw [b0p hc4] at hm0
   simp only [b0r, b01, b0f]
   refine hK1 _ _ ?_
   refine b0b fun K hK => ?_
   simp only [go_sem]
   refine hK _ _ ?_
   clear hK K
   simp only [b0x, b0y]
   obtain rfl := hm0
   exact b04 (by simp only [go_sem]) (b0e _)
 simp only [go_sem]
 refine b0j (fun hc5 => ?_) (fun hc5 => ?_)
 ·rw [b0q hc5] at hm0
  simp only [b0r, b0f]
  exact J3 (decide (word = (ByteArray.mk #[97, 110, 121]))) _ _ (by first | (simp only [go_sem]; done) | rfl) hm0
 ·rw [b0p hc5] at hm0
  refine b0b fun K hK => ?_
  simp only [go_sem]
  refine hK _ _ ?_
  clear hK K
  simp only [go_sem]
  refine b0j (fun hc6 => ?_) (fun hc6 => ?_)
  ·rw [b0q hc6] at hm0
   simp only [b0r, b0f]
   exact J3 (decide (word = (ByteArray.mk #[116, 111]))) _ _ (by first | (simp only [go_sem]; done) | rfl) hm0
  ·rw [b0p hc6] at hm0
   refine b0b fun K hK => ?_
   simp only [go_sem]
   refine hK _ _ ?_
   clear hK K
   simp only [go_sem]
   refine b0j (fun hc7 => ?_) (fun hc7 => ?_)
   ·rw [b0q hc7] at hm0
    simp only [b0r, b0f]
    exact J3 (decide (word = (ByteArray.mk #[122, 101, 114, 111]))) _ _ (by first | (simp only [go_sem]; done) | rfl) hm0
   ·rw [b0p hc7] at hm0
    refine b0b fun K hK => ?_
    simp only [go_sem]
    refine hK _ _ ?_
    clear hK K
    simp only [go_sem]
    refine b0j (fun hc8 => ?_) (fun hc8 => ?_)
    ·rw [b0q hc8] at hm0
     simp only [b0r, b0f]
     exact J3 (decide (word = (ByteArray.mk #[109, 111, 114, 101]))) _ _ (by first | (simp only [go_sem]; done) | rfl) hm0
    ·rw [b0p hc8] at hm0
     refine b0b fun K hK => ?_
     simp only [go_sem]
     refine hK _ _ ?_
     clear hK K
     simp only [go_sem]
     refine b0j (fun hc9 => ?_) (fun hc9 => ?_)
     ·rw [b0q hc9] at hm0
      simp only [b0r, b0f]
      exact J3 (decide (word = (ByteArray.mk #[108, 101, 115, 115]))) _ _ (by first | (simp only [go_sem]; done) | rfl) hm0
     ·rw [b0p hc9] at hm0
      refine b0b fun K hK => ?_
      simp only [go_sem]
      refine hK _ _ ?_
      clear hK K
      simp only [go_sem]
      refine b0j (fun hc10 => ?_) (fun hc10 => ?_)
      ·rw [b0q hc10] at hm0
       simp only [b0r, b0f]
       exact J3 (decide (word = (ByteArray.mk #[105, 102]))) _ _ (by first | (simp only [go_sem]; done) | rfl) hm0
      ·rw [b0p hc10] at hm0
       refine b0b fun K hK => ?_
       simp only [go_sem]
       refine hK _ _ ?_
       clear hK K
       simp only [go_sem]
       refine b0j (fun hc11 => ?_) (fun hc11 => ?_)
       ·rw [b0q hc11] at hm0
        simp only [b0r, b0f]
        exact J3 (decide (word = (ByteArray.mk #[121, 101, 115]))) _ _ (by first | (simp only [go_sem]; done) | rfl) hm0
       ·rw [b0p hc11] at hm0
        refine b02 fun K hK => ?_
        simp only [go_sem]
        refine hK _ _ ?_
        clear hK K
        simp only [b0f]
        exact J3 (decide (word = (ByteArray.mk #[110, 111]))) _ _ (by first | (simp only [go_sem]; done) | rfl) hm0
theorem d2a (hf : Has O "newel/situation.asks" x_situation_asks) (b4g : c37 O) : c9a O := by
 intro m x r hm0
 unfold c3t at hm0
 refine b1h hf rfl (b0a (.agg _ (b0a (b0c fun a _ => b00 a) (b0a (b0c fun a _ => b00 a) (b0a (b0c fun a _ => b1r a) (b0a (b0c fun a _ => b1t a) (b0a (b0c fun a _ => b1s a) b0l)))))) (b0a (.agg _ (b0a (b0e _) (b0a (b0e _) (b0a (b0e _) (b0a (b0e _) b0l))))) b0l)) (b0e _) ?_
 refine b1f (fun t h => t 0 = .agg [.fs 1 (List.map eS m.Inputs), .fs 1 (List.map eS m.Outputs), .fs 2 (List.map b0m m.Counters), .fs 2 (List.map b0n m.States), .fs 4 (List.map b0k m.Rules)] /\ t 1 = .agg [I x.Kind, I x.Number, I x.Value, B x.Not]) ⟨rfl, rfl⟩ fun t h ⟨s0, s1⟩ => ?_
 simp only [x_situation_asks]
 refine b0b fun K hK => ?_
 simp only [go_sem, s0, s1]
 refine hK _ _ ?_
 clear hK K
 refine b0v ?_
 refine b0b fun K hK => ?_
 simp only [go_sem]
 refine hK _ _ ?_
 clear hK K
 refine b0i fun K1 hK1 => ?_
 simp only [b0u]
 refine b0b fun K hK => ?_
 simp only [go_sem]
 refine hK _ _ ?_
 clear hK K
 simp only [go_sem]
 refine b0j (fun hc2 => ?_) (fun hc2 => ?_)
 ·rw [b0q hc2] at hm0
  refine b2z (fun t h => t 4 = B ((b2m x.Number 0 (wr ((List.length m.Inputs : Int) - 1))) && (decide (x.Value = 0)))) (fun K hK => ?_) ?_
  ·simp only [go_sem]
   refine b03 (b4g x.Number 0 (wr ((List.length m.Inputs : Int) - 1))) ?_
   simp only [go_sem]
   refine b0j (fun hg3 => ?_) (fun hg3 => ?_)
   ·simp only [go_sem, hg3]
    exact hK _ _ (by first | (simp only [go_sem, hg3]; done) | rfl)
   ·simp only [go_sem, hg3]
    exact hK _ _ (by first | (simp only [go_sem, hg3]; done) | rfl)
  ·rintro t h s4
   simp only [b0x, b1n, b2b, b0y]
   obtain rfl := sI9 hm0
   exact b04 (by simp only [go_sem, s4]) (b0e _)
 ·rw [b0p hc2] at hm0
  refine b0b fun K hK => ?_
  simp only [go_sem]
  refine hK _ _ ?_
  clear hK K
  simp only [go_sem]
  refine b0j (fun hc4 => ?_) (fun hc4 => ?_)
  ·rw [b0q hc4] at hm0
   obtain ⟨c8, h_c8, hm0⟩ := b0g hm0
   refine b2z (fun t h => t 4 = B c8) (fun K hK => ?_) ?_
   ·simp only [go_sem]
    refine b03 (b4g x.Number 0 (wr ((List.length m.Counters : Int) - 1))) ?_
    simp only [go_sem]
    refine b0j (fun hg9 => ?_) (fun hg9 => ?_)
    ·simp only [hg9, eq_self, if_true] at h_c8
     obtain ⟨x7, h_x7, h_c8⟩ := b0g h_c8
     have h_x70 := b06 h_x7
     have h_x71 := b07 h_x7
     obtain rfl := sI9 h_c8
     simp only [go_sem, b1a h_x7, hg9]
     refine b03 (b4g x.Value 0 x7.Max) ?_
     simp only [go_sem, hg9]
     exact hK _ _ (by first | (simp only [go_sem]; done) | rfl)
    ·simp only [hg9, if_false, Bool.false_eq_true] at h_c8
     obtain rfl := sI9 h_c8
     simp only [go_sem, hg9]
     exact hK _ _ (by first | (simp only [go_sem]; done) | rfl)
   ·rintro t h s4
    simp only [b0x, b1n, b2b, b0y]
    obtain rfl := sI9 hm0
    exact b04 (by simp only [go_sem, s4]) (b0e _)
  ·rw [b0p hc4] at hm0
   refine b0b fun K hK => ?_
   simp only [go_sem]
   refine hK _ _ ?_
   clear hK K
   simp only [go_sem]
   refine b0j (fun hc10 => ?_) (fun hc10 => ?_)
   ·rw [b0q hc10] at hm0
    refine b2z (fun t h => t 4 = B ((b2m x.Number 0 (wr ((List.length m.States : Int) - 1))) && (decide (x.Value = 0)))) (fun K hK => ?_) ?_
    ·simp only [go_sem]
     refine b03 (b4g x.Number 0 (wr ((List.length m.States : Int) - 1))) ?_
     simp only [go_sem]
     refine b0j (fun hg11 => ?_) (fun hg11 => ?_)
     ·simp only [go_sem, hg11]
      exact hK _ _ (by first | (simp only [go_sem, hg11]; done) | rfl)
     ·simp only [go_sem, hg11]
      exact hK _ _ (by first | (simp only [go_sem, hg11]; done) | rfl)
    ·rintro t h s4
     simp only [b0x, b1n, b2b, b0y]
     obtain rfl := sI9 hm0
     exact b04 (by simp only [go_sem, s4]) (b0e _)
   ·rw [b0p hc10] at hm0
    refine b0b fun K hK => ?_
    simp only [go_sem]
    refine hK _ _ ?_
    clear hK K
    simp only [go_sem]
    refine b0j (fun hc12 => ?_) (fun hc12 => ?_)
    ·rw [b0q hc12] at hm0
     refine b2z (fun t h => t 4 = B ((b2m x.Number 0 (wr ((List.length m.Outputs : Int) - 1))) && (decide (x.Value = 0)))) (fun K hK => ?_) ?_
     ·simp only [go_sem]
      refine b03 (b4g x.Number 0 (wr ((List.length m.Outputs : Int) - 1))) ?_
      simp only [go_sem]
      refine b0j (fun hg13 => ?_) (fun hg13 => ?_)
      ·simp only [go_sem, hg13]
       exact hK _ _ (by first | (simp only [go_sem, hg13]; done) | rfl)
      ·simp only [go_sem, hg13]
       exact hK _ _ (by first | (simp only [go_sem, hg13]; done) | rfl)
     ·rintro t h s4
      simp only [b0x, b1n, b2b, b0y]
      obtain rfl := sI9 hm0
      exact b04 (by simp only [go_sem, s4]) (b0e _)
    ·rw [b0p hc12] at hm0
     simp only [b0r, b01, b0f]
     refine hK1 _ _ ?_
     refine b0b fun K hK => ?_
     simp only [go_sem]
     refine hK _ _ ?_
     clear hK K
     simp only [b0x, b0y]
     obtain rfl := sI9 hm0
     exact b04 (by simp only [go_sem]) (b0e _)
theorem d2b (hf : Has O "newel/situation.named" x_situation_named) (d2c : c9c O) (d18 : c88 O) (d19 : c89 O) : c9b O := by
 intro m r hm0
 unfold c3u at hm0
 refine b1h hf rfl (b0a (.agg _ (b0a (b0c fun a _ => b00 a) (b0a (b0c fun a _ => b00 a) (b0a (b0c fun a _ => b1r a) (b0a (b0c fun a _ => b1t a) (b0a (b0c fun a _ => b1s a) b0l)))))) b0l) (b0e _) ?_
 refine b1f (fun t h => t 0 = .agg [.fs 1 (List.map eS m.Inputs), .fs 1 (List.map eS m.Outputs), .fs 2 (List.map b0m m.Counters), .fs 2 (List.map b0n m.States), .fs 4 (List.map b0k m.Rules)]) rfl fun t h s0 => ?_
 simp only [x_situation_named]
 refine b0b fun K hK => ?_
 simp only [go_sem, s0]
 refine hK _ _ ?_
 clear hK K
 refine b0b fun K hK => ?_
 simp only [go_sem]
 refine d8d (O := O) (e := List.map (eM vS vI) ([] : List (ByteArray × Int))) rfl ?_
 simp only [go_sem]
 refine hK _ _ ?_
 clear hK K
 refine b0v ?_
 obtain ⟨y2, h_y2, hm0⟩ := b0g hm0
 refine b0b fun K hK => ?_
 simp only [go_sem]
 refine b03 (d2c m _ h_y2) ?_
 simp only [go_sem]
 refine hK _ _ ?_
 clear hK K
 refine b0i fun K3 hK3 => ?_
 have J4 : ∀ (t : Slots) (h : Heap), d3v = some r -> K3 t h := by
  intro t h hm0
  refine hK3 _ _ ?_
  unfold d3v at hm0
  refine b0b fun K hK => ?_
  simp only [go_sem]
  refine hK _ _ ?_
  clear hK K
  simp only [b0x, b0y]
  obtain rfl := sI9 hm0
  exact b04 (by simp only [go_sem]) (b0e _)
 simp only [b0u]
 obtain ⟨b5, hl5, hm0⟩ := b0g hm0
 refine b1l hl5 (fun | (seen_3, x_10), t, h => ∃ i3 : Nat, t 3 = .mp i3 /\ t 8 = .fs 1 (List.map eS y2) /\ t 9 = I (List.length y2 : Int) /\ t 10 = I x_10 /\ h.ob i3 = some (0, List.map (eM vS vI) seen_3) /\ i3 < h.nx) ?_ ?_
 ·exact ⟨h.nx, (by first | (simp only [go_sem]; done) | rfl), (by first | (simp only [go_sem]; done) | rfl), (by first | (simp only [go_sem]; done) | rfl), (by first | (simp only [go_sem]; done) | rfl), (by simp only [go_sem]), (by simp only [go_sem])⟩
 ·rintro ⟨seen_3, x_10⟩ o t h ⟨i3, s3, s8, s9, s10, Q3, Q0⟩ hm1 hb5
  simp only [c0r] at hm1
  rw [g23]
  refine b0b fun K hK => ?_
  simp only [go_sem, s9, s10]
  refine hK _ _ ?_
  clear hK K
  refine b0i fun K6 hK6 => ?_
  simp only [go_sem]
  refine b0j (fun hc7 => ?_) (fun hc7 => ?_)
  ·rw [b0q hc7] at hm1
   simp only [b0r, b0f]
   refine hK6 _ _ ?_
   refine b0i fun K8 hK8 => ?_
   simp only [b0u]
   obtain ⟨x10, h_x10, hm1⟩ := b0g hm1
   have h_x100 := b06 h_x10
   have h_x101 := b07 h_x10
   refine b0b fun K hK => ?_
   simp only [go_sem, s8, s10, b1a h_x10, h_x101]
   refine hK _ _ ?_
   clear hK K
   refine b0b fun K hK => ?_
   simp only [go_sem, s3]
   refine d8c (O := O) (fk := vS) (fv := vI) (l := seen_3) (x := x10) (z := 0) d9s d2m ?_ ?_ ?_
   ·rfl
   ·simp only [go_sem, Q3]
   simp only [go_sem]
   refine d00 (O := O) (fk := vS) (fv := vI) (l := seen_3) (x := x10) (v := (wr ((b2q seen_3 x10 0) + 1))) j58 d2m ?_ ?_ ?_
   ·rfl
   ·simp only [go_sem, Q3]
   simp only [go_sem]
   refine hK _ _ ?_
   clear hK K
   obtain ⟨y12, h_y12, hm1⟩ := b0g hm1
   refine b2z (fun t h => t 3 = .mp i3 /\ t 8 = .fs 1 (List.map eS y2) /\ t 9 = I (List.length y2 : Int) /\ t 10 = I x_10 /\ t 35 = B ((((!y12) || (decide (8 < (ByteArray.size x10 : Int)))) || (b80 x10)) || (decide (1 < (b2q (b3p seen_3 x10 (wr ((b2q seen_3 x10 0) + 1))) x10 0)))) /\ h.ob i3 = some (0, List.map (eM vS vI) (b3p seen_3 x10 (wr ((b2q seen_3 x10 0) + 1)))) /\ i3 < h.nx) (fun K hK => ?_) ?_
   ·simp only [go_sem]
    refine b03 (d18 x10 _ h_y12) ?_
    simp only [go_sem]
    refine b0j (fun hg13 => ?_) (fun hg13 => ?_)
    ·simp only [go_sem, hg13]
     exact hK _ _ ⟨s3, s8, s9, s10, (by first | (simp only [go_sem, hg13]; done) | rfl), (by simp only [go_sem]), (by simp only [go_sem, Q0])⟩
    ·simp only [go_sem, hg13]
     refine b0j (fun hg14 => ?_) (fun hg14 => ?_)
     ·simp only [go_sem, hg13, hg14]
      exact hK _ _ ⟨s3, s8, s9, s10, (by first | (simp only [go_sem, hg13, hg14]; done) | rfl), (by simp only [go_sem]), (by simp only [go_sem, Q0])⟩
     ·simp only [go_sem, hg13, hg14]
      refine b03 (d19 x10) ?_
      simp only [go_sem, hg13, hg14]
      refine b0j (fun hg15 => ?_) (fun hg15 => ?_)
      ·simp only [go_sem, hg13, hg14, hg15]
       exact hK _ _ ⟨s3, s8, s9, s10, (by first | (simp only [go_sem, hg13, hg14, hg15]; done) | rfl), (by simp only [go_sem]), (by simp only [go_sem, Q0])⟩
      ·simp only [go_sem, s3, hg13, hg14, hg15]
       refine d8c (O := O) (fk := vS) (fv := vI) (l := (b3p seen_3 x10 (wr ((b2q seen_3 x10 0) + 1)))) (x := x10) (z := 0) d9s d2m ?_ ?_ ?_
       ·rfl
       ·simp only [go_sem]
       simp only [go_sem, hg13, hg14, hg15]
       exact hK _ _ ⟨s3, s8, s9, s10, (by first | (simp only [go_sem, hg13, hg14, hg15]; done) | rfl), (by simp only [go_sem]), (by simp only [go_sem, Q0])⟩
   ·rintro t h ⟨s3, s8, s9, s10, s35, Q3, Q0⟩
    simp only [go_sem, s35]
    refine b0j (fun hc16 => ?_) (fun hc16 => ?_)
    ·rw [b0q hc16] at hm1
     refine b0b fun K hK => ?_
     simp only [go_sem]
     refine hK _ _ ?_
     clear hK K
     simp only [b0x, b1n, b2b, b0y]
     obtain rfl := sI9 hm1
     obtain rfl := hb5 _ rfl
     try dsimp only at hm0
     obtain rfl := sI9 hm0
     exact b04 (by simp only [go_sem]) (b0e _)
    ·rw [b0p hc16] at hm1
     simp only [b0r, b01, b0f]
     refine hK8 _ _ ?_
     refine b02 fun K hK => ?_
     simp only [go_sem, s10]
     refine hK _ _ ?_
     clear hK K
     simp only [b0f]
     obtain rfl := sI9 hm1
     refine ⟨_, rfl, ?_⟩
     exact ⟨i3, s3, s8, s9, (by first | (simp only [go_sem]; done) | rfl), Q3, Q0⟩
  ·rw [b0p hc7] at hm1
   simp only [b1b, b1e, b1d, b0f]
   obtain rfl := sI9 hm1
   obtain rfl := hb5 _ rfl
   try dsimp only at hm0
   exact J4  _ _  hm0
theorem d2c (d2d : c9d O) (d2e : c9e O) : c9c O := by
 intro m r hm0
 unfold c3v at hm0
 split at hm0
 ·exact d2d m r hm0
 ·exact d2e m r hm0
theorem d2d (hf : Has O "newel/situation.names" x_situation_names) (d2f : c9f O) : c9d O := by
 intro m r hm0
 unfold c7j at hm0
 refine b1h hf rfl (b0a (.agg _ (b0a (b0c fun a _ => b00 a) (b0a (b0c fun a _ => b00 a) (b0a (b0c fun a _ => b1r a) (b0a (b0c fun a _ => b1t a) (b0a (b0c fun a _ => b1s a) b0l)))))) b0l) (b0c fun a _ => b00 a) ?_
 refine b1f (fun t h => t 0 = .agg [.fs 1 (List.map eS m.Inputs), .fs 1 (List.map eS m.Outputs), .fs 2 (List.map b0m m.Counters), .fs 2 (List.map b0n m.States), .fs 4 (List.map b0k m.Rules)]) rfl fun t h s0 => ?_
 simp only [x_situation_names]
 refine b0b fun K hK => ?_
 simp only [go_sem, s0]
 refine hK _ _ ?_
 clear hK K
 obtain ⟨y2, h_y2, hm0⟩ := b0g hm0
 refine b0b fun K hK => ?_
 simp only [go_sem]
 refine j2q (e := eS) (l := y2) ?_ (d2f ([m.Inputs, m.Outputs]) _ h_y2) ?_
 ·exact .cons (b3e (f := b31) (l := ([m.Inputs, m.Outputs])) (id := h.nx) (by simp only [go_sem]) (by first | rfl | simp only [go_sem, lA9, mA9]) c5e d9e) (.nil)
 simp only [go_sem]
 refine hK _ _ ?_
 clear hK K
 refine b0v ?_
 refine b0b fun K hK => ?_
 simp only [go_sem]
 refine hK _ _ ?_
 clear hK K
 refine b0i fun K3 hK3 => ?_
 have J4 : ∀ (l_3 : List ByteArray) (i3 : Nat) (t : Slots) (h : Heap), t 1 = .fp [.fs 1 (List.map eS m.Inputs), .fs 1 (List.map eS m.Outputs), .fs 2 (List.map b0m m.Counters), .fs 2 (List.map b0n m.States), .fs 4 (List.map b0k m.Rules)] 0 -> t 3 = .rs i3 0 (List.length l_3) -> h.ob i3 = some (1, List.map eS l_3) -> i3 < h.nx -> c7m m l_3 = some r -> K3 t h := by
  intro l_3 i3 t h s1 s3 Q3 Q0 hm0
  refine hK3 _ _ ?_
  unfold c7m at hm0
  refine b0v ?_
  refine b0b fun K hK => ?_
  simp only [go_sem, s1]
  refine hK _ _ ?_
  clear hK K
  refine b0i fun K5 hK5 => ?_
  have J6 : ∀ (l_3_1 : List ByteArray) (i3_1 : Nat) (t : Slots) (h : Heap), t 3 = .rs i3_1 0 (List.length l_3_1) -> h.ob i3_1 = some (1, List.map eS l_3_1) -> i3_1 < h.nx -> c7n l_3_1 = some r -> K5 t h := by
   intro l_3_1 i3_1 t h s3 Q3 Q0 hm0
   refine hK5 _ _ ?_
   unfold c7n at hm0
   refine b0b fun K hK => ?_
   simp only [go_sem, s3]
   refine hK _ _ ?_
   clear hK K
   simp only [b0x, b0y]
   obtain rfl := sI9 hm0
   exact b8b (v := .rs i3_1 0 (List.length l_3_1)) (by simp only [go_sem]) (b3e (f := eS) (l := l_3_1) (id := i3_1) (by simp only [go_sem, Q3]) (by first | rfl | simp only [go_sem, lA9, mA9]) b00 c2j)
  simp only [b0u]
  obtain ⟨b7, hl7, hm0⟩ := b0g hm0
  refine b1l hl7 (fun | (l_3_1, x_30), t, h => ∃ i3_1 : Nat, t 3 = .rs i3_1 0 (List.length l_3_1) /\ t 28 = .fs 2 (List.map b0n m.States) /\ t 29 = I (List.length m.States : Int) /\ t 30 = I x_30 /\ h.ob i3_1 = some (1, List.map eS l_3_1) /\ i3_1 < h.nx) ?_ ?_
  ·exact ⟨i3, (by first | exact s3 | simp only [go_sem, s3, lA9, mA9]), (by first | (simp only [go_sem]; done) | rfl), (by first | (simp only [go_sem]; done) | rfl), (by first | (simp only [go_sem]; done) | rfl), Q3, Q0⟩
  ·rintro ⟨l_3_1, x_30⟩ o t h ⟨i3_1, s3, s28, s29, s30, Q3, Q0⟩ hm1 hb7
   simp only [c7k] at hm1
   rw [d35]
   refine b0b fun K hK => ?_
   simp only [go_sem, s29, s30]
   refine hK _ _ ?_
   clear hK K
   refine b0i fun K8 hK8 => ?_
   simp only [go_sem]
   refine b0j (fun hc9 => ?_) (fun hc9 => ?_)
   ·rw [b0q hc9] at hm1
    simp only [b0r, b0f]
    refine hK8 _ _ ?_
    refine b0i fun K10 hK10 => ?_
    simp only [b0u]
    obtain ⟨x12, h_x12, hm1⟩ := b0g hm1
    have h_x120 := b06 h_x12
    have h_x121 := b07 h_x12
    refine b0b fun K hK => ?_
    simp only [go_sem, s28, s30, b1a h_x12, h_x121]
    refine hK _ _ ?_
    clear hK K
    obtain ⟨l14, h_l14, hm1⟩ := b0g hm1
    refine b02 fun K hK => ?_
    simp only [go_sem, s3]
    refine b22 (f := eS) (l := l_3_1) (m := ([x12.Name])) ?_ ?_ ?_ ?_ h_l14 ?_
    ·exact (b2p (by simp only [go_sem, Q3, Q0]) (by simp only [go_sem]) (by simp only [go_sem, Q0]))
    ·exact (b4j (by simp only [go_sem]) (by simp only [go_sem]))
    ·exact (b4h (by first | exact b1v | exact b1x (by first | omega | (simp only [nxs] <;> omega)) | assumption | exact b1u (by assumption) (by first | omega | (simp only [go_sem, nxs] <;> omega))))
    ·exact (fun _ => by simp)
    simp only [go_sem]
    refine hK _ _ ?_
    clear hK K
    simp only [b01, b0f]
    refine hK10 _ _ ?_
    refine b02 fun K hK => ?_
    simp only [go_sem, s30]
    refine hK _ _ ?_
    clear hK K
    simp only [b0f]
    obtain rfl := sI9 hm1
    refine ⟨_, rfl, ?_⟩
    exact ⟨(nxs (nxs h.nx)), (by first | (simp only [go_sem]; done) | rfl), s28, s29, (by first | (simp only [go_sem]; done) | rfl), (by simp only [go_sem]), (by simp only [go_sem])⟩
   ·rw [b0p hc9] at hm1
    simp only [b1b, b1e, b1d, b0f]
    obtain rfl := sI9 hm1
    obtain rfl := hb7 _ rfl
    try dsimp only at hm0
    exact J6 l_3_1 i3_1 _ _ (by first | exact s3 | simp only [go_sem, s3, lA9, mA9]) Q3 Q0 hm0
 simp only [b0u]
 obtain ⟨b16, hl16, hm0⟩ := b0g hm0
 refine b1l hl16 (fun | (l_3, x_17), t, h => ∃ i3 : Nat, t 1 = .fp [.fs 1 (List.map eS m.Inputs), .fs 1 (List.map eS m.Outputs), .fs 2 (List.map b0m m.Counters), .fs 2 (List.map b0n m.States), .fs 4 (List.map b0k m.Rules)] 0 /\ t 3 = .rs i3 0 (List.length l_3) /\ t 15 = .fs 2 (List.map b0m m.Counters) /\ t 16 = I (List.length m.Counters : Int) /\ t 17 = I x_17 /\ h.ob i3 = some (1, List.map eS l_3) /\ i3 < h.nx) ?_ ?_
 ·exact ⟨(nxs h.nx), (by first | (simp only [go_sem]; done) | rfl), (by first | (simp only [go_sem]; done) | rfl), (by first | (simp only [go_sem]; done) | rfl), (by first | (simp only [go_sem]; done) | rfl), (by first | (simp only [go_sem]; done) | rfl), (by simp only [go_sem]), (by simp only [go_sem])⟩
 ·rintro ⟨l_3, x_17⟩ o t h ⟨i3, s1, s3, s15, s16, s17, Q3, Q0⟩ hm1 hb16
  simp only [c7l] at hm1
  rw [d36]
  refine b0b fun K hK => ?_
  simp only [go_sem, s16, s17]
  refine hK _ _ ?_
  clear hK K
  refine b0i fun K17 hK17 => ?_
  simp only [go_sem]
  refine b0j (fun hc18 => ?_) (fun hc18 => ?_)
  ·rw [b0q hc18] at hm1
   simp only [b0r, b0f]
   refine hK17 _ _ ?_
   refine b0i fun K19 hK19 => ?_
   simp only [b0u]
   obtain ⟨x21, h_x21, hm1⟩ := b0g hm1
   have h_x210 := b06 h_x21
   have h_x211 := b07 h_x21
   refine b0b fun K hK => ?_
   simp only [go_sem, s15, s17, b1a h_x21, h_x211]
   refine hK _ _ ?_
   clear hK K
   obtain ⟨l23, h_l23, hm1⟩ := b0g hm1
   refine b02 fun K hK => ?_
   simp only [go_sem, s3]
   refine b22 (f := eS) (l := l_3) (m := ([x21.Name])) ?_ ?_ ?_ ?_ h_l23 ?_
   ·exact (b2p (by simp only [go_sem, Q3, Q0]) (by simp only [go_sem]) (by simp only [go_sem, Q0]))
   ·exact (b4j (by simp only [go_sem]) (by simp only [go_sem]))
   ·exact (b4h (by first | exact b1v | exact b1x (by first | omega | (simp only [nxs] <;> omega)) | assumption | exact b1u (by assumption) (by first | omega | (simp only [go_sem, nxs] <;> omega))))
   ·exact (fun _ => by simp)
   simp only [go_sem]
   refine hK _ _ ?_
   clear hK K
   simp only [b01, b0f]
   refine hK19 _ _ ?_
   refine b02 fun K hK => ?_
   simp only [go_sem, s17]
   refine hK _ _ ?_
   clear hK K
   simp only [b0f]
   obtain rfl := sI9 hm1
   refine ⟨_, rfl, ?_⟩
   exact ⟨(nxs (nxs h.nx)), s1, (by first | (simp only [go_sem]; done) | rfl), s15, s16, (by first | (simp only [go_sem]; done) | rfl), (by simp only [go_sem]), (by simp only [go_sem])⟩
  ·rw [b0p hc18] at hm1
   simp only [b1b, b1e, b1d, b0f]
   obtain rfl := sI9 hm1
   obtain rfl := hb16 _ rfl
   try dsimp only at hm0
   exact J4 l_3 i3 _ _ s1 (by first | exact s3 | simp only [go_sem, s3, lA9, mA9]) Q3 Q0 hm0
theorem d2e (hf : Has O "newel/situation.names" x_situation_names) (d2g : c9g O) : c9e O := by
 intro m r hm0
 unfold c7o at hm0
 refine b1h hf rfl (b0a (.agg _ (b0a (b0c fun a _ => b00 a) (b0a (b0c fun a _ => b00 a) (b0a (b0c fun a _ => b1r a) (b0a (b0c fun a _ => b1t a) (b0a (b0c fun a _ => b1s a) b0l)))))) b0l) (b0c fun a _ => b00 a) ?_
 refine b1f (fun t h => t 0 = .agg [.fs 1 (List.map eS m.Inputs), .fs 1 (List.map eS m.Outputs), .fs 2 (List.map b0m m.Counters), .fs 2 (List.map b0n m.States), .fs 4 (List.map b0k m.Rules)]) rfl fun t h s0 => ?_
 simp only [x_situation_names]
 refine b0b fun K hK => ?_
 simp only [go_sem, s0]
 refine hK _ _ ?_
 clear hK K
 obtain ⟨y2, h_y2, hm0⟩ := b0g hm0
 refine b0b fun K hK => ?_
 simp only [go_sem]
 refine c5o ?_ (d2g ([m.Inputs, m.Outputs]) _ h_y2) (.v _) ?_
 ·exact .cons (b3e (f := b31) (l := ([m.Inputs, m.Outputs])) (id := h.nx) (by simp only [go_sem]) (by first | rfl | simp only [go_sem, lA9, mA9]) c5e d9e) (.nil)
 simp only [go_sem]
 refine hK _ _ ?_
 clear hK K
 refine b0v ?_
 refine b0b fun K hK => ?_
 simp only [go_sem]
 refine hK _ _ ?_
 clear hK K
 refine b0i fun K3 hK3 => ?_
 have J4 : ∀ (l_3 : List ByteArray) (v3 : AV) (t : Slots) (h : Heap), t 1 = .fp [.fs 1 (List.map eS m.Inputs), .fs 1 (List.map eS m.Outputs), .fs 2 (List.map b0m m.Counters), .fs 2 (List.map b0n m.States), .fs 4 (List.map b0k m.Rules)] 0 -> t 3 = v3 -> b1o h v3 1 (List.map eS l_3) -> c7r m l_3 = some r -> K3 t h := by
  intro l_3 v3 t h s1 s3 Qm hm0
  refine hK3 _ _ ?_
  unfold c7r at hm0
  refine b0v ?_
  refine b0b fun K hK => ?_
  simp only [go_sem, s1]
  refine hK _ _ ?_
  clear hK K
  refine b0i fun K5 hK5 => ?_
  have J6 : ∀ (l_3_1 : List ByteArray) (v3_1 : AV) (t : Slots) (h : Heap), t 3 = v3_1 -> b1o h v3_1 1 (List.map eS l_3_1) -> c7s l_3_1 = some r -> K5 t h := by
   intro l_3_1 v3_1 t h s3 Qm hm0
   refine hK5 _ _ ?_
   unfold c7s at hm0
   refine b0b fun K hK => ?_
   simp only [go_sem, s3, b5k v3_1]
   refine hK _ _ ?_
   clear hK K
   simp only [b0x, b0y]
   obtain rfl := sI9 hm0
   exact b8b (v := v3_1) (by simp only [go_sem]) (b8f (f := eS) (l := l_3_1) (b24 Qm (by intro j hj hl; first | rfl | simp only [go_sem, hl]) (by first | omega | exact Nat.le_refl _ | (simp only [go_sem, nxs] <;> omega))) b00 c2j)
  simp only [b0u]
  obtain ⟨b7, hl7, hm0⟩ := b0g hm0
  refine b1l hl7 (fun | (l_3_1, x_30), t, h => ∃ v3_1 : AV, t 3 = v3_1 /\ t 28 = .fs 2 (List.map b0n m.States) /\ t 29 = I (List.length m.States : Int) /\ t 30 = I x_30 /\ b1o h v3_1 1 (List.map eS l_3_1)) ?_ ?_
  ·exact ⟨v3, s3, (by first | (simp only [go_sem]; done) | rfl), (by first | (simp only [go_sem]; done) | rfl), (by first | (simp only [go_sem]; done) | rfl), Qm⟩
  ·rintro ⟨l_3_1, x_30⟩ o t h ⟨v3_1, s3, s28, s29, s30, Qm⟩ hm1 hb7
   simp only [c7p] at hm1
   rw [d35]
   refine b0b fun K hK => ?_
   simp only [go_sem, s29, s30]
   refine hK _ _ ?_
   clear hK K
   refine b0i fun K8 hK8 => ?_
   simp only [go_sem]
   refine b0j (fun hc9 => ?_) (fun hc9 => ?_)
   ·rw [b0q hc9] at hm1
    simp only [b0r, b0f]
    refine hK8 _ _ ?_
    refine b0i fun K10 hK10 => ?_
    simp only [b0u]
    obtain ⟨x12, h_x12, hm1⟩ := b0g hm1
    have h_x120 := b06 h_x12
    have h_x121 := b07 h_x12
    refine b0b fun K hK => ?_
    simp only [go_sem, s28, s30, b1a h_x12, h_x121]
    refine hK _ _ ?_
    clear hK K
    obtain ⟨l14, h_l14, hm1⟩ := b0g hm1
    refine b02 fun K hK => ?_
    simp only [go_sem, s3, b5k v3_1]
    refine b22 (f := eS) (l := l_3_1) (m := ([x12.Name])) ?_ ?_ ?_ ?_ h_l14 ?_
    ·exact (b24 Qm (by intro j hj hl; first | rfl | simp only [go_sem, hl]) (by first | omega | exact Nat.le_refl _ | (simp only [go_sem, nxs] <;> omega)))
    ·exact (b4j (by simp only [go_sem]) (by simp only [go_sem]))
    ·exact (b4h (by first | exact b1v | exact b1x (by first | omega | (simp only [nxs] <;> omega)) | assumption | exact b1u (by assumption) (by first | omega | (simp only [go_sem, nxs] <;> omega))))
    ·exact (fun _ => by simp)
    simp only [go_sem]
    refine hK _ _ ?_
    clear hK K
    simp only [b01, b0f]
    refine hK10 _ _ ?_
    refine b02 fun K hK => ?_
    simp only [go_sem, s30]
    refine hK _ _ ?_
    clear hK K
    simp only [b0f]
    obtain rfl := sI9 hm1
    refine ⟨_, rfl, ?_⟩
    exact ⟨(.rs (nxs (nxs h.nx)) 0 (List.length l14)), (by first | (simp only [go_sem]; done) | rfl), s28, s29, (by first | (simp only [go_sem]; done) | rfl), (b2p (by simp only [go_sem, b8n Qm]) (by first | rfl | simp only [go_sem]) (by simp only [go_sem]))⟩
   ·rw [b0p hc9] at hm1
    simp only [b1b, b1e, b1d, b0f]
    obtain rfl := sI9 hm1
    obtain rfl := hb7 _ rfl
    try dsimp only at hm0
    exact J6 l_3_1 v3_1 _ _ s3 Qm hm0
 simp only [b0u]
 obtain ⟨b16, hl16, hm0⟩ := b0g hm0
 refine b1l hl16 (fun | (l_3, x_17), t, h => ∃ v3 : AV, t 1 = .fp [.fs 1 (List.map eS m.Inputs), .fs 1 (List.map eS m.Outputs), .fs 2 (List.map b0m m.Counters), .fs 2 (List.map b0n m.States), .fs 4 (List.map b0k m.Rules)] 0 /\ t 3 = v3 /\ t 15 = .fs 2 (List.map b0m m.Counters) /\ t 16 = I (List.length m.Counters : Int) /\ t 17 = I x_17 /\ b1o h v3 1 (List.map eS l_3)) ?_ ?_
 ·exact ⟨(.v (.slice none 0 0)), (by first | (simp only [go_sem]; done) | rfl), (by first | (simp only [go_sem]; done) | rfl), (by first | (simp only [go_sem]; done) | rfl), (by first | (simp only [go_sem]; done) | rfl), (by first | (simp only [go_sem]; done) | rfl), b98⟩
 ·rintro ⟨l_3, x_17⟩ o t h ⟨v3, s1, s3, s15, s16, s17, Qm⟩ hm1 hb16
  simp only [c7q] at hm1
  rw [d36]
  refine b0b fun K hK => ?_
  simp only [go_sem, s16, s17]
  refine hK _ _ ?_
  clear hK K
  refine b0i fun K17 hK17 => ?_
  simp only [go_sem]
  refine b0j (fun hc18 => ?_) (fun hc18 => ?_)
  ·rw [b0q hc18] at hm1
   simp only [b0r, b0f]
   refine hK17 _ _ ?_
   refine b0i fun K19 hK19 => ?_
   simp only [b0u]
   obtain ⟨x21, h_x21, hm1⟩ := b0g hm1
   have h_x210 := b06 h_x21
   have h_x211 := b07 h_x21
   refine b0b fun K hK => ?_
   simp only [go_sem, s15, s17, b1a h_x21, h_x211]
   refine hK _ _ ?_
   clear hK K
   obtain ⟨l23, h_l23, hm1⟩ := b0g hm1
   refine b02 fun K hK => ?_
   simp only [go_sem, s3, b5k v3]
   refine b22 (f := eS) (l := l_3) (m := ([x21.Name])) ?_ ?_ ?_ ?_ h_l23 ?_
   ·exact (b24 Qm (by intro j hj hl; first | rfl | simp only [go_sem, hl]) (by first | omega | exact Nat.le_refl _ | (simp only [go_sem, nxs] <;> omega)))
   ·exact (b4j (by simp only [go_sem]) (by simp only [go_sem]))
   ·exact (b4h (by first | exact b1v | exact b1x (by first | omega | (simp only [nxs] <;> omega)) | assumption | exact b1u (by assumption) (by first | omega | (simp only [go_sem, nxs] <;> omega))))
   ·exact (fun _ => by simp)
   simp only [go_sem]
   refine hK _ _ ?_
   clear hK K
   simp only [b01, b0f]
   refine hK19 _ _ ?_
   refine b02 fun K hK => ?_
   simp only [go_sem, s17]
   refine hK _ _ ?_
   clear hK K
   simp only [b0f]
   obtain rfl := sI9 hm1
   refine ⟨_, rfl, ?_⟩
   exact ⟨(.rs (nxs (nxs h.nx)) 0 (List.length l23)), s1, (by first | (simp only [go_sem]; done) | rfl), s15, s16, (by first | (simp only [go_sem]; done) | rfl), (b2p (by simp only [go_sem, b8n Qm]) (by first | rfl | simp only [go_sem]) (by simp only [go_sem]))⟩
  ·rw [b0p hc18] at hm1
   simp only [b1b, b1e, b1d, b0f]
   obtain rfl := sI9 hm1
   obtain rfl := hb16 _ rfl
   try dsimp only at hm0
   exact J4 l_3 v3 _ _ s1 s3 Qm hm0
theorem b4g (hf : Has O "newel/situation.within" x_situation_within) : c37 O := by
 intro n low high
 generalize hm0 : b2m n low high = r
 unfold b2m at hm0
 refine b1h hf rfl (b0a (b0e _) (b0a (b0e _) (b0a (b0e _) b0l))) (b0e _) ?_
 refine b1f (fun t h => t 0 = I n /\ t 1 = I low /\ t 2 = I high) ⟨rfl, rfl, rfl⟩ fun t h ⟨s0, s1, s2⟩ => ?_
 simp only [x_situation_within]
 refine b0b fun K hK => ?_
 simp only [go_sem]
 refine hK _ _ ?_
 clear hK K
 refine b2z (fun t h => t 6 = B ((decide (low <= n)) && (decide (n <= high)))) (fun K hK => ?_) ?_
 ·simp only [go_sem, s0, s1]
  refine b0j (fun hg1 => ?_) (fun hg1 => ?_)
  ·simp only [go_sem, s0, s2, hg1]
   exact hK _ _ (by first | (simp only [go_sem, hg1]; done) | rfl)
  ·simp only [go_sem, hg1]
   exact hK _ _ (by first | (simp only [go_sem, hg1]; done) | rfl)
 ·rintro t h s6
  simp only [b0x, b0y]
  obtain rfl := hm0
  exact b04 (by simp only [go_sem, s6]) (b0e _)
theorem d2h (hf : Has O "slices.ContainsFunc[newel/api.Cond,newel/api.Term]" x_slices_ContainsFunc_api_Cond_api_Term_) (d2i : c9i O) : c9h O := by
 intro s f_n f_a f_b f f_z f_h r hm0
 unfold c7v at hm0
 refine b1h hf rfl (b0a (b0c fun a _ => b2l a) (b0a f_z b0l)) (b0e _) ?_
 refine b1f (fun t h => t 0 = .fs 1 (List.map b0t s) /\ t 1 = .fn f_n f_a f_b) ⟨rfl, rfl⟩ fun t h ⟨s0, s1⟩ => ?_
 simp only [x_slices_ContainsFunc_api_Cond_api_Term_]
 refine b0b fun K hK => ?_
 simp only [go_sem]
 refine hK _ _ ?_
 clear hK K
 obtain ⟨y2, h_y2, hm0⟩ := b0g hm0
 refine b0b fun K hK => ?_
 simp only [go_sem, s0, s1]
 refine b03 (d2i s f_n f_a f_b f f_z f_h _ h_y2) ?_
 simp only [go_sem]
 refine hK _ _ ?_
 clear hK K
 simp only [b0x, b0y]
 obtain rfl := sI9 hm0
 exact b04 (by simp only [go_sem]) (b0e _)
theorem b8i (hf : Has O "slices.ContainsFunc[newel/api.Term,newel/api.Literal]" x_slices_ContainsFunc_api_Term_api_Literal_) (d2j : c9j O) : c0z O := by
 intro s f_n f_a f_b f f_z f_h r hm0
 unfold b7l at hm0
 refine b1h hf rfl (b0a (b0c fun a _ => c12 a) (b0a f_z b0l)) (b0e _) ?_
 refine b1f (fun t h => t 0 = .fs 4 (List.map b3c s) /\ t 1 = .fn f_n f_a f_b) ⟨rfl, rfl⟩ fun t h ⟨s0, s1⟩ => ?_
 simp only [x_slices_ContainsFunc_api_Term_api_Literal_]
 refine b0b fun K hK => ?_
 simp only [go_sem]
 refine hK _ _ ?_
 clear hK K
 obtain ⟨y2, h_y2, hm0⟩ := b0g hm0
 refine b0b fun K hK => ?_
 simp only [go_sem, s0, s1]
 refine b03 (d2j s f_n f_a f_b f f_z f_h _ h_y2) ?_
 simp only [go_sem]
 refine hK _ _ ?_
 clear hK K
 simp only [b0x, b0y]
 obtain rfl := sI9 hm0
 exact b04 (by simp only [go_sem]) (b0e _)
theorem d2i (hf : Has O "slices.IndexFunc[newel/api.Cond,newel/api.Term]" x_slices_IndexFunc_api_Cond_api_Term_) : c9i O := by
 intro s f_n f_a f_b f f_z f_h r hm0
 unfold d3w at hm0
 refine b1h hf rfl (b0a (b0c fun a _ => b2l a) (b0a f_z b0l)) (b0e _) ?_
 refine b1f (fun t h => t 0 = .fs 1 (List.map b0t s) /\ t 1 = .fn f_n f_a f_b) ⟨rfl, rfl⟩ fun t h ⟨s0, s1⟩ => ?_
 simp only [x_slices_IndexFunc_api_Cond_api_Term_]
 refine b0b fun K hK => ?_
 simp only [go_sem]
 refine hK _ _ ?_
 clear hK K
 refine b0v ?_
 refine b0b fun K hK => ?_
 simp only [go_sem, s0]
 refine hK _ _ ?_
 clear hK K
 refine b0i fun K1 hK1 => ?_
 have J2 : ∀ (t : Slots) (h : Heap), d3x = some r -> K1 t h := by
  intro t h hm0
  refine hK1 _ _ ?_
  unfold d3x at hm0
  refine b0b fun K hK => ?_
  simp only [go_sem]
  refine hK _ _ ?_
  clear hK K
  simp only [b0x, b0y]
  obtain rfl := sI9 hm0
  exact b04 (by simp only [go_sem]) (b0e _)
 simp only [b0u]
 obtain ⟨b3, hl3, hm0⟩ := b0g hm0
 refine b1l hl3 (fun | x_8, t, h => t 0 = .fs 1 (List.map b0t s) /\ t 1 = .fn f_n f_a f_b /\ t 7 = I (List.length s : Int) /\ t 8 = I x_8) ?_ ?_
 ·exact ⟨s0, s1, (by first | (simp only [go_sem]; done) | rfl), (by first | (simp only [go_sem]; done) | rfl)⟩
 ·rintro x_8 o t h ⟨s0, s1, s7, s8⟩ hm1 hb3
  simp only [g08] at hm1
  rw [g24]
  refine b0b fun K hK => ?_
  simp only [go_sem, s7, s8]
  refine hK _ _ ?_
  clear hK K
  refine b0i fun K4 hK4 => ?_
  simp only [go_sem]
  refine b0j (fun hc5 => ?_) (fun hc5 => ?_)
  ·rw [b0q hc5] at hm1
   simp only [b0r, b0f]
   refine hK4 _ _ ?_
   refine b0i fun K6 hK6 => ?_
   simp only [b0u]
   refine b0b fun K hK => ?_
   simp only [go_sem, s8]
   refine hK _ _ ?_
   clear hK K
   obtain ⟨x9, h_x9, hm1⟩ := b0g hm1
   have h_x90 := b06 h_x9
   have h_x91 := b07 h_x9
   obtain ⟨y10, h_y10, hm1⟩ := b0g hm1
   refine b0b fun K hK => ?_
   simp only [go_sem, s0, s1, b1a h_x9, h_x91]
   refine c5p (f_h x9 _ h_y10) ?_
   simp only [go_sem]
   refine hK _ _ ?_
   clear hK K
   simp only [go_sem]
   refine b0j (fun hc11 => ?_) (fun hc11 => ?_)
   ·rw [b0q hc11] at hm1
    refine b0b fun K hK => ?_
    simp only [go_sem]
    refine hK _ _ ?_
    clear hK K
    simp only [b0x, b1n, b2b, b0y]
    obtain rfl := sI9 hm1
    obtain rfl := hb3 _ rfl
    try dsimp only at hm0
    obtain rfl := sI9 hm0
    exact b04 (by simp only [go_sem]) (b0e _)
   ·rw [b0p hc11] at hm1
    simp only [b0r, b01, b0f]
    refine hK6 _ _ ?_
    refine b02 fun K hK => ?_
    simp only [go_sem, s8]
    refine hK _ _ ?_
    clear hK K
    simp only [b0f]
    obtain rfl := sI9 hm1
    refine ⟨_, rfl, ?_⟩
    exact ⟨s0, s1, s7, (by first | (simp only [go_sem]; done) | rfl)⟩
  ·rw [b0p hc5] at hm1
   simp only [b1b, b1e, b1d, b0f]
   obtain rfl := sI9 hm1
   obtain rfl := hb3 _ rfl
   try dsimp only at hm0
   exact J2  _ _  hm0
theorem d2j (hf : Has O "slices.IndexFunc[newel/api.Term,newel/api.Literal]" x_slices_IndexFunc_api_Term_api_Literal_) : c9j O := by
 intro s f_n f_a f_b f f_z f_h r hm0
 unfold d3y at hm0
 refine b1h hf rfl (b0a (b0c fun a _ => c12 a) (b0a f_z b0l)) (b0e _) ?_
 refine b1f (fun t h => t 0 = .fs 4 (List.map b3c s) /\ t 1 = .fn f_n f_a f_b) ⟨rfl, rfl⟩ fun t h ⟨s0, s1⟩ => ?_
 simp only [x_slices_IndexFunc_api_Term_api_Literal_]
 refine b0b fun K hK => ?_
 simp only [go_sem]
 refine hK _ _ ?_
 clear hK K
 refine b0v ?_
 refine b0b fun K hK => ?_
 simp only [go_sem, s0]
 refine hK _ _ ?_
 clear hK K
 refine b0i fun K1 hK1 => ?_
 have J2 : ∀ (t : Slots) (h : Heap), d3z = some r -> K1 t h := by
  intro t h hm0
  refine hK1 _ _ ?_
  unfold d3z at hm0
  refine b0b fun K hK => ?_
  simp only [go_sem]
  refine hK _ _ ?_
  clear hK K
  simp only [b0x, b0y]
  obtain rfl := sI9 hm0
  exact b04 (by simp only [go_sem]) (b0e _)
 simp only [b0u]
 obtain ⟨b3, hl3, hm0⟩ := b0g hm0
 refine b1l hl3 (fun | x_8, t, h => t 0 = .fs 4 (List.map b3c s) /\ t 1 = .fn f_n f_a f_b /\ t 7 = I (List.length s : Int) /\ t 8 = I x_8) ?_ ?_
 ·exact ⟨s0, s1, (by first | (simp only [go_sem]; done) | rfl), (by first | (simp only [go_sem]; done) | rfl)⟩
 ·rintro x_8 o t h ⟨s0, s1, s7, s8⟩ hm1 hb3
  simp only [g09] at hm1
  rw [g25]
  refine b0b fun K hK => ?_
  simp only [go_sem, s7, s8]
  refine hK _ _ ?_
  clear hK K
  refine b0i fun K4 hK4 => ?_
  simp only [go_sem]
  refine b0j (fun hc5 => ?_) (fun hc5 => ?_)
  ·rw [b0q hc5] at hm1
   simp only [b0r, b0f]
   refine hK4 _ _ ?_
   refine b0i fun K6 hK6 => ?_
   simp only [b0u]
   refine b0b fun K hK => ?_
   simp only [go_sem, s8]
   refine hK _ _ ?_
   clear hK K
   obtain ⟨x9, h_x9, hm1⟩ := b0g hm1
   have h_x90 := b06 h_x9
   have h_x91 := b07 h_x9
   obtain ⟨y10, h_y10, hm1⟩ := b0g hm1
   refine b0b fun K hK => ?_
   simp only [go_sem, s0, s1, b1a h_x9, h_x91]
   refine c5p (f_h x9 _ h_y10) ?_
   simp only [go_sem]
   refine hK _ _ ?_
   clear hK K
   simp only [go_sem]
   refine b0j (fun hc11 => ?_) (fun hc11 => ?_)
   ·rw [b0q hc11] at hm1
    refine b0b fun K hK => ?_
    simp only [go_sem]
    refine hK _ _ ?_
    clear hK K
    simp only [b0x, b1n, b2b, b0y]
    obtain rfl := sI9 hm1
    obtain rfl := hb3 _ rfl
    try dsimp only at hm0
    obtain rfl := sI9 hm0
    exact b04 (by simp only [go_sem]) (b0e _)
   ·rw [b0p hc11] at hm1
    simp only [b0r, b01, b0f]
    refine hK6 _ _ ?_
    refine b02 fun K hK => ?_
    simp only [go_sem, s8]
    refine hK _ _ ?_
    clear hK K
    simp only [b0f]
    obtain rfl := sI9 hm1
    refine ⟨_, rfl, ?_⟩
    exact ⟨s0, s1, s7, (by first | (simp only [go_sem]; done) | rfl)⟩
  ·rw [b0p hc5] at hm1
   simp only [b1b, b1e, b1d, b0f]
   obtain rfl := sI9 hm1
   obtain rfl := hb3 _ rfl
   try dsimp only at hm0
   exact J2  _ _  hm0
theorem d2k (hf : Has O "slices.Reverse[[]int,int]" x_slices_Reverse___int_int_) : c9k O := by
 intro s v_0 h0 ow_p0 r hm0
 unfold c3x at hm0
 refine d6f hf rfl ?_
 refine b1f (fun t h => t 0 = v_0 /\ b1o h v_0 1 (List.map eI s) /\ (∀ j, j < h0.nx -> b0s v_0 j -> h.ob j = h0.ob j) /\ h0.nx <= h.nx) ⟨rfl, ow_p0, fun _ _ _ => rfl, Nat.le_refl _⟩ fun t h ⟨s0, ow_p0, fr, fx⟩ => ?_
 simp only [x_slices_Reverse___int_int_]
 refine b0b fun K hK => ?_
 simp only [go_sem, s0, l1b ow_p0, b5k v_0]
 refine hK _ _ ?_
 clear hK K
 refine g7l ?_
 refine b0i fun K1 hK1 => ?_
 have J2 : ∀ (s_1 : List Int) (t : Slots) (h : Heap), b1o h v_0 1 (List.map eI s_1) -> (∀ j, j < h0.nx -> b0s v_0 j -> h.ob j = h0.ob j) -> h0.nx <= h.nx -> c7w s_1 = some r -> K1 t h := by
  intro s_1 t h Qo fr fx hm0
  refine hK1 _ _ ?_
  unfold c7w at hm0
  simp only [b0r]
  obtain rfl := sI9 hm0
  exact c3f (Post := fun v h => v = .tup [] /\ b1o h v_0 1 (List.map eI s_1) /\ (∀ j, j < h0.nx -> b0s v_0 j -> h.ob j = h0.ob j) /\ h0.nx <= h.nx) ⟨rfl, Qo, fr, fx⟩
 simp only [b0u]
 obtain ⟨b3, hl3, hm0⟩ := b0g hm0
 refine b1l hl3 (fun | (s_0, i_2, j_3), t, h => t 0 = v_0 /\ t 2 = I i_2 /\ t 3 = I j_3 /\ b1o h v_0 1 (List.map eI s_0) /\ (∀ j, j < h0.nx -> b0s v_0 j -> h.ob j = h0.ob j) /\ h0.nx <= h.nx) ?_ ?_
 ·exact ⟨s0, (by first | (simp only [go_sem]; done) | rfl), (by first | (simp only [go_sem]; done) | rfl), ow_p0, fr, fx⟩
 ·rintro ⟨s_0, i_2, j_3⟩ o t h ⟨s0, s2, s3, Qn, fr, fx⟩ hm1 hb3
  simp only [c0s] at hm1
  rw [g26]
  refine b0v ?_
  refine b0b fun K hK => ?_
  simp only [go_sem, s2, s3]
  refine hK _ _ ?_
  clear hK K
  refine b0i fun K4 hK4 => ?_
  simp only [go_sem]
  refine b0j (fun hc5 => ?_) (fun hc5 => ?_)
  ·rw [b0q hc5] at hm1
   simp only [b0r, b0f]
   refine hK4 _ _ ?_
   refine b0i fun K6 hK6 => ?_
   simp only [b0u]
   obtain ⟨x11, h_x11, hm1⟩ := b0g hm1
   have h_x110 := b06 h_x11
   have h_x111 := b07 h_x11
   obtain ⟨iq12, e_iq12, Qp, Qq⟩ := l1a Qn h_x11
   obtain ⟨x13, h_x13, hm1⟩ := b0g hm1
   have h_x130 := b06 h_x13
   have h_x131 := b07 h_x13
   obtain ⟨x14, h_x14, hm1⟩ := b0g hm1
   have h_x140 := b06 h_x14
   have h_x141 := b07 h_x14; (try simp only [List.length_set] at h_x141)
   refine b02 fun K hK => ?_
   simp only [go_sem, s0, s2, s3, Qp, b47 h_x11, h_x110, h_x111, b47 h_x13, h_x130, h_x131, b47 h_x14, e_iq12]
   refine hK _ _ ?_
   clear hK K
   simp only [b01, b0f]
   refine hK6 _ _ ?_
   refine b02 fun K hK => ?_
   simp only [go_sem, s2, s3]
   refine hK _ _ ?_
   clear hK K
   simp only [b0f]
   obtain rfl := sI9 hm1
   refine ⟨_, rfl, ?_⟩
   exact ⟨(by first | (simp only [go_sem, s0, e_iq12]; done) | rfl), (by first | (simp only [go_sem]; done) | rfl), (by first | (simp only [go_sem]; done) | rfl), (by rw [e_iq12]; exact (b2p (by simp only [go_sem]) (by first | rfl | simp only [go_sem]) (by simp only [go_sem, Qq]))), (by intro j hj hx0; first | exact fr j hj hx0 | (refine Eq.trans ?_ (fr j hj hx0); first | rfl | simp only [go_sem, b1z (j9v (j8k e_iq12 hx0))])), (by first | exact fx | omega | (simp only [go_sem, nxs] <;> omega))⟩
  ·rw [b0p hc5] at hm1
   simp only [b1b, b1e, b1d, b0f]
   obtain rfl := sI9 hm1
   obtain rfl := hb3 _ rfl
   try dsimp only at hm0
   exact J2 s_0 _ _ Qn fr fx hm0
end Go.Nw.KM
