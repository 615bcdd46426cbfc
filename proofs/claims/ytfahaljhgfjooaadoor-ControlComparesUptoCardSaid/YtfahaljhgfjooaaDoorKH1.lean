/- That the texts make what their models say: printed by a program. -/
import Derived.Test.YtfahaljhgfjooaaDoorKM
import Derived.Test.YtfahaljhgfjooaaDoorP1
import Derived.Test.YtfahaljhgfjooaaDoorP2
set_option linter.all false
namespace Go.Nw.KM
open Go.Nw.Ctl
set_option maxHeartbeats 4000000
variable {O : Orac} [MapsOk O]
noncomputable def r8q (class_7_2 : List Int) (count_10_1 : Int) : Option (Out ((List Int) × Int) ((((List Int) × Int)))) :=
 some (.nx (class_7_2, count_10_1))
noncomputable def r8s (count_10 : Int) (firsts_16 : List Int) (finer_17 : List Int) : Option (Out ((List Int) × Int) ((((List Int) × Int)))) :=
 if decide ((List.length firsts_16 : Int) = count_10) then
  some (.br (finer_17, 0))
 else
  r8q finer_17 (List.length firsts_16 : Int)
noncomputable def r8e (finer_17 : List Int) (x_103 : Int) (firsts_16_1 : List Int) (n_19 : Int) : Option (Out ((List Int) × (List Int) × Int) (((List Int) × (List Int)))) :=
 (get finer_17 x_103).bind fun x38 =>
 some (.nx (firsts_16_1, (List.set finer_17 (Int.toNat x_103) n_19), wr (x_103 + 1)))
noncomputable def r72 (keys_11_0 : List (List Int)) : ((List Int) × (List Int) × Int) -> Option (Out ((List Int) × (List Int) × Int) (((List Int) × (List Int))))
 | (firsts_16, finer_17, x_103) =>
  if decide (x_103 < (List.length keys_11_0 : Int)) then
   (d5a firsts_16 (fun z33 => r7n z33 keys_11_0 x_103)).bind fun y34 =>
   if decide (y34 < 0) then
    (ap 8 firsts_16 ([x_103])).bind fun l41 =>
    r8e finer_17 x_103 l41 (List.length firsts_16 : Int)
   else
    r8e finer_17 x_103 firsts_16 y34
  else
   some (.br (firsts_16, finer_17))
noncomputable def r8r (class_7_1 : List Int) (count_10 : Int) (keys_11_0 : List (List Int)) : Option (Out ((List Int) × Int) ((((List Int) × Int)))) :=
 (mks 8 ((List.length class_7_1 : Nat) : Int) 0).bind fun l22 =>
 (b0w (r72 keys_11_0) ([], l22, 0)).bind fun
  | (firsts_16, finer_17) => r8s count_10 firsts_16 finer_17
noncomputable def r8t (x_64 : Int) (keys_11_0_1 : List (List Int)) : Option (Out ((List (List Int)) × Int) (((List (List Int))))) :=
 some (.nx (keys_11_0_1, wr (x_64 + 1)))
noncomputable def r70 (class_7_1 : List Int) (x_64 : Int) (x49 : List Int) : ((List (List Int)) × Int) -> Option (Out ((List (List Int)) × Int) (((List (List Int)))))
 | (keys_11_0_1, x_79) =>
  if decide (x_79 < (List.length x49 : Int)) then
   (get x49 x_79).bind fun x59 =>
   (get keys_11_0_1 x_64).bind fun x63 =>
   (get class_7_1 x59).bind fun x64 =>
   (ap 8 x63 ([x64])).bind fun l65 =>
   some (.nx ((List.set keys_11_0_1 (Int.toNat x_64) l65), wr (x_79 + 1)))
  else
   some (.br keys_11_0_1)
noncomputable def r71 (y8 : control_walk) (class_7_1 : List Int) : ((List (List Int)) × Int) -> Option (Out ((List (List Int)) × Int) (((List (List Int)))))
 | (keys_11_0, x_64) =>
  if decide (x_64 < (List.length y8.next : Int)) then
   (get y8.next x_64).bind fun x49 =>
   (get class_7_1 x_64).bind fun x52 =>
   (get keys_11_0 x_64).bind fun x53 =>
   (b0w (r70 class_7_1 x_64 x49) ((List.set keys_11_0 (Int.toNat x_64) ([x52])), 0)).bind fun keys_11_0_1 =>
   r8t x_64 keys_11_0_1
  else
   some (.br keys_11_0)
noncomputable def r8d (y8 : control_walk) : ((List Int) × Int) -> Option (Out ((List Int) × Int) ((((List Int) × Int))))
 | (class_7_1, count_10) =>
  (mks 24 ((List.length class_7_1 : Nat) : Int) ([] : List Int)).bind fun l18 =>
  (b0w (r71 y8 class_7_1) (l18, 0)).bind fun keys_11_0 =>
  r8r class_7_1 count_10 keys_11_0
noncomputable def r8p (y8 : control_walk) (class_7 : List Int) : Option ((List Int) × Int) :=
 (b0w (r8d y8) (class_7, 0)).bind fun r' =>
 some r'
noncomputable def r7z (m : Machine) (y8 : control_walk) : ((List Int) × Int) -> Option (Out ((List Int) × Int) (((List Int))))
 | (class_7, x_40) =>
  if decide (x_40 < (List.length y8.places : Int)) then
   (get y8.places x_40).bind fun x74 =>
   (get m.States x74.State).bind fun x77 =>
   (get class_7 x_40).bind fun x78 =>
   some (.nx ((List.set class_7 (Int.toNat x_40) x77.Shows), wr (x_40 + 1)))
  else
   some (.br class_7)
noncomputable def r8c (m : Machine) : Option ((List Int) × Int) :=
 (c2f m).bind fun y2 =>
 if decide (¬y2 = 0) then
  some ([], y2)
 else
  (b9h (control_plant.mk (situation_Plant.mk (((b3h m).Plant).Machine))) ([]) (fun z7 => some (b6f z7))).bind fun y8 =>
  (mks 8 (List.length y8.places : Int) 0).bind fun l10 =>
  (b0w (r7z m y8) (l10, 0)).bind fun class_7 =>
  r8p y8 class_7
def r89 (O : Orac) : Prop := ∀ (m : Machine) (r : (List Int) × Int) (hm0 : r8c m = some r), Fn O "newel/control.Classes" [.agg (vM m)] (.tup [.fs 1 (List.map eI r.1), I r.2])
theorem r9g (hf : Has O "newel/control.Classes" x_control_Classes) (d24 : c96 O) (c3f : c5h O) (c3c : c5e O) (c3g : c5i O) (d3u : d0x O) (r9h : r9a O) : r89 O := by
 intro m r hm0;unfold r8c at hm0;refine b1i hf rfl (b0a (fM _) b0j) (.tup _ (b0a (b0c fun a _ => b1t a) (b0a (b0e _) b0j))) ?_;refine b1c (fun t h => t 0 = .agg (vM m)) rfl fun t h s0 => ?_;simp only [x_control_Classes];apply b0b;intro K hK;simp only [go_sem, s0];apply hK;clear hK K;refine b0v ?_;obtain ⟨y2, h_y2, hm0⟩ := b0g hm0;apply b0b;intro K hK;simp only [go_sem];refine b01 (d24 m _ h_y2) ?_;simp only [go_sem];apply hK;clear hK K;refine b0v ?_;apply b0b;intro K hK;simp only [go_sem];apply hK;clear hK K;refine b0i fun K3 hK3 => ?_;simp only [go_sem];refine b0k (fun hc4 => ?_) (fun hc4 => ?_)
 ·rw [b0r hc4] at hm0;apply b0b;intro K hK;simp only [go_sem];apply hK;clear hK K;simp only [b0x, b1p, b2e, b0y];obtain rfl := sI9 hm0;exact d66 (v := .v (.slice none 0 0)) (u := I y2) vi9 vi9 (.nil _) (.refl _ (b0e _))
 ·rw [b0q hc4] at hm0;simp only [b0s, b02, b0f];refine hK3 _ _ ?_;apply b0b;intro K hK;simp only [go_sem];refine b01 (c3f m) ?_;simp only [go_sem];apply hK;clear hK K;obtain ⟨y8, h_y8, hm0⟩ := b0g hm0;apply b0b;intro K hK;simp only [go_sem];refine r2x ?_ (b0a (fM _) (b0a (b0e _) (b0a (.fn _ _ _ b0j b0j) b0j))) (c3c (control_plant.mk (situation_Plant.mk (((b3h m).Plant).Machine))) ([]) "newel/control.same" [] [] (fun z7 => some (b6f z7)) (.fn _ _ _ b0j b0j) (fun z0 y hz => by cases hz; exact c3g z0) _ h_y8) ?_
  ·exact .cons (.refl _ (fM _)) (.cons (.nil _) (.cons (.refl _ (.fn _ _ _ b0j b0j)) (.nil)))
  simp only [go_sem];apply hK;clear hK K;obtain ⟨l10, h_l10, hm0⟩ := b0g hm0;apply b0b;intro K hK;simp only [go_sem];refine d2k (f := eI) (z := 0) rfl h_l10 ?_;simp only [go_sem];apply hK;clear hK K;refine b0v ?_;apply b0b;intro K hK;simp only [go_sem];apply hK;clear hK K;refine b0i fun K11 hK11 => ?_
  have J12 : ∀ (class_7 : List Int) (i7 : Nat) (t : Slots) (h : Heap), t 6 = .fp [.fs 3 (List.map b1g y8.places), .fs 1 (List.map eI y8.from_), .fs 1 (List.map eI y8.by_), .fs 1 (List.map b2f y8.next)] 0 -> t 7 = .rs i7 0 (List.length class_7) -> h.ob i7 = some (1, List.map eI class_7) -> i7 < h.nx -> r8p y8 class_7 = some r -> K11 t h := by
   intro class_7 i7 t h s6 s7 Q6 Q2 hm0;refine hK11 _ _ ?_;unfold r8p at hm0;apply b0b;intro K hK;simp only [go_sem, Q2];apply hK;clear hK K;refine d1l ?_;refine b0i fun K13 hK13 => ?_;simp only [b0u];obtain ⟨b14, hl14, hm0⟩ := b0g hm0;refine b1j hl14 (fun | (class_7_1, count_10), t, h => ∃ i7_1 : Nat, t 6 = .fp [.fs 3 (List.map b1g y8.places), .fs 1 (List.map eI y8.from_), .fs 1 (List.map eI y8.by_), .fs 1 (List.map b2f y8.next)] 0 /\ t 7 = .rs i7_1 0 (List.length class_7_1) /\ t 10 = I count_10 /\ h.ob i7_1 = some (1, List.map eI class_7_1) /\ i7_1 < h.nx) ?_ ?_
   ·exact ⟨i7, s6, (by first | exact s7 | simp only [go_sem, s7, lA9, mA9]), vf9, Q6, Q2⟩
   ·rintro ⟨class_7_1, count_10⟩ o t h ⟨i7_1, s6, s7, s10, Q6, Q2⟩ hm1 hb14;simp only [r8d] at hm1;rw [m1w];refine d1l ?_;refine b0i fun K15 hK15 => ?_
    have J16 : ∀ (class_7_2 : List Int) (count_10_1 : Int) (i7_2 : Nat) (t : Slots) (h : Heap), t 6 = .fp [.fs 3 (List.map b1g y8.places), .fs 1 (List.map eI y8.from_), .fs 1 (List.map eI y8.by_), .fs 1 (List.map b2f y8.next)] 0 -> t 7 = .rs i7_2 0 (List.length class_7_2) -> t 10 = I count_10_1 -> h.ob i7_2 = some (1, List.map eI class_7_2) -> i7_2 < h.nx -> r8q class_7_2 count_10_1 = some o -> K15 t h := by
     intro class_7_2 count_10_1 i7_2 t h s6 s7 s10 Q6 Q2 hm1;refine hK15 _ _ ?_;unfold r8q at hm1;simp only [b0s, b02, b0f];obtain rfl := sI9 hm1;refine ⟨_, rfl, ?_⟩;exact ⟨i7_2, s6, (by first | exact s7 | simp only [go_sem, s7, lA9, mA9]), s10, Q6, Q2⟩
    simp only [b0u];obtain ⟨l18, h_l18, hm1⟩ := b0g hm1;refine b2p (fun t h => ∃ i11 : Nat, ∃ v11 : AV, ∃ hs11 : List AV, t 6 = .fp [.fs 3 (List.map b1g y8.places), .fs 1 (List.map eI y8.from_), .fs 1 (List.map eI y8.by_), .fs 1 (List.map b2f y8.next)] 0 /\ t 7 = .rs i7_1 0 (List.length class_7_1) /\ t 10 = I count_10 /\ t 11 = .rp i11 0 0 /\ h.ob i7_1 = some (1, List.map eI class_7_1) /\ i7_1 < h.nx /\ h.ob i11 = some (1, [[v11]]) /\ i11 < h.nx /\ RR h v11 hs11 1 eI l18 /\ ¬i7_1 = i11 /\ s8i v11 hs11 i7_1 /\ s8i v11 hs11 i11) (fun K hK => ?_) ?_
    ·simp only [go_sem, s7, Q6, Q2];refine s0z h_l18 ?_;simp only [go_sem, s7, Q6, Q2];exact hK _ _ ⟨(nxs h.nx), (.rs h.nx 0 (List.length l18)), (List.map (fun _ => nilS) l18), s6, (by first | exact s7 | simp only [go_sem, s7, lA9, mA9]), s10, vf9, (by simp only [go_sem, Q6, Q2, lA9, mA9]), (by simp only [go_sem, Q2]), vi9, vc9, (s1s vi9 rfl vc9 (s1b h_l18)), vb9, (r94 (by first | first | assumption | omega | (simp only [nxs] <;> omega) | exact c33 (by assumption))), (r94 (by first | first | assumption | omega | (simp only [nxs] <;> omega) | exact c33 (by assumption)))⟩
    ·rintro t h ⟨i11, v11, hs11, s6, s7, s10, s11, Q6, Q2, Q4, Q0, Q1, Q7, Q5, Q3⟩;refine b0v ?_;apply b0b;intro K hK;simp only [go_sem, s6, Q2, Q0, b5r v11];apply hK;clear hK K;refine b0i fun K19 hK19 => ?_
     have J20 : ∀ (keys_11_0 : List (List Int)) (v11_1 : AV) (hs11_1 : List AV) (t : Slots) (h : Heap), t 6 = .fp [.fs 3 (List.map b1g y8.places), .fs 1 (List.map eI y8.from_), .fs 1 (List.map eI y8.by_), .fs 1 (List.map b2f y8.next)] 0 -> t 7 = .rs i7_1 0 (List.length class_7_1) -> t 10 = I count_10 -> t 11 = .rp i11 0 0 -> h.ob i7_1 = some (1, List.map eI class_7_1) -> i7_1 < h.nx -> h.ob i11 = some (1, [[v11_1]]) -> i11 < h.nx -> RR h v11_1 hs11_1 1 eI keys_11_0 -> ¬i7_1 = i11 -> s8i v11_1 hs11_1 i7_1 -> s8i v11_1 hs11_1 i11 -> r8r class_7_1 count_10 keys_11_0 = some o -> K19 t h := by
      try clear s6 s7 s10 s11 Q6 Q2 Q4 Q0 Q1 Q7 Q5 Q3
      intro keys_11_0 v11_1 hs11_1 t h s6 s7 s10 s11 Q6 Q2 Q4 Q0 Q1 Q7 Q5 Q3 hm1;refine hK19 _ _ ?_;unfold r8r at hm1;apply b0b;intro K hK;simp only [go_sem, Q2, Q0, b5r v11, b5r v11_1];apply hK;clear hK K;obtain ⟨l22, h_l22, hm1⟩ := b0g hm1;apply b0b;intro K hK;simp only [go_sem, s7, Q6, Q2, Q0, Q7, b1z Q7, b5r v11, b5r v11_1];refine d2k (f := eI) (z := 0) rfl h_l22 ?_;simp only [go_sem, s7, Q6, Q2, Q0, Q7, b1z Q7, b5r v11, b5r v11_1];apply hK;clear hK K;refine b0v ?_;apply b0b;intro K hK;simp only [go_sem, s11, r8a Q1, Q4, Q0, Q2, Q7, b1z Q7, b5r v11, b5r v11_1];apply hK;clear hK K;refine b0i fun K23 hK23 => ?_
      have J24 : ∀ (firsts_16 finer_17 : List Int) (v16 : AV) (i17 : Nat) (t : Slots) (h : Heap), t 6 = .fp [.fs 3 (List.map b1g y8.places), .fs 1 (List.map eI y8.from_), .fs 1 (List.map eI y8.by_), .fs 1 (List.map b2f y8.next)] 0 -> t 10 = I count_10 -> t 16 = v16 -> t 17 = .rs i17 0 (List.length finer_17) -> b2a h v16 1 (List.map eI firsts_16) -> h.ob i17 = some (1, List.map eI finer_17) -> i17 < h.nx -> b07 v16 i17 -> r8s count_10 firsts_16 finer_17 = some o -> K23 t h := by
       try clear s6 s7 s10 s11 Q6 Q2 Q4 Q0 Q1 Q7 Q5 Q3
       intro firsts_16 finer_17 v16 i17 t h s6 s10 s16 s17 Qa Qf Q8 Q9 hm1;refine hK23 _ _ ?_;unfold r8s at hm1;apply b0b;intro K hK;simp only [go_sem, s17, Qf, Q8, Q9, b5r v11, b5r v11_1, b5r v16];apply hK;clear hK K;refine b0v ?_;apply b0b;intro K hK;simp only [go_sem, s10, s16, l3r Qa, Q8, Q9, b5r v11, b5r v11_1, b5r v16];apply hK;clear hK K;refine b0i fun K25 hK25 => ?_;simp only [go_sem];refine b0k (fun hc26 => ?_) (fun hc26 => ?_)
       ·rw [b0r hc26] at hm1;apply b0b;intro K hK;simp only [go_sem, Qf, Q8, Q9, b5r v11, b5r v11_1, b5r v16];apply hK;clear hK K;simp only [b0x, b1p, b2e, b0y];obtain rfl := sI9 hm1;obtain rfl := hb14 _ rfl
        try dsimp only at hm0
        obtain rfl := sI9 hm0;exact d66 (v := .rs i17 0 (List.length finer_17)) (u := I 0) (by simp only [go_sem, b8s Qa, Qf, Q8, Q9, lA9, mA9]) (by simp only [go_sem, b8s Qa, Qf, Q8, Q9, lA9, mA9]) (b29 (f := eI) (l := finer_17) (id := i17) (by simp only [go_sem, b8s Qa, Qf, Q8, Q9, lA9, mA9]) vg9 b1t b8p) (.refl _ (b0e _))
       ·rw [b0q hc26] at hm1;simp only [b0s, b02, b0f];refine hK25 _ _ ?_;apply b03;intro K hK;simp only [go_sem, s16, l3r Qa, Q8, Q9, b5r v11, b5r v11_1, b5r v16];apply hK;clear hK K;simp only [b02, b0f];exact J16 finer_17 (List.length firsts_16 : Int) i17 _ _ s6 vf9 (by first | (simp only [go_sem, s10, lA9, mA9]; done) | rfl) Qf Q8 hm1
      simp only [b0u];obtain ⟨b27, hl27, hm1⟩ := b0g hm1;refine b1j hl27 (fun | (firsts_16, finer_17, x_103), t, h => ∃ v16 : AV, ∃ i17 : Nat, t 6 = .fp [.fs 3 (List.map b1g y8.places), .fs 1 (List.map eI y8.from_), .fs 1 (List.map eI y8.by_), .fs 1 (List.map b2f y8.next)] 0 /\ t 10 = I count_10 /\ t 11 = .rp i11 0 0 /\ t 16 = v16 /\ t 17 = .rs i17 0 (List.length finer_17) /\ t 102 = I (List.length keys_11_0 : Int) /\ t 103 = I x_103 /\ h.ob i11 = some (1, [[v11_1]]) /\ i11 < h.nx /\ RR h v11_1 hs11_1 1 eI keys_11_0 /\ b2a h v16 1 (List.map eI firsts_16) /\ h.ob i17 = some (1, List.map eI finer_17) /\ i17 < h.nx /\ s8i v11_1 hs11_1 i11 /\ b07 v16 i11 /\ ¬i11 = i17 /\ (∀ j, ¬b07 v16 j -> s8i v11_1 hs11_1 j) /\ s8i v11_1 hs11_1 i17 /\ b07 v16 i17) ?_ ?_
      ·exact ⟨(.v (.slice none 0 0)), h.nx, s6, s10, s11, vf9, vf9, vf9, vf9, (by simp only [go_sem, Q4, Q0, lA9, mA9]), (by simp only [go_sem, Q0]), (r8j Q1 (by intro j hj  hl; first | rfl | simp only [go_sem, hl]) (by first | omega | exact Nat.le_refl _ | (simp only [go_sem, nxs] <;> omega))), c0o, vi9, vc9, Q3, vd9, vb9, s0r, (by first | assumption | exact r7w Q1 (by first | assumption | omega | (simp only [nxs] <;> omega))), vd9⟩
      ·try clear s6 s7 s10 s11 Q6 Q2 Q4 Q0 Q1 Q7 Q5 Q3
       rintro ⟨firsts_16, finer_17, x_103⟩ o t h ⟨v16, i17, s6, s10, s11, s16, s17, s102, s103, Q4, Q0, Q1, Qa, Qf, Q8, Q3, Qj, Qb, Q12, Qy, Q9⟩ hm2 hb27;simp only [r72] at hm2;rw [m1v];apply b0b;intro K hK;simp only [go_sem, s102, s103, Q0, Q8, b5r v11, b5r v11_1, b5r v16];apply hK;clear hK K;refine b0i fun K28 hK28 => ?_;simp only [go_sem];refine b0k (fun hc29 => ?_) (fun hc29 => ?_)
       ·rw [b0r hc29] at hm2;simp only [b0s, b02, b0f];refine hK28 _ _ ?_;refine b0i fun K30 hK30 => ?_;simp only [b0u];apply b0b;intro K hK;simp only [go_sem, s103, Q0, Q8, b5r v11, b5r v11_1, b5r v16];apply hK;clear hK K;obtain ⟨y34, h_y34, hm2⟩ := b0g hm2;apply b0b;intro K hK;simp only [go_sem, s11, r8a Q1, s16, Q4, Q0, l3r Qa, Q8, Qj, Qb, b1z Qb, Q9, b5r v11, b5r v11_1, b5r v16];refine b8l ?_ (d3u firsts_16 "newel/control.Classes$1" [] [.fp [.fs 1 (List.map b2f keys_11_0)] 0, .fp [I x_103] 0] (fun z33 => r7n z33 keys_11_0 x_103) (.fn _ _ _ b0j (b0a (.fp _ _ (b0a (b0c fun a _ => b8i a) b0j)) (b0a (.fp _ _ (b0a (b0e _) b0j)) b0j))) (fun z0 y hz => r9h z0 keys_11_0 x_103 y hz) _ h_y34) (.v _) ?_
        ·exact .cons (r8x (f := eI) (l := firsts_16) (b3x Qa (by intro j hj hl; first | rfl | simp only [go_sem, hl, b4s hj Qj, s8n (Q12 j hj), b4s hj Q9]) (by first | omega | exact Nat.le_refl _ | (simp only [go_sem, nxs] <;> omega))) b1t b8p) (.cons (j1d (.nil) (.cons (c66 (id := i11) (sz := 1) (xs := [v11_1]) (by simp only [go_sem, Q4, Q0, r7i Q1, b8s Qa, Qf, Q8, s8n Q3, Qj, Qb, b1z Qb, s8n Qy, Q9]) (.cons (s1q (e := b2f) (r8j Q1 (by intro j hj  hl; first | rfl | simp only [go_sem, hl]) (by first | omega | exact Nat.le_refl _ | (simp only [go_sem, nxs] <;> omega))) (fun _ => rfl) b1t b8p) (.nil))) (.cons (c66 (id := h.nx) (sz := 1) (xs := [I x_103]) (by simp only [go_sem, Q4, Q0, r7i Q1, b8s Qa, Qf, Q8, s8n Q3, Qj, Qb, b1z Qb, s8n Qy, Q9]) (.cons (.refl _ (b0e _)) (.nil))) (.nil)))) (.nil))
        simp only [go_sem, s11, r8a Q1, s16, Q4, Q0, l3r Qa, Q8, Qj, Qb, b1z Qb, Q9, b5r v11, b5r v11_1, b5r v16];apply hK;clear hK K;refine b0v ?_;apply b0b;intro K hK;simp only [go_sem, Q0, Q8, b5r v11, b5r v11_1, b5r v16];apply hK;clear hK K;refine b0i fun K35 hK35 => ?_
        have J36 : ∀ (firsts_16_1 : List Int) (n_19 : Int) (v16_1 : AV) (i18 : Nat) (t : Slots) (h : Heap), t 6 = .fp [.fs 3 (List.map b1g y8.places), .fs 1 (List.map eI y8.from_), .fs 1 (List.map eI y8.by_), .fs 1 (List.map b2f y8.next)] 0 -> t 10 = I count_10 -> t 11 = .rp i11 0 0 -> t 16 = v16_1 -> t 17 = .rs i17 0 (List.length finer_17) -> t 18 = .rp i18 0 0 -> t 19 = I n_19 -> t 102 = I (List.length keys_11_0 : Int) -> t 103 = I x_103 -> h.ob i11 = some (1, [[v11_1]]) -> i11 < h.nx -> RR h v11_1 hs11_1 1 eI keys_11_0 -> b2a h v16_1 1 (List.map eI firsts_16_1) -> h.ob i17 = some (1, List.map eI finer_17) -> i17 < h.nx -> h.ob i18 = some (1, [[I x_103]]) -> i18 < h.nx -> s8i v11_1 hs11_1 i11 -> b07 v16_1 i11 -> ¬i11 = i17 -> ¬i11 = i18 -> (∀ j, ¬b07 v16_1 j -> s8i v11_1 hs11_1 j) -> s8i v11_1 hs11_1 i17 -> s8i v11_1 hs11_1 i18 -> b07 v16_1 i17 -> b07 v16_1 i18 -> ¬i17 = i18 -> r8e finer_17 x_103 firsts_16_1 n_19 = some o -> K35 t h := by
         try clear s6 s10 s11 s16 s17 s102 s103 Q4 Q0 Q1 Qa Qf Q8 Q3 Qj Qb Q12 Qy Q9
         intro firsts_16_1 n_19 v16_1 i18 t h s6 s10 s11 s16 s17 s18 s19 s102 s103 Q4 Q0 Q1 Qa Qf Q8 Q1a Q17 Q3 Qj Qb Q18 Q12 Qy Q1c Q9 Q1b Q19 hm2;refine hK35 _ _ ?_;unfold r8e at hm2;obtain ⟨x38, h_x38, hm2⟩ := b0g hm2;have h_x380 := b05 h_x38;have h_x381 := b06 h_x38;apply b03;intro K hK;simp only [go_sem, s17, s18, s19, Qf, Q8, Q1a, Q17, Q0, Qb, b1z Qb, Q18, b1z Q18, Q9, Q1b, Q19, b1z Q19, b08 h_x38, b3n h_x38, h_x380, h_x381, b5r v11, b5r v11_1, b5r v16, b5r v16_1];apply hK;clear hK K;simp only [b02, b0f];refine hK30 _ _ ?_;apply b03;intro K hK;simp only [go_sem, s103, Q0, Q8, Q17, b5r v11, b5r v11_1, b5r v16, b5r v16_1];apply hK;clear hK K;simp only [b02, b0f];obtain rfl := sI9 hm2;refine ⟨_, rfl, ?_⟩;exact ⟨v16_1, i17, s6, s10, s11, s16, (by first | exact s17 | simp only [go_sem, s17, lA9, mA9]), s102, (by first | (simp only [go_sem, s103, lA9, mA9]; done) | rfl), (by simp only [go_sem, Q4, Q0, Q8, Qb, b1z Qb, lA9, mA9]), (by simp only [go_sem, Q0]), (r8j Q1 (by intro j hj  hl; first | rfl | simp only [go_sem, hl, s1t hj Qy, Q8]) (by first | omega | exact Nat.le_refl _ | (simp only [go_sem, nxs] <;> omega))), (b3x Qa (by intro j hj hl; first | rfl | simp only [go_sem, hl, Q8, b4s hj Q9]) (by first | omega | exact Nat.le_refl _ | (simp only [go_sem, nxs] <;> omega))), (by simp only [go_sem, Qf, Q8, lA9, mA9]), (by simp only [go_sem, Q8]), Q3, Qj, Qb, Q12, Qy, Q9⟩
        simp only [go_sem];refine b0k (fun hc39 => ?_) (fun hc39 => ?_)
        ·rw [b0r hc39] at hm2;apply b0b;intro K hK;simp only [go_sem, s16, l3r Qa, Q0, Q8, Qj, Q9, b5r v11, b5r v11_1, b5r v16];apply hK;clear hK K;obtain ⟨l41, h_l41, hm2⟩ := b0g hm2;apply b03;intro K hK;simp only [go_sem, s16, l3r Qa, Q0, Q8, Qj, Q9, b5r v11, b5r v11_1, b5r v16];refine b3a (f := eI) (l := firsts_16) (m := ([x_103])) ?_ ?_ ?_ ?_ h_l41 ?_
         ·exact (b3x Qa (by intro j hj hl; first | rfl | simp only [go_sem, hl, b4s hj Qj, s8n (Q12 j hj), b4s hj Q9]) (by first | omega | exact Nat.le_refl _ | (simp only [go_sem, nxs] <;> omega)))
         ·exact (b4t (by simp only [go_sem, Q4, Q0, r7i Q1, b8s Qa, Qf, Q8, s8n Q3, Qj, Qb, b1z Qb, s8n Qy, Q9, lA9, mA9]) (by simp only [go_sem, Q4, Q0, r7i Q1, b8s Qa, Qf, Q8, s8n Q3, Qj, Qb, b1z Qb, s8n Qy, Q9, lA9, mA9]))
         ·exact (b4r ve9)
         ·exact (fun _ => by simp)
         simp only [go_sem, s16, l3r Qa, Q0, Q8, Qj, Q9, b5r v11, b5r v11_1, b5r v16];apply hK;clear hK K;simp only [b02, b0f];exact J36 l41 (List.length firsts_16 : Int) (.rs (nxs (nxs h.nx)) 0 (List.length l41)) h.nx _ _ s6 s10 s11 (by first | (simp only [go_sem, s16, lA9, mA9]; done) | rfl) (by first | exact s17 | simp only [go_sem, s17, lA9, mA9]) vf9 vf9 s102 s103 (by simp only [go_sem, Q4, Q0, b8s Qa, Qj, lA9, mA9]) (by simp only [go_sem, Q0]) (r8j Q1 (by intro j hj  hl; first | rfl | simp only [go_sem, hl, s1k Q12 j hj]) (by first | omega | exact Nat.le_refl _ | (simp only [go_sem, nxs] <;> omega))) (b2v (by simp only [go_sem, b8s Qa, lA9, mA9]) vg9 vc9) (by simp only [go_sem, b8s Qa, Qf, Q8, Q9, lA9, mA9]) (by simp only [go_sem, Q8]) (by simp only [go_sem, b8s Qa, lA9, mA9]) vc9 Q3 vd9 Qb vb9 (r9d (by first | assumption | exact r7w Q1 (by first | assumption | omega | (simp only [nxs] <;> omega)))) Qy (by first | assumption | exact r7w Q1 (by first | assumption | omega | (simp only [nxs] <;> omega))) vd9 vd9 vb9 hm2
        ·rw [b0q hc39] at hm2;simp only [b0s, b02, b0f];exact J36 firsts_16 y34 v16 h.nx _ _ s6 s10 s11 s16 (by first | exact s17 | simp only [go_sem, s17, lA9, mA9]) vf9 vf9 s102 s103 (by simp only [go_sem, Q4, Q0, lA9, mA9]) (by simp only [go_sem, Q0]) (r8j Q1 (by intro j hj  hl; first | rfl | simp only [go_sem, hl]) (by first | omega | exact Nat.le_refl _ | (simp only [go_sem, nxs] <;> omega))) (b3x Qa (by intro j hj hl; first | rfl | simp only [go_sem, hl]) (by first | omega | exact Nat.le_refl _ | (simp only [go_sem, nxs] <;> omega))) (by simp only [go_sem, Qf, Q8, lA9, mA9]) (by simp only [go_sem, Q8]) vi9 vc9 Q3 Qj Qb vb9 Q12 Qy (by first | assumption | exact r7w Q1 (by first | assumption | omega | (simp only [nxs] <;> omega))) Q9 vd9 vb9 hm2
       ·rw [b0q hc29] at hm2;simp only [b09, b1b, b1a, c0s, b02, b0f, Nat.reduceEqDiff, nF9];obtain rfl := sI9 hm2;obtain rfl := hb27 _ rfl
        try dsimp only at hm1
        exact J24 firsts_16 finer_17 v16 i17 _ _ s6 s10 s16 (by first | exact s17 | simp only [go_sem, s17, lA9, mA9]) Qa Qf Q8 Q9 hm1
     simp only [b0u];obtain ⟨b43, hl43, hm1⟩ := b0g hm1;refine b1j hl43 (fun | (keys_11_0, x_64), t, h => ∃ v11_1 : AV, ∃ hs11_1 : List AV, t 6 = .fp [.fs 3 (List.map b1g y8.places), .fs 1 (List.map eI y8.from_), .fs 1 (List.map eI y8.by_), .fs 1 (List.map b2f y8.next)] 0 /\ t 7 = .rs i7_1 0 (List.length class_7_1) /\ t 10 = I count_10 /\ t 11 = .rp i11 0 0 /\ t 62 = .fs 1 (List.map b2f y8.next) /\ t 63 = I (List.length y8.next : Int) /\ t 64 = I x_64 /\ h.ob i7_1 = some (1, List.map eI class_7_1) /\ i7_1 < h.nx /\ h.ob i11 = some (1, [[v11_1]]) /\ i11 < h.nx /\ RR h v11_1 hs11_1 1 eI keys_11_0 /\ ¬i7_1 = i11 /\ s8i v11_1 hs11_1 i7_1 /\ s8i v11_1 hs11_1 i11) ?_ ?_
     ·exact ⟨v11, hs11, s6, (by first | exact s7 | simp only [go_sem, s7, lA9, mA9]), s10, s11, vf9, vf9, vf9, Q6, Q2, Q4, Q0, Q1, Q7, Q5, Q3⟩
     ·try clear s6 s7 s10 s11 Q6 Q2 Q4 Q0 Q1 Q7 Q5 Q3
      rintro ⟨keys_11_0, x_64⟩ o t h ⟨v11_1, hs11_1, s6, s7, s10, s11, s62, s63, s64, Q6, Q2, Q4, Q0, Q1, Q7, Q5, Q3⟩ hm2 hb43;simp only [r71] at hm2;rw [m1u];apply b0b;intro K hK;simp only [go_sem, s63, s64, Q2, Q0, b5r v11, b5r v11_1];apply hK;clear hK K;refine b0i fun K44 hK44 => ?_;simp only [go_sem];refine b0k (fun hc45 => ?_) (fun hc45 => ?_)
      ·rw [b0r hc45] at hm2;simp only [b0s, b02, b0f];refine hK44 _ _ ?_;refine b0i fun K46 hK46 => ?_
       have J47 : ∀ (keys_11_0_1 : List (List Int)) (v11_2 : AV) (hs11_2 : List AV) (t : Slots) (h : Heap), t 6 = .fp [.fs 3 (List.map b1g y8.places), .fs 1 (List.map eI y8.from_), .fs 1 (List.map eI y8.by_), .fs 1 (List.map b2f y8.next)] 0 -> t 7 = .rs i7_1 0 (List.length class_7_1) -> t 10 = I count_10 -> t 11 = .rp i11 0 0 -> t 62 = .fs 1 (List.map b2f y8.next) -> t 63 = I (List.length y8.next : Int) -> t 64 = I x_64 -> h.ob i7_1 = some (1, List.map eI class_7_1) -> i7_1 < h.nx -> h.ob i11 = some (1, [[v11_2]]) -> i11 < h.nx -> RR h v11_2 hs11_2 1 eI keys_11_0_1 -> ¬i7_1 = i11 -> s8i v11_2 hs11_2 i7_1 -> s8i v11_2 hs11_2 i11 -> r8t x_64 keys_11_0_1 = some o -> K46 t h := by
        try clear s6 s7 s10 s11 s62 s63 s64 Q6 Q2 Q4 Q0 Q1 Q7 Q5 Q3
        intro keys_11_0_1 v11_2 hs11_2 t h s6 s7 s10 s11 s62 s63 s64 Q6 Q2 Q4 Q0 Q1 Q7 Q5 Q3 hm2;refine hK46 _ _ ?_;unfold r8t at hm2;apply b03;intro K hK;simp only [go_sem, s64, Q2, Q0, b5r v11, b5r v11_1, b5r v11_2];apply hK;clear hK K;simp only [b02, b0f];obtain rfl := sI9 hm2;refine ⟨_, rfl, ?_⟩;exact ⟨v11_2, hs11_2, s6, (by first | exact s7 | simp only [go_sem, s7, lA9, mA9]), s10, s11, s62, s63, (by first | (simp only [go_sem, s64, lA9, mA9]; done) | rfl), Q6, Q2, Q4, Q0, Q1, Q7, Q5, Q3⟩
       simp only [b0u];obtain ⟨x49, h_x49, hm2⟩ := b0g hm2;have h_x490 := b05 h_x49;have h_x491 := b06 h_x49;apply b0b;intro K hK;simp only [go_sem, s62, s64, Q2, Q0, b08 h_x49, b3n h_x49, h_x490, h_x491, b5r v11, b5r v11_1];apply hK;clear hK K;obtain ⟨x52, h_x52, hm2⟩ := b0g hm2;have h_x520 := b05 h_x52;have h_x521 := b06 h_x52;obtain ⟨x53, h_x53, hm2⟩ := b0g hm2;have h_x530 := b05 h_x53;have h_x531 := b06 h_x53;obtain ⟨iqp983, rfl, Qx, Qc⟩ := r97 Q1 h_x53;obtain ⟨wp984, hw_wp984, os_wp984⟩ := r96 Q1 h_x53;refine b2p (fun t h => ∃ v11_2 : AV, ∃ hs11_2 : List AV, t 6 = .fp [.fs 3 (List.map b1g y8.places), .fs 1 (List.map eI y8.from_), .fs 1 (List.map eI y8.by_), .fs 1 (List.map b2f y8.next)] 0 /\ t 7 = .rs i7_1 0 (List.length class_7_1) /\ t 10 = I count_10 /\ t 11 = .rp i11 0 0 /\ t 12 = I x_64 /\ t 13 = .fs 1 (List.map eI x49) /\ t 62 = .fs 1 (List.map b2f y8.next) /\ t 63 = I (List.length y8.next : Int) /\ t 64 = I x_64 /\ h.ob i7_1 = some (1, List.map eI class_7_1) /\ i7_1 < h.nx /\ h.ob i11 = some (1, [[v11_2]]) /\ i11 < h.nx /\ RR h v11_2 hs11_2 1 eI (List.set keys_11_0 (Int.toNat x_64) ([x52])) /\ ¬i7_1 = i11 /\ s8i v11_2 hs11_2 i7_1 /\ s8i v11_2 hs11_2 i11) (fun K hK => ?_) ?_
       ·simp only [go_sem, s7, s11, r8a Q1, Q6, Q2, Q4, Q0, Qx, Qc, Q7, b1z Q7, c33 (Q5), b1z (c33 (Q5)), c33 (Q3), b1z (c33 (Q3)), b08 h_x52, b3n h_x52, h_x520, h_x521, b08 h_x53, b3n h_x53, h_x530, h_x531, b08 hw_wp984, b3n hw_wp984, l3r os_wp984, b5r v11];exact hK _ _ ⟨(.rs iqp983 0 (List.length keys_11_0)), (List.set hs11_1 (Int.toNat x_64) (.rs h.nx 0 (1))), s6, (by first | exact s7 | simp only [go_sem, s7, lA9, mA9]), s10, s11, vf9, vf9, s62, s63, s64, (by simp only [go_sem, Q6, Q2, r7i Q1, s8n Q5, c33 (Q5), b1z (c33 (Q5)), Qc, lA9, mA9]), (by simp only [go_sem, Q2]), (by simp only [go_sem, Q4, Q0, r7i Q1, s8n Q3, c33 (Q3), b1z (c33 (Q3)), Qc, lA9, mA9]), (by simp only [go_sem, Q0]), (s1u Q1 h_x53 (by simp only [go_sem, r7i Q1, Qx, Qc, lA9, mA9]) (b2v (by simp only [go_sem, r7i Q1, Qc, lA9, mA9]) (by simp only [go_sem, r7i Q1, Qc, lA9, mA9]) vc9) (r9d (by first | assumption | exact r7w Q1 (by first | omega | (simp only [nxs] <;> omega)))) (by intro j hj hne hl; first | rfl | simp only [go_sem, hne, hl, Qc]) (by first | omega | exact Nat.le_refl _ | (simp only [go_sem, nxs] <;> omega))), Q7, (r86 Q5 vd9), (r86 Q3 vd9)⟩
       ·try clear s6 s7 s10 s11 s62 s63 s64 Q6 Q2 Q4 Q0 Q1 Q7 Q5 Q3 Qx Qc
        rintro t h ⟨v11_2, hs11_2, s6, s7, s10, s11, s12, s13, s62, s63, s64, Q6, Q2, Q4, Q0, Q1, Q7, Q5, Q3⟩;apply b0b;intro K hK;simp only [go_sem, s13, Q2, Q0, b5r v11, b5r v11_2];apply hK;clear hK K;simp only [b0u];obtain ⟨b54, hl54, hm2⟩ := b0g hm2;refine b1j hl54 (fun | (keys_11_0_1, x_79), t, h => ∃ v11_3 : AV, ∃ hs11_3 : List AV, t 6 = .fp [.fs 3 (List.map b1g y8.places), .fs 1 (List.map eI y8.from_), .fs 1 (List.map eI y8.by_), .fs 1 (List.map b2f y8.next)] 0 /\ t 7 = .rs i7_1 0 (List.length class_7_1) /\ t 10 = I count_10 /\ t 11 = .rp i11 0 0 /\ t 12 = I x_64 /\ t 62 = .fs 1 (List.map b2f y8.next) /\ t 63 = I (List.length y8.next : Int) /\ t 64 = I x_64 /\ t 77 = .fs 1 (List.map eI x49) /\ t 78 = I (List.length x49 : Int) /\ t 79 = I x_79 /\ h.ob i7_1 = some (1, List.map eI class_7_1) /\ i7_1 < h.nx /\ h.ob i11 = some (1, [[v11_3]]) /\ i11 < h.nx /\ RR h v11_3 hs11_3 1 eI keys_11_0_1 /\ ¬i7_1 = i11 /\ s8i v11_3 hs11_3 i7_1 /\ s8i v11_3 hs11_3 i11) ?_ ?_
        ·exact ⟨v11_2, hs11_2, s6, (by first | exact s7 | simp only [go_sem, s7, lA9, mA9]), s10, s11, s12, s62, s63, s64, vf9, vf9, vf9, Q6, Q2, Q4, Q0, Q1, Q7, Q5, Q3⟩
        ·try clear s6 s7 s10 s11 s12 s13 s62 s63 s64 Q6 Q2 Q4 Q0 Q1 Q7 Q5 Q3
         rintro ⟨keys_11_0_1, x_79⟩ o t h ⟨v11_3, hs11_3, s6, s7, s10, s11, s12, s62, s63, s64, s77, s78, s79, Q6, Q2, Q4, Q0, Q1, Q7, Q5, Q3⟩ hm3 hb54;simp only [r70] at hm3;rw [m1t];apply b0b;intro K hK;simp only [go_sem, s78, s79, Q2, Q0, b5r v11, b5r v11_2, b5r v11_3];apply hK;clear hK K;refine b0i fun K55 hK55 => ?_;simp only [go_sem];refine b0k (fun hc56 => ?_) (fun hc56 => ?_)
         ·rw [b0r hc56] at hm3;simp only [b0s, b02, b0f];refine hK55 _ _ ?_;refine b0i fun K57 hK57 => ?_;simp only [b0u];obtain ⟨x59, h_x59, hm3⟩ := b0g hm3;have h_x590 := b05 h_x59;have h_x591 := b06 h_x59;apply b0b;intro K hK;simp only [go_sem, s77, s79, Q2, Q0, b08 h_x59, b3n h_x59, h_x590, h_x591, b5r v11, b5r v11_2, b5r v11_3];apply hK;clear hK K;obtain ⟨x63, h_x63, hm3⟩ := b0g hm3;have h_x630 := b05 h_x63;have h_x631 := b06 h_x63;obtain ⟨iqp1007, rfl, Qx, Qc⟩ := r97 Q1 h_x63;obtain ⟨wp1008, hw_wp1008, os_wp1008⟩ := r96 Q1 h_x63;obtain ⟨x64, h_x64, hm3⟩ := b0g hm3;have h_x640 := b05 h_x64;have h_x641 := b06 h_x64;obtain ⟨l65, h_l65, hm3⟩ := b0g hm3;refine s0q (v := .rp i11 0 0) (fun t h => ∃ v11_4 : AV, ∃ hs11_4 : List AV, t 6 = .fp [.fs 3 (List.map b1g y8.places), .fs 1 (List.map eI y8.from_), .fs 1 (List.map eI y8.by_), .fs 1 (List.map b2f y8.next)] 0 /\ t 7 = .rs i7_1 0 (List.length class_7_1) /\ t 10 = I count_10 /\ t 11 = .rp i11 0 0 /\ t 12 = I x_64 /\ t 62 = .fs 1 (List.map b2f y8.next) /\ t 63 = I (List.length y8.next : Int) /\ t 64 = I x_64 /\ t 77 = .fs 1 (List.map eI x49) /\ t 78 = I (List.length x49 : Int) /\ t 79 = I x_79 /\ h.ob i7_1 = some (1, List.map eI class_7_1) /\ i7_1 < h.nx /\ h.ob i11 = some (1, [[v11_4]]) /\ i11 < h.nx /\ RR h v11_4 hs11_4 1 eI (List.set keys_11_0_1 (Int.toNat x_64) l65) /\ ¬i7_1 = i11 /\ s8i v11_4 hs11_4 i7_1 /\ s8i v11_4 hs11_4 i11) (by decide) (by decide) s11 (fun K hK => ?_) ?_
          ·simp only [go_sem, s7, s11, r8a Q1, s12, Q6, Q2, Q4, Q0, Qx, Qc, Q7, b1z Q7, c33 (Q5), b1z (c33 (Q5)), r7k (Q5) hw_wp1008, c33 (Q3), b1z (c33 (Q3)), r7k (Q3) hw_wp1008, r7l Q1 hw_wp1008, b08 h_x63, b3n h_x63, h_x630, h_x631, b08 hw_wp1008, b3n hw_wp1008, l3r os_wp1008, b08 h_x64, b3n h_x64, h_x640, h_x641, b5r v11, b5r v11_2];refine b3a (f := eI) (l := x63) (m := ([x64])) ?_ ?_ ?_ ?_ h_l65 ?_
           ·exact (by first | exact os_wp1008 | exact b3x os_wp1008 (by intro j hj hl; first | rfl | simp only [go_sem, hl]) (by first | omega | exact Nat.le_refl _ | (simp only [go_sem, nxs] <;> omega)))
           ·exact (b4t (by simp only [go_sem, Q6, Q2, Q4, Q0, r7i Q1, Q7, b1z Q7, s8n Q5, c33 (Q5), b1z (c33 (Q5)), r7k (Q5) hw_wp1008, s8n Q3, c33 (Q3), b1z (c33 (Q3)), r7k (Q3) hw_wp1008, Qx, Qc, r7l Q1 hw_wp1008, lA9, mA9]) (by simp only [go_sem, Q6, Q2, Q4, Q0, r7i Q1, Q7, b1z Q7, s8n Q5, c33 (Q5), b1z (c33 (Q5)), r7k (Q5) hw_wp1008, s8n Q3, c33 (Q3), b1z (c33 (Q3)), r7k (Q3) hw_wp1008, Qx, Qc, r7l Q1 hw_wp1008, lA9, mA9]))
           ·exact (b4r (by first | assumption | exact b1v os_wp1008 (by first | omega | (simp only [go_sem, nxs] <;> omega))))
           ·exact (fun _ => by simp)
           simp only [go_sem, s7, s11, r8a Q1, s12, Q6, Q2, Q4, Q0, Qx, Qc, Q7, b1z Q7, c33 (Q5), b1z (c33 (Q5)), r7k (Q5) hw_wp1008, c33 (Q3), b1z (c33 (Q3)), r7k (Q3) hw_wp1008, r7l Q1 hw_wp1008, b08 h_x63, b3n h_x63, h_x630, h_x631, b08 hw_wp1008, b3n hw_wp1008, l3r os_wp1008, b08 h_x64, b3n h_x64, h_x640, h_x641, b5r v11, b5r v11_2];exact ⟨s03 (by simp only [go_sem, Q6, Q2, Q4, Q0, r7i Q1, Q7, b1z Q7, s8n Q5, c33 (Q5), b1z (c33 (Q5)), r7k (Q5) hw_wp1008, s8n Q3, c33 (Q3), b1z (c33 (Q3)), r7k (Q3) hw_wp1008, Qx, Qc, r7l Q1 hw_wp1008, lA9, mA9]), hK _ _ ⟨(.rs iqp1007 0 (List.length keys_11_0_1)), (List.set hs11_3 (Int.toNat x_64) (.rs (nxs h.nx) 0 (List.length l65))), s6, (by first | exact s7 | simp only [go_sem, s7, lA9, mA9]), s10, s11, s12, s62, s63, s64, s77, s78, s79, (by simp only [go_sem, Q6, Q2, r7i Q1, s8n Q5, c33 (Q5), b1z (c33 (Q5)), r7k (Q5) hw_wp1008, Qc, r7l Q1 hw_wp1008, lA9, mA9]), (by simp only [go_sem, Q2]), (by simp only [go_sem, Q4, Q0, r7i Q1, s8n Q3, c33 (Q3), b1z (c33 (Q3)), r7k (Q3) hw_wp1008, Qc, r7l Q1 hw_wp1008, lA9, mA9]), (by simp only [go_sem, Q0]), (s1v Q1 h_x63 (by simp only [go_sem, r7i Q1, Qx, Qc, r7l Q1 hw_wp1008, lA9, mA9]) (b2v (by simp only [go_sem, r7i Q1, Qc, r7l Q1 hw_wp1008, lA9, mA9]) (by simp only [go_sem, r7i Q1, Qc, r7l Q1 hw_wp1008, lA9, mA9]) vc9) (r9d (by first | assumption | exact r7w Q1 (by first | omega | (simp only [nxs] <;> omega)))) (by intro j hj hne hni hl; first | rfl | simp only [go_sem, hne, hni _ (b8j hw_wp1008), hl, Q2, Q0, Qc]) (by first | omega | exact Nat.le_refl _ | (simp only [go_sem, nxs] <;> omega))), Q7, (r86 Q5 vd9), (r86 Q3 vd9)⟩⟩
          ·try clear s6 s7 s10 s11 s12 s62 s63 s64 s77 s78 s79 Q6 Q2 Q4 Q0 Q1 Q7 Q5 Q3 Qx Qc
           rintro t h ⟨v11_4, hs11_4, s6, s7, s10, s11, s12, s62, s63, s64, s77, s78, s79, Q6, Q2, Q4, Q0, Q1, Q7, Q5, Q3⟩;simp only [b02, b0f];refine hK57 _ _ ?_;apply b03;intro K hK;simp only [go_sem, s79, Q2, Q0, b5r v11, b5r v11_2, b5r v11_4];apply hK;clear hK K;simp only [b02, b0f];obtain rfl := sI9 hm3;refine ⟨_, rfl, ?_⟩;exact ⟨v11_4, hs11_4, s6, (by first | exact s7 | simp only [go_sem, s7, lA9, mA9]), s10, s11, s12, s62, s63, s64, s77, s78, (by first | (simp only [go_sem, s79, lA9, mA9]; done) | rfl), Q6, Q2, Q4, Q0, Q1, Q7, Q5, Q3⟩
         ·rw [b0q hc56] at hm3;simp only [b09, b1b, b1a, c0s, b02, b0f, Nat.reduceEqDiff, nF9];obtain rfl := sI9 hm3;obtain rfl := hb54 _ rfl
          try dsimp only at hm2
          exact J47 keys_11_0_1 v11_3 hs11_3 _ _ s6 (by first | exact s7 | simp only [go_sem, s7, lA9, mA9]) s10 s11 s62 s63 s64 Q6 Q2 Q4 Q0 Q1 Q7 Q5 Q3 hm2
      ·rw [b0q hc45] at hm2;simp only [b09, b1b, b1a, c0s, b02, b0f, Nat.reduceEqDiff, nF9];obtain rfl := sI9 hm2;obtain rfl := hb43 _ rfl
       try dsimp only at hm1
       exact J20 keys_11_0 v11_1 hs11_1 _ _ s6 (by first | exact s7 | simp only [go_sem, s7, lA9, mA9]) s10 s11 Q6 Q2 Q4 Q0 Q1 Q7 Q5 Q3 hm1
  simp only [b0u];obtain ⟨b69, hl69, hm0⟩ := b0g hm0;refine b1j hl69 (fun | (class_7, x_40), t, h => ∃ i7 : Nat, t 1 = .fp (vM m) 0 /\ t 6 = .fp [.fs 3 (List.map b1g y8.places), .fs 1 (List.map eI y8.from_), .fs 1 (List.map eI y8.by_), .fs 1 (List.map b2f y8.next)] 0 /\ t 7 = .rs i7 0 (List.length class_7) /\ t 38 = .fs 3 (List.map b1g y8.places) /\ t 39 = I (List.length y8.places : Int) /\ t 40 = I x_40 /\ h.ob i7 = some (1, List.map eI class_7) /\ i7 < h.nx) ?_ ?_
  ·exact ⟨(nxs h.nx), vf9, vf9, vf9, vf9, vf9, vf9, vi9, vc9⟩
  ·rintro ⟨class_7, x_40⟩ o t h ⟨i7, s1, s6, s7, s38, s39, s40, Q6, Q2⟩ hm1 hb69;simp only [r7z] at hm1;rw [m1s];apply b0b;intro K hK;simp only [go_sem, s39, s40, Q2];apply hK;clear hK K;refine b0i fun K70 hK70 => ?_;simp only [go_sem];refine b0k (fun hc71 => ?_) (fun hc71 => ?_)
   ·rw [b0r hc71] at hm1;simp only [b0s, b02, b0f];refine hK70 _ _ ?_;refine b0i fun K72 hK72 => ?_;simp only [b0u];obtain ⟨x74, h_x74, hm1⟩ := b0g hm1;have h_x740 := b05 h_x74;have h_x741 := b06 h_x74;apply b0b;intro K hK;simp only [go_sem, s38, s40, Q2, b08 h_x74, b3n h_x74, h_x740, h_x741];apply hK;clear hK K;obtain ⟨x77, h_x77, hm1⟩ := b0g hm1;have h_x770 := b05 h_x77;have h_x771 := b06 h_x77;obtain ⟨x78, h_x78, hm1⟩ := b0g hm1;have h_x780 := b05 h_x78;have h_x781 := b06 h_x78;apply b03;intro K hK;simp only [go_sem, s1, s7, Q6, Q2, b08 h_x77, b3n h_x77, h_x770, h_x771, b08 h_x78, b3n h_x78, h_x780, h_x781];apply hK;clear hK K;simp only [b02, b0f];refine hK72 _ _ ?_;apply b03;intro K hK;simp only [go_sem, s40, Q2];apply hK;clear hK K;simp only [b02, b0f];obtain rfl := sI9 hm1;refine ⟨_, rfl, ?_⟩;exact ⟨i7, s1, s6, (by first | exact s7 | simp only [go_sem, s7, lA9, mA9]), s38, s39, (by first | (simp only [go_sem, s40, lA9, mA9]; done) | rfl), (by simp only [go_sem, Q6, Q2, lA9, mA9]), (by simp only [go_sem, Q2])⟩
   ·rw [b0q hc71] at hm1;simp only [b09, b1b, b1a, c0s, b02, b0f, Nat.reduceEqDiff, nF9];obtain rfl := sI9 hm1;obtain rfl := hb69 _ rfl
    try dsimp only at hm0
    exact J12 class_7 i7 _ _ s6 (by first | exact s7 | simp only [go_sem, s7, lA9, mA9]) Q6 Q2 hm0
noncomputable def r15 (s : List Int) : Option (List Int) := match s with | [] => some [] | a :: l => r1w (a :: l)
def nN (x : List Int) : AV := match x with | [] => .v (.slice none 0 0) | a :: l => .fs 1 (List.map eI (a :: l))
@[go_sem] def c84 (x : List Int) : List AV := [nN x]
@[go_sem] theorem r7g {x : List Int} {k : AV -> Prop} : @b4y (nN x) ⟨k⟩ = k (nN x) := rfl
theorem r3y (x : List Int) : Frz (nN x) := by cases x with
 | nil => exact .v _
 | cons a l => exact b0c fun a _ => b1t a
theorem r3z {h : Heap} (x : List Int) : Fz h (nN x) (.fs 1 (List.map eI x)) := by cases x with
 | nil => exact .nil _
 | cons a l => exact .refl _ (b0c fun a _ => b1t a)
theorem r18 (x : List Int) : ∀ c ∈ c84 x, Frz c := b0a (r3y x) b0j
theorem r2f (x : List Int) : (c84 x).length = 1 := rfl
theorem r20 {b : Nat} {l r : List Int} {x : Int} (h : ap b l [x] = some r) : nN r = .fs 1 (List.map eI r) := by
 obtain ⟨_, rfl⟩ := r9o h
 cases l <;> rfl
theorem r4c {x : AV} : ∀ i, ¬ b07 (.v (.slice none 0 0)) i -> b07 x i := fun _ h => absurd trivial h
noncomputable def r1m : Option ((List Int) × Bool × Int) :=
 some ([], true, 0)
noncomputable def r1n (at_14 : Int) (runs_11_1 : List (List Int)) (pairs_12_1 : List control_pair) (found_13_1 : List (control_pair × Int)) : Option (Out ((List (List Int)) × (List control_pair) × (List (control_pair × Int)) × Int) (Unit ⊕ (((List Int) × Bool × Int)))) :=
 some (.nx (runs_11_1, pairs_12_1, found_13_1, wr (at_14 + 1)))
noncomputable def r04 (x_95 : Int) (runs_11_2 : List (List Int)) (pairs_12_2 : List control_pair) (found_13_2 : List (control_pair × Int)) : Option (Out ((List (List Int)) × (List control_pair) × (List (control_pair × Int)) × Int) (((List (List Int)) × (List control_pair) × (List (control_pair × Int))))) :=
 some (.nx (runs_11_2, pairs_12_2, found_13_2, wr (x_95 + 1)))
noncomputable def r03 (a : Machine) (b : Machine) (assume : List (List Literal)) (at_14 : Int) (x30 : control_pair) (y40 : Int) : ((List (List Int)) × (List control_pair) × (List (control_pair × Int)) × Int) -> Option (Out ((List (List Int)) × (List control_pair) × (List (control_pair × Int)) × Int) (((List (List Int)) × (List control_pair) × (List (control_pair × Int)))))
 | (runs_11_1, pairs_12_1, found_13_1, x_95) =>
  if decide (x_95 < y40) then
   (c1z (situation_Plant.mk (((b3h a).Plant).Machine)) assume (Place.mk x30.a.State (x30.a.Values.1, x30.a.Values.2)) x_95).bind fun y47 =>
   if !y47 then
    r04 x_95 runs_11_1 pairs_12_1 found_13_1
   else
    (r7y (situation_Plant.mk (((b3h a).Plant).Machine)) (Place.mk x30.a.State (x30.a.Values.1, x30.a.Values.2)) x_95).bind fun y52 =>
    (r7y (situation_Plant.mk (((b3h b).Plant).Machine)) (Place.mk x30.b.State (x30.b.Values.1, x30.b.Values.2)) x_95).bind fun y53 =>
    if !(b6m found_13_1 (control_pair.mk (Place.mk y52.State (y52.Values.1, y52.Values.2)) (Place.mk y53.State (y53.Values.1, y53.Values.2)))) then
     (ap 48 pairs_12_1 ([(control_pair.mk (Place.mk y52.State (y52.Values.1, y52.Values.2)) (Place.mk y53.State (y53.Values.1, y53.Values.2)))])).bind fun l56 =>
     (get runs_11_1 at_14).bind fun x61 =>
     (r15 x61).bind fun y62 =>
     (ap 8 y62 ([x_95])).bind fun l63 =>
     (ap 24 runs_11_1 ([l63])).bind fun l64 =>
     r04 x_95 l64 l56 (b3w found_13_1 (control_pair.mk (Place.mk y52.State (y52.Values.1, y52.Values.2)) (Place.mk y53.State (y53.Values.1, y53.Values.2))) ((List.length pairs_12_1 : Nat) : Int))
    else
     r04 x_95 runs_11_1 pairs_12_1 found_13_1
  else
   some (.br (runs_11_1, pairs_12_1, found_13_1))
noncomputable def s3v (a : Machine) (b : Machine) (assume : List (List Literal)) : ((List (List Int)) × (List control_pair) × (List (control_pair × Int)) × Int) -> Option (Out ((List (List Int)) × (List control_pair) × (List (control_pair × Int)) × Int) (Unit ⊕ (((List Int) × Bool × Int))))
 | (runs_11, pairs_12, found_13, at_14) =>
  if decide (at_14 < ((List.length pairs_12 : Nat) : Int)) then
   (get pairs_12 at_14).bind fun x30 =>
   (get a.States x30.a.State).bind fun x33 =>
   (get b.States x30.b.State).bind fun x34 =>
   if decide (¬x33.Shows = x34.Shows) then
    (get runs_11 at_14).bind fun x38 =>
    some (.br (.inr (x38, false, 0)))
   else
    (c1y (situation_Plant.mk (((b3h a).Plant).Machine))).bind fun y40 =>
    (b0w (r03 a b assume at_14 x30 y40) (runs_11, pairs_12, found_13, 0)).bind fun
     | (runs_11_1, pairs_12_1, found_13_1) => r1n at_14 runs_11_1 pairs_12_1 found_13_1
  else
   some (.br (.inl ()))
noncomputable def r02 (a : Machine) (b : Machine) (assume : List (List Literal)) : Option ((List Int) × Bool × Int) :=
 (c2f a).bind fun y2 =>
 if decide (¬y2 = 0) then
  some ([], false, y2)
 else
  (c2f b).bind fun y6 =>
  if decide (¬y6 = 0) then
   some ([], false, y6)
  else
   (b9x a ([assume])).bind fun y10 =>
   if decide (¬y10 = 0) then
    some ([], false, y10)
   else
    (r1a a.Inputs b.Inputs).bind fun y16 =>
    (if !y16 then some true else (r1a a.Outputs b.Outputs).bind fun y17 =>
    some (!y17)).bind fun c18 =>
    if c18 then
     some ([], false, 1)
    else
     (b0w (s3v a b assume) (([] ++ [([] : List Int)]), [(control_pair.mk (Place.mk 0 (0, 0)) (Place.mk 0 (0, 0)))], (b3w ([] : List (control_pair × Int)) (control_pair.mk (Place.mk 0 (0, 0)) (Place.mk 0 (0, 0))) 0), 0)).bind fun
      | (.inl ()) => r1m
      | (.inr r') => some r'
def r1z (O : Orac) : Prop := ∀ (a : Machine) (b : Machine) (assume : List (List Literal)) (r : (List Int) × Bool × Int) (hm0 : r02 a b assume = some r), Fn O "newel/control.Same" [.agg (vM a), .agg (vM b), .fs 1 (List.map b0t assume)] (.tup [.fs 1 (List.map eI r.1), B r.2.1, I r.2.2])
theorem r38 (hg : Has O "slices.Clone[[]int,int]" x_slices_Clone___int_int_) : Fn O "slices.Clone[[]int,int]" [.v (.slice none 0 0)] (.v (.slice none 0 0)) := by
 refine b1i hg rfl (b0a (b0e _) b0j) (b0e _) ?_;refine b1c (fun t h => t 0 = .v (.slice none 0 0)) rfl fun t h s0 => ?_;simp only [x_slices_Clone___int_int_];apply b0b;intro K hK;simp only [go_sem];apply hK;clear hK K;refine b0v ?_;apply b0b;intro K hK;simp only [go_sem, s0, d83];apply hK;clear hK K;refine b0i fun K3 hK3 => ?_;simp only [go_sem];apply b0b;intro K hK;simp only [go_sem];apply hK;clear hK K;simp only [b0x, b1p, b0y];exact b04 vc9 (b0e _)
theorem r1p (hf : Has O "newel/control.Same" x_control_Same) (hg : Has O "slices.Clone[[]int,int]" x_slices_Clone___int_int_) (d24 : c96 O) (c3e : c5g O) (r1r : r13 O) (c3f : c5h O) (d2w : c9y O) (d2x : c9z O) (d20 : c92 O) (r2d : r12 O) : r1z O := by
 intro a b assume r hm0;unfold r02 at hm0;refine b1i hf rfl (b0a (fM _) (b0a (fM _) (b0a (b0c fun a _ => b2j a) b0j))) (.tup _ (b0a (b0c fun a _ => b1t a) (b0a (b0e _) (b0a (b0e _) b0j)))) ?_;refine b1c (fun t h => t 0 = .agg (vM a) /\ t 1 = .agg (vM b) /\ t 2 = .fs 1 (List.map b0t assume)) ⟨rfl, rfl, rfl⟩ fun t h ⟨s0, s1, s2⟩ => ?_;simp only [x_control_Same];apply b0b;intro K hK;simp only [go_sem, s0, s1];apply hK;clear hK K;refine b0v ?_;obtain ⟨y2, h_y2, hm0⟩ := b0g hm0;apply b0b;intro K hK;simp only [go_sem];refine b01 (d24 a _ h_y2) ?_;simp only [go_sem];apply hK;clear hK K;refine b0v ?_;apply b0b;intro K hK;simp only [go_sem];apply hK;clear hK K;refine b0i fun K3 hK3 => ?_;simp only [go_sem];refine b0k (fun hc4 => ?_) (fun hc4 => ?_)
 ·rw [b0r hc4] at hm0;apply b0b;intro K hK;simp only [go_sem];apply hK;clear hK K;simp only [b0x, b1p, b0y];obtain rfl := sI9 hm0;exact c2l (v := .v (.slice none 0 0)) (u := B false) (x := I y2) vc9 vc9 vc9 (.nil _) (.refl _ (b0e _)) (.refl _ (b0e _))
 ·rw [b0q hc4] at hm0;simp only [b0s, b0f];refine hK3 _ _ ?_;refine b0v ?_;obtain ⟨y6, h_y6, hm0⟩ := b0g hm0;apply b0b;intro K hK;simp only [go_sem];refine b01 (d24 b _ h_y6) ?_;simp only [go_sem];apply hK;clear hK K;refine b0v ?_;apply b0b;intro K hK;simp only [go_sem];apply hK;clear hK K;refine b0i fun K7 hK7 => ?_;simp only [go_sem];refine b0k (fun hc8 => ?_) (fun hc8 => ?_)
  ·rw [b0r hc8] at hm0;apply b0b;intro K hK;simp only [go_sem];apply hK;clear hK K;simp only [b0x, b1p, b0y];obtain rfl := sI9 hm0;exact c2l (v := .v (.slice none 0 0)) (u := B false) (x := I y6) vc9 vc9 vc9 (.nil _) (.refl _ (b0e _)) (.refl _ (b0e _))
  ·rw [b0q hc8] at hm0;simp only [b0s, b0f];refine hK7 _ _ ?_;refine b0v ?_;obtain ⟨y10, h_y10, hm0⟩ := b0g hm0;apply b0b;intro K hK;simp only [go_sem, s2];refine b8l ?_ (c3e a ([assume]) _ h_y10) (.v _) ?_
   ·exact .cons (.refl _ (fM _)) (.cons (b29 (f := b4v) (l := ([assume])) (id := h.nx) vc9 vg9 b97 c7o) (.nil))
   simp only [go_sem];apply hK;clear hK K;refine b0v ?_;apply b0b;intro K hK;simp only [go_sem];apply hK;clear hK K;refine b0i fun K11 hK11 => ?_;simp only [go_sem];refine b0k (fun hc12 => ?_) (fun hc12 => ?_)
   ·rw [b0r hc12] at hm0;apply b0b;intro K hK;simp only [go_sem];apply hK;clear hK K;simp only [b0x, b1p, b0y];obtain rfl := sI9 hm0;exact c2l (v := .v (.slice none 0 0)) (u := B false) (x := I y10) vc9 vc9 vc9 (.nil _) (.refl _ (b0e _)) (.refl _ (b0e _))
   ·rw [b0q hc12] at hm0;simp only [b0s, b0f];refine hK11 _ _ ?_;refine b0v ?_;obtain ⟨y16, h_y16, hm0⟩ := b0g hm0;obtain ⟨c18, h_c18, hm0⟩ := b0g hm0;refine b2p (fun t h => t 2 = .fs 1 (List.map b0t assume) /\ t 3 = .fp (vM a) 0 /\ t 4 = .fp (vM b) 0 /\ t 50 = B c18) (fun K hK => ?_) ?_
    ·simp only [go_sem];refine b01 (r1r a.Inputs b.Inputs _ h_y16) ?_;simp only [go_sem];refine b0k (fun hg19 => ?_) (fun hg19 => ?_)
     ·simp only [hg19, eq_self, if_true] at h_c18;obtain rfl := sI9 h_c18;simp only [go_sem, hg19];exact hK _ _ ⟨s2, va9, va9, va9⟩
     ·simp only [hg19, if_false, fT9] at h_c18;obtain ⟨y17, h_y17, h_c18⟩ := b0g h_c18;obtain rfl := sI9 h_c18;simp only [go_sem, hg19];refine b01 (r1r a.Outputs b.Outputs _ h_y17) ?_;simp only [go_sem, hg19];exact hK _ _ ⟨s2, va9, va9, va9⟩
    ·rintro t h ⟨s2, s3, s4, s50⟩;refine b0i fun K20 hK20 => ?_;simp only [go_sem, s50];refine b0k (fun hc21 => ?_) (fun hc21 => ?_)
     ·rw [b0r hc21] at hm0;apply b0b;intro K hK;simp only [go_sem];apply hK;clear hK K;simp only [b0x, b1p, b0y];obtain rfl := sI9 hm0;exact c2l (v := .v (.slice none 0 0)) (u := B false) (x := I 1) vc9 vc9 vc9 (.nil _) (.refl _ (b0e _)) (.refl _ (b0e _))
     ·rw [b0q hc21] at hm0;simp only [b0s, b0f];refine hK20 _ _ ?_;apply b0b;intro K hK;simp only [go_sem, s3];refine b01 (c3f a) ?_;simp only [go_sem, s4];refine b01 (c3f b) ?_;simp only [go_sem];apply hK;clear hK K;refine b0v ?_;apply b0b;intro K hK;simp only [go_sem];apply hK;clear hK K;refine g9k (id := (nxs (nxs h.nx))) (sz := 1) (f := c84) (l := ([])) (a := ([] : List Int)) (raw := [.v (.slice none 0 0)]) (fun j => false) vc9 vj9 (.cons (.refl _ (b0e _)) (.nil)) r18 r2f ?_;apply b0b;intro K hK;simp only [go_sem];apply hK;clear hK K;apply b0b;intro K hK;simp only [go_sem];refine g0d (O := O) (e := List.map (eM (vks s3o) vI) ([] : List (control_pair × Int))) rfl ?_;simp only [go_sem, nF9];refine d2i (O := O) (fk := (vks s3o)) (fv := vI) (l := ([] : List (control_pair × Int))) (x := (control_pair.mk (Place.mk 0 (0, 0)) (Place.mk 0 (0, 0)))) (v := 0) g1t r2e ?_ ?_ ?_
      ·rfl
      ·simp only [go_sem]
      simp only [go_sem, nF9];apply hK;clear hK K;refine b0v ?_;apply b0b;intro K hK;simp only [go_sem];apply hK;clear hK K;refine b0i fun K22 hK22 => ?_
      have J23 : ∀ (t : Slots) (h : Heap), r1m = some r -> K22 t h := by
       intro t h hm0;refine hK22 _ _ ?_;unfold r1m at hm0;apply b0b;intro K hK;simp only [go_sem];apply hK;clear hK K;simp only [b0x, b0y];obtain rfl := sI9 hm0;exact c2l (v := .v (.slice none 0 0)) (u := B true) (x := I 0) vc9 vc9 vc9 (.nil _) (.refl _ (b0e _)) (.refl _ (b0e _))
      simp only [b0u];obtain ⟨b24, hl24, hm0⟩ := b0g hm0;refine b1j hl24 (fun | (runs_11, pairs_12, found_13, at_14), t, h => ∃ i9 i10 : Nat, ∃ i11 i12 i13 : Nat, t 2 = .fs 1 (List.map b0t assume) /\ t 3 = .fp (vM a) 0 /\ t 4 = .fp (vM b) 0 /\ t 9 = .rp i9 0 0 /\ t 10 = .rp i10 0 0 /\ t 11 = .rs i11 0 (List.length runs_11) /\ t 12 = .rs i12 0 (List.length pairs_12) /\ t 13 = .mp i13 /\ t 14 = I at_14 /\ h.ob i9 = some (5, [[.fs 1 (List.map eS ((((b3h a).Plant).Machine).Inputs)), .fs 1 (List.map eS ((((b3h a).Plant).Machine).Outputs)), .fs 2 (List.map b0o ((((b3h a).Plant).Machine).Counters)), .fs 2 (List.map b0p ((((b3h a).Plant).Machine).States)), .fs 4 (List.map b0m ((((b3h a).Plant).Machine).Rules))]]) /\ i9 < h.nx /\ h.ob i10 = some (5, [[.fs 1 (List.map eS ((((b3h b).Plant).Machine).Inputs)), .fs 1 (List.map eS ((((b3h b).Plant).Machine).Outputs)), .fs 2 (List.map b0o ((((b3h b).Plant).Machine).Counters)), .fs 2 (List.map b0p ((((b3h b).Plant).Machine).States)), .fs 4 (List.map b0m ((((b3h b).Plant).Machine).Rules))]]) /\ i10 < h.nx /\ h.ob i11 = some (1, List.map c84 runs_11) /\ i11 < h.nx /\ h.ob i12 = some (6, List.map d7o pairs_12) /\ i12 < h.nx /\ h.ob i13 = some (0, List.map (eM (vks s3o) vI) found_13) /\ i13 < h.nx /\ ¬i9 = i10 /\ ¬i9 = i11 /\ ¬i9 = i12 /\ ¬i9 = i13 /\ ¬i10 = i11 /\ ¬i10 = i12 /\ ¬i10 = i13 /\ ¬i11 = i12 /\ ¬i11 = i13 /\ ¬i12 = i13) ?_ ?_
      ·exact ⟨h.nx, (nxs h.nx), (nxs (nxs h.nx)), (nxs (nxs (nxs h.nx))), (nxs (nxs (nxs (nxs h.nx)))), s2, s3, s4, va9, va9, va9, va9, va9, va9, (by simp only [go_sem, nF9]), vc9, (by simp only [go_sem, nF9]), vc9, (by simp only [go_sem, nF9]), vc9, (by simp only [go_sem, nF9]), vc9, vc9, vc9, vb9, vb9, vb9, vb9, vb9, vb9, vb9, vb9, vb9, vb9⟩
      ·rintro ⟨runs_11, pairs_12, found_13, at_14⟩ o t h ⟨i9, i10, i11, i12, i13, s2, s3, s4, s9, s10, s11, s12, s13, s14, Qh, Qe, Qn, Qg, Q4, Q0, Qq, Qk, Qr, Qd, Qs, Qt, Qu, Ql, Qv, Qw, Qm, Qo, Qi, Qp⟩ hm1 hb24;simp only [s3v] at hm1;rw [r3e];refine b0v ?_;apply b0b;intro K hK;simp only [go_sem, s12, s14];apply hK;clear hK K;refine b0i fun K25 hK25 => ?_;simp only [go_sem];refine b0k (fun hc26 => ?_) (fun hc26 => ?_)
       ·rw [b0r hc26] at hm1;simp only [b0s, b0f];refine hK25 _ _ ?_;refine b0i fun K27 hK27 => ?_
        have J28 : ∀ (runs_11_1 : List (List Int)) (pairs_12_1 : List control_pair) (found_13_1 : List (control_pair × Int)) (i11_1 i12_1 : Nat) (t : Slots) (h : Heap), t 2 = .fs 1 (List.map b0t assume) -> t 3 = .fp (vM a) 0 -> t 4 = .fp (vM b) 0 -> t 9 = .rp i9 0 0 -> t 10 = .rp i10 0 0 -> t 11 = .rs i11_1 0 (List.length runs_11_1) -> t 12 = .rs i12_1 0 (List.length pairs_12_1) -> t 13 = .mp i13 -> t 14 = I at_14 -> h.ob i9 = some (5, [[.fs 1 (List.map eS ((((b3h a).Plant).Machine).Inputs)), .fs 1 (List.map eS ((((b3h a).Plant).Machine).Outputs)), .fs 2 (List.map b0o ((((b3h a).Plant).Machine).Counters)), .fs 2 (List.map b0p ((((b3h a).Plant).Machine).States)), .fs 4 (List.map b0m ((((b3h a).Plant).Machine).Rules))]]) -> i9 < h.nx -> h.ob i10 = some (5, [[.fs 1 (List.map eS ((((b3h b).Plant).Machine).Inputs)), .fs 1 (List.map eS ((((b3h b).Plant).Machine).Outputs)), .fs 2 (List.map b0o ((((b3h b).Plant).Machine).Counters)), .fs 2 (List.map b0p ((((b3h b).Plant).Machine).States)), .fs 4 (List.map b0m ((((b3h b).Plant).Machine).Rules))]]) -> i10 < h.nx -> h.ob i11_1 = some (1, List.map c84 runs_11_1) -> i11_1 < h.nx -> h.ob i12_1 = some (6, List.map d7o pairs_12_1) -> i12_1 < h.nx -> h.ob i13 = some (0, List.map (eM (vks s3o) vI) found_13_1) -> i13 < h.nx -> ¬i9 = i10 -> ¬i9 = i11_1 -> ¬i9 = i12_1 -> ¬i9 = i13 -> ¬i10 = i11_1 -> ¬i10 = i12_1 -> ¬i10 = i13 -> ¬i11_1 = i12_1 -> ¬i11_1 = i13 -> ¬i12_1 = i13 -> r1n at_14 runs_11_1 pairs_12_1 found_13_1 = some o -> K27 t h := by
         try clear s2 s3 s4 s9 s10 s11 s12 s13 s14 Qh Qe Qn Qg Q4 Q0 Qq Qk Qr Qd Qs Qt Qu Ql Qv Qw Qm Qo Qi Qp
         intro runs_11_1 pairs_12_1 found_13_1 i11_1 i12_1 t h s2 s3 s4 s9 s10 s11 s12 s13 s14 Qh Qe Qn Qg Q4 Q0 Qq Qk Qr Qd Qs Qt Qu Ql Qv Qw Qm Qo Qi Qp hm1;refine hK27 _ _ ?_;unfold r1n at hm1;apply b03;intro K hK;simp only [go_sem, s14];apply hK;clear hK K;simp only [b0f];obtain rfl := sI9 hm1;refine ⟨_, rfl, ?_⟩;exact ⟨i9, i10, i11_1, i12_1, i13, s2, s3, s4, s9, s10, (by first | exact s11 | simp only [go_sem, s11, lA9, mA9]), (by first | exact s12 | simp only [go_sem, s12, lA9, mA9]), s13, va9, Qh, Qe, Qn, Qg, Q4, Q0, Qq, Qk, Qr, Qd, Qs, Qt, Qu, Ql, Qv, Qw, Qm, Qo, Qi, Qp⟩
        simp only [b0u];obtain ⟨x30, h_x30, hm1⟩ := b0g hm1;have h_x300 := b05 h_x30;have h_x301 := b06 h_x30;apply b0b;intro K hK;simp only [go_sem, s12, s14, Qq, b3n h_x30, h_x300, h_x301];apply hK;clear hK K;refine b0v ?_;obtain ⟨x33, h_x33, hm1⟩ := b0g hm1;have h_x330 := b05 h_x33;have h_x331 := b06 h_x33;obtain ⟨x34, h_x34, hm1⟩ := b0g hm1;have h_x340 := b05 h_x34;have h_x341 := b06 h_x34;apply b0b;intro K hK;simp only [go_sem, s3, s4, b08 h_x33, b08 h_x34];apply hK;clear hK K;refine b0i fun K35 hK35 => ?_;simp only [go_sem];refine b0k (fun hc36 => ?_) (fun hc36 => ?_)
        ·rw [b0r hc36] at hm1;obtain ⟨x38, h_x38, hm1⟩ := b0g hm1;have h_x380 := b05 h_x38;have h_x381 := b06 h_x38;apply b0b;intro K hK;simp only [go_sem, s11, s14, Q4, Q0, b3n h_x38, h_x380, h_x381];apply hK;clear hK K;simp only [b0x, b1p, b2e, b0y];obtain rfl := sI9 hm1;obtain rfl := hb24 _ rfl
         try dsimp only at hm0
         obtain rfl := sI9 hm0;exact c2l vc9 vc9 vc9 (r3z x38) (.refl _ (b0e _)) (.refl _ (b0e _))
        ·rw [b0q hc36] at hm1;simp only [b0s, b0f];refine hK35 _ _ ?_;obtain ⟨y40, h_y40, hm1⟩ := b0g hm1;apply b0b;intro K hK;simp only [go_sem, s9, Qh, Qe];refine b01 (d2w (situation_Plant.mk (((b3h a).Plant).Machine)) _ h_y40) ?_;simp only [go_sem];apply hK;clear hK K;simp only [b0u];obtain ⟨b41, hl41, hm1⟩ := b0g hm1;refine b1j hl41 (fun | (runs_11_1, pairs_12_1, found_13_1, x_95), t, h => ∃ i11_1 i12_1 i15 : Nat, t 2 = .fs 1 (List.map b0t assume) /\ t 3 = .fp (vM a) 0 /\ t 4 = .fp (vM b) 0 /\ t 9 = .rp i9 0 0 /\ t 10 = .rp i10 0 0 /\ t 11 = .rs i11_1 0 (List.length runs_11_1) /\ t 12 = .rs i12_1 0 (List.length pairs_12_1) /\ t 13 = .mp i13 /\ t 14 = I at_14 /\ t 15 = .rp i15 0 0 /\ t 94 = I y40 /\ t 95 = I x_95 /\ h.ob i9 = some (5, [[.fs 1 (List.map eS ((((b3h a).Plant).Machine).Inputs)), .fs 1 (List.map eS ((((b3h a).Plant).Machine).Outputs)), .fs 2 (List.map b0o ((((b3h a).Plant).Machine).Counters)), .fs 2 (List.map b0p ((((b3h a).Plant).Machine).States)), .fs 4 (List.map b0m ((((b3h a).Plant).Machine).Rules))]]) /\ i9 < h.nx /\ h.ob i10 = some (5, [[.fs 1 (List.map eS ((((b3h b).Plant).Machine).Inputs)), .fs 1 (List.map eS ((((b3h b).Plant).Machine).Outputs)), .fs 2 (List.map b0o ((((b3h b).Plant).Machine).Counters)), .fs 2 (List.map b0p ((((b3h b).Plant).Machine).States)), .fs 4 (List.map b0m ((((b3h b).Plant).Machine).Rules))]]) /\ i10 < h.nx /\ h.ob i11_1 = some (1, List.map c84 runs_11_1) /\ i11_1 < h.nx /\ h.ob i12_1 = some (6, List.map d7o pairs_12_1) /\ i12_1 < h.nx /\ h.ob i13 = some (0, List.map (eM (vks s3o) vI) found_13_1) /\ i13 < h.nx /\ h.ob i15 = some (6, [[I x30.a.State, I x30.a.Values.1, I x30.a.Values.2, I x30.b.State, I x30.b.Values.1, I x30.b.Values.2]]) /\ i15 < h.nx /\ ¬i9 = i10 /\ ¬i9 = i11_1 /\ ¬i9 = i12_1 /\ ¬i9 = i13 /\ ¬i9 = i15 /\ ¬i10 = i11_1 /\ ¬i10 = i12_1 /\ ¬i10 = i13 /\ ¬i10 = i15 /\ ¬i11_1 = i12_1 /\ ¬i11_1 = i13 /\ ¬i11_1 = i15 /\ ¬i12_1 = i13 /\ ¬i12_1 = i15 /\ ¬i13 = i15) ?_ ?_
         ·exact ⟨i11, i12, h.nx, s2, s3, s4, s9, s10, (by first | exact s11 | simp only [go_sem, s11, lA9, mA9]), (by first | exact s12 | simp only [go_sem, s12, lA9, mA9]), s13, s14, va9, va9, va9, (by simp only [go_sem, Qh, Qe]), (by simp only [go_sem, Qe]), (by simp only [go_sem, Qn, Qg]), (by simp only [go_sem, Qg]), (by simp only [go_sem, Q4, Q0]), (by simp only [go_sem, Q0]), (by simp only [go_sem, Qq, Qk]), (by simp only [go_sem, Qk]), (by simp only [go_sem, Qr, Qd]), (by simp only [go_sem, Qd]), vc9, vc9, Qs, Qt, Qu, Ql, vb9, Qv, Qw, Qm, vb9, Qo, Qi, vb9, Qp, vb9, vb9⟩
         ·try clear s2 s3 s4 s9 s10 s11 s12 s13 s14 Qh Qe Qn Qg Q4 Q0 Qq Qk Qr Qd Qs Qt Qu Ql Qv Qw Qm Qo Qi Qp
          rintro ⟨runs_11_1, pairs_12_1, found_13_1, x_95⟩ o t h ⟨i11_1, i12_1, i15, s2, s3, s4, s9, s10, s11, s12, s13, s14, s15, s94, s95, Qh, Qe, Qn, Qg, Q4, Q0, Qq, Qk, Qr, Qd, Qz, Q10, Qs, Qt, Qu, Ql, Q13, Qv, Qw, Qm, Q14, Qo, Qi, Q15, Qp, Q16, Q11⟩ hm2 hb41;simp only [r03] at hm2;rw [r3d];apply b0b;intro K hK;simp only [go_sem, s94, s95];apply hK;clear hK K;refine b0i fun K42 hK42 => ?_;simp only [go_sem];refine b0k (fun hc43 => ?_) (fun hc43 => ?_)
          ·rw [b0r hc43] at hm2;simp only [b0s, b0f];refine hK42 _ _ ?_;refine b0i fun K44 hK44 => ?_
           have J45 : ∀ (runs_11_2 : List (List Int)) (pairs_12_2 : List control_pair) (found_13_2 : List (control_pair × Int)) (i11_2 i12_2 : Nat) (t : Slots) (h : Heap), t 2 = .fs 1 (List.map b0t assume) -> t 3 = .fp (vM a) 0 -> t 4 = .fp (vM b) 0 -> t 9 = .rp i9 0 0 -> t 10 = .rp i10 0 0 -> t 11 = .rs i11_2 0 (List.length runs_11_2) -> t 12 = .rs i12_2 0 (List.length pairs_12_2) -> t 13 = .mp i13 -> t 14 = I at_14 -> t 15 = .rp i15 0 0 -> t 94 = I y40 -> t 95 = I x_95 -> h.ob i9 = some (5, [[.fs 1 (List.map eS ((((b3h a).Plant).Machine).Inputs)), .fs 1 (List.map eS ((((b3h a).Plant).Machine).Outputs)), .fs 2 (List.map b0o ((((b3h a).Plant).Machine).Counters)), .fs 2 (List.map b0p ((((b3h a).Plant).Machine).States)), .fs 4 (List.map b0m ((((b3h a).Plant).Machine).Rules))]]) -> i9 < h.nx -> h.ob i10 = some (5, [[.fs 1 (List.map eS ((((b3h b).Plant).Machine).Inputs)), .fs 1 (List.map eS ((((b3h b).Plant).Machine).Outputs)), .fs 2 (List.map b0o ((((b3h b).Plant).Machine).Counters)), .fs 2 (List.map b0p ((((b3h b).Plant).Machine).States)), .fs 4 (List.map b0m ((((b3h b).Plant).Machine).Rules))]]) -> i10 < h.nx -> h.ob i11_2 = some (1, List.map c84 runs_11_2) -> i11_2 < h.nx -> h.ob i12_2 = some (6, List.map d7o pairs_12_2) -> i12_2 < h.nx -> h.ob i13 = some (0, List.map (eM (vks s3o) vI) found_13_2) -> i13 < h.nx -> h.ob i15 = some (6, [[I x30.a.State, I x30.a.Values.1, I x30.a.Values.2, I x30.b.State, I x30.b.Values.1, I x30.b.Values.2]]) -> i15 < h.nx -> ¬i9 = i10 -> ¬i9 = i11_2 -> ¬i9 = i12_2 -> ¬i9 = i13 -> ¬i9 = i15 -> ¬i10 = i11_2 -> ¬i10 = i12_2 -> ¬i10 = i13 -> ¬i10 = i15 -> ¬i11_2 = i12_2 -> ¬i11_2 = i13 -> ¬i11_2 = i15 -> ¬i12_2 = i13 -> ¬i12_2 = i15 -> ¬i13 = i15 -> r04 x_95 runs_11_2 pairs_12_2 found_13_2 = some o -> K44 t h := by
            try clear s2 s3 s4 s9 s10 s11 s12 s13 s14 s15 s94 s95 Qh Qe Qn Qg Q4 Q0 Qq Qk Qr Qd Qz Q10 Qs Qt Qu Ql Q13 Qv Qw Qm Q14 Qo Qi Q15 Qp Q16 Q11
            intro runs_11_2 pairs_12_2 found_13_2 i11_2 i12_2 t h s2 s3 s4 s9 s10 s11 s12 s13 s14 s15 s94 s95 Qh Qe Qn Qg Q4 Q0 Qq Qk Qr Qd Qz Q10 Qs Qt Qu Ql Q13 Qv Qw Qm Q14 Qo Qi Q15 Qp Q16 Q11 hm2;refine hK44 _ _ ?_;unfold r04 at hm2;apply b03;intro K hK;simp only [go_sem, s95];apply hK;clear hK K;simp only [b0f];obtain rfl := sI9 hm2;refine ⟨_, rfl, ?_⟩;exact ⟨i11_2, i12_2, i15, s2, s3, s4, s9, s10, (by first | exact s11 | simp only [go_sem, s11, lA9, mA9]), (by first | exact s12 | simp only [go_sem, s12, lA9, mA9]), s13, s14, s15, s94, va9, Qh, Qe, Qn, Qg, Q4, Q0, Qq, Qk, Qr, Qd, Qz, Q10, Qs, Qt, Qu, Ql, Q13, Qv, Qw, Qm, Q14, Qo, Qi, Q15, Qp, Q16, Q11⟩
           simp only [b0u];apply b0b;intro K hK;simp only [go_sem, s95];apply hK;clear hK K;refine b0v ?_;obtain ⟨y47, h_y47, hm2⟩ := b0g hm2;apply b0b;intro K hK;simp only [go_sem, s2, s9, s15, Qh, Qz];refine b01 (d2x (situation_Plant.mk (((b3h a).Plant).Machine)) assume (Place.mk x30.a.State (x30.a.Values.1, x30.a.Values.2)) x_95 _ h_y47) ?_;simp only [go_sem];apply hK;clear hK K;refine b0i fun K48 hK48 => ?_;simp only [go_sem];refine b0k (fun hc49 => ?_) (fun hc49 => ?_)
           ·rw [b0r hc49] at hm2;simp only [b09, b1b, b1a, b0f];exact J45 runs_11_1 pairs_12_1 found_13_1 i11_1 i12_1 _ _ s2 s3 s4 s9 s10 (by first | exact s11 | simp only [go_sem, s11, lA9, mA9]) (by first | exact s12 | simp only [go_sem, s12, lA9, mA9]) s13 s14 s15 s94 s95 Qh Qe Qn Qg Q4 Q0 Qq Qk Qr Qd Qz Q10 Qs Qt Qu Ql Q13 Qv Qw Qm Q14 Qo Qi Q15 Qp Q16 Q11 hm2
           ·rw [b0q hc49] at hm2;simp only [b0s, b0f];refine hK48 _ _ ?_;obtain ⟨y52, h_y52, hm2⟩ := b0g hm2;obtain ⟨y53, h_y53, hm2⟩ := b0g hm2;apply b0b;intro K hK;simp only [go_sem, s9, s15, Qh, Qz];refine b01 (d20 (situation_Plant.mk (((b3h a).Plant).Machine)) (Place.mk x30.a.State (x30.a.Values.1, x30.a.Values.2)) x_95 _ h_y52) ?_;simp only [go_sem, s10, s15, Qn, Qz];refine b01 (d20 (situation_Plant.mk (((b3h b).Plant).Machine)) (Place.mk x30.b.State (x30.b.Values.1, x30.b.Values.2)) x_95 _ h_y53) ?_;simp only [go_sem];apply hK;clear hK K;apply b0b;intro K hK;simp only [go_sem, s13];refine j5x (O := O) (fk := (vks s3o)) (fv := vI) (l := found_13_1) (x := (control_pair.mk (Place.mk y52.State (y52.Values.1, y52.Values.2)) (Place.mk y53.State (y53.Values.1, y53.Values.2)))) (z := 0) j8c r2e ?_ ?_ ?_
            ·rfl
            ·simp only [go_sem, Qr, Qd]
            simp only [go_sem];apply hK;clear hK K;apply b0b;intro K hK;simp only [go_sem];apply hK;clear hK K;simp only [go_sem];refine b0k (fun hc54 => ?_) (fun hc54 => ?_)
            ·rw [b0r hc54] at hm2;apply b0b;intro K hK;simp only [go_sem, s12, s13];refine d2i (O := O) (fk := (vks s3o)) (fv := vI) (l := found_13_1) (x := (control_pair.mk (Place.mk y52.State (y52.Values.1, y52.Values.2)) (Place.mk y53.State (y53.Values.1, y53.Values.2)))) (v := ((List.length pairs_12_1 : Nat) : Int)) g1t r2e ?_ ?_ ?_
             ·rfl
             ·simp only [go_sem, Qr, Qd]
             simp only [go_sem];apply hK;clear hK K;obtain ⟨l56, h_l56, hm2⟩ := b0g hm2;apply b0b;intro K hK;simp only [go_sem, s12, Qd];refine b3a (f := d7o) (l := pairs_12_1) (m := ([(control_pair.mk (Place.mk y52.State (y52.Values.1, y52.Values.2)) (Place.mk y53.State (y53.Values.1, y53.Values.2)))])) ?_ ?_ ?_ ?_ h_l56 ?_
             ·exact (b2v (by simp only [go_sem, Qq, Qk, Qp]) vc9 (by simp only [go_sem, Qk]))
             ·exact (b4t vc9 vc9)
             ·exact (b4r ve9)
             ·exact (fun _ => by simp)
             simp only [go_sem];apply hK;clear hK K;obtain ⟨x61, h_x61, hm2⟩ := b0g hm2;have h_x610 := b05 h_x61;have h_x611 := b06 h_x61;obtain ⟨y62, h_y62, hm2⟩ := b0g hm2;obtain ⟨l63, h_l63, hm2⟩ := b0g hm2;obtain ⟨l64, h_l64, hm9⟩ := b0g hm2;apply b0b;intro K hK;simp only [go_sem, s11, s14, Q4, Q0, Qo, Qi, b3n h_x61, h_x610, h_x611];rcases x61 with _ | ⟨a61, r61⟩
             ·simp only [nN];rw [<- sI9 h_y62] at h_l63;refine b01 (r38 hg) ?_;simp only [go_sem];refine b3a (f := eI) (l := ([] : List Int)) (m := ([x_95])) ?_ ?_ ?_ ?_ h_l63 ?_
              ·exact .inl ⟨rfl, rfl⟩
              ·exact (b4t vc9 vc9)
              ·exact r4c
              ·exact (fun _ => by simp)
              simp only [go_sem];refine j3y (f := c84) (l := runs_11_1) (a := l63) (raw := [.rs (nxs (nxs (nxs (nxs h.nx)))) 0 (List.length l63)]) ?_ ?_ ?_ h_l64 ?_
              ·exact (b2v (by simp only [go_sem, Q4, Q0, Qo, Qi]) vc9 (by simp only [go_sem, Q0]))
              ·exact vc9
              ·exact ve9
              simp only [go_sem];apply hK;clear hK K;refine g9m ?_;refine g9k (id := (nxs (nxs (nxs (nxs (nxs (nxs h.nx))))))) (sz := 1) (f := c84) (l := runs_11_1) (a := l63) (raw := [.rs (nxs (nxs (nxs (nxs h.nx)))) 0 (List.length l63)]) (fun j => j == (nxs (nxs (nxs (nxs h.nx))))) vc9 (by first | (simp; done) | (simp [nxs] <;> omega)) (.cons (by rw [r20 h_l63]; exact b29 (f := eI) (l := l63) (id := (nxs (nxs (nxs (nxs h.nx))))) (by rw [c3x vj9]; simp only [go_sem, Q0]) vg9 b1t b8p) (.nil)) r18 r2f ?_;rw [<- (r9o h_l64).2];simp only [b0s, b02, b0f];exact J45 l64 l56 (b3w found_13_1 (control_pair.mk (Place.mk y52.State (y52.Values.1, y52.Values.2)) (Place.mk y53.State (y53.Values.1, y53.Values.2))) ((List.length pairs_12_1 : Nat) : Int)) (nxs (nxs (nxs (nxs (nxs (nxs h.nx)))))) (nxs (nxs h.nx)) _ _ s2 s3 s4 s9 s10 va9 va9 s13 s14 s15 s94 s95 (by simp only [go_sem, bF9, ne_eq, nF9, Qh, Qe, Qt, Qu, Ql]) (by simp only [go_sem, Qe]) (by simp only [go_sem, bF9, ne_eq, nF9, Qn, Qg, Qv, Qw, Qm]) (by simp only [go_sem, Qg]) vc9 vc9 (by simp only [go_sem, bF9, ne_eq, nF9, Q0]) vc9 (by simp only [go_sem, bF9, ne_eq, nF9, Qd, b1z Qi, b1z Qp]) (by simp only [go_sem, Qd]) (by simp only [go_sem, bF9, ne_eq, nF9, Qz, Q10, b1z Q15, b1z Q16, b1z Q11]) (by simp only [go_sem, Q10]) Qs vb9 vb9 Ql Q13 vb9 vb9 Qm Q14 vb9 vb9 vb9 vb9 vb9 Q11 hm9
             ·simp only [nN];refine j4w (e := eI) (l := y62) ?_ (r2d (a61 :: r61) _ h_y62) ?_
              ·exact .cons (.refl _ (b0c fun a _ => b1t a)) (.nil)
              simp only [go_sem];refine b3a (f := eI) (l := y62) (m := ([x_95])) ?_ ?_ ?_ ?_ h_l63 ?_
              ·exact (b2v vc9 vc9 vc9)
              ·exact (b4t vc9 vc9)
              ·exact (b4r ve9)
              ·exact (fun _ => by simp)
              simp only [go_sem];refine j3y (f := c84) (l := runs_11_1) (a := l63) (raw := [.rs (nxs (nxs (nxs (nxs (nxs h.nx))))) 0 (List.length l63)]) ?_ ?_ ?_ h_l64 ?_
              ·exact (b2v (by simp only [go_sem, Q4, Q0, Qo, Qi]) vc9 (by simp only [go_sem, Q0]))
              ·exact vc9
              ·exact ve9
              simp only [go_sem];apply hK;clear hK K;refine g9m ?_;refine g9k (id := (nxs (nxs (nxs (nxs (nxs (nxs (nxs h.nx)))))))) (sz := 1) (f := c84) (l := runs_11_1) (a := l63) (raw := [.rs (nxs (nxs (nxs (nxs (nxs h.nx))))) 0 (List.length l63)]) (fun j => j == (nxs (nxs (nxs (nxs (nxs h.nx)))))) vc9 (by first | (simp; done) | (simp [nxs] <;> omega)) (.cons (by rw [r20 h_l63]; exact b29 (f := eI) (l := l63) (id := (nxs (nxs (nxs (nxs (nxs h.nx)))))) (by rw [c3x vj9]; simp only [go_sem, Q0]) vg9 b1t b8p) (.nil)) r18 r2f ?_;rw [<- (r9o h_l64).2];simp only [b0s, b02, b0f];exact J45 l64 l56 (b3w found_13_1 (control_pair.mk (Place.mk y52.State (y52.Values.1, y52.Values.2)) (Place.mk y53.State (y53.Values.1, y53.Values.2))) ((List.length pairs_12_1 : Nat) : Int)) (nxs (nxs (nxs (nxs (nxs (nxs (nxs h.nx))))))) (nxs (nxs h.nx)) _ _ s2 s3 s4 s9 s10 va9 va9 s13 s14 s15 s94 s95 (by simp only [go_sem, bF9, ne_eq, nF9, Qh, Qe, Qt, Qu, Ql]) (by simp only [go_sem, Qe]) (by simp only [go_sem, bF9, ne_eq, nF9, Qn, Qg, Qv, Qw, Qm]) (by simp only [go_sem, Qg]) vc9 vc9 (by simp only [go_sem, bF9, ne_eq, nF9, Q0]) vc9 (by simp only [go_sem, bF9, ne_eq, nF9, Qd, b1z Qi, b1z Qp]) (by simp only [go_sem, Qd]) (by simp only [go_sem, bF9, ne_eq, nF9, Qz, Q10, b1z Q15, b1z Q16, b1z Q11]) (by simp only [go_sem, Q10]) Qs vb9 vb9 Ql Q13 vb9 vb9 Qm Q14 vb9 vb9 vb9 vb9 vb9 Q11 hm9
            ·rw [b0q hc54] at hm2;simp only [b0s, b02, b0f];exact J45 runs_11_1 pairs_12_1 found_13_1 i11_1 i12_1 _ _ s2 s3 s4 s9 s10 (by first | exact s11 | simp only [go_sem, s11, lA9, mA9]) (by first | exact s12 | simp only [go_sem, s12, lA9, mA9]) s13 s14 s15 s94 s95 (by simp only [go_sem, Qh, Qe]) (by simp only [go_sem, Qe]) (by simp only [go_sem, Qn, Qg]) (by simp only [go_sem, Qg]) (by simp only [go_sem, Q4, Q0]) (by simp only [go_sem, Q0]) (by simp only [go_sem, Qq, Qk]) (by simp only [go_sem, Qk]) (by simp only [go_sem, Qr, Qd]) (by simp only [go_sem, Qd]) (by simp only [go_sem, Qz, Q10]) (by simp only [go_sem, Q10]) Qs Qt Qu Ql Q13 Qv Qw Qm Q14 Qo Qi Q15 Qp Q16 Q11 hm2
          ·rw [b0q hc43] at hm2;simp only [b09, b1b, b1a, b02, b0f];obtain rfl := sI9 hm2;obtain rfl := hb41 _ rfl
           try dsimp only at hm1
           exact J28 runs_11_1 pairs_12_1 found_13_1 i11_1 i12_1 _ _ s2 s3 s4 s9 s10 (by first | exact s11 | simp only [go_sem, s11, lA9, mA9]) (by first | exact s12 | simp only [go_sem, s12, lA9, mA9]) s13 s14 Qh Qe Qn Qg Q4 Q0 Qq Qk Qr Qd Qs Qt Qu Ql Qv Qw Qm Qo Qi Qp hm1
       ·rw [b0q hc26] at hm1;simp only [b09, b1b, b1a, b0f];obtain rfl := sI9 hm1;obtain rfl := hb24 _ rfl
        try dsimp only at hm0
        exact J23  _ _  hm0
noncomputable def s34 (a : Machine) (b : Machine) (c : l04_Conds) : Option Bool :=
 (b8o a).bind fun y4 =>
 (if y4 then some true else (b8o b).bind fun y5 =>
 some y5).bind fun c6 =>
 if c6 then
  (c7n).bind fun y11 =>
  some y11
 else
  (c4a a).bind fun y14 =>
  (r8c y14).bind fun y15 =>
  (r9z a).bind fun y17 =>
  (c0j y15.1 y17.1).bind fun y19 =>
  if (!y19) || (decide (¬y15.2 = y17.2)) then
   some false
  else
   (r06 a).bind fun y26 =>
   (if decide (20 < y26) then some true else (r06 b).bind fun y27 =>
   some (decide (20 < y27))).bind fun c28 =>
   if c28 then
    (c7n).bind fun y33 =>
    some y33
   else
    (c4a a).bind fun y38 =>
    (c4a b).bind fun y39 =>
    (b8w c.Assume).bind fun y40 =>
    (r02 y38 y39 y40).bind fun y41 =>
    (s36 a b c.Assume).bind fun y43 =>
    (c0j y41.1 y43.1).bind fun y47 =>
    (if (y47 && (b5c y41.2.1 y43.2.1)) && (decide (y41.2.2 = y43.2.2)) then (c7n).bind fun y48 =>
    some y48 else some false).bind fun c49 =>
    some c49
def s4l (O : Orac) : Prop := ∀ (a : Machine) (b : Machine) (c : l04_Conds) (r : Bool) (hm0 : s34 a b c = some r), Fn O "newel/newellaw04.ControlCompares" [.agg (vM a), .agg (vM b), .agg [.fs 1 (List.map b0t c.Assume), .fs 1 (List.map b0t c.Never)]] (B r)
theorem s5j (hf : Has O "newel/newellaw04.ControlCompares" x_l04_ControlCompares) (d28 : d0a O) (k_l04_works : d5r O) (d3a : d0d O) (r9g : r89 O) (s4i : s4f O) (c7l : d0b O) (r1q : r10 O) (c0i : c5m O) (r1p : r1z O) (s4j : s4g O) : s4l O := by
 intro a b c r hm0;unfold s34 at hm0;refine b1i hf rfl (b0a (fM _) (b0a (fM _) (b0a (.agg _ (b0a (b0c fun a _ => b2j a) (b0a (b0c fun a _ => b2j a) b0j))) b0j))) (b0e _) ?_;refine b1c (fun t h => t 0 = .agg (vM a) /\ t 1 = .agg (vM b) /\ t 2 = .agg [.fs 1 (List.map b0t c.Assume), .fs 1 (List.map b0t c.Never)]) ⟨rfl, rfl, rfl⟩ fun t h ⟨s0, s1, s2⟩ => ?_;simp only [x_l04_ControlCompares];apply b0b;intro K hK;simp only [go_sem, s0, s1, s2];apply hK;clear hK K;refine b0v ?_;obtain ⟨y4, h_y4, hm0⟩ := b0g hm0;obtain ⟨c6, h_c6, hm0⟩ := b0g hm0;refine b2p (fun t h => t 3 = .fp (vM a) 0 /\ t 4 = .fp (vM b) 0 /\ t 5 = .fp [.fs 1 (List.map b0t c.Assume), .fs 1 (List.map b0t c.Never)] 0 /\ t 18 = B c6) (fun K hK => ?_) ?_
 ·simp only [go_sem];refine b01 (d28 a _ h_y4) ?_;simp only [go_sem];refine b0k (fun hg7 => ?_) (fun hg7 => ?_)
  ·simp only [hg7, Bool.not_true, Bool.not_false, eq_self, if_true, if_false, Bool.true_or, Bool.or_true, Bool.false_or, Bool.or_false, Bool.true_and, Bool.and_true, Bool.false_and, Bool.and_false, fT9] at h_c6;obtain rfl := sI9 h_c6;simp only [go_sem, hg7];exact hK _ _ ⟨(by first | (simp only [go_sem, hg7, lA9, mA9]; done) | rfl), (by first | (simp only [go_sem, hg7, lA9, mA9]; done) | rfl), (by first | (simp only [go_sem, hg7, lA9, mA9]; done) | rfl), (by first | (simp only [go_sem, hg7, lA9, mA9]; done) | rfl)⟩
  ·simp only [hg7, Bool.not_true, Bool.not_false, eq_self, if_true, if_false, Bool.true_or, Bool.or_true, Bool.false_or, Bool.or_false, Bool.true_and, Bool.and_true, Bool.false_and, Bool.and_false, fT9] at h_c6;obtain ⟨y5, h_y5, h_c6⟩ := b0g h_c6;obtain rfl := sI9 h_c6;simp only [go_sem, hg7];refine b01 (d28 b _ h_y5) ?_;simp only [go_sem, hg7];exact hK _ _ ⟨(by first | (simp only [go_sem, hg7, lA9, mA9]; done) | rfl), (by first | (simp only [go_sem, hg7, lA9, mA9]; done) | rfl), (by first | (simp only [go_sem, hg7, lA9, mA9]; done) | rfl), (by first | (simp only [go_sem, hg7, lA9, mA9]; done) | rfl)⟩
 ·rintro t h ⟨s3, s4, s5, s18⟩;refine b0i fun K8 hK8 => ?_;simp only [go_sem, s18];refine b0k (fun hc9 => ?_) (fun hc9 => ?_)
  ·rw [b0r hc9] at hm0;obtain ⟨y11, h_y11, hm0⟩ := b0g hm0;apply b0b;intro K hK;simp only [go_sem];refine b01 (k_l04_works  _ h_y11) ?_;simp only [go_sem];apply hK;clear hK K;simp only [b0x, b1p, b2e, b0y];obtain rfl := sI9 hm0;exact b04 vi9 (b0e _)
  ·rw [b0q hc9] at hm0;simp only [b0s, b02, b0f];refine hK8 _ _ ?_;obtain ⟨y14, h_y14, hm0⟩ := b0g hm0;obtain ⟨y15, h_y15, hm0⟩ := b0g hm0;apply b0b;intro K hK;simp only [go_sem, s3];refine b01 (d3a a _ h_y14) ?_;simp only [go_sem, s3];refine b01 (r9g y14 _ h_y15) ?_;simp only [go_sem, s3];apply hK;clear hK K;obtain ⟨y17, h_y17, hm0⟩ := b0g hm0;apply b0b;intro K hK;simp only [go_sem, s3];refine b01 (s4i a _ h_y17) ?_;simp only [go_sem, s3];apply hK;clear hK K;refine b0v ?_;obtain ⟨y19, h_y19, hm0⟩ := b0g hm0;refine b2p (fun t h => t 3 = .fp (vM a) 0 /\ t 4 = .fp (vM b) 0 /\ t 5 = .fp [.fs 1 (List.map b0t c.Assume), .fs 1 (List.map b0t c.Never)] 0 /\ t 39 = B ((!y19) || (decide (¬y15.2 = y17.2)))) (fun K hK => ?_) ?_
   ·simp only [go_sem];refine b01 (c7l y15.1 y17.1 _ h_y19) ?_;simp only [go_sem];refine b0k (fun hg20 => ?_) (fun hg20 => ?_)
    ·simp only [go_sem, hg20];exact hK _ _ ⟨s3, s4, s5, (by first | (simp only [go_sem, hg20, lA9, mA9]; done) | rfl)⟩
    ·simp only [go_sem, hg20];exact hK _ _ ⟨s3, s4, s5, (by first | (simp only [go_sem, hg20, lA9, mA9]; done) | rfl)⟩
   ·rintro t h ⟨s3, s4, s5, s39⟩;refine b0i fun K21 hK21 => ?_;simp only [go_sem, s39];refine b0k (fun hc22 => ?_) (fun hc22 => ?_)
    ·rw [b0r hc22] at hm0;apply b0b;intro K hK;simp only [go_sem];apply hK;clear hK K;simp only [b0x, b1p, b2e, b0y];obtain rfl := sI9 hm0;exact b04 vi9 (b0e _)
    ·rw [b0q hc22] at hm0;simp only [b0s, b02, b0f];refine hK21 _ _ ?_;refine b0v ?_;obtain ⟨y26, h_y26, hm0⟩ := b0g hm0;obtain ⟨c28, h_c28, hm0⟩ := b0g hm0;refine b2p (fun t h => t 3 = .fp (vM a) 0 /\ t 4 = .fp (vM b) 0 /\ t 5 = .fp [.fs 1 (List.map b0t c.Assume), .fs 1 (List.map b0t c.Never)] 0 /\ t 47 = B c28) (fun K hK => ?_) ?_
     ·simp only [go_sem, s3, s4];refine b01 (r1q a _ h_y26) ?_;simp only [go_sem, s3, s4];refine b0k (fun hg29 => ?_) (fun hg29 => ?_)
      ·simp only [hg29, Bool.not_true, Bool.not_false, eq_self, if_true, if_false, Bool.true_or, Bool.or_true, Bool.false_or, Bool.or_false, Bool.true_and, Bool.and_true, Bool.false_and, Bool.and_false, fT9] at h_c28;obtain rfl := sI9 h_c28;simp only [go_sem, s3, s4, hg29];exact hK _ _ ⟨s3, s4, s5, (by first | (simp only [go_sem, hg29, lA9, mA9]; done) | rfl)⟩
      ·simp only [hg29, Bool.not_true, Bool.not_false, eq_self, if_true, if_false, Bool.true_or, Bool.or_true, Bool.false_or, Bool.or_false, Bool.true_and, Bool.and_true, Bool.false_and, Bool.and_false, fT9] at h_c28;obtain ⟨y27, h_y27, h_c28⟩ := b0g h_c28;obtain rfl := sI9 h_c28;simp only [go_sem, s3, s4, hg29];refine b01 (r1q b _ h_y27) ?_;simp only [go_sem, s3, s4, hg29];exact hK _ _ ⟨s3, s4, s5, (by first | (simp only [go_sem, hg29, lA9, mA9]; done) | rfl)⟩
     ·rintro t h ⟨s3, s4, s5, s47⟩;refine b0i fun K30 hK30 => ?_;simp only [go_sem, s47];refine b0k (fun hc31 => ?_) (fun hc31 => ?_)
      ·rw [b0r hc31] at hm0;obtain ⟨y33, h_y33, hm0⟩ := b0g hm0;apply b0b;intro K hK;simp only [go_sem];refine b01 (k_l04_works  _ h_y33) ?_;simp only [go_sem];apply hK;clear hK K;simp only [b0x, b1p, b2e, b0y];obtain rfl := sI9 hm0;exact b04 vi9 (b0e _)
      ·rw [b0q hc31] at hm0;simp only [b0s, b02, b0f];refine hK30 _ _ ?_;obtain ⟨y38, h_y38, hm0⟩ := b0g hm0;obtain ⟨y39, h_y39, hm0⟩ := b0g hm0;obtain ⟨y40, h_y40, hm0⟩ := b0g hm0;obtain ⟨y41, h_y41, hm0⟩ := b0g hm0;apply b0b;intro K hK;simp only [go_sem, s3, s4, s5];refine b01 (d3a a _ h_y38) ?_;simp only [go_sem, s3, s4, s5];refine b01 (d3a b _ h_y39) ?_;simp only [go_sem, s3, s4, s5];refine b01 (c0i c.Assume _ h_y40) ?_;simp only [go_sem, s3, s4, s5];refine b01 (r1p y38 y39 y40 _ h_y41) ?_;simp only [go_sem, s3, s4, s5];apply hK;clear hK K;obtain ⟨y43, h_y43, hm0⟩ := b0g hm0;apply b0b;intro K hK;simp only [go_sem, s3, s4, s5];refine b01 (s4j a b c.Assume _ h_y43) ?_;simp only [go_sem, s3, s4, s5];apply hK;clear hK K;obtain ⟨y47, h_y47, hm0⟩ := b0g hm0;obtain ⟨c49, h_c49, hm0⟩ := b0g hm0;refine b2p (fun t h => t 6 = B c49) (fun K hK => ?_) ?_
       ·simp only [go_sem];refine b01 (c7l y41.1 y43.1 _ h_y47) ?_;simp only [go_sem];refine b0k (fun hg50 => ?_) (fun hg50 => ?_)
        ·simp only [go_sem, hg50];refine b0k (fun hg51 => ?_) (fun hg51 => ?_)
         ·simp only [go_sem, hg50, hg51];refine b0k (fun hg52 => ?_) (fun hg52 => ?_)
          ·simp only [hg50, hg51, hg52, Bool.not_true, Bool.not_false, eq_self, if_true, if_false, Bool.true_or, Bool.or_true, Bool.false_or, Bool.or_false, Bool.true_and, Bool.and_true, Bool.false_and, Bool.and_false, fT9] at h_c49;obtain ⟨y48, h_y48, h_c49⟩ := b0g h_c49;obtain rfl := sI9 h_c49;simp only [go_sem, hg50, hg51, hg52];refine b01 (k_l04_works  _ h_y48) ?_;simp only [go_sem, hg50, hg51, hg52];exact hK _ _ (by first | (simp only [go_sem, hg50, hg51, hg52, lA9, mA9]; done) | rfl)
          ·simp only [hg50, hg51, hg52, Bool.not_true, Bool.not_false, eq_self, if_true, if_false, Bool.true_or, Bool.or_true, Bool.false_or, Bool.or_false, Bool.true_and, Bool.and_true, Bool.false_and, Bool.and_false, fT9] at h_c49;obtain rfl := sI9 h_c49;simp only [go_sem, hg50, hg51, hg52];exact hK _ _ (by first | (simp only [go_sem, hg50, hg51, hg52, lA9, mA9]; done) | rfl)
         ·simp only [hg50, hg51, Bool.not_true, Bool.not_false, eq_self, if_true, if_false, Bool.true_or, Bool.or_true, Bool.false_or, Bool.or_false, Bool.true_and, Bool.and_true, Bool.false_and, Bool.and_false, fT9] at h_c49;obtain rfl := sI9 h_c49;simp only [go_sem, hg50, hg51];exact hK _ _ (by first | (simp only [go_sem, hg50, hg51, lA9, mA9]; done) | rfl)
        ·simp only [hg50, Bool.not_true, Bool.not_false, eq_self, if_true, if_false, Bool.true_or, Bool.or_true, Bool.false_or, Bool.or_false, Bool.true_and, Bool.and_true, Bool.false_and, Bool.and_false, fT9] at h_c49;obtain rfl := sI9 h_c49;simp only [go_sem, hg50];exact hK _ _ (by first | (simp only [go_sem, hg50, lA9, mA9]; done) | rfl)
       ·rintro t h s6;simp only [b0x, b1p, b2e, b0y];obtain rfl := sI9 hm0;exact b04 (by simp only [go_sem, s6, lA9, mA9]) (b0e _)
end Go.Nw.KM
