/- That the texts make what their models say: printed by a program. -/
import Derived.Test.YtfahaljhgfjooaaDoorKM
import Derived.Test.YtfahaljhgfjooaaDoorP1
import Derived.Test.YtfahaljhgfjooaaDoorP2
set_option linter.all false
namespace Go.Nw.KM
open Go.Nw.Ctl
set_option maxHeartbeats 4000000
variable {O : Orac} [MapsOk O]
noncomputable def r8q (class_7_2 : List Int) (count_10_1 : Int) : Option (Out ((List Int) × Int) ((((List Int) × Int)))) :=
 some (.nx (class_7_2, count_10_1))
noncomputable def r8s (count_10 : Int) (firsts_16 : List Int) (finer_17 : List Int) : Option (Out ((List Int) × Int) ((((List Int) × Int)))) :=
 if decide ((List.length firsts_16 : Int) = count_10) then
  some (.br (finer_17, 0))
 else
  r8q finer_17 (List.length firsts_16 : Int)
noncomputable def r8e (finer_17 : List Int) (x_103 : Int) (firsts_16_1 : List Int) (n_19 : Int) : Option (Out ((List Int) × (List Int) × Int) (((List Int) × (List Int)))) :=
 (get finer_17 x_103).bind fun x38 =>
 some (.nx (firsts_16_1, (List.set finer_17 (Int.toNat x_103) n_19), wr (x_103 + 1)))
noncomputable def r72 (keys_11_0 : List (List Int)) : ((List Int) × (List Int) × Int) -> Option (Out ((List Int) × (List Int) × Int) (((List Int) × (List Int))))
 | (firsts_16, finer_17, x_103) =>
  if decide (x_103 < (List.length keys_11_0 : Int)) then
   (d5a firsts_16 (fun z33 => r7n z33 keys_11_0 x_103)).bind fun y34 =>
   if decide (y34 < 0) then
    (ap 8 firsts_16 ([x_103])).bind fun l41 =>
    r8e finer_17 x_103 l41 (List.length firsts_16 : Int)
   else
    r8e finer_17 x_103 firsts_16 y34
  else
   some (.br (firsts_16, finer_17))
noncomputable def r8r (class_7_1 : List Int) (count_10 : Int) (keys_11_0 : List (List Int)) : Option (Out ((List Int) × Int) ((((List Int) × Int)))) :=
 (mks 8 ((List.length class_7_1 : Nat) : Int) 0).bind fun l22 =>
 (b0w (r72 keys_11_0) ([], l22, 0)).bind fun
  | (firsts_16, finer_17) => r8s count_10 firsts_16 finer_17
noncomputable def r8t (x_64 : Int) (keys_11_0_1 : List (List Int)) : Option (Out ((List (List Int)) × Int) (((List (List Int))))) :=
 some (.nx (keys_11_0_1, wr (x_64 + 1)))
noncomputable def r70 (class_7_1 : List Int) (x_64 : Int) (x49 : List Int) : ((List (List Int)) × Int) -> Option (Out ((List (List Int)) × Int) (((List (List Int)))))
 | (keys_11_0_1, x_79) =>
  if decide (x_79 < (List.length x49 : Int)) then
   (get x49 x_79).bind fun x59 =>
   (get keys_11_0_1 x_64).bind fun x63 =>
   (get class_7_1 x59).bind fun x64 =>
   (ap 8 x63 ([x64])).bind fun l65 =>
   some (.nx ((List.set keys_11_0_1 (Int.toNat x_64) l65), wr (x_79 + 1)))
  else
   some (.br keys_11_0_1)
noncomputable def r71 (y8 : control_walk) (class_7_1 : List Int) : ((List (List Int)) × Int) -> Option (Out ((List (List Int)) × Int) (((List (List Int)))))
 | (keys_11_0, x_64) =>
  if decide (x_64 < (List.length y8.next : Int)) then
   (get y8.next x_64).bind fun x49 =>
   (get class_7_1 x_64).bind fun x52 =>
   (get keys_11_0 x_64).bind fun x53 =>
   (b0w (r70 class_7_1 x_64 x49) ((List.set keys_11_0 (Int.toNat x_64) ([x52])), 0)).bind fun keys_11_0_1 =>
   r8t x_64 keys_11_0_1
  else
   some (.br keys_11_0)
noncomputable def r8d (y8 : control_walk) : ((List Int) × Int) -> Option (Out ((List Int) × Int) ((((List Int) × Int))))
 | (class_7_1, count_10) =>
  (mks 24 ((List.length class_7_1 : Nat) : Int) ([] : List Int)).bind fun l18 =>
  (b0w (r71 y8 class_7_1) (l18, 0)).bind fun keys_11_0 =>
  r8r class_7_1 count_10 keys_11_0
noncomputable def r8p (y8 : control_walk) (class_7 : List Int) : Option ((List Int) × Int) :=
 (b0w (r8d y8) (class_7, 0)).bind fun r' =>
 some r'
noncomputable def r7z (m : Machine) (y8 : control_walk) : ((List Int) × Int) -> Option (Out ((List Int) × Int) (((List Int))))
 | (class_7, x_40) =>
  if decide (x_40 < (List.length y8.places : Int)) then
   (get y8.places x_40).bind fun x74 =>
   (get m.States x74.State).bind fun x77 =>
   (get class_7 x_40).bind fun x78 =>
   some (.nx ((List.set class_7 (Int.toNat x_40) x77.Shows), wr (x_40 + 1)))
  else
   some (.br class_7)
noncomputable def r8c (m : Machine) : Option ((List Int) × Int) :=
 (c2f m).bind fun y2 =>
 if decide (¬y2 = 0) then
  some ([], y2)
 else
  (b9h (control_plant.mk (situation_Plant.mk (((b3h m).Plant).Machine))) ([]) (fun z7 => some (b6f z7))).bind fun y8 =>
  (mks 8 (List.length y8.places : Int) 0).bind fun l10 =>
  (b0w (r7z m y8) (l10, 0)).bind fun class_7 =>
  r8p y8 class_7
def r89 (O : Orac) : Prop := ∀ (m : Machine) (r : (List Int) × Int) (hm0 : r8c m = some r), Fn O "newel/control.Classes" [.agg (vM m)] (.tup [.fs 1 (List.map eI r.1), I r.2])
noncomputable def r9j : Option Bool :=
 (c7n).bind fun y25 =>
 some y25
noncomputable def r8z (i_16 : Int) : Option (Out Int (Unit ⊕ Bool)) :=
 some (.nx (wr (i_16 + 1)))
noncomputable def r77 (m : Machine) (y13 : (List Place) × Int) (y15 : (List Int) × Int) (to_8 : List (List Int)) (i_16 : Int) : Int -> Option (Out Int (Unit ⊕ Bool))
 | k_17 =>
  if decide (k_17 < i_16) then
   (get y13.1 i_16).bind fun x43 =>
   (get m.States x43.State).bind fun x44 =>
   (get y13.1 k_17).bind fun x45 =>
   (get m.States x45.State).bind fun x46 =>
   (if decide (x44.Shows = x46.Shows) then (get to_8 i_16).bind fun x47 =>
   (get to_8 k_17).bind fun x48 =>
   (c0j x47 x48).bind fun y49 =>
   some y49 else some false).bind fun c50 =>
   (get y15.1 i_16).bind fun x54 =>
   (get y15.1 k_17).bind fun x55 =>
   if !(b5c c50 (decide (x54 = x55))) then
    some (.br (.inr false))
   else
    some (.nx (wr (k_17 + 1)))
  else
   some (.br (.inl ()))
noncomputable def r78 (m : Machine) (y13 : (List Place) × Int) (y15 : (List Int) × Int) (to_8 : List (List Int)) : Int -> Option (Out Int (Unit ⊕ Bool))
 | i_16 =>
  if decide (i_16 < (List.length y13.1 : Int)) then
   (b0w (r77 m y13 y15 to_8 i_16) (0)).bind fun
    | (.inl ()) => r8z i_16
    | (.inr r') => some (.br (.inr r'))
  else
   some (.br (.inl ()))
noncomputable def r8y (m : Machine) (y13 : (List Place) × Int) (y15 : (List Int) × Int) (to_8 : List (List Int)) : Option Bool :=
 (b0w (r78 m y13 y15 to_8) (0)).bind fun
  | (.inl ()) => r9j
  | (.inr r') => some r'
noncomputable def r80 (i_9 : Int) (many_7_1 : Int) (to_8_1 : List (List Int)) : Option (Out (Int × (List (List Int)) × Int) (((List (List Int))) ⊕ Bool)) :=
 some (.nx (many_7_1, to_8_1, wr (i_9 + 1)))
noncomputable def r81 (many_7 : Int) (to_8 : List (List Int)) (i_9 : Int) (x68 : Int) (row_10 : List Int) : Option (Out (Int × (List (List Int)) × Int) (((List (List Int))) ⊕ Bool)) :=
 (ap 24 to_8 ([row_10])).bind fun l79 =>
 r80 i_9 (mx many_7 (wr (x68 + 1))) l79
noncomputable def r82 (x_11 : Int) (row_10_1 : List Int) : Option (Out ((List Int) × Int) (((List Int)) ⊕ Bool)) :=
 some (.nx (row_10_1, wr (x_11 + 1)))
noncomputable def r83 (row_10 : List Int) (x_11 : Int) (y90 : Place × Int) (n_14 : Int) : Option (Out ((List Int) × Int) (((List Int)) ⊕ Bool)) :=
 if (decide (¬y90.2 = 0)) || (decide (n_14 < 0)) then
  some (.br (.inr false))
 else
  (ap 8 row_10 ([n_14])).bind fun l97 =>
  r82 x_11 l97
noncomputable def r79 (k_15 : Int) (n_14_1 : Int) : Option (Out (Int × Int) Int) :=
 some (.nx (n_14_1, wr (k_15 + 1)))
noncomputable def r7t (y13 : (List Place) × Int) (y15 : (List Int) × Int) (y90 : Place × Int) : (Int × Int) -> Option (Out (Int × Int) Int)
 | (n_14, k_15) =>
  if (decide (k_15 < (List.length y13.1 : Int))) && (decide (n_14 < 0)) then
   (get y13.1 k_15).bind fun x105 =>
   if decide (x105 = (Place.mk y90.1.State (y90.1.Values.1, y90.1.Values.2))) then
    (get y15.1 k_15).bind fun x108 =>
    r79 k_15 x108
   else
    r79 k_15 n_14
  else
   some (.br n_14)
noncomputable def r75 (m : Machine) (y13 : (List Place) × Int) (y15 : (List Int) × Int) (i_9 : Int) : ((List Int) × Int) -> Option (Out ((List Int) × Int) (((List Int)) ⊕ Bool))
 | (row_10, x_11) =>
  (shl .i64 1 (IntKind.wrap .u64 (List.length m.Inputs : Int))).bind fun q82 =>
  if decide (x_11 < q82) then
   (get y13.1 i_9).bind fun x89 =>
   (p2f m x89 x_11).bind fun y90 =>
   (b0w (r7t y13 y15 y90) ((-1), 0)).bind fun n_14 =>
   r83 row_10 x_11 y90 n_14
  else
   some (.br (.inl row_10))
noncomputable def r76 (m : Machine) (y13 : (List Place) × Int) (y15 : (List Int) × Int) : (Int × (List (List Int)) × Int) -> Option (Out (Int × (List (List Int)) × Int) (((List (List Int))) ⊕ Bool))
 | (many_7, to_8, i_9) =>
  if decide (i_9 < (List.length y13.1 : Int)) then
   (get y15.1 i_9).bind fun x68 =>
   (if (decide (x68 < 0)) || (decide (many_7 < x68)) then some true else (get y13.1 i_9).bind fun x69 =>
   (o7y m x69).bind fun y70 =>
   some (!y70)).bind fun c71 =>
   if c71 then
    some (.br (.inr false))
   else
    (b0w (r75 m y13 y15 i_9) ([], 0)).bind fun
     | (.inl row_10) => r81 many_7 to_8 i_9 x68 row_10
     | (.inr r') => some (.br (.inr r'))
  else
   some (.br (.inl to_8))
noncomputable def r8f (m : Machine) : Option Bool :=
 (b8o m).bind fun y4 =>
 (if y4 then some true else (c0u m).bind fun y5 =>
 some (decide (¬y5 = 0))).bind fun c6 =>
 if c6 then
  (c7n).bind fun y11 =>
  some y11
 else
  (p2e m ([])).bind fun y13 =>
  (r8c m).bind fun y15 =>
  if ((decide (¬y13.2 = 0)) || (decide (¬y15.2 = 0))) || (decide (¬(List.length y15.1 : Int) = (List.length y13.1 : Int))) then
   some false
  else
   (b0w (r76 m y13 y15) (0, [], 0)).bind fun
    | (.inl to_8) => r8y m y13 y15 to_8
    | (.inr r') => some r'
def r9m (O : Orac) : Prop := ∀ (m : Machine) (r : Bool) (hm0 : r8f m = some r), Fn O "newel/newellaw04.ControlAlike" [.agg (vM m)] (B r)
theorem r9g (hf : Has O "newel/control.Classes" x_control_Classes) (d24 : c96 O) (c3f : c5h O) (c3c : c5e O) (c3g : c5i O) (d3u : d0x O) (r9h : r9a O) : r89 O := by
 intro m r hm0;unfold r8c at hm0;refine b1i hf rfl (b0a (fM _) b0j) (.tup _ (b0a (b0c fun a _ => b1t a) (b0a (b0e _) b0j))) ?_;refine b1c (fun t h => t 0 = .agg (vM m)) rfl fun t h s0 => ?_;simp only [x_control_Classes];apply b0b;intro K hK;simp only [go_sem, s0];apply hK;clear hK K;refine b0v ?_;obtain ⟨y2, h_y2, hm0⟩ := b0g hm0;apply b0b;intro K hK;simp only [go_sem];refine b01 (d24 m _ h_y2) ?_;simp only [go_sem];apply hK;clear hK K;refine b0v ?_;apply b0b;intro K hK;simp only [go_sem];apply hK;clear hK K;refine b0i fun K3 hK3 => ?_;simp only [go_sem];refine b0k (fun hc4 => ?_) (fun hc4 => ?_)
 ·rw [b0r hc4] at hm0;apply b0b;intro K hK;simp only [go_sem];apply hK;clear hK K;simp only [b0x, b1p, b2e, b0y];obtain rfl := sI9 hm0;exact d66 (v := .v (.slice none 0 0)) (u := I y2) vi9 vi9 (.nil _) (.refl _ (b0e _))
 ·rw [b0q hc4] at hm0;simp only [b0s, b02, b0f];refine hK3 _ _ ?_;apply b0b;intro K hK;simp only [go_sem];refine b01 (c3f m) ?_;simp only [go_sem];apply hK;clear hK K;obtain ⟨y8, h_y8, hm0⟩ := b0g hm0;apply b0b;intro K hK;simp only [go_sem];refine r2x ?_ (b0a (fM _) (b0a (b0e _) (b0a (.fn _ _ _ b0j b0j) b0j))) (c3c (control_plant.mk (situation_Plant.mk (((b3h m).Plant).Machine))) ([]) "newel/control.same" [] [] (fun z7 => some (b6f z7)) (.fn _ _ _ b0j b0j) (fun z0 y hz => by cases hz; exact c3g z0) _ h_y8) ?_
  ·exact .cons (.refl _ (fM _)) (.cons (.nil _) (.cons (.refl _ (.fn _ _ _ b0j b0j)) (.nil)))
  simp only [go_sem];apply hK;clear hK K;obtain ⟨l10, h_l10, hm0⟩ := b0g hm0;apply b0b;intro K hK;simp only [go_sem];refine d2k (f := eI) (z := 0) rfl h_l10 ?_;simp only [go_sem];apply hK;clear hK K;refine b0v ?_;apply b0b;intro K hK;simp only [go_sem];apply hK;clear hK K;refine b0i fun K11 hK11 => ?_
  have J12 : ∀ (class_7 : List Int) (i7 : Nat) (t : Slots) (h : Heap), t 6 = .fp [.fs 3 (List.map b1g y8.places), .fs 1 (List.map eI y8.from_), .fs 1 (List.map eI y8.by_), .fs 1 (List.map b2f y8.next)] 0 -> t 7 = .rs i7 0 (List.length class_7) -> h.ob i7 = some (1, List.map eI class_7) -> i7 < h.nx -> r8p y8 class_7 = some r -> K11 t h := by
   intro class_7 i7 t h s6 s7 Q6 Q2 hm0;refine hK11 _ _ ?_;unfold r8p at hm0;apply b0b;intro K hK;simp only [go_sem, Q2];apply hK;clear hK K;refine d1l ?_;refine b0i fun K13 hK13 => ?_;simp only [b0u];obtain ⟨b14, hl14, hm0⟩ := b0g hm0;refine b1j hl14 (fun | (class_7_1, count_10), t, h => ∃ i7_1 : Nat, t 6 = .fp [.fs 3 (List.map b1g y8.places), .fs 1 (List.map eI y8.from_), .fs 1 (List.map eI y8.by_), .fs 1 (List.map b2f y8.next)] 0 /\ t 7 = .rs i7_1 0 (List.length class_7_1) /\ t 10 = I count_10 /\ h.ob i7_1 = some (1, List.map eI class_7_1) /\ i7_1 < h.nx) ?_ ?_
   ·exact ⟨i7, s6, (by first | exact s7 | simp only [go_sem, s7, lA9, mA9]), ve9, Q6, Q2⟩
   ·rintro ⟨class_7_1, count_10⟩ o t h ⟨i7_1, s6, s7, s10, Q6, Q2⟩ hm1 hb14;simp only [r8d] at hm1;rw [m1w];refine d1l ?_;refine b0i fun K15 hK15 => ?_
    have J16 : ∀ (class_7_2 : List Int) (count_10_1 : Int) (i7_2 : Nat) (t : Slots) (h : Heap), t 6 = .fp [.fs 3 (List.map b1g y8.places), .fs 1 (List.map eI y8.from_), .fs 1 (List.map eI y8.by_), .fs 1 (List.map b2f y8.next)] 0 -> t 7 = .rs i7_2 0 (List.length class_7_2) -> t 10 = I count_10_1 -> h.ob i7_2 = some (1, List.map eI class_7_2) -> i7_2 < h.nx -> r8q class_7_2 count_10_1 = some o -> K15 t h := by
     intro class_7_2 count_10_1 i7_2 t h s6 s7 s10 Q6 Q2 hm1;refine hK15 _ _ ?_;unfold r8q at hm1;simp only [b0s, b02, b0f];obtain rfl := sI9 hm1;refine ⟨_, rfl, ?_⟩;exact ⟨i7_2, s6, (by first | exact s7 | simp only [go_sem, s7, lA9, mA9]), s10, Q6, Q2⟩
    simp only [b0u];obtain ⟨l18, h_l18, hm1⟩ := b0g hm1;refine b2p (fun t h => ∃ i11 : Nat, ∃ v11 : AV, ∃ hs11 : List AV, t 6 = .fp [.fs 3 (List.map b1g y8.places), .fs 1 (List.map eI y8.from_), .fs 1 (List.map eI y8.by_), .fs 1 (List.map b2f y8.next)] 0 /\ t 7 = .rs i7_1 0 (List.length class_7_1) /\ t 10 = I count_10 /\ t 11 = .rp i11 0 0 /\ h.ob i7_1 = some (1, List.map eI class_7_1) /\ i7_1 < h.nx /\ h.ob i11 = some (1, [[v11]]) /\ i11 < h.nx /\ RR h v11 hs11 1 eI l18 /\ ¬i7_1 = i11 /\ s8i v11 hs11 i7_1 /\ s8i v11 hs11 i11) (fun K hK => ?_) ?_
    ·simp only [go_sem, s7, Q6, Q2];refine s0z h_l18 ?_;simp only [go_sem, s7, Q6, Q2];exact hK _ _ ⟨(nxs h.nx), (.rs h.nx 0 (List.length l18)), (List.map (fun _ => nilS) l18), s6, (by first | exact s7 | simp only [go_sem, s7, lA9, mA9]), s10, ve9, (by simp only [go_sem, Q6, Q2, lA9, mA9]), (by simp only [go_sem, Q2]), vi9, vc9, (s1s vi9 rfl vc9 (s1b h_l18)), vd9, (r94 (by first | first | assumption | omega | (simp only [nxs] <;> omega) | exact c33 (by assumption))), (r94 (by first | first | assumption | omega | (simp only [nxs] <;> omega) | exact c33 (by assumption)))⟩
    ·rintro t h ⟨i11, v11, hs11, s6, s7, s10, s11, Q6, Q2, Q7, Q1, Q0, Q8, Q4, Q3⟩;refine b0v ?_;apply b0b;intro K hK;simp only [go_sem, s6, Q2, Q1, b5r v11];apply hK;clear hK K;refine b0i fun K19 hK19 => ?_
     have J20 : ∀ (keys_11_0 : List (List Int)) (v11_1 : AV) (hs11_1 : List AV) (t : Slots) (h : Heap), t 6 = .fp [.fs 3 (List.map b1g y8.places), .fs 1 (List.map eI y8.from_), .fs 1 (List.map eI y8.by_), .fs 1 (List.map b2f y8.next)] 0 -> t 7 = .rs i7_1 0 (List.length class_7_1) -> t 10 = I count_10 -> t 11 = .rp i11 0 0 -> h.ob i7_1 = some (1, List.map eI class_7_1) -> i7_1 < h.nx -> h.ob i11 = some (1, [[v11_1]]) -> i11 < h.nx -> RR h v11_1 hs11_1 1 eI keys_11_0 -> ¬i7_1 = i11 -> s8i v11_1 hs11_1 i7_1 -> s8i v11_1 hs11_1 i11 -> r8r class_7_1 count_10 keys_11_0 = some o -> K19 t h := by
      try clear s6 s7 s10 s11 Q6 Q2 Q7 Q1 Q0 Q8 Q4 Q3
      intro keys_11_0 v11_1 hs11_1 t h s6 s7 s10 s11 Q6 Q2 Q7 Q1 Q0 Q8 Q4 Q3 hm1;refine hK19 _ _ ?_;unfold r8r at hm1;apply b0b;intro K hK;simp only [go_sem, Q2, Q1, b5r v11, b5r v11_1];apply hK;clear hK K;obtain ⟨l22, h_l22, hm1⟩ := b0g hm1;apply b0b;intro K hK;simp only [go_sem, s7, Q6, Q2, Q1, Q8, b1z Q8, b5r v11, b5r v11_1];refine d2k (f := eI) (z := 0) rfl h_l22 ?_;simp only [go_sem, s7, Q6, Q2, Q1, Q8, b1z Q8, b5r v11, b5r v11_1];apply hK;clear hK K;refine b0v ?_;apply b0b;intro K hK;simp only [go_sem, s11, r8a Q0, Q7, Q1, Q2, Q8, b1z Q8, b5r v11, b5r v11_1];apply hK;clear hK K;refine b0i fun K23 hK23 => ?_
      have J24 : ∀ (firsts_16 finer_17 : List Int) (v16 : AV) (i17 : Nat) (t : Slots) (h : Heap), t 6 = .fp [.fs 3 (List.map b1g y8.places), .fs 1 (List.map eI y8.from_), .fs 1 (List.map eI y8.by_), .fs 1 (List.map b2f y8.next)] 0 -> t 10 = I count_10 -> t 16 = v16 -> t 17 = .rs i17 0 (List.length finer_17) -> b2a h v16 1 (List.map eI firsts_16) -> h.ob i17 = some (1, List.map eI finer_17) -> i17 < h.nx -> b07 v16 i17 -> r8s count_10 firsts_16 finer_17 = some o -> K23 t h := by
       try clear s6 s7 s10 s11 Q6 Q2 Q7 Q1 Q0 Q8 Q4 Q3
       intro firsts_16 finer_17 v16 i17 t h s6 s10 s16 s17 Qd Qg Q9 Qb hm1;refine hK23 _ _ ?_;unfold r8s at hm1;apply b0b;intro K hK;simp only [go_sem, s17, Qg, Q9, Qb, b5r v11, b5r v11_1, b5r v16];apply hK;clear hK K;refine b0v ?_;apply b0b;intro K hK;simp only [go_sem, s10, s16, l3r Qd, Q9, Qb, b5r v11, b5r v11_1, b5r v16];apply hK;clear hK K;refine b0i fun K25 hK25 => ?_;simp only [go_sem];refine b0k (fun hc26 => ?_) (fun hc26 => ?_)
       ·rw [b0r hc26] at hm1;apply b0b;intro K hK;simp only [go_sem, Qg, Q9, Qb, b5r v11, b5r v11_1, b5r v16];apply hK;clear hK K;simp only [b0x, b1p, b2e, b0y];obtain rfl := sI9 hm1;obtain rfl := hb14 _ rfl
        try dsimp only at hm0
        obtain rfl := sI9 hm0;exact d66 (v := .rs i17 0 (List.length finer_17)) (u := I 0) (by simp only [go_sem, b8s Qd, Qg, Q9, Qb, lA9, mA9]) (by simp only [go_sem, b8s Qd, Qg, Q9, Qb, lA9, mA9]) (b29 (f := eI) (l := finer_17) (id := i17) (by simp only [go_sem, b8s Qd, Qg, Q9, Qb, lA9, mA9]) vh9 b1t b8p) (.refl _ (b0e _))
       ·rw [b0q hc26] at hm1;simp only [b0s, b02, b0f];refine hK25 _ _ ?_;apply b03;intro K hK;simp only [go_sem, s16, l3r Qd, Q9, Qb, b5r v11, b5r v11_1, b5r v16];apply hK;clear hK K;simp only [b02, b0f];exact J16 finer_17 (List.length firsts_16 : Int) i17 _ _ s6 ve9 (by first | (simp only [go_sem, s10, lA9, mA9]; done) | rfl) Qg Q9 hm1
      simp only [b0u];obtain ⟨b27, hl27, hm1⟩ := b0g hm1;refine b1j hl27 (fun | (firsts_16, finer_17, x_103), t, h => ∃ v16 : AV, ∃ i17 : Nat, t 6 = .fp [.fs 3 (List.map b1g y8.places), .fs 1 (List.map eI y8.from_), .fs 1 (List.map eI y8.by_), .fs 1 (List.map b2f y8.next)] 0 /\ t 10 = I count_10 /\ t 11 = .rp i11 0 0 /\ t 16 = v16 /\ t 17 = .rs i17 0 (List.length finer_17) /\ t 102 = I (List.length keys_11_0 : Int) /\ t 103 = I x_103 /\ h.ob i11 = some (1, [[v11_1]]) /\ i11 < h.nx /\ RR h v11_1 hs11_1 1 eI keys_11_0 /\ b2a h v16 1 (List.map eI firsts_16) /\ h.ob i17 = some (1, List.map eI finer_17) /\ i17 < h.nx /\ s8i v11_1 hs11_1 i11 /\ b07 v16 i11 /\ ¬i11 = i17 /\ (∀ j, ¬b07 v16 j -> s8i v11_1 hs11_1 j) /\ s8i v11_1 hs11_1 i17 /\ b07 v16 i17) ?_ ?_
      ·exact ⟨(.v (.slice none 0 0)), h.nx, s6, s10, s11, ve9, ve9, ve9, ve9, (by simp only [go_sem, Q7, Q1, lA9, mA9]), (by simp only [go_sem, Q1]), (r8j Q0 (by intro j hj  hl; first | rfl | simp only [go_sem, hl]) (by first | omega | exact Nat.le_refl _ | (simp only [go_sem, nxs] <;> omega))), c0o, vi9, vc9, Q3, vb9, vd9, s0r, (by first | assumption | exact r7w Q0 vj9), vb9⟩
      ·try clear s6 s7 s10 s11 Q6 Q2 Q7 Q1 Q0 Q8 Q4 Q3
       rintro ⟨firsts_16, finer_17, x_103⟩ o t h ⟨v16, i17, s6, s10, s11, s16, s17, s102, s103, Q7, Q1, Q0, Qd, Qg, Q9, Q3, Qh, Qe, Qo, Qk, Qb⟩ hm2 hb27;simp only [r72] at hm2;rw [m1v];apply b0b;intro K hK;simp only [go_sem, s102, s103, Q1, Q9, b5r v11, b5r v11_1, b5r v16];apply hK;clear hK K;refine b0i fun K28 hK28 => ?_;simp only [go_sem];refine b0k (fun hc29 => ?_) (fun hc29 => ?_)
       ·rw [b0r hc29] at hm2;simp only [b0s, b02, b0f];refine hK28 _ _ ?_;refine b0i fun K30 hK30 => ?_;simp only [b0u];apply b0b;intro K hK;simp only [go_sem, s103, Q1, Q9, b5r v11, b5r v11_1, b5r v16];apply hK;clear hK K;obtain ⟨y34, h_y34, hm2⟩ := b0g hm2;apply b0b;intro K hK;simp only [go_sem, s11, r8a Q0, s16, Q7, Q1, l3r Qd, Q9, Qh, Qe, b1z Qe, Qb, b5r v11, b5r v11_1, b5r v16];refine b8l ?_ (d3u firsts_16 "newel/control.Classes$1" [] [.fp [.fs 1 (List.map b2f keys_11_0)] 0, .fp [I x_103] 0] (fun z33 => r7n z33 keys_11_0 x_103) (.fn _ _ _ b0j (b0a (.fp _ _ (b0a (b0c fun a _ => b8i a) b0j)) (b0a (.fp _ _ (b0a (b0e _) b0j)) b0j))) (fun z0 y hz => r9h z0 keys_11_0 x_103 y hz) _ h_y34) (.v _) ?_
        ·exact .cons (r8x (f := eI) (l := firsts_16) (b3x Qd (by intro j hj hl; first | rfl | simp only [go_sem, hl, b4s hj Qh, s8n (Qo j hj), b4s hj Qb]) (by first | omega | exact Nat.le_refl _ | (simp only [go_sem, nxs] <;> omega))) b1t b8p) (.cons (j1d (.nil) (.cons (c66 (id := i11) (sz := 1) (xs := [v11_1]) (by simp only [go_sem, Q7, Q1, r7i Q0, b8s Qd, Qg, Q9, s8n Q3, Qh, Qe, b1z Qe, s8n Qk, Qb]) (.cons (s1q (e := b2f) (r8j Q0 (by intro j hj  hl; first | rfl | simp only [go_sem, hl]) (by first | omega | exact Nat.le_refl _ | (simp only [go_sem, nxs] <;> omega))) (fun _ => rfl) b1t b8p) (.nil))) (.cons (c66 (id := h.nx) (sz := 1) (xs := [I x_103]) (by simp only [go_sem, Q7, Q1, r7i Q0, b8s Qd, Qg, Q9, s8n Q3, Qh, Qe, b1z Qe, s8n Qk, Qb]) (.cons (.refl _ (b0e _)) (.nil))) (.nil)))) (.nil))
        simp only [go_sem, s11, r8a Q0, s16, Q7, Q1, l3r Qd, Q9, Qh, Qe, b1z Qe, Qb, b5r v11, b5r v11_1, b5r v16];apply hK;clear hK K;refine b0v ?_;apply b0b;intro K hK;simp only [go_sem, Q1, Q9, b5r v11, b5r v11_1, b5r v16];apply hK;clear hK K;refine b0i fun K35 hK35 => ?_
        have J36 : ∀ (firsts_16_1 : List Int) (n_19 : Int) (v16_1 : AV) (i18 : Nat) (t : Slots) (h : Heap), t 6 = .fp [.fs 3 (List.map b1g y8.places), .fs 1 (List.map eI y8.from_), .fs 1 (List.map eI y8.by_), .fs 1 (List.map b2f y8.next)] 0 -> t 10 = I count_10 -> t 11 = .rp i11 0 0 -> t 16 = v16_1 -> t 17 = .rs i17 0 (List.length finer_17) -> t 18 = .rp i18 0 0 -> t 19 = I n_19 -> t 102 = I (List.length keys_11_0 : Int) -> t 103 = I x_103 -> h.ob i11 = some (1, [[v11_1]]) -> i11 < h.nx -> RR h v11_1 hs11_1 1 eI keys_11_0 -> b2a h v16_1 1 (List.map eI firsts_16_1) -> h.ob i17 = some (1, List.map eI finer_17) -> i17 < h.nx -> h.ob i18 = some (1, [[I x_103]]) -> i18 < h.nx -> s8i v11_1 hs11_1 i11 -> b07 v16_1 i11 -> ¬i11 = i17 -> ¬i11 = i18 -> (∀ j, ¬b07 v16_1 j -> s8i v11_1 hs11_1 j) -> s8i v11_1 hs11_1 i17 -> s8i v11_1 hs11_1 i18 -> b07 v16_1 i17 -> b07 v16_1 i18 -> ¬i17 = i18 -> r8e finer_17 x_103 firsts_16_1 n_19 = some o -> K35 t h := by
         try clear s6 s10 s11 s16 s17 s102 s103 Q7 Q1 Q0 Qd Qg Q9 Q3 Qh Qe Qo Qk Qb
         intro firsts_16_1 n_19 v16_1 i18 t h s6 s10 s11 s16 s17 s18 s19 s102 s103 Q7 Q1 Q0 Qd Qg Q9 Qu Qr Q3 Qh Qe Qs Qo Qk Qy Qb Qv Qt hm2;refine hK35 _ _ ?_;unfold r8e at hm2;obtain ⟨x38, h_x38, hm2⟩ := b0g hm2;have h_x380 := b05 h_x38;have h_x381 := b06 h_x38;apply b03;intro K hK;simp only [go_sem, s17, s18, s19, Qg, Q9, Qu, Qr, Q1, Qe, b1z Qe, Qs, b1z Qs, Qb, Qv, Qt, b1z Qt, b08 h_x38, b3n h_x38, h_x380, h_x381, b5r v11, b5r v11_1, b5r v16, b5r v16_1];apply hK;clear hK K;simp only [b02, b0f];refine hK30 _ _ ?_;apply b03;intro K hK;simp only [go_sem, s103, Q1, Q9, Qr, b5r v11, b5r v11_1, b5r v16, b5r v16_1];apply hK;clear hK K;simp only [b02, b0f];obtain rfl := sI9 hm2;refine ⟨_, rfl, ?_⟩;exact ⟨v16_1, i17, s6, s10, s11, s16, (by first | exact s17 | simp only [go_sem, s17, lA9, mA9]), s102, (by first | (simp only [go_sem, s103, lA9, mA9]; done) | rfl), (by simp only [go_sem, Q7, Q1, Q9, Qe, b1z Qe, lA9, mA9]), (by simp only [go_sem, Q1]), (r8j Q0 (by intro j hj  hl; first | rfl | simp only [go_sem, hl, s1t hj Qk, Q9]) (by first | omega | exact Nat.le_refl _ | (simp only [go_sem, nxs] <;> omega))), (b3x Qd (by intro j hj hl; first | rfl | simp only [go_sem, hl, Q9, b4s hj Qb]) (by first | omega | exact Nat.le_refl _ | (simp only [go_sem, nxs] <;> omega))), (by simp only [go_sem, Qg, Q9, lA9, mA9]), (by simp only [go_sem, Q9]), Q3, Qh, Qe, Qo, Qk, Qb⟩
        simp only [go_sem];refine b0k (fun hc39 => ?_) (fun hc39 => ?_)
        ·rw [b0r hc39] at hm2;apply b0b;intro K hK;simp only [go_sem, s16, l3r Qd, Q1, Q9, Qh, Qb, b5r v11, b5r v11_1, b5r v16];apply hK;clear hK K;obtain ⟨l41, h_l41, hm2⟩ := b0g hm2;apply b03;intro K hK;simp only [go_sem, s16, l3r Qd, Q1, Q9, Qh, Qb, b5r v11, b5r v11_1, b5r v16];refine b3a (f := eI) (l := firsts_16) (m := ([x_103])) ?_ ?_ ?_ ?_ h_l41 ?_
         ·exact (b3x Qd (by intro j hj hl; first | rfl | simp only [go_sem, hl, b4s hj Qh, s8n (Qo j hj), b4s hj Qb]) (by first | omega | exact Nat.le_refl _ | (simp only [go_sem, nxs] <;> omega)))
         ·exact (b4t (by simp only [go_sem, Q7, Q1, r7i Q0, b8s Qd, Qg, Q9, s8n Q3, Qh, Qe, b1z Qe, s8n Qk, Qb, lA9, mA9]) (by simp only [go_sem, Q7, Q1, r7i Q0, b8s Qd, Qg, Q9, s8n Q3, Qh, Qe, b1z Qe, s8n Qk, Qb, lA9, mA9]))
         ·exact (b4r vf9)
         ·exact (fun _ => by simp)
         simp only [go_sem, s16, l3r Qd, Q1, Q9, Qh, Qb, b5r v11, b5r v11_1, b5r v16];apply hK;clear hK K;simp only [b02, b0f];exact J36 l41 (List.length firsts_16 : Int) (.rs (nxs (nxs h.nx)) 0 (List.length l41)) h.nx _ _ s6 s10 s11 (by first | (simp only [go_sem, s16, lA9, mA9]; done) | rfl) (by first | exact s17 | simp only [go_sem, s17, lA9, mA9]) ve9 ve9 s102 s103 (by simp only [go_sem, Q7, Q1, b8s Qd, Qh, lA9, mA9]) (by simp only [go_sem, Q1]) (r8j Q0 (by intro j hj  hl; first | rfl | simp only [go_sem, hl, s1k Qo j hj]) (by first | omega | exact Nat.le_refl _ | (simp only [go_sem, nxs] <;> omega))) (b2v (by simp only [go_sem, b8s Qd, lA9, mA9]) vh9 vc9) (by simp only [go_sem, b8s Qd, Qg, Q9, Qb, lA9, mA9]) (by simp only [go_sem, Q9]) (by simp only [go_sem, b8s Qd, lA9, mA9]) vc9 Q3 vb9 Qe vd9 (r9d (by first | assumption | exact r7w Q0 vj9)) Qk (by first | assumption | exact r7w Q0 vj9) vb9 vb9 vd9 hm2
        ·rw [b0q hc39] at hm2;simp only [b0s, b02, b0f];exact J36 firsts_16 y34 v16 h.nx _ _ s6 s10 s11 s16 (by first | exact s17 | simp only [go_sem, s17, lA9, mA9]) ve9 ve9 s102 s103 (by simp only [go_sem, Q7, Q1, lA9, mA9]) (by simp only [go_sem, Q1]) (r8j Q0 (by intro j hj  hl; first | rfl | simp only [go_sem, hl]) (by first | omega | exact Nat.le_refl _ | (simp only [go_sem, nxs] <;> omega))) (b3x Qd (by intro j hj hl; first | rfl | simp only [go_sem, hl]) (by first | omega | exact Nat.le_refl _ | (simp only [go_sem, nxs] <;> omega))) (by simp only [go_sem, Qg, Q9, lA9, mA9]) (by simp only [go_sem, Q9]) vi9 vc9 Q3 Qh Qe vd9 Qo Qk (by first | assumption | exact r7w Q0 vj9) Qb vb9 vd9 hm2
       ·rw [b0q hc29] at hm2;simp only [b09, b1b, b1a, c0s, b02, b0f, Nat.reduceEqDiff, nF9];obtain rfl := sI9 hm2;obtain rfl := hb27 _ rfl
        try dsimp only at hm1
        exact J24 firsts_16 finer_17 v16 i17 _ _ s6 s10 s16 (by first | exact s17 | simp only [go_sem, s17, lA9, mA9]) Qd Qg Q9 Qb hm1
     simp only [b0u];obtain ⟨b43, hl43, hm1⟩ := b0g hm1;refine b1j hl43 (fun | (keys_11_0, x_64), t, h => ∃ v11_1 : AV, ∃ hs11_1 : List AV, t 6 = .fp [.fs 3 (List.map b1g y8.places), .fs 1 (List.map eI y8.from_), .fs 1 (List.map eI y8.by_), .fs 1 (List.map b2f y8.next)] 0 /\ t 7 = .rs i7_1 0 (List.length class_7_1) /\ t 10 = I count_10 /\ t 11 = .rp i11 0 0 /\ t 62 = .fs 1 (List.map b2f y8.next) /\ t 63 = I (List.length y8.next : Int) /\ t 64 = I x_64 /\ h.ob i7_1 = some (1, List.map eI class_7_1) /\ i7_1 < h.nx /\ h.ob i11 = some (1, [[v11_1]]) /\ i11 < h.nx /\ RR h v11_1 hs11_1 1 eI keys_11_0 /\ ¬i7_1 = i11 /\ s8i v11_1 hs11_1 i7_1 /\ s8i v11_1 hs11_1 i11) ?_ ?_
     ·exact ⟨v11, hs11, s6, (by first | exact s7 | simp only [go_sem, s7, lA9, mA9]), s10, s11, ve9, ve9, ve9, Q6, Q2, Q7, Q1, Q0, Q8, Q4, Q3⟩
     ·try clear s6 s7 s10 s11 Q6 Q2 Q7 Q1 Q0 Q8 Q4 Q3
      rintro ⟨keys_11_0, x_64⟩ o t h ⟨v11_1, hs11_1, s6, s7, s10, s11, s62, s63, s64, Q6, Q2, Q7, Q1, Q0, Q8, Q4, Q3⟩ hm2 hb43;simp only [r71] at hm2;rw [m1u];apply b0b;intro K hK;simp only [go_sem, s63, s64, Q2, Q1, b5r v11, b5r v11_1];apply hK;clear hK K;refine b0i fun K44 hK44 => ?_;simp only [go_sem];refine b0k (fun hc45 => ?_) (fun hc45 => ?_)
      ·rw [b0r hc45] at hm2;simp only [b0s, b02, b0f];refine hK44 _ _ ?_;refine b0i fun K46 hK46 => ?_
       have J47 : ∀ (keys_11_0_1 : List (List Int)) (v11_2 : AV) (hs11_2 : List AV) (t : Slots) (h : Heap), t 6 = .fp [.fs 3 (List.map b1g y8.places), .fs 1 (List.map eI y8.from_), .fs 1 (List.map eI y8.by_), .fs 1 (List.map b2f y8.next)] 0 -> t 7 = .rs i7_1 0 (List.length class_7_1) -> t 10 = I count_10 -> t 11 = .rp i11 0 0 -> t 62 = .fs 1 (List.map b2f y8.next) -> t 63 = I (List.length y8.next : Int) -> t 64 = I x_64 -> h.ob i7_1 = some (1, List.map eI class_7_1) -> i7_1 < h.nx -> h.ob i11 = some (1, [[v11_2]]) -> i11 < h.nx -> RR h v11_2 hs11_2 1 eI keys_11_0_1 -> ¬i7_1 = i11 -> s8i v11_2 hs11_2 i7_1 -> s8i v11_2 hs11_2 i11 -> r8t x_64 keys_11_0_1 = some o -> K46 t h := by
        try clear s6 s7 s10 s11 s62 s63 s64 Q6 Q2 Q7 Q1 Q0 Q8 Q4 Q3
        intro keys_11_0_1 v11_2 hs11_2 t h s6 s7 s10 s11 s62 s63 s64 Q6 Q2 Q7 Q1 Q0 Q8 Q4 Q3 hm2;refine hK46 _ _ ?_;unfold r8t at hm2;apply b03;intro K hK;simp only [go_sem, s64, Q2, Q1, b5r v11, b5r v11_1, b5r v11_2];apply hK;clear hK K;simp only [b02, b0f];obtain rfl := sI9 hm2;refine ⟨_, rfl, ?_⟩;exact ⟨v11_2, hs11_2, s6, (by first | exact s7 | simp only [go_sem, s7, lA9, mA9]), s10, s11, s62, s63, (by first | (simp only [go_sem, s64, lA9, mA9]; done) | rfl), Q6, Q2, Q7, Q1, Q0, Q8, Q4, Q3⟩
       simp only [b0u];obtain ⟨x49, h_x49, hm2⟩ := b0g hm2;have h_x490 := b05 h_x49;have h_x491 := b06 h_x49;apply b0b;intro K hK;simp only [go_sem, s62, s64, Q2, Q1, b08 h_x49, b3n h_x49, h_x490, h_x491, b5r v11, b5r v11_1];apply hK;clear hK K;obtain ⟨x52, h_x52, hm2⟩ := b0g hm2;have h_x520 := b05 h_x52;have h_x521 := b06 h_x52;obtain ⟨x53, h_x53, hm2⟩ := b0g hm2;have h_x530 := b05 h_x53;have h_x531 := b06 h_x53;obtain ⟨iqp983, rfl, Qj, Qf⟩ := r97 Q0 h_x53;obtain ⟨wp984, hw_wp984, os_wp984⟩ := r96 Q0 h_x53;refine b2p (fun t h => ∃ v11_2 : AV, ∃ hs11_2 : List AV, t 6 = .fp [.fs 3 (List.map b1g y8.places), .fs 1 (List.map eI y8.from_), .fs 1 (List.map eI y8.by_), .fs 1 (List.map b2f y8.next)] 0 /\ t 7 = .rs i7_1 0 (List.length class_7_1) /\ t 10 = I count_10 /\ t 11 = .rp i11 0 0 /\ t 12 = I x_64 /\ t 13 = .fs 1 (List.map eI x49) /\ t 62 = .fs 1 (List.map b2f y8.next) /\ t 63 = I (List.length y8.next : Int) /\ t 64 = I x_64 /\ h.ob i7_1 = some (1, List.map eI class_7_1) /\ i7_1 < h.nx /\ h.ob i11 = some (1, [[v11_2]]) /\ i11 < h.nx /\ RR h v11_2 hs11_2 1 eI (List.set keys_11_0 (Int.toNat x_64) ([x52])) /\ ¬i7_1 = i11 /\ s8i v11_2 hs11_2 i7_1 /\ s8i v11_2 hs11_2 i11) (fun K hK => ?_) ?_
       ·simp only [go_sem, s7, s11, r8a Q0, Q6, Q2, Q7, Q1, Qj, Qf, Q8, b1z Q8, c33 (Q4), b1z (c33 (Q4)), c33 (Q3), b1z (c33 (Q3)), b08 h_x52, b3n h_x52, h_x520, h_x521, b08 h_x53, b3n h_x53, h_x530, h_x531, b08 hw_wp984, b3n hw_wp984, l3r os_wp984, b5r v11];exact hK _ _ ⟨(.rs iqp983 0 (List.length keys_11_0)), (List.set hs11_1 (Int.toNat x_64) (.rs h.nx 0 (1))), s6, (by first | exact s7 | simp only [go_sem, s7, lA9, mA9]), s10, s11, ve9, ve9, s62, s63, s64, (by simp only [go_sem, Q6, Q2, r7i Q0, s8n Q4, c33 (Q4), b1z (c33 (Q4)), Qf, lA9, mA9]), (by simp only [go_sem, Q2]), (by simp only [go_sem, Q7, Q1, r7i Q0, s8n Q3, c33 (Q3), b1z (c33 (Q3)), Qf, lA9, mA9]), (by simp only [go_sem, Q1]), (s1u Q0 h_x53 (by simp only [go_sem, r7i Q0, Qj, Qf, lA9, mA9]) (b2v (by simp only [go_sem, r7i Q0, Qf, lA9, mA9]) (by simp only [go_sem, r7i Q0, Qf, lA9, mA9]) vc9) (r9d (by first | assumption | exact r7w Q0 (by first | omega | (simp only [nxs] <;> omega)))) (by intro j hj hne hl; first | rfl | simp only [go_sem, hne, hl, Qf]) (by first | omega | exact Nat.le_refl _ | (simp only [go_sem, nxs] <;> omega))), Q8, (r86 Q4 vb9), (r86 Q3 vb9)⟩
       ·try clear s6 s7 s10 s11 s62 s63 s64 Q6 Q2 Q7 Q1 Q0 Q8 Q4 Q3 Qj Qf
        rintro t h ⟨v11_2, hs11_2, s6, s7, s10, s11, s12, s13, s62, s63, s64, Q6, Q2, Q7, Q1, Q0, Q8, Q4, Q3⟩;apply b0b;intro K hK;simp only [go_sem, s13, Q2, Q1, b5r v11, b5r v11_2];apply hK;clear hK K;simp only [b0u];obtain ⟨b54, hl54, hm2⟩ := b0g hm2;refine b1j hl54 (fun | (keys_11_0_1, x_79), t, h => ∃ v11_3 : AV, ∃ hs11_3 : List AV, t 6 = .fp [.fs 3 (List.map b1g y8.places), .fs 1 (List.map eI y8.from_), .fs 1 (List.map eI y8.by_), .fs 1 (List.map b2f y8.next)] 0 /\ t 7 = .rs i7_1 0 (List.length class_7_1) /\ t 10 = I count_10 /\ t 11 = .rp i11 0 0 /\ t 12 = I x_64 /\ t 62 = .fs 1 (List.map b2f y8.next) /\ t 63 = I (List.length y8.next : Int) /\ t 64 = I x_64 /\ t 77 = .fs 1 (List.map eI x49) /\ t 78 = I (List.length x49 : Int) /\ t 79 = I x_79 /\ h.ob i7_1 = some (1, List.map eI class_7_1) /\ i7_1 < h.nx /\ h.ob i11 = some (1, [[v11_3]]) /\ i11 < h.nx /\ RR h v11_3 hs11_3 1 eI keys_11_0_1 /\ ¬i7_1 = i11 /\ s8i v11_3 hs11_3 i7_1 /\ s8i v11_3 hs11_3 i11) ?_ ?_
        ·exact ⟨v11_2, hs11_2, s6, (by first | exact s7 | simp only [go_sem, s7, lA9, mA9]), s10, s11, s12, s62, s63, s64, ve9, ve9, ve9, Q6, Q2, Q7, Q1, Q0, Q8, Q4, Q3⟩
        ·try clear s6 s7 s10 s11 s12 s13 s62 s63 s64 Q6 Q2 Q7 Q1 Q0 Q8 Q4 Q3
         rintro ⟨keys_11_0_1, x_79⟩ o t h ⟨v11_3, hs11_3, s6, s7, s10, s11, s12, s62, s63, s64, s77, s78, s79, Q6, Q2, Q7, Q1, Q0, Q8, Q4, Q3⟩ hm3 hb54;simp only [r70] at hm3;rw [m1t];apply b0b;intro K hK;simp only [go_sem, s78, s79, Q2, Q1, b5r v11, b5r v11_2, b5r v11_3];apply hK;clear hK K;refine b0i fun K55 hK55 => ?_;simp only [go_sem];refine b0k (fun hc56 => ?_) (fun hc56 => ?_)
         ·rw [b0r hc56] at hm3;simp only [b0s, b02, b0f];refine hK55 _ _ ?_;refine b0i fun K57 hK57 => ?_;simp only [b0u];obtain ⟨x59, h_x59, hm3⟩ := b0g hm3;have h_x590 := b05 h_x59;have h_x591 := b06 h_x59;apply b0b;intro K hK;simp only [go_sem, s77, s79, Q2, Q1, b08 h_x59, b3n h_x59, h_x590, h_x591, b5r v11, b5r v11_2, b5r v11_3];apply hK;clear hK K;obtain ⟨x63, h_x63, hm3⟩ := b0g hm3;have h_x630 := b05 h_x63;have h_x631 := b06 h_x63;obtain ⟨iqp1007, rfl, Qj, Qf⟩ := r97 Q0 h_x63;obtain ⟨wp1008, hw_wp1008, os_wp1008⟩ := r96 Q0 h_x63;obtain ⟨x64, h_x64, hm3⟩ := b0g hm3;have h_x640 := b05 h_x64;have h_x641 := b06 h_x64;obtain ⟨l65, h_l65, hm3⟩ := b0g hm3;refine s0q (v := .rp i11 0 0) (fun t h => ∃ v11_4 : AV, ∃ hs11_4 : List AV, t 6 = .fp [.fs 3 (List.map b1g y8.places), .fs 1 (List.map eI y8.from_), .fs 1 (List.map eI y8.by_), .fs 1 (List.map b2f y8.next)] 0 /\ t 7 = .rs i7_1 0 (List.length class_7_1) /\ t 10 = I count_10 /\ t 11 = .rp i11 0 0 /\ t 12 = I x_64 /\ t 62 = .fs 1 (List.map b2f y8.next) /\ t 63 = I (List.length y8.next : Int) /\ t 64 = I x_64 /\ t 77 = .fs 1 (List.map eI x49) /\ t 78 = I (List.length x49 : Int) /\ t 79 = I x_79 /\ h.ob i7_1 = some (1, List.map eI class_7_1) /\ i7_1 < h.nx /\ h.ob i11 = some (1, [[v11_4]]) /\ i11 < h.nx /\ RR h v11_4 hs11_4 1 eI (List.set keys_11_0_1 (Int.toNat x_64) l65) /\ ¬i7_1 = i11 /\ s8i v11_4 hs11_4 i7_1 /\ s8i v11_4 hs11_4 i11) (by decide) (by decide) s11 (fun K hK => ?_) ?_
          ·simp only [go_sem, s7, s11, r8a Q0, s12, Q6, Q2, Q7, Q1, Qj, Qf, Q8, b1z Q8, c33 (Q4), b1z (c33 (Q4)), r7k (Q4) hw_wp1008, c33 (Q3), b1z (c33 (Q3)), r7k (Q3) hw_wp1008, r7l Q0 hw_wp1008, b08 h_x63, b3n h_x63, h_x630, h_x631, b08 hw_wp1008, b3n hw_wp1008, l3r os_wp1008, b08 h_x64, b3n h_x64, h_x640, h_x641, b5r v11, b5r v11_2];refine b3a (f := eI) (l := x63) (m := ([x64])) ?_ ?_ ?_ ?_ h_l65 ?_
           ·exact (by first | exact os_wp1008 | exact b3x os_wp1008 (by intro j hj hl; first | rfl | simp only [go_sem, hl]) (by first | omega | exact Nat.le_refl _ | (simp only [go_sem, nxs] <;> omega)))
           ·exact (b4t (by simp only [go_sem, Q6, Q2, Q7, Q1, r7i Q0, Q8, b1z Q8, s8n Q4, c33 (Q4), b1z (c33 (Q4)), r7k (Q4) hw_wp1008, s8n Q3, c33 (Q3), b1z (c33 (Q3)), r7k (Q3) hw_wp1008, Qj, Qf, r7l Q0 hw_wp1008, lA9, mA9]) (by simp only [go_sem, Q6, Q2, Q7, Q1, r7i Q0, Q8, b1z Q8, s8n Q4, c33 (Q4), b1z (c33 (Q4)), r7k (Q4) hw_wp1008, s8n Q3, c33 (Q3), b1z (c33 (Q3)), r7k (Q3) hw_wp1008, Qj, Qf, r7l Q0 hw_wp1008, lA9, mA9]))
           ·exact (b4r (by first | assumption | exact b1v os_wp1008 (by first | omega | (simp only [go_sem, nxs] <;> omega))))
           ·exact (fun _ => by simp)
           simp only [go_sem, s7, s11, r8a Q0, s12, Q6, Q2, Q7, Q1, Qj, Qf, Q8, b1z Q8, c33 (Q4), b1z (c33 (Q4)), r7k (Q4) hw_wp1008, c33 (Q3), b1z (c33 (Q3)), r7k (Q3) hw_wp1008, r7l Q0 hw_wp1008, b08 h_x63, b3n h_x63, h_x630, h_x631, b08 hw_wp1008, b3n hw_wp1008, l3r os_wp1008, b08 h_x64, b3n h_x64, h_x640, h_x641, b5r v11, b5r v11_2];exact ⟨s03 (by simp only [go_sem, Q6, Q2, Q7, Q1, r7i Q0, Q8, b1z Q8, s8n Q4, c33 (Q4), b1z (c33 (Q4)), r7k (Q4) hw_wp1008, s8n Q3, c33 (Q3), b1z (c33 (Q3)), r7k (Q3) hw_wp1008, Qj, Qf, r7l Q0 hw_wp1008, lA9, mA9]), hK _ _ ⟨(.rs iqp1007 0 (List.length keys_11_0_1)), (List.set hs11_3 (Int.toNat x_64) (.rs (nxs h.nx) 0 (List.length l65))), s6, (by first | exact s7 | simp only [go_sem, s7, lA9, mA9]), s10, s11, s12, s62, s63, s64, s77, s78, s79, (by simp only [go_sem, Q6, Q2, r7i Q0, s8n Q4, c33 (Q4), b1z (c33 (Q4)), r7k (Q4) hw_wp1008, Qf, r7l Q0 hw_wp1008, lA9, mA9]), (by simp only [go_sem, Q2]), (by simp only [go_sem, Q7, Q1, r7i Q0, s8n Q3, c33 (Q3), b1z (c33 (Q3)), r7k (Q3) hw_wp1008, Qf, r7l Q0 hw_wp1008, lA9, mA9]), (by simp only [go_sem, Q1]), (s1v Q0 h_x63 (by simp only [go_sem, r7i Q0, Qj, Qf, r7l Q0 hw_wp1008, lA9, mA9]) (b2v (by simp only [go_sem, r7i Q0, Qf, r7l Q0 hw_wp1008, lA9, mA9]) (by simp only [go_sem, r7i Q0, Qf, r7l Q0 hw_wp1008, lA9, mA9]) vc9) (r9d (by first | assumption | exact r7w Q0 (by first | omega | (simp only [nxs] <;> omega)))) (by intro j hj hne hni hl; first | rfl | simp only [go_sem, hne, hni _ (b8j hw_wp1008), hl, Q2, Q1, Qf]) (by first | omega | exact Nat.le_refl _ | (simp only [go_sem, nxs] <;> omega))), Q8, (r86 Q4 vb9), (r86 Q3 vb9)⟩⟩
          ·try clear s6 s7 s10 s11 s12 s62 s63 s64 s77 s78 s79 Q6 Q2 Q7 Q1 Q0 Q8 Q4 Q3 Qj Qf
           rintro t h ⟨v11_4, hs11_4, s6, s7, s10, s11, s12, s62, s63, s64, s77, s78, s79, Q6, Q2, Q7, Q1, Q0, Q8, Q4, Q3⟩;simp only [b02, b0f];refine hK57 _ _ ?_;apply b03;intro K hK;simp only [go_sem, s79, Q2, Q1, b5r v11, b5r v11_2, b5r v11_4];apply hK;clear hK K;simp only [b02, b0f];obtain rfl := sI9 hm3;refine ⟨_, rfl, ?_⟩;exact ⟨v11_4, hs11_4, s6, (by first | exact s7 | simp only [go_sem, s7, lA9, mA9]), s10, s11, s12, s62, s63, s64, s77, s78, (by first | (simp only [go_sem, s79, lA9, mA9]; done) | rfl), Q6, Q2, Q7, Q1, Q0, Q8, Q4, Q3⟩
         ·rw [b0q hc56] at hm3;simp only [b09, b1b, b1a, c0s, b02, b0f, Nat.reduceEqDiff, nF9];obtain rfl := sI9 hm3;obtain rfl := hb54 _ rfl
          try dsimp only at hm2
          exact J47 keys_11_0_1 v11_3 hs11_3 _ _ s6 (by first | exact s7 | simp only [go_sem, s7, lA9, mA9]) s10 s11 s62 s63 s64 Q6 Q2 Q7 Q1 Q0 Q8 Q4 Q3 hm2
      ·rw [b0q hc45] at hm2;simp only [b09, b1b, b1a, c0s, b02, b0f, Nat.reduceEqDiff, nF9];obtain rfl := sI9 hm2;obtain rfl := hb43 _ rfl
       try dsimp only at hm1
       exact J20 keys_11_0 v11_1 hs11_1 _ _ s6 (by first | exact s7 | simp only [go_sem, s7, lA9, mA9]) s10 s11 Q6 Q2 Q7 Q1 Q0 Q8 Q4 Q3 hm1
  simp only [b0u];obtain ⟨b69, hl69, hm0⟩ := b0g hm0;refine b1j hl69 (fun | (class_7, x_40), t, h => ∃ i7 : Nat, t 1 = .fp (vM m) 0 /\ t 6 = .fp [.fs 3 (List.map b1g y8.places), .fs 1 (List.map eI y8.from_), .fs 1 (List.map eI y8.by_), .fs 1 (List.map b2f y8.next)] 0 /\ t 7 = .rs i7 0 (List.length class_7) /\ t 38 = .fs 3 (List.map b1g y8.places) /\ t 39 = I (List.length y8.places : Int) /\ t 40 = I x_40 /\ h.ob i7 = some (1, List.map eI class_7) /\ i7 < h.nx) ?_ ?_
  ·exact ⟨(nxs h.nx), ve9, ve9, ve9, ve9, ve9, ve9, vi9, vc9⟩
  ·rintro ⟨class_7, x_40⟩ o t h ⟨i7, s1, s6, s7, s38, s39, s40, Q6, Q2⟩ hm1 hb69;simp only [r7z] at hm1;rw [m1s];apply b0b;intro K hK;simp only [go_sem, s39, s40, Q2];apply hK;clear hK K;refine b0i fun K70 hK70 => ?_;simp only [go_sem];refine b0k (fun hc71 => ?_) (fun hc71 => ?_)
   ·rw [b0r hc71] at hm1;simp only [b0s, b02, b0f];refine hK70 _ _ ?_;refine b0i fun K72 hK72 => ?_;simp only [b0u];obtain ⟨x74, h_x74, hm1⟩ := b0g hm1;have h_x740 := b05 h_x74;have h_x741 := b06 h_x74;apply b0b;intro K hK;simp only [go_sem, s38, s40, Q2, b08 h_x74, b3n h_x74, h_x740, h_x741];apply hK;clear hK K;obtain ⟨x77, h_x77, hm1⟩ := b0g hm1;have h_x770 := b05 h_x77;have h_x771 := b06 h_x77;obtain ⟨x78, h_x78, hm1⟩ := b0g hm1;have h_x780 := b05 h_x78;have h_x781 := b06 h_x78;apply b03;intro K hK;simp only [go_sem, s1, s7, Q6, Q2, b08 h_x77, b3n h_x77, h_x770, h_x771, b08 h_x78, b3n h_x78, h_x780, h_x781];apply hK;clear hK K;simp only [b02, b0f];refine hK72 _ _ ?_;apply b03;intro K hK;simp only [go_sem, s40, Q2];apply hK;clear hK K;simp only [b02, b0f];obtain rfl := sI9 hm1;refine ⟨_, rfl, ?_⟩;exact ⟨i7, s1, s6, (by first | exact s7 | simp only [go_sem, s7, lA9, mA9]), s38, s39, (by first | (simp only [go_sem, s40, lA9, mA9]; done) | rfl), (by simp only [go_sem, Q6, Q2, lA9, mA9]), (by simp only [go_sem, Q2])⟩
   ·rw [b0q hc71] at hm1;simp only [b09, b1b, b1a, c0s, b02, b0f, Nat.reduceEqDiff, nF9];obtain rfl := sI9 hm1;obtain rfl := hb69 _ rfl
    try dsimp only at hm0
    exact J12 class_7 i7 _ _ s6 (by first | exact s7 | simp only [go_sem, s7, lA9, mA9]) Q6 Q2 hm0
theorem s02 (hf : Has O "newel/newellaw04.ControlAlike" x_l04_ControlAlike) (d28 : d0a O) (c3i : c5k O) (k_l04_works : d5r O) (p2z : p2p O) (r9g : r89 O) (o8i : o8d O) (p20 : p2q O) (c7l : d0b O) : r9m O := by
 intro m r hm0;unfold r8f at hm0;refine b1i hf rfl (b0a (fM _) b0j) (b0e _) ?_;refine b1c (fun t h => t 0 = .agg (vM m)) rfl fun t h s0 => ?_;simp only [x_l04_ControlAlike];apply b0b;intro K hK;simp only [go_sem, s0];apply hK;clear hK K;refine b0v ?_;obtain ⟨y4, h_y4, hm0⟩ := b0g hm0;obtain ⟨c6, h_c6, hm0⟩ := b0g hm0;refine b2p (fun t h => t 1 = .fp (vM m) 0 /\ t 25 = B c6) (fun K hK => ?_) ?_
 ·simp only [go_sem];refine b01 (d28 m _ h_y4) ?_;simp only [go_sem];refine b0k (fun hg7 => ?_) (fun hg7 => ?_)
  ·simp only [hg7, Bool.not_true, Bool.not_false, eq_self, if_true, if_false, Bool.true_or, Bool.or_true, Bool.false_or, Bool.or_false, Bool.true_and, Bool.and_true, Bool.false_and, Bool.and_false, fT9] at h_c6;obtain rfl := sI9 h_c6;simp only [go_sem, hg7];exact hK _ _ ⟨(by first | (simp only [go_sem, hg7, lA9, mA9]; done) | rfl), (by first | (simp only [go_sem, hg7, lA9, mA9]; done) | rfl)⟩
  ·simp only [hg7, Bool.not_true, Bool.not_false, eq_self, if_true, if_false, Bool.true_or, Bool.or_true, Bool.false_or, Bool.or_false, Bool.true_and, Bool.and_true, Bool.false_and, Bool.and_false, fT9] at h_c6;obtain ⟨y5, h_y5, h_c6⟩ := b0g h_c6;obtain rfl := sI9 h_c6;simp only [go_sem, hg7];refine b01 (c3i m _ h_y5) ?_;simp only [go_sem, hg7];exact hK _ _ ⟨(by first | (simp only [go_sem, hg7, lA9, mA9]; done) | rfl), (by first | (simp only [go_sem, hg7, lA9, mA9]; done) | rfl)⟩
 ·rintro t h ⟨s1, s25⟩;refine b0i fun K8 hK8 => ?_;simp only [go_sem, s25];refine b0k (fun hc9 => ?_) (fun hc9 => ?_)
  ·rw [b0r hc9] at hm0;obtain ⟨y11, h_y11, hm0⟩ := b0g hm0;apply b0b;intro K hK;simp only [go_sem];refine b01 (k_l04_works  _ h_y11) ?_;simp only [go_sem];apply hK;clear hK K;simp only [b0x, b1p, b2e, b0y];obtain rfl := sI9 hm0;exact b04 vi9 (b0e _)
  ·rw [b0q hc9] at hm0;simp only [b0s, b02, b0f];refine hK8 _ _ ?_;obtain ⟨y13, h_y13, hm0⟩ := b0g hm0;apply b0b;intro K hK;simp only [go_sem, s1];refine r2x ?_ (b0a (fM _) (b0a (b0e _) b0j)) (p2z m ([]) _ h_y13) ?_
   ·exact .cons (.refl _ (fM _)) (.cons (.nil _) (.nil))
   simp only [go_sem, s1];apply hK;clear hK K;obtain ⟨y15, h_y15, hm0⟩ := b0g hm0;apply b0b;intro K hK;simp only [go_sem, s1];refine b01 (r9g m _ h_y15) ?_;simp only [go_sem, s1];apply hK;clear hK K;refine b0v ?_;refine b2p (fun t h => t 1 = .fp (vM m) 0 /\ t 3 = .fs 3 (List.map b1g y13.1) /\ t 5 = .fs 1 (List.map eI y15.1) /\ t 49 = B (((decide (¬y13.2 = 0)) || (decide (¬y15.2 = 0))) || (decide (¬(List.length y15.1 : Int) = (List.length y13.1 : Int))))) (fun K hK => ?_) ?_
   ·simp only [go_sem];refine b0k (fun hg16 => ?_) (fun hg16 => ?_)
    ·simp only [go_sem, hg16];exact hK _ _ ⟨s1, (by first | (simp only [go_sem, hg16, lA9, mA9]; done) | rfl), (by first | (simp only [go_sem, hg16, lA9, mA9]; done) | rfl), (by first | (simp only [go_sem, hg16, lA9, mA9]; done) | rfl)⟩
    ·simp only [go_sem, hg16];refine b0k (fun hg17 => ?_) (fun hg17 => ?_)
     ·simp only [go_sem, hg16, hg17];exact hK _ _ ⟨s1, (by first | (simp only [go_sem, hg16, hg17, lA9, mA9]; done) | rfl), (by first | (simp only [go_sem, hg16, hg17, lA9, mA9]; done) | rfl), (by first | (simp only [go_sem, hg16, hg17, lA9, mA9]; done) | rfl)⟩
     ·simp only [go_sem, hg16, hg17];exact hK _ _ ⟨s1, (by first | (simp only [go_sem, hg16, hg17, lA9, mA9]; done) | rfl), (by first | (simp only [go_sem, hg16, hg17, lA9, mA9]; done) | rfl), (by first | (simp only [go_sem, hg16, hg17, lA9, mA9]; done) | rfl)⟩
   ·rintro t h ⟨s1, s3, s5, s49⟩;refine b0i fun K18 hK18 => ?_;simp only [go_sem, s49];refine b0k (fun hc19 => ?_) (fun hc19 => ?_)
    ·rw [b0r hc19] at hm0;apply b0b;intro K hK;simp only [go_sem];apply hK;clear hK K;simp only [b0x, b1p, b2e, b0y];obtain rfl := sI9 hm0;exact b04 vi9 (b0e _)
    ·rw [b0q hc19] at hm0;simp only [b0s, b02, b0f];refine hK18 _ _ ?_;apply b0b;intro K hK;simp only [go_sem];apply hK;clear hK K;apply b0b;intro K hK;simp only [go_sem];apply hK;clear hK K;refine b0v ?_;apply b0b;intro K hK;simp only [go_sem];apply hK;clear hK K;refine b0i fun K20 hK20 => ?_
     have J21 : ∀ (to_8 : List (List Int)) (v8 : AV) (t : Slots) (h : Heap), t 1 = .fp (vM m) 0 -> t 3 = .fs 3 (List.map b1g y13.1) -> t 5 = .fs 1 (List.map eI y15.1) -> t 8 = v8 -> b2a h v8 1 (List.map b2f to_8) -> r8y m y13 y15 to_8 = some r -> K20 t h := by
      intro to_8 v8 t h s1 s3 s5 s8 Q5 hm0;refine hK20 _ _ ?_;unfold r8y at hm0;refine b0v ?_;refine b0v ?_;refine g9j (s := 8) (v := v8) (f := b2f) (l := to_8) (by simp only [go_sem, s8, b8s Q5, lA9, mA9]) (b3x Q5 (by intro j hj hl; first | rfl | simp only [go_sem, hl]) (by first | omega | exact Nat.le_refl _ | (simp only [go_sem, nxs] <;> omega))) b8i j7n ?_;skip;apply b0b;intro K hK;simp only [go_sem, b5r v8];apply hK;clear hK K;refine b0i fun K22 hK22 => ?_
      have J23 : ∀ (t : Slots) (h : Heap), r9j = some r -> K22 t h := by
       intro t h hm0;refine hK22 _ _ ?_;unfold r9j at hm0;obtain ⟨y25, h_y25, hm0⟩ := b0g hm0;apply b0b;intro K hK;simp only [go_sem, b5r v8];refine b01 (k_l04_works  _ h_y25) ?_;simp only [go_sem, b5r v8];apply hK;clear hK K;simp only [b0x, b1p, b2e, b0y];obtain rfl := sI9 hm0;exact b04 vi9 (b0e _)
      simp only [b0u];obtain ⟨b26, hl26, hm0⟩ := b0g hm0;refine b1j hl26 (fun | i_16, t, h => t 1 = .fp (vM m) 0 /\ t 3 = .fs 3 (List.map b1g y13.1) /\ t 5 = .fs 1 (List.map eI y15.1) /\ t 8 = .fs 1 (List.map b2f to_8) /\ t 16 = I i_16) ?_ ?_
      ·exact ⟨s1, s3, s5, (by first | (simp only [go_sem, s8, lA9, mA9]; done) | rfl), ve9⟩
      ·rintro i_16 o t h ⟨s1, s3, s5, s8, s16⟩ hm1 hb26;simp only [r78] at hm1;rw [s0e];refine b0v ?_;apply b0b;intro K hK;simp only [go_sem, s3, s16, b5r v8];apply hK;clear hK K;refine b0i fun K27 hK27 => ?_;simp only [go_sem];refine b0k (fun hc28 => ?_) (fun hc28 => ?_)
       ·rw [b0r hc28] at hm1;simp only [b0s, b02, b0f];refine hK27 _ _ ?_;refine b0i fun K29 hK29 => ?_
        have J30 : ∀ (t : Slots) (h : Heap), t 1 = .fp (vM m) 0 -> t 3 = .fs 3 (List.map b1g y13.1) -> t 5 = .fs 1 (List.map eI y15.1) -> t 8 = .fs 1 (List.map b2f to_8) -> t 16 = I i_16 -> r8z i_16 = some o -> K29 t h := by
         intro t h s1 s3 s5 s8 s16 hm1;refine hK29 _ _ ?_;unfold r8z at hm1;apply b03;intro K hK;simp only [go_sem, s16, b5r v8];apply hK;clear hK K;simp only [b02, b0f];obtain rfl := sI9 hm1;refine ⟨_, rfl, ?_⟩;exact ⟨s1, s3, s5, s8, (by first | (simp only [go_sem, s16, lA9, mA9]; done) | rfl)⟩
        simp only [b0u];apply b0b;intro K hK;simp only [go_sem, b5r v8];apply hK;clear hK K;simp only [b0u];obtain ⟨b31, hl31, hm1⟩ := b0g hm1;refine b1j hl31 (fun | k_17, t, h => t 1 = .fp (vM m) 0 /\ t 3 = .fs 3 (List.map b1g y13.1) /\ t 5 = .fs 1 (List.map eI y15.1) /\ t 8 = .fs 1 (List.map b2f to_8) /\ t 16 = I i_16 /\ t 17 = I k_17) ?_ ?_
        ·exact ⟨s1, s3, s5, s8, s16, ve9⟩
        ·rintro k_17 o t h ⟨s1, s3, s5, s8, s16, s17⟩ hm2 hb31;simp only [r77] at hm2;rw [s0d];refine b0v ?_;apply b0b;intro K hK;simp only [go_sem, s16, s17, b5r v8];apply hK;clear hK K;refine b0i fun K32 hK32 => ?_;simp only [go_sem];refine b0k (fun hc33 => ?_) (fun hc33 => ?_)
         ·rw [b0r hc33] at hm2;simp only [b0s, b02, b0f];refine hK32 _ _ ?_;refine b0i fun K34 hK34 => ?_;simp only [b0u];obtain ⟨x43, h_x43, hm2⟩ := b0g hm2;have h_x430 := b05 h_x43;have h_x431 := b06 h_x43;obtain ⟨x44, h_x44, hm2⟩ := b0g hm2;have h_x440 := b05 h_x44;have h_x441 := b06 h_x44;obtain ⟨x45, h_x45, hm2⟩ := b0g hm2;have h_x450 := b05 h_x45;have h_x451 := b06 h_x45;obtain ⟨x46, h_x46, hm2⟩ := b0g hm2;have h_x460 := b05 h_x46;have h_x461 := b06 h_x46;obtain ⟨c50, h_c50, hm2⟩ := b0g hm2;refine b2p (fun t h => t 1 = .fp (vM m) 0 /\ t 3 = .fs 3 (List.map b1g y13.1) /\ t 5 = .fs 1 (List.map eI y15.1) /\ t 8 = .fs 1 (List.map b2f to_8) /\ t 16 = I i_16 /\ t 17 = I k_17 /\ t 18 = B c50) (fun K hK => ?_) ?_
          ·simp only [go_sem, s1, s3, s8, s16, s17, b08 h_x43, b3n h_x43, h_x430, h_x431, b08 h_x44, b3n h_x44, h_x440, h_x441, b08 h_x45, b3n h_x45, h_x450, h_x451, b08 h_x46, b3n h_x46, h_x460, h_x461, b5r v8];refine b0k (fun hg51 => ?_) (fun hg51 => ?_)
           ·simp only [hg51, Bool.not_true, Bool.not_false, eq_self, if_true, if_false, Bool.true_or, Bool.or_true, Bool.false_or, Bool.or_false, Bool.true_and, Bool.and_true, Bool.false_and, Bool.and_false, fT9] at h_c50;obtain ⟨x47, h_x47, h_c50⟩ := b0g h_c50;have h_x470 := b05 h_x47;have h_x471 := b06 h_x47;obtain ⟨x48, h_x48, h_c50⟩ := b0g h_c50;have h_x480 := b05 h_x48;have h_x481 := b06 h_x48;obtain ⟨y49, h_y49, h_c50⟩ := b0g h_c50;obtain rfl := sI9 h_c50;simp only [go_sem, s1, s3, s8, s16, s17, b08 h_x43, b3n h_x43, h_x430, h_x431, b08 h_x44, b3n h_x44, h_x440, h_x441, b08 h_x45, b3n h_x45, h_x450, h_x451, b08 h_x46, b3n h_x46, h_x460, h_x461, b08 h_x47, b3n h_x47, h_x470, h_x471, b08 h_x48, b3n h_x48, h_x480, h_x481, hg51, b5r v8];refine b01 (c7l x47 x48 _ h_y49) ?_;simp only [go_sem, s1, s3, s8, s16, s17, b08 h_x43, b3n h_x43, h_x430, h_x431, b08 h_x44, b3n h_x44, h_x440, h_x441, b08 h_x45, b3n h_x45, h_x450, h_x451, b08 h_x46, b3n h_x46, h_x460, h_x461, b08 h_x47, b3n h_x47, h_x470, h_x471, b08 h_x48, b3n h_x48, h_x480, h_x481, hg51, b5r v8];exact hK _ _ ⟨s1, s3, s5, s8, s16, s17, (by first | (simp only [go_sem, hg51, lA9, mA9]; done) | rfl)⟩
           ·simp only [hg51, Bool.not_true, Bool.not_false, eq_self, if_true, if_false, Bool.true_or, Bool.or_true, Bool.false_or, Bool.or_false, Bool.true_and, Bool.and_true, Bool.false_and, Bool.and_false, fT9] at h_c50;obtain rfl := sI9 h_c50;simp only [go_sem, s1, s3, s8, s16, s17, b08 h_x43, b3n h_x43, h_x430, h_x431, b08 h_x44, b3n h_x44, h_x440, h_x441, b08 h_x45, b3n h_x45, h_x450, h_x451, b08 h_x46, b3n h_x46, h_x460, h_x461, hg51, b5r v8];exact hK _ _ ⟨s1, s3, s5, s8, s16, s17, (by first | (simp only [go_sem, hg51, lA9, mA9]; done) | rfl)⟩
          ·rintro t h ⟨s1, s3, s5, s8, s16, s17, s18⟩;obtain ⟨x54, h_x54, hm2⟩ := b0g hm2;have h_x540 := b05 h_x54;have h_x541 := b06 h_x54;obtain ⟨x55, h_x55, hm2⟩ := b0g hm2;have h_x550 := b05 h_x55;have h_x551 := b06 h_x55;apply b0b;intro K hK;simp only [go_sem, s5, s16, s17, s18, b08 h_x54, b3n h_x54, h_x540, h_x541, b08 h_x55, b3n h_x55, h_x550, h_x551, b5r v8];apply hK;clear hK K;simp only [go_sem];refine b0k (fun hc56 => ?_) (fun hc56 => ?_)
           ·rw [b0r hc56] at hm2;apply b0b;intro K hK;simp only [go_sem, b5r v8];apply hK;clear hK K;simp only [b0x, b1p, b2e, b0y];obtain rfl := sI9 hm2;obtain rfl := hb31 _ rfl
            try dsimp only at hm1
            obtain rfl := sI9 hm1;obtain rfl := hb26 _ rfl
            try dsimp only at hm0
            obtain rfl := sI9 hm0;exact b04 vi9 (b0e _)
           ·rw [b0q hc56] at hm2;simp only [b0s, b02, b0f];refine hK34 _ _ ?_;apply b03;intro K hK;simp only [go_sem, s17, b5r v8];apply hK;clear hK K;simp only [b02, b0f];obtain rfl := sI9 hm2;refine ⟨_, rfl, ?_⟩;exact ⟨s1, s3, s5, s8, s16, (by first | (simp only [go_sem, s17, lA9, mA9]; done) | rfl)⟩
         ·rw [b0q hc33] at hm2;simp only [b09, b1b, b1a, c0s, b02, b0f, Nat.reduceEqDiff, nF9];obtain rfl := sI9 hm2;obtain rfl := hb31 _ rfl
          try dsimp only at hm1
          exact J30  _ _ s1 s3 s5 s8 s16 hm1
       ·rw [b0q hc28] at hm1;simp only [b09, b1b, b1a, c0s, b02, b0f, Nat.reduceEqDiff, nF9];obtain rfl := sI9 hm1;obtain rfl := hb26 _ rfl
        try dsimp only at hm0
        exact J23  _ _  hm0
     simp only [b0u];obtain ⟨b59, hl59, hm0⟩ := b0g hm0;refine b1j hl59 (fun | (many_7, to_8, i_9), t, h => ∃ v8 : AV, t 1 = .fp (vM m) 0 /\ t 3 = .fs 3 (List.map b1g y13.1) /\ t 5 = .fs 1 (List.map eI y15.1) /\ t 7 = I many_7 /\ t 8 = v8 /\ t 9 = I i_9 /\ b2a h v8 1 (List.map b2f to_8)) ?_ ?_
     ·exact ⟨(.v (.slice none 0 0)), s1, s3, s5, ve9, ve9, ve9, c0o⟩
     ·rintro ⟨many_7, to_8, i_9⟩ o t h ⟨v8, s1, s3, s5, s7, s8, s9, Q5⟩ hm1 hb59;simp only [r76] at hm1;rw [s0c];refine b0v ?_;apply b0b;intro K hK;simp only [go_sem, s3, s9, b5r v8];apply hK;clear hK K;refine b0i fun K60 hK60 => ?_;simp only [go_sem];refine b0k (fun hc61 => ?_) (fun hc61 => ?_)
      ·rw [b0r hc61] at hm1;simp only [b0s, b02, b0f];refine hK60 _ _ ?_;refine b0i fun K62 hK62 => ?_
       have J63 : ∀ (many_7_1 : Int) (to_8_1 : List (List Int)) (i8 : Nat) (t : Slots) (h : Heap), t 1 = .fp (vM m) 0 -> t 3 = .fs 3 (List.map b1g y13.1) -> t 5 = .fs 1 (List.map eI y15.1) -> t 7 = I many_7_1 -> t 8 = .rs i8 0 (List.length to_8_1) -> t 9 = I i_9 -> h.ob i8 = some (1, List.map b2f to_8_1) -> i8 < h.nx -> r80 i_9 many_7_1 to_8_1 = some o -> K62 t h := by
        intro many_7_1 to_8_1 i8 t h s1 s3 s5 s7 s8 s9 Qw Qp hm1;refine hK62 _ _ ?_;unfold r80 at hm1;apply b03;intro K hK;simp only [go_sem, s9, Qp, b5r v8];apply hK;clear hK K;simp only [b02, b0f];obtain rfl := sI9 hm1;refine ⟨_, rfl, ?_⟩;exact ⟨(.rs i8 0 (List.length to_8_1)), s1, s3, s5, s7, (by first | exact s8 | simp only [go_sem, s8, lA9, mA9]), (by first | (simp only [go_sem, s9, lA9, mA9]; done) | rfl), (b2v (by simp only [go_sem, Qw, Qp, lA9, mA9]) vh9 (by simp only [go_sem, Qp]))⟩
       simp only [b0u];refine b0v ?_;obtain ⟨x68, h_x68, hm1⟩ := b0g hm1;have h_x680 := b05 h_x68;have h_x681 := b06 h_x68;obtain ⟨c71, h_c71, hm1⟩ := b0g hm1;refine b2p (fun t h => t 1 = .fp (vM m) 0 /\ t 3 = .fs 3 (List.map b1g y13.1) /\ t 5 = .fs 1 (List.map eI y15.1) /\ t 7 = I many_7 /\ t 8 = v8 /\ t 9 = I i_9 /\ t 77 = B c71 /\ b2a h v8 1 (List.map b2f to_8)) (fun K hK => ?_) ?_
       ·simp only [go_sem, s1, s3, s5, s7, s9, b08 h_x68, b3n h_x68, h_x680, h_x681, b5r v8];refine b0k (fun hg72 => ?_) (fun hg72 => ?_)
        ·simp only [hg72, Bool.not_true, Bool.not_false, eq_self, if_true, if_false, Bool.true_or, Bool.or_true, Bool.false_or, Bool.or_false, Bool.true_and, Bool.and_true, Bool.false_and, Bool.and_false, fT9] at h_c71;obtain rfl := sI9 h_c71;simp only [go_sem, s1, s3, s5, s7, s9, b08 h_x68, b3n h_x68, h_x680, h_x681, hg72, b5r v8];exact hK _ _ ⟨s1, s3, s5, s7, s8, s9, (by first | (simp only [go_sem, hg72, lA9, mA9]; done) | rfl), Q5⟩
        ·simp only [go_sem, s1, s3, s5, s7, s9, b08 h_x68, b3n h_x68, h_x680, h_x681, hg72, b5r v8];refine b0k (fun hg73 => ?_) (fun hg73 => ?_)
         ·simp only [hg72, hg73, Bool.not_true, Bool.not_false, eq_self, if_true, if_false, Bool.true_or, Bool.or_true, Bool.false_or, Bool.or_false, Bool.true_and, Bool.and_true, Bool.false_and, Bool.and_false, fT9] at h_c71;obtain rfl := sI9 h_c71;simp only [go_sem, s1, s3, s5, s7, s9, b08 h_x68, b3n h_x68, h_x680, h_x681, hg72, hg73, b5r v8];exact hK _ _ ⟨s1, s3, s5, s7, s8, s9, (by first | (simp only [go_sem, hg72, hg73, lA9, mA9]; done) | rfl), Q5⟩
         ·simp only [hg72, hg73, Bool.not_true, Bool.not_false, eq_self, if_true, if_false, Bool.true_or, Bool.or_true, Bool.false_or, Bool.or_false, Bool.true_and, Bool.and_true, Bool.false_and, Bool.and_false, fT9] at h_c71;obtain ⟨x69, h_x69, h_c71⟩ := b0g h_c71;have h_x690 := b05 h_x69;have h_x691 := b06 h_x69;obtain ⟨y70, h_y70, h_c71⟩ := b0g h_c71;obtain rfl := sI9 h_c71;simp only [go_sem, s1, s3, s5, s7, s9, b08 h_x68, b3n h_x68, h_x680, h_x681, b08 h_x69, b3n h_x69, h_x690, h_x691, hg72, hg73, b5r v8];refine b01 (o8i m x69 _ h_y70) ?_;simp only [go_sem, s1, s3, s5, s7, s9, b08 h_x68, b3n h_x68, h_x680, h_x681, b08 h_x69, b3n h_x69, h_x690, h_x691, hg72, hg73, b5r v8];exact hK _ _ ⟨s1, s3, s5, s7, s8, s9, (by first | (simp only [go_sem, hg72, hg73, lA9, mA9]; done) | rfl), Q5⟩
       ·rintro t h ⟨s1, s3, s5, s7, s8, s9, s77, Q5⟩;refine b0i fun K74 hK74 => ?_;simp only [go_sem, s77];refine b0k (fun hc75 => ?_) (fun hc75 => ?_)
        ·rw [b0r hc75] at hm1;apply b0b;intro K hK;simp only [go_sem, b5r v8];apply hK;clear hK K;simp only [b0x, b1p, b2e, b0y];obtain rfl := sI9 hm1;obtain rfl := hb59 _ rfl
         try dsimp only at hm0
         obtain rfl := sI9 hm0;exact b04 (by simp only [go_sem, b8s Q5, lA9, mA9]) (b0e _)
        ·rw [b0q hc75] at hm1;simp only [b0s, b02, b0f];refine hK74 _ _ ?_;apply b0b;intro K hK;simp only [go_sem, s5, s7, s9, b08 h_x68, b3n h_x68, h_x680, h_x681, b5r v8];apply hK;clear hK K;apply b0b;intro K hK;simp only [go_sem, b5r v8];apply hK;clear hK K;refine b0v ?_;apply b0b;intro K hK;simp only [go_sem, b5r v8];apply hK;clear hK K;refine b0i fun K76 hK76 => ?_
         have J77 : ∀ (row_10 : List Int) (v10 : AV) (t : Slots) (h : Heap), t 1 = .fp (vM m) 0 -> t 3 = .fs 3 (List.map b1g y13.1) -> t 5 = .fs 1 (List.map eI y15.1) -> t 7 = I (mx many_7 (wr (x68 + 1))) -> t 8 = v8 -> t 9 = I i_9 -> t 10 = v10 -> b2a h v8 1 (List.map b2f to_8) -> b2a h v10 1 (List.map eI row_10) -> (∀ j, ¬b07 v8 j -> b07 v10 j) -> r81 many_7 to_8 i_9 x68 row_10 = some o -> K76 t h := by
          intro row_10 v10 t h s1 s3 s5 s7 s8 s9 s10 Q5 Qa Qc hm1;refine hK76 _ _ ?_;unfold r81 at hm1;refine g9j (s := 10) (v := v10) (f := eI) (l := row_10) (by simp only [go_sem, s10, b8s Q5, b8s Qa, lA9, mA9]) (b3x Qa (by intro j hj hl; first | rfl | simp only [go_sem, hl, r9q Qc j hj]) (by first | omega | exact Nat.le_refl _ | (simp only [go_sem, nxs] <;> omega))) b1t b8p ?_;skip;obtain ⟨l79, h_l79, hm1⟩ := b0g hm1;apply b03;intro K hK;simp only [go_sem, s8, s10, l3r Q5, b5r v8, b5r v10];refine b3a (f := b2f) (l := to_8) (m := ([row_10])) ?_ ?_ ?_ ?_ h_l79 ?_
          ·exact (b3x Q5 (by intro j hj hl; first | rfl | simp only [go_sem, hl, Qc j hj, s0u Qa (Qc j hj)]) (by first | omega | exact Nat.le_refl _ | (simp only [go_sem, nxs] <;> omega)))
          ·exact (b4t (by simp only [go_sem, b8s Q5, b8s Qa, lA9, mA9]) (by simp only [go_sem, b8s Q5, b8s Qa, lA9, mA9]))
          ·exact (b4r vf9)
          ·exact (fun _ => by simp)
          simp only [go_sem, s8, s10, l3r Q5, b5r v8, b5r v10];apply hK;clear hK K;simp only [b02, b0f];exact J63 (mx many_7 (wr (x68 + 1))) l79 (nxs h.nx) _ _ s1 s3 s5 s7 (by first | (simp only [go_sem, s8, lA9, mA9]; done) | rfl) s9 (by simp only [go_sem, b8s Q5, b8s Qa, lA9, mA9]) vc9 hm1
         simp only [b0u];obtain ⟨b80, hl80, hm1⟩ := b0g hm1;refine b1j hl80 (fun | (row_10, x_11), t, h => ∃ v10 : AV, t 1 = .fp (vM m) 0 /\ t 3 = .fs 3 (List.map b1g y13.1) /\ t 5 = .fs 1 (List.map eI y15.1) /\ t 7 = I (mx many_7 (wr (x68 + 1))) /\ t 8 = v8 /\ t 9 = I i_9 /\ t 10 = v10 /\ t 11 = I x_11 /\ b2a h v8 1 (List.map b2f to_8) /\ b2a h v10 1 (List.map eI row_10) /\ (∀ j, ¬b07 v8 j -> b07 v10 j)) ?_ ?_
         ·exact ⟨(.v (.slice none 0 0)), s1, s3, s5, (by first | (simp only [go_sem, s7, lA9, mA9]; done) | rfl), s8, s9, ve9, ve9, Q5, c0o, (by first | exact r9r | exact r9s | assumption | (refine g9p ?_; first | assumption | exact b1v (by assumption) vj9) | (refine b4r ?_; first | assumption | exact b1v (by assumption) vj9))⟩
         ·rintro ⟨row_10, x_11⟩ o t h ⟨v10, s1, s3, s5, s7, s8, s9, s10, s11, Q5, Qa, Qc⟩ hm2 hb80;simp only [r75] at hm2;rw [s0b];refine b0v ?_;obtain ⟨q82, h_q82, hm2⟩ := b0g hm2;apply b0b;intro K hK;simp only [go_sem, s1, s11, c21 h_q82, b5r v8, b5r v10];apply hK;clear hK K;refine b0i fun K83 hK83 => ?_;simp only [go_sem];refine b0k (fun hc84 => ?_) (fun hc84 => ?_)
          ·rw [b0r hc84] at hm2;simp only [b0s, b02, b0f];refine hK83 _ _ ?_;refine b0i fun K85 hK85 => ?_
           have J86 : ∀ (row_10_1 : List Int) (i10 : Nat) (t : Slots) (h : Heap), t 1 = .fp (vM m) 0 -> t 3 = .fs 3 (List.map b1g y13.1) -> t 5 = .fs 1 (List.map eI y15.1) -> t 7 = I (mx many_7 (wr (x68 + 1))) -> t 8 = v8 -> t 9 = I i_9 -> t 10 = .rs i10 0 (List.length row_10_1) -> t 11 = I x_11 -> b2a h v8 1 (List.map b2f to_8) -> h.ob i10 = some (1, List.map eI row_10_1) -> i10 < h.nx -> b07 v8 i10 -> r82 x_11 row_10_1 = some o -> K85 t h := by
            try clear s1 s3 s5 s7 s8 s9 s10 s11 Q5 Qa Qc
            intro row_10_1 i10 t h s1 s3 s5 s7 s8 s9 s10 s11 Q5 Qx Qq Qz hm2;refine hK85 _ _ ?_;unfold r82 at hm2;apply b03;intro K hK;simp only [go_sem, s11, Qq, b5r v8, b5r v10];apply hK;clear hK K;simp only [b02, b0f];obtain rfl := sI9 hm2;refine ⟨_, rfl, ?_⟩;exact ⟨(.rs i10 0 (List.length row_10_1)), s1, s3, s5, s7, s8, s9, (by first | exact s10 | simp only [go_sem, s10, lA9, mA9]), (by first | (simp only [go_sem, s11, lA9, mA9]; done) | rfl), Q5, (b2v (by simp only [go_sem, Qx, Qq, lA9, mA9]) vh9 (by simp only [go_sem, Qq])), (by first | exact r9r | exact r9s | assumption | (refine g9p ?_; first | assumption | exact b1v (by assumption) vj9) | (refine b4r ?_; first | assumption | exact b1v (by assumption) vj9))⟩
           simp only [b0u];obtain ⟨x89, h_x89, hm2⟩ := b0g hm2;have h_x890 := b05 h_x89;have h_x891 := b06 h_x89;obtain ⟨y90, h_y90, hm2⟩ := b0g hm2;apply b0b;intro K hK;simp only [go_sem, s1, s3, s9, s11, b08 h_x89, b3n h_x89, h_x890, h_x891, b5r v8, b5r v10];refine b01 (p20 m x89 x_11 _ h_y90) ?_;simp only [go_sem, s1, s3, s9, s11, b08 h_x89, b3n h_x89, h_x890, h_x891, b5r v8, b5r v10];apply hK;clear hK K;apply b0b;intro K hK;simp only [go_sem, b5r v8, b5r v10];apply hK;clear hK K;refine b0v ?_;apply b0b;intro K hK;simp only [go_sem, b5r v8, b5r v10];apply hK;clear hK K;refine b0i fun K91 hK91 => ?_
           have J92 : ∀ (n_14 : Int) (t : Slots) (h : Heap), t 1 = .fp (vM m) 0 -> t 3 = .fs 3 (List.map b1g y13.1) -> t 5 = .fs 1 (List.map eI y15.1) -> t 7 = I (mx many_7 (wr (x68 + 1))) -> t 8 = v8 -> t 9 = I i_9 -> t 10 = v10 -> t 11 = I x_11 -> t 13 = I y90.2 -> t 14 = I n_14 -> b2a h v8 1 (List.map b2f to_8) -> b2a h v10 1 (List.map eI row_10) -> (∀ j, ¬b07 v8 j -> b07 v10 j) -> r83 row_10 x_11 y90 n_14 = some o -> K91 t h := by
            try clear s1 s3 s5 s7 s8 s9 s10 s11 Q5 Qa Qc
            intro n_14 t h s1 s3 s5 s7 s8 s9 s10 s11 s13 s14 Q5 Qa Qc hm2;refine hK91 _ _ ?_;unfold r83 at hm2;refine b0v ?_;refine b2p (fun t h => t 1 = .fp (vM m) 0 /\ t 3 = .fs 3 (List.map b1g y13.1) /\ t 5 = .fs 1 (List.map eI y15.1) /\ t 7 = I (mx many_7 (wr (x68 + 1))) /\ t 8 = v8 /\ t 9 = I i_9 /\ t 10 = v10 /\ t 11 = I x_11 /\ t 14 = I n_14 /\ t 129 = B ((decide (¬y90.2 = 0)) || (decide (n_14 < 0))) /\ b2a h v8 1 (List.map b2f to_8) /\ b2a h v10 1 (List.map eI row_10) /\ (∀ j, ¬b07 v8 j -> b07 v10 j)) (fun K hK => ?_) ?_
            ·simp only [go_sem, s13, s14, b5r v8, b5r v10];refine b0k (fun hg93 => ?_) (fun hg93 => ?_)
             ·simp only [go_sem, s13, s14, hg93, b5r v8, b5r v10];exact hK _ _ ⟨s1, s3, s5, s7, s8, s9, s10, s11, s14, (by first | (simp only [go_sem, hg93, lA9, mA9]; done) | rfl), Q5, Qa, Qc⟩
             ·simp only [go_sem, s13, s14, hg93, b5r v8, b5r v10];exact hK _ _ ⟨s1, s3, s5, s7, s8, s9, s10, s11, s14, (by first | (simp only [go_sem, hg93, lA9, mA9]; done) | rfl), Q5, Qa, Qc⟩
            ·try clear s1 s3 s5 s7 s8 s9 s10 s11 s13 s14 Q5 Qa Qc
             rintro t h ⟨s1, s3, s5, s7, s8, s9, s10, s11, s14, s129, Q5, Qa, Qc⟩;refine b0i fun K94 hK94 => ?_;simp only [go_sem, s129];refine b0k (fun hc95 => ?_) (fun hc95 => ?_)
             ·rw [b0r hc95] at hm2;apply b0b;intro K hK;simp only [go_sem, b5r v8, b5r v10];apply hK;clear hK K;simp only [b0x, b1p, b2e, b0y];obtain rfl := sI9 hm2;obtain rfl := hb80 _ rfl
              try dsimp only at hm1
              obtain rfl := sI9 hm1;obtain rfl := hb59 _ rfl
              try dsimp only at hm0
              obtain rfl := sI9 hm0;exact b04 (by simp only [go_sem, b8s Q5, b8s Qa, lA9, mA9]) (b0e _)
             ·rw [b0q hc95] at hm2;simp only [b0s, b02, b0f];refine hK94 _ _ ?_;obtain ⟨l97, h_l97, hm2⟩ := b0g hm2;apply b03;intro K hK;simp only [go_sem, s10, s14, l3r Qa, b5r v8, b5r v10];refine b3a (f := eI) (l := row_10) (m := ([n_14])) ?_ ?_ ?_ ?_ h_l97 ?_
              ·exact (b3x Qa (by intro j hj hl; first | rfl | simp only [go_sem, hl, r9q Qc j hj]) (by first | omega | exact Nat.le_refl _ | (simp only [go_sem, nxs] <;> omega)))
              ·exact (b4t (by simp only [go_sem, b8s Q5, b8s Qa, lA9, mA9]) (by simp only [go_sem, b8s Q5, b8s Qa, lA9, mA9]))
              ·exact (b4r vf9)
              ·exact (fun _ => by simp)
              simp only [go_sem, s10, s14, l3r Qa, b5r v8, b5r v10];apply hK;clear hK K;simp only [b02, b0f];exact J86 l97 (nxs h.nx) _ _ s1 s3 s5 s7 s8 s9 (by first | (simp only [go_sem, s10, lA9, mA9]; done) | rfl) s11 (b3x Q5 (by intro j hj hl; first | rfl | simp only [go_sem, hl, Qc j hj]) (by first | omega | exact Nat.le_refl _ | (simp only [go_sem, nxs] <;> omega))) (by simp only [go_sem, b8s Qa, lA9, mA9]) vc9 vb9 hm2
           simp only [b0u];obtain ⟨b98, hl98, hm2⟩ := b0g hm2;refine b1j hl98 (fun | (n_14, k_15), t, h => ∃ i12 : Nat, t 1 = .fp (vM m) 0 /\ t 3 = .fs 3 (List.map b1g y13.1) /\ t 5 = .fs 1 (List.map eI y15.1) /\ t 7 = I (mx many_7 (wr (x68 + 1))) /\ t 8 = v8 /\ t 9 = I i_9 /\ t 10 = v10 /\ t 11 = I x_11 /\ t 12 = .rp i12 0 0 /\ t 13 = I y90.2 /\ t 14 = I n_14 /\ t 15 = I k_15 /\ b2a h v8 1 (List.map b2f to_8) /\ b2a h v10 1 (List.map eI row_10) /\ h.ob i12 = some (3, [[I y90.1.State, I y90.1.Values.1, I y90.1.Values.2]]) /\ i12 < h.nx /\ (∀ j, ¬b07 v8 j -> b07 v10 j) /\ b07 v8 i12 /\ b07 v10 i12) ?_ ?_
           ·exact ⟨h.nx, s1, s3, s5, s7, s8, s9, s10, s11, ve9, ve9, ve9, ve9, (b3x Q5 (by intro j hj hl; first | rfl | simp only [go_sem, hl]) (by first | omega | exact Nat.le_refl _ | (simp only [go_sem, nxs] <;> omega))), (b3x Qa (by intro j hj hl; first | rfl | simp only [go_sem, hl]) (by first | omega | exact Nat.le_refl _ | (simp only [go_sem, nxs] <;> omega))), vi9, vc9, Qc, vb9, vb9⟩
           ·try clear s1 s3 s5 s7 s8 s9 s10 s11 Q5 Qa Qc
            rintro ⟨n_14, k_15⟩ o t h ⟨i12, s1, s3, s5, s7, s8, s9, s10, s11, s12, s13, s14, s15, Q5, Qa, Ql, Qi, Qc, Qm, Qn⟩ hm3 hb98;simp only [r7t] at hm3;rw [s0a];refine b0v ?_;refine b2p (fun t h => t 1 = .fp (vM m) 0 /\ t 3 = .fs 3 (List.map b1g y13.1) /\ t 5 = .fs 1 (List.map eI y15.1) /\ t 7 = I (mx many_7 (wr (x68 + 1))) /\ t 8 = v8 /\ t 9 = I i_9 /\ t 10 = v10 /\ t 11 = I x_11 /\ t 12 = .rp i12 0 0 /\ t 13 = I y90.2 /\ t 14 = I n_14 /\ t 15 = I k_15 /\ t 111 = B ((decide (k_15 < (List.length y13.1 : Int))) && (decide (n_14 < 0))) /\ b2a h v8 1 (List.map b2f to_8) /\ b2a h v10 1 (List.map eI row_10) /\ h.ob i12 = some (3, [[I y90.1.State, I y90.1.Values.1, I y90.1.Values.2]]) /\ i12 < h.nx /\ (∀ j, ¬b07 v8 j -> b07 v10 j) /\ b07 v8 i12 /\ b07 v10 i12) (fun K hK => ?_) ?_
            ·simp only [go_sem, s3, s14, s15, Qi, b5r v8, b5r v10];refine b0k (fun hg99 => ?_) (fun hg99 => ?_)
             ·simp only [go_sem, s3, s14, s15, Qi, hg99, b5r v8, b5r v10];exact hK _ _ ⟨s1, s3, s5, s7, s8, s9, s10, s11, s12, s13, s14, s15, (by first | (simp only [go_sem, hg99, lA9, mA9]; done) | rfl), Q5, Qa, Ql, Qi, Qc, Qm, Qn⟩
             ·simp only [go_sem, s3, s14, s15, Qi, hg99, b5r v8, b5r v10];exact hK _ _ ⟨s1, s3, s5, s7, s8, s9, s10, s11, s12, s13, s14, s15, (by first | (simp only [go_sem, hg99, lA9, mA9]; done) | rfl), Q5, Qa, Ql, Qi, Qc, Qm, Qn⟩
            ·try clear s1 s3 s5 s7 s8 s9 s10 s11 s12 s13 s14 s15 Q5 Qa Ql Qi Qc Qm Qn
             rintro t h ⟨s1, s3, s5, s7, s8, s9, s10, s11, s12, s13, s14, s15, s111, Q5, Qa, Ql, Qi, Qc, Qm, Qn⟩;refine b0i fun K100 hK100 => ?_;simp only [go_sem, s111];refine b0k (fun hc101 => ?_) (fun hc101 => ?_)
             ·rw [b0r hc101] at hm3;simp only [b0s, b02, b0f];refine hK100 _ _ ?_;refine b0i fun K102 hK102 => ?_
              have J103 : ∀ (n_14_1 : Int) (t : Slots) (h : Heap), t 1 = .fp (vM m) 0 -> t 3 = .fs 3 (List.map b1g y13.1) -> t 5 = .fs 1 (List.map eI y15.1) -> t 7 = I (mx many_7 (wr (x68 + 1))) -> t 8 = v8 -> t 9 = I i_9 -> t 10 = v10 -> t 11 = I x_11 -> t 12 = .rp i12 0 0 -> t 13 = I y90.2 -> t 14 = I n_14_1 -> t 15 = I k_15 -> b2a h v8 1 (List.map b2f to_8) -> b2a h v10 1 (List.map eI row_10) -> h.ob i12 = some (3, [[I y90.1.State, I y90.1.Values.1, I y90.1.Values.2]]) -> i12 < h.nx -> (∀ j, ¬b07 v8 j -> b07 v10 j) -> b07 v8 i12 -> b07 v10 i12 -> r79 k_15 n_14_1 = some o -> K102 t h := by
               try clear s1 s3 s5 s7 s8 s9 s10 s11 s12 s13 s14 s15 s111 Q5 Qa Ql Qi Qc Qm Qn
               intro n_14_1 t h s1 s3 s5 s7 s8 s9 s10 s11 s12 s13 s14 s15 Q5 Qa Ql Qi Qc Qm Qn hm3;refine hK102 _ _ ?_;unfold r79 at hm3;apply b03;intro K hK;simp only [go_sem, s15, Qi, b5r v8, b5r v10];apply hK;clear hK K;simp only [b02, b0f];obtain rfl := sI9 hm3;refine ⟨_, rfl, ?_⟩;exact ⟨i12, s1, s3, s5, s7, s8, s9, s10, s11, s12, s13, s14, (by first | (simp only [go_sem, s15, lA9, mA9]; done) | rfl), Q5, Qa, Ql, Qi, Qc, Qm, Qn⟩
              simp only [b0u];obtain ⟨x105, h_x105, hm3⟩ := b0g hm3;have h_x1050 := b05 h_x105;have h_x1051 := b06 h_x105;have hep660 : ∀ k : AV -> Prop, @b2g .eql (.flat [.i, .i, .i]) (.agg [I x105.State, I x105.Values.1, I x105.Values.2]) (.agg [I y90.1.State, I y90.1.Values.1, I y90.1.Values.2]) ⟨k⟩ = k (B (decide (x105 = (Place.mk y90.1.State (y90.1.Values.1, y90.1.Values.2))))) := fun k => o5d x105 (Place.mk y90.1.State (y90.1.Values.1, y90.1.Values.2));apply b0b;intro K hK;simp only [go_sem, s3, s12, s15, Ql, Qi, Qm, Qn, b08 h_x105, b3n h_x105, h_x1050, h_x1051, hep660, b5r v8, b5r v10];apply hK;clear hK K;simp only [go_sem];refine b0k (fun hc106 => ?_) (fun hc106 => ?_)
              ·rw [b0r hc106] at hm3;obtain ⟨x108, h_x108, hm3⟩ := b0g hm3;have h_x1080 := b05 h_x108;have h_x1081 := b06 h_x108;apply b03;intro K hK;simp only [go_sem, s5, s15, Qi, b08 h_x108, b3n h_x108, h_x1080, h_x1081, b5r v8, b5r v10];apply hK;clear hK K;simp only [b02, b0f];exact J103 x108 _ _ s1 s3 s5 s7 s8 s9 s10 s11 s12 s13 (by first | (simp only [go_sem, s14, lA9, mA9]; done) | rfl) s15 Q5 Qa Ql Qi Qc Qm Qn hm3
              ·rw [b0q hc106] at hm3;simp only [b0s, b02, b0f];exact J103 n_14 _ _ s1 s3 s5 s7 s8 s9 s10 s11 s12 s13 s14 s15 Q5 Qa Ql Qi Qc Qm Qn hm3
             ·rw [b0q hc101] at hm3;simp only [b09, b1b, b1a, c0s, b02, b0f, Nat.reduceEqDiff, nF9];obtain rfl := sI9 hm3;obtain rfl := hb98 _ rfl
              try dsimp only at hm2
              exact J92 n_14 _ _ s1 s3 s5 s7 s8 s9 s10 s11 s13 s14 Q5 Qa Qc hm2
          ·rw [b0q hc84] at hm2;simp only [b09, b1b, b1a, c0s, b02, b0f, Nat.reduceEqDiff, nF9];obtain rfl := sI9 hm2;obtain rfl := hb80 _ rfl
           try dsimp only at hm1
           exact J77 row_10 v10 _ _ s1 s3 s5 s7 s8 s9 s10 Q5 Qa Qc hm1
      ·rw [b0q hc61] at hm1;simp only [b09, b1b, b1a, c0s, b02, b0f, Nat.reduceEqDiff, nF9];obtain rfl := sI9 hm1;obtain rfl := hb59 _ rfl
       try dsimp only at hm0
       exact J21 to_8 v8 _ _ s1 s3 s5 s8 Q5 hm0
end Go.Nw.KM
