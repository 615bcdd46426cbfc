/- That the texts make what their models say: printed by a program. -/
import Derived.Test.YtfahaljhgfjooaaDoorKM
set_option linter.all false
namespace Go.Nw.KM
open Go.Nw.Ctl
set_option maxHeartbeats 4000000
variable {O : Orac} [MapsOk O]
theorem c9s (hf : Has O "(newel/control.plant).explore" x__control_plant__explore) (c9t : c66 O) (c9u : c67 O) (c9x : c7a O) : c65 O := by
 intro m assume heard_n heard_a heard_b heard heard_z heard_h r hm0
 unfold b96 at hm0
 refine b1k hf rfl (b0a (.agg _ (b0a (b0e fun a _ => b00 a) (b0a (b0e fun a _ => b00 a) (b0a (b0e fun a _ => b1r a) (b0a (b0e fun a _ => b1t a) (b0a (b0e fun a _ => b1s a) b0o)))))) (b0a (b0e fun a _ => b21 a) (b0a heard_z b0o))) (.fp _ _ (b0a (b0e fun a _ => b4w a) (b0a (b0e fun a _ => b5i a) (b0a (b0e fun a _ => b5i a) (b0a (b0e fun a _ => d4m a) b0o))))) ?_
 refine b1f (fun t h => t 0 = .agg [.fs 1 (List.map eS m.Plant.Machine.Inputs), .fs 1 (List.map eS m.Plant.Machine.Outputs), .fs 2 (List.map b0l m.Plant.Machine.Counters), .fs 2 (List.map b0m m.Plant.Machine.States), .fs 4 (List.map b0i m.Plant.Machine.Rules)] /\ t 1 = .fs 1 (List.map b0x assume) /\ t 2 = .fn heard_n heard_a heard_b) ⟨rfl, rfl, rfl⟩ fun t h ⟨s0, s1, s2⟩ => ?_
 simp only [x__control_plant__explore]
 refine b0b fun K hK => ?_
 simp only [go_sem, s0]
 refine hK _ _ ?_
 clear hK K
 refine b0b fun K hK => ?_
 simp only [go_sem]
 refine hK _ _ ?_
 clear hK K
 refine b0b fun K hK => ?_
 simp only [go_sem]
 refine d6n (O := O) (e := List.map (eM (vks b4m) vI) ([] : List (Place × Int))) rfl ?_
 simp only [go_sem]
 refine c9l (O := O) (fk := (vks b4m)) (fv := vI) (l := ([] : List (Place × Int))) (x := (Place.mk 0 (0, 0))) (v := 0) d70 d00 ?_ ?_ ?_
 ·rfl
 ·simp only [go_sem]
 simp only [go_sem]
 refine hK _ _ ?_
 clear hK K
 refine b0t ?_
 refine b0b fun K hK => ?_
 simp only [go_sem]
 refine hK _ _ ?_
 clear hK K
 refine b0k fun K1 hK1 => ?_
 have J2 : ∀ (w_7_0 : List Place) (w_7_1 : List Int) (w_7_2 : List Int) (w_7_3 : List (List Int)) (i7 : Nat) (i7_1 : Nat) (i7_2 : Nat) (i7_3 : Nat) (v7 : AV) (t : Slots) (h : Heap), t 7 = .rp i7 0 0 -> h.ob i7 = some (4, [[.rs i7_1 0 (List.length w_7_0), .rs i7_2 0 (List.length w_7_1), .rs i7_3 0 (List.length w_7_2), v7]]) -> i7 < h.nx -> h.ob i7_1 = some (3, List.map b2a w_7_0) -> i7_1 < h.nx -> h.ob i7_2 = some (1, List.map eI w_7_1) -> i7_2 < h.nx -> h.ob i7_3 = some (1, List.map eI w_7_2) -> i7_3 < h.nx -> b15 h v7 1 (List.map b4c w_7_3) -> ¬i7 = i7_1 -> ¬i7 = i7_2 -> ¬i7 = i7_3 -> b0s v7 i7 -> ¬i7_1 = i7_2 -> ¬i7_1 = i7_3 -> b0s v7 i7_1 -> ¬i7_2 = i7_3 -> b0s v7 i7_2 -> b0s v7 i7_3 -> c3p w_7_0 w_7_1 w_7_2 w_7_3 = some r -> K1 t h := by
  intro w_7_0 w_7_1 w_7_2 w_7_3 i7 i7_1 i7_2 i7_3 v7 t h s7 Q6 Q4 Qf Qa Qh Q8 Qi Q7 Ql Qc Qg Qj Qm Qn Qo Qq Qp Qr Qs hm0
  refine hK1 _ _ ?_
  unfold c3p at hm0
  refine b0b fun K hK => ?_
  simp only [go_sem, s7]
  refine hK _ _ ?_
  clear hK K
  simp only [b0v, b0w]
  obtain rfl := sI9 hm0
  exact c0q (v := .rp i7 0 0) (by simp only [go_sem]) (d4n (id := i7) (sz := 4) (xs := [.rs i7_1 0 (List.length w_7_0), .rs i7_2 0 (List.length w_7_1), .rs i7_3 0 (List.length w_7_2), v7]) (by simp only [go_sem, Q6]) (.cons (b29 (f := b2a) (l := w_7_0) (id := i7_1) (by simp only [go_sem, Qf]) (by first | rfl | simp only [go_sem, lA9, mA9]) b4w d02) (.cons (b29 (f := eI) (l := w_7_1) (id := i7_2) (by simp only [go_sem, Qh]) (by first | rfl | simp only [go_sem, lA9, mA9]) b5i c1j) (.cons (b29 (f := eI) (l := w_7_2) (id := i7_3) (by simp only [go_sem, Qi]) (by first | rfl | simp only [go_sem, lA9, mA9]) b5i c1j) (.cons (c01 (f := b4c) (l := w_7_3) (b3d Ql (by intro j hj hl; first | rfl | simp only [go_sem, hl, b39 hj Qm, b39 hj Qq, b39 hj Qr, b39 hj Qs]) (by first | omega | exact Nat.le_refl _ | (simp only [go_sem, nxs] <;> omega))) d4m j21) (.nil))))))
 simp only [b0u]
 obtain ⟨b3, hl3, hm0⟩ := b0g hm0
 refine b1p hl3 (fun | (w_7_0, w_7_1, w_7_2, w_7_3, found_8, at_9), t, h => ∃ i7 : Nat, ∃ i7_1 : Nat, ∃ i7_2 : Nat, ∃ i7_3 : Nat, ∃ v7 : AV, ∃ i8 : Nat, t 1 = .fs 1 (List.map b0x assume) /\ t 2 = .fn heard_n heard_a heard_b /\ t 3 = .fp [.fs 1 (List.map eS m.Plant.Machine.Inputs), .fs 1 (List.map eS m.Plant.Machine.Outputs), .fs 2 (List.map b0l m.Plant.Machine.Counters), .fs 2 (List.map b0m m.Plant.Machine.States), .fs 4 (List.map b0i m.Plant.Machine.Rules)] 0 /\ t 7 = .rp i7 0 0 /\ t 8 = .mp i8 /\ t 9 = I at_9 /\ h.ob i7 = some (4, [[.rs i7_1 0 (List.length w_7_0), .rs i7_2 0 (List.length w_7_1), .rs i7_3 0 (List.length w_7_2), v7]]) /\ i7 < h.nx /\ h.ob i7_1 = some (3, List.map b2a w_7_0) /\ i7_1 < h.nx /\ h.ob i7_2 = some (1, List.map eI w_7_1) /\ i7_2 < h.nx /\ h.ob i7_3 = some (1, List.map eI w_7_2) /\ i7_3 < h.nx /\ b15 h v7 1 (List.map b4c w_7_3) /\ h.ob i8 = some (0, List.map (eM (vks b4m) vI) found_8) /\ i8 < h.nx /\ ¬i7 = i7_1 /\ ¬i7 = i7_2 /\ ¬i7 = i7_3 /\ b0s v7 i7 /\ ¬i7 = i8 /\ ¬i7_1 = i7_2 /\ ¬i7_1 = i7_3 /\ b0s v7 i7_1 /\ ¬i7_1 = i8 /\ ¬i7_2 = i7_3 /\ b0s v7 i7_2 /\ ¬i7_2 = i8 /\ b0s v7 i7_3 /\ ¬i7_3 = i8 /\ b0s v7 i8) ?_ ?_
 ·exact ⟨(nxs (nxs (nxs h.nx))), h.nx, (nxs h.nx), (nxs (nxs h.nx)), (.v (.slice none 0 0)), (nxs (nxs (nxs (nxs h.nx)))), s1, s2, (by first | (simp only [go_sem]; done) | rfl), (by first | (simp only [go_sem]; done) | rfl), (by first | (simp only [go_sem]; done) | rfl), (by first | (simp only [go_sem]; done) | rfl), (by simp only [go_sem]), (by simp only [go_sem]), (by simp only [go_sem]), (by simp only [go_sem]), (by simp only [go_sem]), (by simp only [go_sem]), (by simp only [go_sem]), (by simp only [go_sem]), c5g, (by simp only [go_sem]), (by simp only [go_sem]), (by first | first | assumption | omega | (simp only [nxs] <;> omega)), (by first | first | assumption | omega | (simp only [nxs] <;> omega)), (by first | first | assumption | omega | (simp only [nxs] <;> omega)), (by first | exact b1u | exact b1v (by first | assumption | omega | (simp only [nxs] <;> omega)) | assumption | exact b1q (by assumption) (by first | assumption | omega | (simp only [nxs] <;> omega))), (by first | first | assumption | omega | (simp only [nxs] <;> omega)), (by first | first | assumption | omega | (simp only [nxs] <;> omega)), (by first | first | assumption | omega | (simp only [nxs] <;> omega)), (by first | exact b1u | exact b1v (by first | assumption | omega | (simp only [nxs] <;> omega)) | assumption | exact b1q (by assumption) (by first | assumption | omega | (simp only [nxs] <;> omega))), (by first | first | assumption | omega | (simp only [nxs] <;> omega)), (by first | first | assumption | omega | (simp only [nxs] <;> omega)), (by first | exact b1u | exact b1v (by first | assumption | omega | (simp only [nxs] <;> omega)) | assumption | exact b1q (by assumption) (by first | assumption | omega | (simp only [nxs] <;> omega))), (by first | first | assumption | omega | (simp only [nxs] <;> omega)), (by first | exact b1u | exact b1v (by first | assumption | omega | (simp only [nxs] <;> omega)) | assumption | exact b1q (by assumption) (by first | assumption | omega | (simp only [nxs] <;> omega))), (by first | first | assumption | omega | (simp only [nxs] <;> omega)), (by first | exact b1u | exact b1v (by first | assumption | omega | (simp only [nxs] <;> omega)) | assumption | exact b1q (by assumption) (by first | assumption | omega | (simp only [nxs] <;> omega)))⟩
 ·rintro ⟨w_7_0, w_7_1, w_7_2, w_7_3, found_8, at_9⟩ o t h ⟨i7, i7_1, i7_2, i7_3, v7, i8, s1, s2, s3, s7, s8, s9, Q6, Q4, Qf, Qa, Qh, Q8, Qi, Q7, Ql, Q2, Q0, Qc, Qg, Qj, Qm, Qb, Qn, Qo, Qq, Qt, Qp, Qr, Qu, Qs, Qv, Qx⟩ hm1 hb3
  simp only [b8h] at hm1
  rw [d93]
  refine b0t ?_
  refine b0b fun K hK => ?_
  simp only [go_sem, s7, s9, Q6]
  refine hK _ _ ?_
  clear hK K
  refine b0k fun K4 hK4 => ?_
  simp only [go_sem]
  refine b0j (fun hc5 => ?_) (fun hc5 => ?_)
  ·rw [b0q hc5] at hm1
   simp only [b0r, b0f]
   refine hK4 _ _ ?_
   refine b0k fun K6 hK6 => ?_
   have J7 : ∀ (w_7_0_1 : List Place) (w_7_1_1 : List Int) (w_7_2_1 : List Int) (w_7_3_1 : List (List Int)) (found_8_1 : List (Place × Int)) (i7_4 : Nat) (i7_5 : Nat) (i7_6 : Nat) (i7_7 : Nat) (t : Slots) (h : Heap), t 1 = .fs 1 (List.map b0x assume) -> t 2 = .fn heard_n heard_a heard_b -> t 3 = .fp [.fs 1 (List.map eS m.Plant.Machine.Inputs), .fs 1 (List.map eS m.Plant.Machine.Outputs), .fs 2 (List.map b0l m.Plant.Machine.Counters), .fs 2 (List.map b0m m.Plant.Machine.States), .fs 4 (List.map b0i m.Plant.Machine.Rules)] 0 -> t 7 = .rp i7 0 0 -> t 8 = .mp i8 -> t 9 = I at_9 -> h.ob i7 = some (4, [[.rs i7_4 0 (List.length w_7_0_1), .rs i7_5 0 (List.length w_7_1_1), .rs i7_6 0 (List.length w_7_2_1), .rs i7_7 0 (List.length w_7_3_1)]]) -> i7 < h.nx -> h.ob i7_4 = some (3, List.map b2a w_7_0_1) -> i7_4 < h.nx -> h.ob i7_5 = some (1, List.map eI w_7_1_1) -> i7_5 < h.nx -> h.ob i7_6 = some (1, List.map eI w_7_2_1) -> i7_6 < h.nx -> h.ob i7_7 = some (1, List.map b4c w_7_3_1) -> i7_7 < h.nx -> h.ob i8 = some (0, List.map (eM (vks b4m) vI) found_8_1) -> i8 < h.nx -> ¬i7 = i7_4 -> ¬i7 = i7_5 -> ¬i7 = i7_6 -> ¬i7 = i7_7 -> ¬i7 = i8 -> ¬i7_4 = i7_5 -> ¬i7_4 = i7_6 -> ¬i7_4 = i7_7 -> ¬i7_4 = i8 -> ¬i7_5 = i7_6 -> ¬i7_5 = i7_7 -> ¬i7_5 = i8 -> ¬i7_6 = i7_7 -> ¬i7_6 = i8 -> ¬i7_7 = i8 -> c3q at_9 w_7_0_1 w_7_1_1 w_7_2_1 w_7_3_1 found_8_1 = some o -> K6 t h := by
    try clear s1 s2 s3 s7 s8 s9 Q6 Q4 Qf Qa Qh Q8 Qi Q7 Ql Q2 Q0 Qc Qg Qj Qm Qb Qn Qo Qq Qt Qp Qr Qu Qs Qv Qx
    intro w_7_0_1 w_7_1_1 w_7_2_1 w_7_3_1 found_8_1 i7_4 i7_5 i7_6 i7_7 t h s1 s2 s3 s7 s8 s9 Q6 Q4 Qf Qa Qh Q8 Qi Q7 Q2h Q2i Q2 Q0 Qc Qg Qj Q2j Qb Qn Qo Q2k Qt Qp Q2l Qu Q2m Qv Q2n hm1
    refine hK6 _ _ ?_
    unfold c3q at hm1
    refine b04 fun K hK => ?_
    simp only [go_sem, s9]
    refine hK _ _ ?_
    clear hK K
    simp only [b0f]
    obtain rfl := sI9 hm1
    refine ⟨_, rfl, ?_⟩
    exact ⟨i7, i7_4, i7_5, i7_6, (.rs i7_7 0 (List.length w_7_3_1)), i8, s1, s2, s3, s7, s8, (by first | (simp only [go_sem]; done) | rfl), Q6, Q4, Qf, Qa, Qh, Q8, Qi, Q7, (b2u (by simp only [go_sem, Q2h]) (by first | rfl | simp only [go_sem]) (by simp only [go_sem, Q2i])), Q2, Q0, Qc, Qg, Qj, (by first | exact b1u | exact b1v (by first | assumption | omega | (simp only [nxs] <;> omega)) | assumption | exact b1q (by assumption) (by first | assumption | omega | (simp only [nxs] <;> omega))), Qb, Qn, Qo, (by first | exact b1u | exact b1v (by first | assumption | omega | (simp only [nxs] <;> omega)) | assumption | exact b1q (by assumption) (by first | assumption | omega | (simp only [nxs] <;> omega))), Qt, Qp, (by first | exact b1u | exact b1v (by first | assumption | omega | (simp only [nxs] <;> omega)) | assumption | exact b1q (by assumption) (by first | assumption | omega | (simp only [nxs] <;> omega))), Qu, (by first | exact b1u | exact b1v (by first | assumption | omega | (simp only [nxs] <;> omega)) | assumption | exact b1q (by assumption) (by first | assumption | omega | (simp only [nxs] <;> omega))), Qv, (by first | exact b1u | exact b1v (by first | assumption | omega | (simp only [nxs] <;> omega)) | assumption | exact b1q (by assumption) (by first | assumption | omega | (simp only [nxs] <;> omega)))⟩
   simp only [b0u]
   obtain ⟨x9, h_x9, hm1⟩ := b0g hm1
   have h_x90 := b05 h_x9
   have h_x91 := b08 h_x9
   refine b0b fun K hK => ?_
   simp only [go_sem, s7, s9, Q6, Qf, b5u h_x9, h_x90, h_x91]
   refine hK _ _ ?_
   clear hK K
   obtain ⟨y12, h_y12, hm1⟩ := b0g hm1
   obtain ⟨l13, h_l13, hm1⟩ := b0g hm1
   refine b0b fun K hK => ?_
   simp only [go_sem, s3]
   refine b03 (c9t m.Plant _ h_y12) ?_
   simp only [go_sem]
   refine d6s (f := eI) (z := 0) rfl h_l13 ?_
   simp only [go_sem]
   refine hK _ _ ?_
   clear hK K
   refine b0t ?_
   refine b0b fun K hK => ?_
   simp only [go_sem]
   refine hK _ _ ?_
   clear hK K
   refine b0k fun K14 hK14 => ?_
   have J15 : ∀ (w_7_0_1 : List Place) (w_7_1_1 : List Int) (w_7_2_1 : List Int) (found_8_1 : List (Place × Int)) (row_11 : List Int) (i7_4 : Nat) (i7_5 : Nat) (i7_6 : Nat) (i11 : Nat) (t : Slots) (h : Heap), t 1 = .fs 1 (List.map b0x assume) -> t 2 = .fn heard_n heard_a heard_b -> t 3 = .fp [.fs 1 (List.map eS m.Plant.Machine.Inputs), .fs 1 (List.map eS m.Plant.Machine.Outputs), .fs 2 (List.map b0l m.Plant.Machine.Counters), .fs 2 (List.map b0m m.Plant.Machine.States), .fs 4 (List.map b0i m.Plant.Machine.Rules)] 0 -> t 7 = .rp i7 0 0 -> t 8 = .mp i8 -> t 9 = I at_9 -> t 11 = .rs i11 0 (List.length row_11) -> h.ob i7 = some (4, [[.rs i7_4 0 (List.length w_7_0_1), .rs i7_5 0 (List.length w_7_1_1), .rs i7_6 0 (List.length w_7_2_1), v7]]) -> i7 < h.nx -> h.ob i7_4 = some (3, List.map b2a w_7_0_1) -> i7_4 < h.nx -> h.ob i7_5 = some (1, List.map eI w_7_1_1) -> i7_5 < h.nx -> h.ob i7_6 = some (1, List.map eI w_7_2_1) -> i7_6 < h.nx -> b15 h v7 1 (List.map b4c w_7_3) -> h.ob i8 = some (0, List.map (eM (vks b4m) vI) found_8_1) -> i8 < h.nx -> h.ob i11 = some (1, List.map eI row_11) -> i11 < h.nx -> ¬i7 = i7_4 -> ¬i7 = i7_5 -> ¬i7 = i7_6 -> b0s v7 i7 -> ¬i7 = i8 -> ¬i7 = i11 -> ¬i7_4 = i7_5 -> ¬i7_4 = i7_6 -> b0s v7 i7_4 -> ¬i7_4 = i8 -> ¬i7_4 = i11 -> ¬i7_5 = i7_6 -> b0s v7 i7_5 -> ¬i7_5 = i8 -> ¬i7_5 = i11 -> b0s v7 i7_6 -> ¬i7_6 = i8 -> ¬i7_6 = i11 -> b0s v7 i8 -> b0s v7 i11 -> ¬i8 = i11 -> c3o w_7_3 at_9 w_7_0_1 w_7_1_1 w_7_2_1 found_8_1 row_11 = some o -> K14 t h := by
    try clear s1 s2 s3 s7 s8 s9 Q6 Q4 Qf Qa Qh Q8 Qi Q7 Ql Q2 Q0 Qc Qg Qj Qm Qb Qn Qo Qq Qt Qp Qr Qu Qs Qv Qx
    intro w_7_0_1 w_7_1_1 w_7_2_1 found_8_1 row_11 i7_4 i7_5 i7_6 i11 t h s1 s2 s3 s7 s8 s9 s11 Q6 Q4 Qf Qa Qh Q8 Qi Q7 Ql Q2 Q0 Q1b Q15 Qc Qg Qj Qm Qb Qk Qn Qo Qq Qt Qz Qp Qr Qu Q10 Qs Qv Q11 Qx Q12 Qy hm1
    refine hK14 _ _ ?_
    unfold c3o at hm1
    refine g46 (s := 11) (v := .rs i11 0 (List.length row_11)) (f := eI) (l := row_11) (by simp only [go_sem, s11]) (b2u (by simp only [go_sem, Q1b]) (by simp only [go_sem]) (by simp only [go_sem, Q15])) b5i c1j ?_
    simp only [d4h]
    obtain ⟨l17, h_l17, hm1⟩ := b0g hm1
    refine b04 fun K hK => ?_
    simp only [go_sem, s7, Q6, Qk]
    refine b22 (f := b4c) (l := w_7_3) (m := ([row_11])) ?_ ?_ ?_ ?_ h_l17 ?_
    ·exact (b3d Ql (by intro j hj hl; first | rfl | simp only [go_sem, hl, b39 hj Q12]) (by first | omega | exact Nat.le_refl _ | (simp only [go_sem, nxs] <;> omega)))
    ·exact (b4i (by simp only [go_sem]) (by simp only [go_sem]))
    ·exact (b4h (by first | exact b1u | exact b1v (by first | omega | (simp only [nxs] <;> omega)) | assumption | exact b1q (by assumption) (by first | omega | (simp only [go_sem, nxs] <;> omega))))
    ·exact (fun _ => by simp)
    simp only [go_sem, Q6, Q4, Qm, Qk]
    refine hK _ _ ?_
    clear hK K
    simp only [b02, b0f]
    exact J7 w_7_0_1 w_7_1_1 w_7_2_1 l17 found_8_1 i7_4 i7_5 i7_6 (nxs h.nx) _ _ s1 s2 s3 s7 s8 s9 (by simp only [go_sem]) (by simp only [go_sem, Q4]) (by simp only [go_sem, Qf, Qa, b1x Qc, Qq, Qz]) (by simp only [go_sem, Qa]) (by simp only [go_sem, Qh, Q8, b1x Qg, Qr, Q10]) (by simp only [go_sem, Q8]) (by simp only [go_sem, Qi, Q7, b1x Qj, Qs, Q11]) (by simp only [go_sem, Q7]) (by simp only [go_sem, Q4, b9e Ql]) (by simp only [go_sem]) (by simp only [go_sem, Q2, Q0, b1x Qb, Qx, Qy]) (by simp only [go_sem, Q0]) Qc Qg Qj (by first | first | assumption | omega | (simp only [nxs] <;> omega)) Qb Qn Qo (by first | first | assumption | omega | (simp only [nxs] <;> omega)) Qt Qp (by first | first | assumption | omega | (simp only [nxs] <;> omega)) Qu (by first | first | assumption | omega | (simp only [nxs] <;> omega)) Qv (by first | first | assumption | omega | (simp only [nxs] <;> omega)) hm1
   simp only [b0u]
   obtain ⟨b18, hl18, hm1⟩ := b0g hm1
   refine b1p hl18 (fun | (w_7_0_1, w_7_1_1, w_7_2_1, found_8_1, row_11, x_47), t, h => ∃ i7_4 : Nat, ∃ i7_5 : Nat, ∃ i7_6 : Nat, ∃ i10 : Nat, ∃ i11 : Nat, t 1 = .fs 1 (List.map b0x assume) /\ t 2 = .fn heard_n heard_a heard_b /\ t 3 = .fp [.fs 1 (List.map eS m.Plant.Machine.Inputs), .fs 1 (List.map eS m.Plant.Machine.Outputs), .fs 2 (List.map b0l m.Plant.Machine.Counters), .fs 2 (List.map b0m m.Plant.Machine.States), .fs 4 (List.map b0i m.Plant.Machine.Rules)] 0 /\ t 7 = .rp i7 0 0 /\ t 8 = .mp i8 /\ t 9 = I at_9 /\ t 10 = .rp i10 0 0 /\ t 11 = .rs i11 0 (List.length row_11) /\ t 46 = I ((List.length l13 : Nat) : Int) /\ t 47 = I x_47 /\ h.ob i7 = some (4, [[.rs i7_4 0 (List.length w_7_0_1), .rs i7_5 0 (List.length w_7_1_1), .rs i7_6 0 (List.length w_7_2_1), v7]]) /\ i7 < h.nx /\ h.ob i7_4 = some (3, List.map b2a w_7_0_1) /\ i7_4 < h.nx /\ h.ob i7_5 = some (1, List.map eI w_7_1_1) /\ i7_5 < h.nx /\ h.ob i7_6 = some (1, List.map eI w_7_2_1) /\ i7_6 < h.nx /\ b15 h v7 1 (List.map b4c w_7_3) /\ h.ob i8 = some (0, List.map (eM (vks b4m) vI) found_8_1) /\ i8 < h.nx /\ h.ob i10 = some (3, [[I x9.State, I x9.Values.1, I x9.Values.2]]) /\ i10 < h.nx /\ h.ob i11 = some (1, List.map eI row_11) /\ i11 < h.nx /\ ¬i7 = i7_4 /\ ¬i7 = i7_5 /\ ¬i7 = i7_6 /\ b0s v7 i7 /\ ¬i7 = i8 /\ ¬i7 = i10 /\ ¬i7 = i11 /\ ¬i7_4 = i7_5 /\ ¬i7_4 = i7_6 /\ b0s v7 i7_4 /\ ¬i7_4 = i8 /\ ¬i7_4 = i10 /\ ¬i7_4 = i11 /\ ¬i7_5 = i7_6 /\ b0s v7 i7_5 /\ ¬i7_5 = i8 /\ ¬i7_5 = i10 /\ ¬i7_5 = i11 /\ b0s v7 i7_6 /\ ¬i7_6 = i8 /\ ¬i7_6 = i10 /\ ¬i7_6 = i11 /\ b0s v7 i8 /\ b0s v7 i10 /\ b0s v7 i11 /\ ¬i8 = i10 /\ ¬i8 = i11 /\ ¬i10 = i11) ?_ ?_
   ·exact ⟨i7_1, i7_2, i7_3, h.nx, (nxs h.nx), s1, s2, s3, s7, s8, s9, (by first | (simp only [go_sem]; done) | rfl), (by first | (simp only [go_sem]; done) | rfl), (by first | (simp only [go_sem]; done) | rfl), (by first | (simp only [go_sem]; done) | rfl), (by simp only [go_sem, Q6, Q4]), (by simp only [go_sem, Q4]), (by simp only [go_sem, Qf, Qa]), (by simp only [go_sem, Qa]), (by simp only [go_sem, Qh, Q8]), (by simp only [go_sem, Q8]), (by simp only [go_sem, Qi, Q7]), (by simp only [go_sem, Q7]), (b3d Ql (by intro j hj hl; first | rfl | simp only [go_sem, hl]) (by first | omega | exact Nat.le_refl _ | (simp only [go_sem, nxs] <;> omega))), (by simp only [go_sem, Q2, Q0]), (by simp only [go_sem, Q0]), (by simp only [go_sem]), (by simp only [go_sem]), (by simp only [go_sem]), (by simp only [go_sem]), Qc, Qg, Qj, Qm, Qb, (by first | first | assumption | omega | (simp only [nxs] <;> omega)), (by first | first | assumption | omega | (simp only [nxs] <;> omega)), Qn, Qo, Qq, Qt, (by first | first | assumption | omega | (simp only [nxs] <;> omega)), (by first | first | assumption | omega | (simp only [nxs] <;> omega)), Qp, Qr, Qu, (by first | first | assumption | omega | (simp only [nxs] <;> omega)), (by first | first | assumption | omega | (simp only [nxs] <;> omega)), Qs, Qv, (by first | first | assumption | omega | (simp only [nxs] <;> omega)), (by first | first | assumption | omega | (simp only [nxs] <;> omega)), Qx, (by first | exact b1u | exact b1v (by first | assumption | omega | (simp only [nxs] <;> omega)) | assumption | exact b1q (by assumption) (by first | assumption | omega | (simp only [nxs] <;> omega))), (by first | exact b1u | exact b1v (by first | assumption | omega | (simp only [nxs] <;> omega)) | assumption | exact b1q (by assumption) (by first | assumption | omega | (simp only [nxs] <;> omega))), (by first | first | assumption | omega | (simp only [nxs] <;> omega)), (by first | first | assumption | omega | (simp only [nxs] <;> omega)), (by first | first | assumption | omega | (simp only [nxs] <;> omega))⟩
   ·try clear s1 s2 s3 s7 s8 s9 Q6 Q4 Qf Qa Qh Q8 Qi Q7 Ql Q2 Q0 Qc Qg Qj Qm Qb Qn Qo Qq Qt Qp Qr Qu Qs Qv Qx
    rintro ⟨w_7_0_1, w_7_1_1, w_7_2_1, found_8_1, row_11, x_47⟩ o t h ⟨i7_4, i7_5, i7_6, i10, i11, s1, s2, s3, s7, s8, s9, s10, s11, s46, s47, Q6, Q4, Qf, Qa, Qh, Q8, Qi, Q7, Ql, Q2, Q0, Q18, Q19, Q1b, Q15, Qc, Qg, Qj, Qm, Qb, Q1c, Qk, Qn, Qo, Qq, Qt, Q1e, Qz, Qp, Qr, Qu, Q1f, Q10, Qs, Qv, Q1g, Q11, Qx, Q1h, Q12, Q1d, Qy, Q14⟩ hm2 hb18
    simp only [b97] at hm2
    rw [d92]
    refine b0b fun K hK => ?_
    simp only [go_sem, s46, s47]
    refine hK _ _ ?_
    clear hK K
    refine b0k fun K19 hK19 => ?_
    simp only [go_sem]
    refine b0j (fun hc20 => ?_) (fun hc20 => ?_)
    ·rw [b0q hc20] at hm2
     simp only [b0r, b0f]
     refine hK19 _ _ ?_
     refine b0k fun K21 hK21 => ?_
     have J22 : ∀ (w_7_0_2 : List Place) (w_7_1_2 : List Int) (w_7_2_2 : List Int) (found_8_2 : List (Place × Int)) (row_11_1 : List Int) (i7_7 : Nat) (i7_8 : Nat) (i7_9 : Nat) (t : Slots) (h : Heap), t 1 = .fs 1 (List.map b0x assume) -> t 2 = .fn heard_n heard_a heard_b -> t 3 = .fp [.fs 1 (List.map eS m.Plant.Machine.Inputs), .fs 1 (List.map eS m.Plant.Machine.Outputs), .fs 2 (List.map b0l m.Plant.Machine.Counters), .fs 2 (List.map b0m m.Plant.Machine.States), .fs 4 (List.map b0i m.Plant.Machine.Rules)] 0 -> t 7 = .rp i7 0 0 -> t 8 = .mp i8 -> t 9 = I at_9 -> t 10 = .rp i10 0 0 -> t 11 = .rs i11 0 (List.length row_11_1) -> t 46 = I ((List.length l13 : Nat) : Int) -> t 47 = I x_47 -> h.ob i7 = some (4, [[.rs i7_7 0 (List.length w_7_0_2), .rs i7_8 0 (List.length w_7_1_2), .rs i7_9 0 (List.length w_7_2_2), v7]]) -> i7 < h.nx -> h.ob i7_7 = some (3, List.map b2a w_7_0_2) -> i7_7 < h.nx -> h.ob i7_8 = some (1, List.map eI w_7_1_2) -> i7_8 < h.nx -> h.ob i7_9 = some (1, List.map eI w_7_2_2) -> i7_9 < h.nx -> b15 h v7 1 (List.map b4c w_7_3) -> h.ob i8 = some (0, List.map (eM (vks b4m) vI) found_8_2) -> i8 < h.nx -> h.ob i10 = some (3, [[I x9.State, I x9.Values.1, I x9.Values.2]]) -> i10 < h.nx -> h.ob i11 = some (1, List.map eI row_11_1) -> i11 < h.nx -> ¬i7 = i7_7 -> ¬i7 = i7_8 -> ¬i7 = i7_9 -> b0s v7 i7 -> ¬i7 = i8 -> ¬i7 = i10 -> ¬i7 = i11 -> ¬i7_7 = i7_8 -> ¬i7_7 = i7_9 -> b0s v7 i7_7 -> ¬i7_7 = i8 -> ¬i7_7 = i10 -> ¬i7_7 = i11 -> ¬i7_8 = i7_9 -> b0s v7 i7_8 -> ¬i7_8 = i8 -> ¬i7_8 = i10 -> ¬i7_8 = i11 -> b0s v7 i7_9 -> ¬i7_9 = i8 -> ¬i7_9 = i10 -> ¬i7_9 = i11 -> b0s v7 i8 -> b0s v7 i10 -> b0s v7 i11 -> ¬i8 = i10 -> ¬i8 = i11 -> ¬i10 = i11 -> b98 x_47 w_7_0_2 w_7_1_2 w_7_2_2 found_8_2 row_11_1 = some o -> K21 t h := by
      try clear s1 s2 s3 s7 s8 s9 s10 s11 s46 s47 Q6 Q4 Qf Qa Qh Q8 Qi Q7 Ql Q2 Q0 Q18 Q19 Q1b Q15 Qc Qg Qj Qm Qb Q1c Qk Qn Qo Qq Qt Q1e Qz Qp Qr Qu Q1f Q10 Qs Qv Q1g Q11 Qx Q1h Q12 Q1d Qy Q14
      intro w_7_0_2 w_7_1_2 w_7_2_2 found_8_2 row_11_1 i7_7 i7_8 i7_9 t h s1 s2 s3 s7 s8 s9 s10 s11 s46 s47 Q6 Q4 Qf Qa Qh Q8 Qi Q7 Ql Q2 Q0 Q18 Q19 Q1b Q15 Qc Qg Qj Qm Qb Q1c Qk Qn Qo Qq Qt Q1e Qz Qp Qr Qu Q1f Q10 Qs Qv Q1g Q11 Qx Q1h Q12 Q1d Qy Q14 hm2
      refine hK21 _ _ ?_
      unfold b98 at hm2
      refine b04 fun K hK => ?_
      simp only [go_sem, s47]
      refine hK _ _ ?_
      clear hK K
      simp only [b0f]
      obtain rfl := sI9 hm2
      refine ⟨_, rfl, ?_⟩
      exact ⟨i7_7, i7_8, i7_9, i10, i11, s1, s2, s3, s7, s8, s9, s10, (by first | exact s11 | simp only [go_sem, s11, lA9, mA9]), s46, (by first | (simp only [go_sem]; done) | rfl), Q6, Q4, Qf, Qa, Qh, Q8, Qi, Q7, Ql, Q2, Q0, Q18, Q19, Q1b, Q15, Qc, Qg, Qj, Qm, Qb, Q1c, Qk, Qn, Qo, Qq, Qt, Q1e, Qz, Qp, Qr, Qu, Q1f, Q10, Qs, Qv, Q1g, Q11, Qx, Q1h, Q12, Q1d, Qy, Q14⟩
     simp only [b0u]
     refine b0b fun K hK => ?_
     simp only [go_sem, s47]
     refine hK _ _ ?_
     clear hK K
     obtain ⟨x24, h_x24, hm2⟩ := b0g hm2
     have h_x240 := b05 h_x24
     have h_x241 := b08 h_x24
     refine b0b fun K hK => ?_
     simp only [go_sem, s11, Q1b, b5u h_x24, h_x240, h_x241]
     refine hK _ _ ?_
     clear hK K
     refine b0t ?_
     obtain ⟨y26, h_y26, hm2⟩ := b0g hm2
     refine b0b fun K hK => ?_
     simp only [go_sem, s1, s3, s10, Q18, Q14]
     refine b03 (c9u m.Plant assume (Place.mk x9.State (x9.Values.1, x9.Values.2)) x_47 _ h_y26) ?_
     simp only [go_sem]
     refine hK _ _ ?_
     clear hK K
     refine b0k fun K27 hK27 => ?_
     simp only [go_sem]
     refine b0j (fun hc28 => ?_) (fun hc28 => ?_)
     ·rw [b0q hc28] at hm2
      simp only [b1e, b1h, b1g, b0f]
      exact J22 w_7_0_1 w_7_1_1 w_7_2_1 found_8_1 (List.set row_11 (Int.toNat x_47) (-1)) i7_4 i7_5 i7_6 _ _ s1 s2 s3 s7 s8 s9 s10 (by first | exact s11 | simp only [go_sem, s11]) s46 s47 (by simp only [go_sem, Q6, Qk]) (by simp only [go_sem, Q4]) (by simp only [go_sem, Qf, Qz]) (by simp only [go_sem, Qa]) (by simp only [go_sem, Qh, Q10]) (by simp only [go_sem, Q8]) (by simp only [go_sem, Qi, Q11]) (by simp only [go_sem, Q7]) (b3d Ql (by intro j hj hl; first | rfl | simp only [go_sem, b39 hj Q12]) (by first | omega | exact Nat.le_refl _ | (simp only [go_sem, nxs] <;> omega))) (by simp only [go_sem, Q2, Qy]) (by simp only [go_sem, Q0]) (by simp only [go_sem, Q18, Q14]) (by simp only [go_sem, Q19]) (by simp only [go_sem]) (by simp only [go_sem, Q15]) Qc Qg Qj Qm Qb Q1c Qk Qn Qo Qq Qt Q1e Qz Qp Qr Qu Q1f Q10 Qs Qv Q1g Q11 Qx Q1h Q12 Q1d Qy Q14 hm2
     ·rw [b0p hc28] at hm2
      simp only [b0r, b0f]
      refine hK27 _ _ ?_
      obtain ⟨y31, h_y31, hm2⟩ := b0g hm2
      obtain ⟨y32, h_y32, hm2⟩ := b0g hm2
      refine b0b fun K hK => ?_
      simp only [go_sem, s2, s3, s10, Q18, Q14]
      refine c9e (heard_h x_47 _ h_y31) ?_
      simp only [go_sem]
      refine b03 (c9x m.Plant (Place.mk x9.State (x9.Values.1, x9.Values.2)) y31 _ h_y32) ?_
      simp only [go_sem]
      refine hK _ _ ?_
      clear hK K
      refine b0b fun K hK => ?_
      simp only [go_sem, s8]
      refine j1a (O := O) (fk := (vks b4m)) (fv := vI) (l := found_8_1) (x := (Place.mk y32.State (y32.Values.1, y32.Values.2))) (z := 0) j3p d00 ?_ ?_ ?_
      ·rfl
      ·simp only [go_sem, Q2, Q0, Qy]
      simp only [go_sem]
      refine hK _ _ ?_
      clear hK K
      refine b0t ?_
      refine b0b fun K hK => ?_
      simp only [go_sem]
      refine hK _ _ ?_
      clear hK K
      refine b0k fun K33 hK33 => ?_
      have J34 : ∀ (w_7_0_2 : List Place) (w_7_1_2 : List Int) (w_7_2_2 : List Int) (found_8_2 : List (Place × Int)) (to_14 : Int) (i7_7 : Nat) (i7_8 : Nat) (i7_9 : Nat) (t : Slots) (h : Heap), t 1 = .fs 1 (List.map b0x assume) -> t 2 = .fn heard_n heard_a heard_b -> t 3 = .fp [.fs 1 (List.map eS m.Plant.Machine.Inputs), .fs 1 (List.map eS m.Plant.Machine.Outputs), .fs 2 (List.map b0l m.Plant.Machine.Counters), .fs 2 (List.map b0m m.Plant.Machine.States), .fs 4 (List.map b0i m.Plant.Machine.Rules)] 0 -> t 7 = .rp i7 0 0 -> t 8 = .mp i8 -> t 9 = I at_9 -> t 10 = .rp i10 0 0 -> t 11 = .rs i11 0 (List.length (List.set row_11 (Int.toNat x_47) (-1))) -> t 12 = I x_47 -> t 14 = I to_14 -> t 46 = I ((List.length l13 : Nat) : Int) -> t 47 = I x_47 -> h.ob i7 = some (4, [[.rs i7_7 0 (List.length w_7_0_2), .rs i7_8 0 (List.length w_7_1_2), .rs i7_9 0 (List.length w_7_2_2), v7]]) -> i7 < h.nx -> h.ob i7_7 = some (3, List.map b2a w_7_0_2) -> i7_7 < h.nx -> h.ob i7_8 = some (1, List.map eI w_7_1_2) -> i7_8 < h.nx -> h.ob i7_9 = some (1, List.map eI w_7_2_2) -> i7_9 < h.nx -> b15 h v7 1 (List.map b4c w_7_3) -> h.ob i8 = some (0, List.map (eM (vks b4m) vI) found_8_2) -> i8 < h.nx -> h.ob i10 = some (3, [[I x9.State, I x9.Values.1, I x9.Values.2]]) -> i10 < h.nx -> h.ob i11 = some (1, List.map eI (List.set row_11 (Int.toNat x_47) (-1))) -> i11 < h.nx -> ¬i7 = i7_7 -> ¬i7 = i7_8 -> ¬i7 = i7_9 -> b0s v7 i7 -> ¬i7 = i8 -> ¬i7 = i10 -> ¬i7 = i11 -> ¬i7_7 = i7_8 -> ¬i7_7 = i7_9 -> b0s v7 i7_7 -> ¬i7_7 = i8 -> ¬i7_7 = i10 -> ¬i7_7 = i11 -> ¬i7_8 = i7_9 -> b0s v7 i7_8 -> ¬i7_8 = i8 -> ¬i7_8 = i10 -> ¬i7_8 = i11 -> b0s v7 i7_9 -> ¬i7_9 = i8 -> ¬i7_9 = i10 -> ¬i7_9 = i11 -> b0s v7 i8 -> b0s v7 i10 -> b0s v7 i11 -> ¬i8 = i10 -> ¬i8 = i11 -> ¬i10 = i11 -> b99 row_11 x_47 w_7_0_2 w_7_1_2 w_7_2_2 found_8_2 to_14 = some o -> K33 t h := by
       try clear s1 s2 s3 s7 s8 s9 s10 s11 s46 s47 Q6 Q4 Qf Qa Qh Q8 Qi Q7 Ql Q2 Q0 Q18 Q19 Q1b Q15 Qc Qg Qj Qm Qb Q1c Qk Qn Qo Qq Qt Q1e Qz Qp Qr Qu Q1f Q10 Qs Qv Q1g Q11 Qx Q1h Q12 Q1d Qy Q14
       intro w_7_0_2 w_7_1_2 w_7_2_2 found_8_2 to_14 i7_7 i7_8 i7_9 t h s1 s2 s3 s7 s8 s9 s10 s11 s12 s14 s46 s47 Q6 Q4 Qf Qa Qh Q8 Qi Q7 Ql Q2 Q0 Q18 Q19 Q1b Q15 Qc Qg Qj Qm Qb Q1c Qk Qn Qo Qq Qt Q1e Qz Qp Qr Qu Q1f Q10 Qs Qv Q1g Q11 Qx Q1h Q12 Q1d Qy Q14 hm2
       refine hK33 _ _ ?_
       unfold b99 at hm2
       obtain ⟨x36, h_x36, hm2⟩ := b0g hm2
       have h_x360 := b05 h_x36
       have h_x361 := b08 h_x36; (try simp only [List.length_set] at h_x361)
       refine b04 fun K hK => ?_
       simp only [go_sem, s11, s12, s14, Q1b, b5u h_x36, h_x360, h_x361]
       refine hK _ _ ?_
       clear hK K
       simp only [b02, b0f]
       exact J22 w_7_0_2 w_7_1_2 w_7_2_2 found_8_2 (List.set (List.set row_11 (Int.toNat x_47) (-1)) (Int.toNat x_47) to_14) i7_7 i7_8 i7_9 _ _ s1 s2 s3 s7 s8 s9 s10 (by first | exact s11 | simp only [go_sem, s11]) s46 s47 (by simp only [go_sem, Q6, Qk]) (by simp only [go_sem, Q4]) (by simp only [go_sem, Qf, Qz]) (by simp only [go_sem, Qa]) (by simp only [go_sem, Qh, Q10]) (by simp only [go_sem, Q8]) (by simp only [go_sem, Qi, Q11]) (by simp only [go_sem, Q7]) (b3d Ql (by intro j hj hl; first | rfl | simp only [go_sem, b39 hj Q12]) (by first | omega | exact Nat.le_refl _ | (simp only [go_sem, nxs] <;> omega))) (by simp only [go_sem, Q2, Qy]) (by simp only [go_sem, Q0]) (by simp only [go_sem, Q18, Q14]) (by simp only [go_sem, Q19]) (by simp only [go_sem]) (by simp only [go_sem, Q15]) Qc Qg Qj Qm Qb Q1c Qk Qn Qo Qq Qt Q1e Qz Qp Qr Qu Q1f Q10 Qs Qv Q1g Q11 Qx Q1h Q12 Q1d Qy Q14 hm2
      simp only [go_sem]
      refine b0j (fun hc37 => ?_) (fun hc37 => ?_)
      ·rw [b0q hc37] at hm2
       refine b0b fun K hK => ?_
       simp only [go_sem, s7, Q6, Q4, Qk]
       refine hK _ _ ?_
       clear hK K
       refine b0b fun K hK => ?_
       simp only [go_sem, s8]
       refine c9l (O := O) (fk := (vks b4m)) (fv := vI) (l := found_8_1) (x := (Place.mk y32.State (y32.Values.1, y32.Values.2))) (v := ((List.length w_7_0_1 : Nat) : Int)) d70 d00 ?_ ?_ ?_
       ·rfl
       ·simp only [go_sem, Q2, Q0, Qy]
       simp only [go_sem]
       refine hK _ _ ?_
       clear hK K
       obtain ⟨l41, h_l41, hm2⟩ := b0g hm2
       obtain ⟨l42, h_l42, hm2⟩ := b0g hm2
       obtain ⟨l43, h_l43, hm2⟩ := b0g hm2
       refine b04 fun K hK => ?_
       simp only [go_sem, s7, Q6, Q4, Q0, Qb, Qk]
       refine b22 (f := b2a) (l := w_7_0_1) (m := ([(Place.mk y32.State (y32.Values.1, y32.Values.2))])) ?_ ?_ ?_ ?_ h_l41 ?_
       ·exact (b2u (by simp only [go_sem, Qf, Qa, Qt, Qz]) (by simp only [go_sem]) (by simp only [go_sem, Qa]))
       ·exact (b4i (by simp only [go_sem]) (by simp only [go_sem]))
       ·exact (b4h (by first | exact b1u | exact b1v (by first | omega | (simp only [nxs] <;> omega)) | assumption | exact b1q (by assumption) (by first | omega | (simp only [go_sem, nxs] <;> omega))))
       ·exact (fun _ => by simp)
       simp only [go_sem, s7, s9, Q6, Q4, Qc, Qb, Qk]
       refine b22 (f := eI) (l := w_7_1_1) (m := ([at_9])) ?_ ?_ ?_ ?_ h_l42 ?_
       ·exact (b2u (by simp only [go_sem, Qh, Q8, b1x Qn, Qu, Q10]) (by simp only [go_sem]) (by simp only [go_sem, Q8]))
       ·exact (b4i (by simp only [go_sem]) (by simp only [go_sem]))
       ·exact (b4h (by first | exact b1u | exact b1v (by first | omega | (simp only [nxs] <;> omega)) | assumption | exact b1q (by assumption) (by first | omega | (simp only [go_sem, nxs] <;> omega))))
       ·exact (fun _ => by simp)
       simp only [go_sem, s7, Q6, Q4, Qc, Qg, Qb, Qk]
       refine b22 (f := eI) (l := w_7_2_1) (m := ([x_47])) ?_ ?_ ?_ ?_ h_l43 ?_
       ·exact (b2u (by simp only [go_sem, Qi, Q7, b1x Qo, b1x Qp, Qv, Q11]) (by simp only [go_sem]) (by simp only [go_sem, Q7]))
       ·exact (b4i (by simp only [go_sem]) (by simp only [go_sem]))
       ·exact (b4h (by first | exact b1u | exact b1v (by first | omega | (simp only [nxs] <;> omega)) | assumption | exact b1q (by assumption) (by first | omega | (simp only [go_sem, nxs] <;> omega))))
       ·exact (fun _ => by simp)
       simp only [go_sem, Q6, Q4, Qc, Qg, Qj, Qb, Qk]
       refine hK _ _ ?_
       clear hK K
       simp only [b0f]
       exact J34 l41 l42 l43 (b3j found_8_1 (Place.mk y32.State (y32.Values.1, y32.Values.2)) ((List.length w_7_0_1 : Nat) : Int)) ((List.length w_7_0_1 : Nat) : Int) (nxs (nxs h.nx)) (nxs (nxs (nxs (nxs h.nx)))) (nxs (nxs (nxs (nxs (nxs (nxs h.nx)))))) _ _ s1 s2 s3 s7 s8 s9 s10 (by first | exact s11 | simp only [go_sem, s11]) (by first | (simp only [go_sem]; done) | rfl) (by first | (simp only [go_sem]; done) | rfl) s46 s47 (by simp only [go_sem]) (by simp only [go_sem, Q4]) (by simp only [go_sem, Q4, Q8, Q7]) (by simp only [go_sem]) (by simp only [go_sem, Q4, Q7]) (by simp only [go_sem]) (by simp only [go_sem, Q4]) (by simp only [go_sem]) (b3d Ql (by intro j hj hl; first | rfl | simp only [go_sem, hl, b39 hj Qm, b39 hj Qq, b39 hj Qr, b39 hj Qs, b39 hj Qx, b39 hj Q12]) (by first | omega | exact Nat.le_refl _ | (simp only [go_sem, nxs] <;> omega))) (by simp only [go_sem, Q0, b1x Qb, b1x Qt, b1x Qu, b1x Qv]) (by simp only [go_sem, Q0]) (by simp only [go_sem, Q18, Q19, b1x Q1c, b1x Q1e, b1x Q1f, b1x Q1g, b1x Q1d, Q14]) (by simp only [go_sem, Q19]) (by simp only [go_sem, Q15, b1x Qk, b1x Qz, b1x Q10, b1x Q11, b1x Qy]) (by simp only [go_sem, Q15]) (by first | first | assumption | omega | (simp only [nxs] <;> omega)) (by first | first | assumption | omega | (simp only [nxs] <;> omega)) (by first | first | assumption | omega | (simp only [nxs] <;> omega)) Qm Qb Q1c Qk (by first | first | assumption | omega | (simp only [nxs] <;> omega)) (by first | first | assumption | omega | (simp only [nxs] <;> omega)) (by first | exact b1u | exact b1v (by first | assumption | omega | (simp only [nxs] <;> omega)) | assumption | exact b1q (by assumption) (by first | assumption | omega | (simp only [nxs] <;> omega))) (by first | first | assumption | omega | (simp only [nxs] <;> omega)) (by first | first | assumption | omega | (simp only [nxs] <;> omega)) (by first | first | assumption | omega | (simp only [nxs] <;> omega)) (by first | first | assumption | omega | (simp only [nxs] <;> omega)) (by first | exact b1u | exact b1v (by first | assumption | omega | (simp only [nxs] <;> omega)) | assumption | exact b1q (by assumption) (by first | assumption | omega | (simp only [nxs] <;> omega))) (by first | first | assumption | omega | (simp only [nxs] <;> omega)) (by first | first | assumption | omega | (simp only [nxs] <;> omega)) (by first | first | assumption | omega | (simp only [nxs] <;> omega)) (by first | exact b1u | exact b1v (by first | assumption | omega | (simp only [nxs] <;> omega)) | assumption | exact b1q (by assumption) (by first | assumption | omega | (simp only [nxs] <;> omega))) (by first | first | assumption | omega | (simp only [nxs] <;> omega)) (by first | first | assumption | omega | (simp only [nxs] <;> omega)) (by first | first | assumption | omega | (simp only [nxs] <;> omega)) Qx Q1h Q12 Q1d Qy Q14 hm2
      ·rw [b0p hc37] at hm2
       simp only [b0r, b0f]
       exact J34 w_7_0_1 w_7_1_1 w_7_2_1 found_8_1 (b2n found_8_1 (Place.mk y32.State (y32.Values.1, y32.Values.2)) 0) i7_4 i7_5 i7_6 _ _ s1 s2 s3 s7 s8 s9 s10 (by first | exact s11 | simp only [go_sem, s11]) (by first | (simp only [go_sem]; done) | rfl) (by first | (simp only [go_sem]; done) | rfl) s46 s47 (by simp only [go_sem, Q6, Q4, Qk]) (by simp only [go_sem, Q4]) (by simp only [go_sem, Qf, Qa, Qz]) (by simp only [go_sem, Qa]) (by simp only [go_sem, Qh, Q8, Q10]) (by simp only [go_sem, Q8]) (by simp only [go_sem, Qi, Q7, Q11]) (by simp only [go_sem, Q7]) (b3d Ql (by intro j hj hl; first | rfl | simp only [go_sem, hl, b39 hj Q12]) (by first | omega | exact Nat.le_refl _ | (simp only [go_sem, nxs] <;> omega))) (by simp only [go_sem, Q2, Q0, Qy]) (by simp only [go_sem, Q0]) (by simp only [go_sem, Q18, Q19, Q14]) (by simp only [go_sem, Q19]) (by simp only [go_sem, Q15]) (by simp only [go_sem, Q15]) Qc Qg Qj Qm Qb Q1c Qk Qn Qo Qq Qt Q1e Qz Qp Qr Qu Q1f Q10 Qs Qv Q1g Q11 Qx Q1h Q12 Q1d Qy Q14 hm2
    ·rw [b0p hc20] at hm2
     simp only [b1e, b1h, b1g, b0f]
     obtain rfl := sI9 hm2
     obtain rfl := hb18 _ rfl
     try dsimp only at hm1
     exact J15 w_7_0_1 w_7_1_1 w_7_2_1 found_8_1 row_11 i7_4 i7_5 i7_6 i11 _ _ s1 s2 s3 s7 s8 s9 (by first | exact s11 | simp only [go_sem, s11, lA9, mA9]) Q6 Q4 Qf Qa Qh Q8 Qi Q7 Ql Q2 Q0 Q1b Q15 Qc Qg Qj Qm Qb Qk Qn Qo Qq Qt Qz Qp Qr Qu Q10 Qs Qv Q11 Qx Q12 Qy hm1
  ·rw [b0p hc5] at hm1
   simp only [b1e, b1h, b1g, b0f]
   obtain rfl := sI9 hm1
   obtain rfl := hb3 _ rfl
   try dsimp only at hm0
   exact J2 w_7_0 w_7_1 w_7_2 w_7_3 i7 i7_1 i7_2 i7_3 v7 _ _ s7 Q6 Q4 Qf Qa Qh Q8 Qi Q7 Ql Qc Qg Qj Qm Qn Qo Qq Qp Qr Qs hm0
theorem c9t (hf : Has O "(newel/situation.Plant).All" x__situation_Plant__All) : c66 O := by
 intro m r hm0
 unfold c0a at hm0
 refine b1k hf rfl (b0a (.agg _ (b0a (b0e fun a _ => b00 a) (b0a (b0e fun a _ => b00 a) (b0a (b0e fun a _ => b1r a) (b0a (b0e fun a _ => b1t a) (b0a (b0e fun a _ => b1s a) b0o)))))) b0o) (b0d _) ?_
 refine b1f (fun t h => t 0 = .agg [.fs 1 (List.map eS m.Machine.Inputs), .fs 1 (List.map eS m.Machine.Outputs), .fs 2 (List.map b0l m.Machine.Counters), .fs 2 (List.map b0m m.Machine.States), .fs 4 (List.map b0i m.Machine.Rules)]) rfl fun t h s0 => ?_
 simp only [x__situation_Plant__All]
 refine b0b fun K hK => ?_
 simp only [go_sem, s0]
 refine hK _ _ ?_
 clear hK K
 obtain ⟨q2, h_q2, hm0⟩ := b0g hm0
 refine b0b fun K hK => ?_
 simp only [go_sem, c04 h_q2]
 refine hK _ _ ?_
 clear hK K
 simp only [b0v, b0w]
 obtain rfl := sI9 hm0
 exact b01 (by simp only [go_sem]) (b0d _)
theorem c9u (hf : Has O "(newel/situation.Plant).Allowed" x__situation_Plant__Allowed) (b88 : c25 O) : c67 O := by
 intro m assume p input r hm0
 unfold c0b at hm0
 refine b1k hf rfl (b0a (.agg _ (b0a (b0e fun a _ => b00 a) (b0a (b0e fun a _ => b00 a) (b0a (b0e fun a _ => b1r a) (b0a (b0e fun a _ => b1t a) (b0a (b0e fun a _ => b1s a) b0o)))))) (b0a (b0e fun a _ => b21 a) (b0a (.agg _ (b0a (b0d _) (b0a (b0d _) (b0a (b0d _) b0o)))) (b0a (b0d _) b0o)))) (b0d _) ?_
 refine b1f (fun t h => t 0 = .agg [.fs 1 (List.map eS m.Machine.Inputs), .fs 1 (List.map eS m.Machine.Outputs), .fs 2 (List.map b0l m.Machine.Counters), .fs 2 (List.map b0m m.Machine.States), .fs 4 (List.map b0i m.Machine.Rules)] /\ t 1 = .fs 1 (List.map b0x assume) /\ t 2 = .agg [I p.State, I p.Values.1, I p.Values.2] /\ t 3 = I input) ⟨rfl, rfl, rfl, rfl⟩ fun t h ⟨s0, s1, s2, s3⟩ => ?_
 simp only [x__situation_Plant__Allowed]
 refine b0b fun K hK => ?_
 simp only [go_sem, s0, s2]
 refine hK _ _ ?_
 clear hK K
 obtain ⟨c4, h_c4, hm0⟩ := b0g hm0
 refine b2v (fun t h => t 8 = B c4) (fun K hK => ?_) ?_
 ·simp only [go_sem, s1]
  refine b0j (fun hg5 => ?_) (fun hg5 => ?_)
  ·simp only [hg5, eq_self, if_true] at h_c4
   obtain rfl := sI9 h_c4
   simp only [go_sem, hg5]
   exact hK _ _ (by first | (simp only [go_sem]; done) | rfl)
  ·simp only [hg5, if_false, Bool.false_eq_true] at h_c4
   obtain ⟨y3, h_y3, h_c4⟩ := b0g h_c4
   obtain rfl := sI9 h_c4
   simp only [go_sem, s1, s3, hg5]
   refine b03 (b88 m assume p input _ h_y3) ?_
   simp only [go_sem, hg5]
   exact hK _ _ (by first | (simp only [go_sem]; done) | rfl)
 ·rintro t h s8
  simp only [b0v, b0w]
  obtain rfl := sI9 hm0
  exact b01 (by simp only [go_sem, s8]) (b0d _)
theorem b88 (hf : Has O "(newel/situation.Plant).Holds" x__situation_Plant__Holds) (d0v : c79 O) (c9v : c68 O) : c25 O := by
 intro m c p input r hm0
 unfold b8i at hm0
 refine b1k hf rfl (b0a (.agg _ (b0a (b0e fun a _ => b00 a) (b0a (b0e fun a _ => b00 a) (b0a (b0e fun a _ => b1r a) (b0a (b0e fun a _ => b1t a) (b0a (b0e fun a _ => b1s a) b0o)))))) (b0a (b0e fun a _ => b21 a) (b0a (.agg _ (b0a (b0d _) (b0a (b0d _) (b0a (b0d _) b0o)))) (b0a (b0d _) b0o)))) (b0d _) ?_
 refine b1f (fun t h => t 0 = .agg [.fs 1 (List.map eS m.Machine.Inputs), .fs 1 (List.map eS m.Machine.Outputs), .fs 2 (List.map b0l m.Machine.Counters), .fs 2 (List.map b0m m.Machine.States), .fs 4 (List.map b0i m.Machine.Rules)] /\ t 1 = .fs 1 (List.map b0x c) /\ t 2 = .agg [I p.State, I p.Values.1, I p.Values.2] /\ t 3 = I input) ⟨rfl, rfl, rfl, rfl⟩ fun t h ⟨s0, s1, s2, s3⟩ => ?_
 simp only [x__situation_Plant__Holds]
 refine b0b fun K hK => ?_
 simp only [go_sem, s0, s2, s3]
 refine hK _ _ ?_
 clear hK K
 obtain ⟨y4, h_y4, hm0⟩ := b0g hm0
 refine b0b fun K hK => ?_
 simp only [go_sem, s1]
 refine b03 (d0v c "(newel/situation.Plant).Holds$1" [] [.fp [.fs 1 (List.map eS m.Machine.Inputs), .fs 1 (List.map eS m.Machine.Outputs), .fs 2 (List.map b0l m.Machine.Counters), .fs 2 (List.map b0m m.Machine.States), .fs 4 (List.map b0i m.Machine.Rules)] 0, .fp [I p.State, I p.Values.1, I p.Values.2] 0, .fp [I input] 0] (fun z3 => b7e z3 m p input) (.fn _ _ _ b0o (b0a (.fp _ _ (b0a (b0e fun a _ => b00 a) (b0a (b0e fun a _ => b00 a) (b0a (b0e fun a _ => b1r a) (b0a (b0e fun a _ => b1t a) (b0a (b0e fun a _ => b1s a) b0o)))))) (b0a (.fp _ _ (b0a (b0d _) (b0a (b0d _) (b0a (b0d _) b0o)))) (b0a (.fp _ _ (b0a (b0d _) b0o)) b0o)))) (fun z0 y hz => c9v z0 m p input y hz) _ h_y4) ?_
 simp only [go_sem]
 refine hK _ _ ?_
 clear hK K
 simp only [b0v, b0w]
 obtain rfl := sI9 hm0
 exact b01 (by simp only [go_sem]) (b0d _)
theorem c9v (hf : Has O "(newel/situation.Plant).Holds$1" x__situation_Plant__HoldsD1) (b7t : b90 O) (c9w : c69 O) : c68 O := by
 intro t_ c0 c1 c2 r hm0
 unfold b7e at hm0
 refine b1k hf rfl (b0a (b0e fun a _ => c00 a) (b0a (.fp _ _ (b0a (b0e fun a _ => b00 a) (b0a (b0e fun a _ => b00 a) (b0a (b0e fun a _ => b1r a) (b0a (b0e fun a _ => b1t a) (b0a (b0e fun a _ => b1s a) b0o)))))) (b0a (.fp _ _ (b0a (b0d _) (b0a (b0d _) (b0a (b0d _) b0o)))) (b0a (.fp _ _ (b0a (b0d _) b0o)) b0o)))) (b0d _) ?_
 refine b1f (fun t h => t 0 = .fs 4 (List.map b27 t_) /\ t 1 = .fp [.fs 1 (List.map eS c0.Machine.Inputs), .fs 1 (List.map eS c0.Machine.Outputs), .fs 2 (List.map b0l c0.Machine.Counters), .fs 2 (List.map b0m c0.Machine.States), .fs 4 (List.map b0i c0.Machine.Rules)] 0 /\ t 2 = .fp [I c1.State, I c1.Values.1, I c1.Values.2] 0 /\ t 3 = .fp [I c2] 0) ⟨rfl, rfl, rfl, rfl⟩ fun t h ⟨s0, s1, s2, s3⟩ => ?_
 simp only [x__situation_Plant__HoldsD1]
 refine b0b fun K hK => ?_
 simp only [go_sem]
 refine hK _ _ ?_
 clear hK K
 obtain ⟨y4, h_y4, hm0⟩ := b0g hm0
 refine b0b fun K hK => ?_
 simp only [go_sem, s0, s1, s2, s3]
 refine b03 (b7t t_ "(newel/situation.Plant).Holds$1$1" [] [.fp [.fs 1 (List.map eS c0.Machine.Inputs), .fs 1 (List.map eS c0.Machine.Outputs), .fs 2 (List.map b0l c0.Machine.Counters), .fs 2 (List.map b0m c0.Machine.States), .fs 4 (List.map b0i c0.Machine.Rules)] 0, .fp [I c1.State, I c1.Values.1, I c1.Values.2] 0, .fp [I c2] 0] (fun z3 => b7f z3 c0 c1 c2) (.fn _ _ _ b0o (b0a (.fp _ _ (b0a (b0e fun a _ => b00 a) (b0a (b0e fun a _ => b00 a) (b0a (b0e fun a _ => b1r a) (b0a (b0e fun a _ => b1t a) (b0a (b0e fun a _ => b1s a) b0o)))))) (b0a (.fp _ _ (b0a (b0d _) (b0a (b0d _) (b0a (b0d _) b0o)))) (b0a (.fp _ _ (b0a (b0d _) b0o)) b0o)))) (fun z0 y hz => c9w z0 c0 c1 c2 y hz) _ h_y4) ?_
 simp only [go_sem, s1, s2, s3]
 refine hK _ _ ?_
 clear hK K
 simp only [b0v, b0w]
 obtain rfl := sI9 hm0
 exact b01 (by simp only [go_sem]) (b0d _)
theorem c9w (hf : Has O "(newel/situation.Plant).Holds$1$1" x__situation_Plant__HoldsD1D1) (c9y : c7b O) : c69 O := by
 intro x c0 c1 c2 r hm0
 unfold b7f at hm0
 refine b1k hf rfl (b0a (.agg _ (b0a (b0d _) (b0a (b0d _) (b0a (b0d _) (b0a (b0d _) b0o))))) (b0a (.fp _ _ (b0a (b0e fun a _ => b00 a) (b0a (b0e fun a _ => b00 a) (b0a (b0e fun a _ => b1r a) (b0a (b0e fun a _ => b1t a) (b0a (b0e fun a _ => b1s a) b0o)))))) (b0a (.fp _ _ (b0a (b0d _) (b0a (b0d _) (b0a (b0d _) b0o)))) (b0a (.fp _ _ (b0a (b0d _) b0o)) b0o)))) (b0d _) ?_
 refine b1f (fun t h => t 0 = .agg [I x.Kind, I x.Number, I x.Value, B x.Not] /\ t 1 = .fp [.fs 1 (List.map eS c0.Machine.Inputs), .fs 1 (List.map eS c0.Machine.Outputs), .fs 2 (List.map b0l c0.Machine.Counters), .fs 2 (List.map b0m c0.Machine.States), .fs 4 (List.map b0i c0.Machine.Rules)] 0 /\ t 2 = .fp [I c1.State, I c1.Values.1, I c1.Values.2] 0 /\ t 3 = .fp [I c2] 0) ⟨rfl, rfl, rfl, rfl⟩ fun t h ⟨s0, s1, s2, s3⟩ => ?_
 simp only [x__situation_Plant__HoldsD1D1]
 refine b0b fun K hK => ?_
 simp only [go_sem, s0]
 refine hK _ _ ?_
 clear hK K
 obtain ⟨y2, h_y2, hm0⟩ := b0g hm0
 refine b0b fun K hK => ?_
 simp only [go_sem, s1, s2, s3]
 refine b03 (c9y c0 x c1 c2 _ h_y2) ?_
 simp only [go_sem]
 refine hK _ _ ?_
 clear hK K
 simp only [b0v, b0w]
 obtain rfl := sI9 hm0
 exact b01 (by simp only [go_sem]) (b0d _)
theorem c9x (hf : Has O "(newel/situation.Plant).Step" x__situation_Plant__Step) (b88 : c25 O) (c9z : c7c O) : c7a O := by
 intro m p input r hm0
 unfold c0c at hm0
 refine b1k hf rfl (b0a (.agg _ (b0a (b0e fun a _ => b00 a) (b0a (b0e fun a _ => b00 a) (b0a (b0e fun a _ => b1r a) (b0a (b0e fun a _ => b1t a) (b0a (b0e fun a _ => b1s a) b0o)))))) (b0a (.agg _ (b0a (b0d _) (b0a (b0d _) (b0a (b0d _) b0o)))) (b0a (b0d _) b0o))) (.agg _ (b0a (b0d _) (b0a (b0d _) (b0a (b0d _) b0o)))) ?_
 refine b1f (fun t h => t 0 = .agg [.fs 1 (List.map eS m.Machine.Inputs), .fs 1 (List.map eS m.Machine.Outputs), .fs 2 (List.map b0l m.Machine.Counters), .fs 2 (List.map b0m m.Machine.States), .fs 4 (List.map b0i m.Machine.Rules)] /\ t 1 = .agg [I p.State, I p.Values.1, I p.Values.2] /\ t 2 = I input) ⟨rfl, rfl, rfl⟩ fun t h ⟨s0, s1, s2⟩ => ?_
 simp only [x__situation_Plant__Step]
 refine b0b fun K hK => ?_
 simp only [go_sem, s0, s1]
 refine hK _ _ ?_
 clear hK K
 refine b0t ?_
 refine b0b fun K hK => ?_
 simp only [go_sem]
 refine hK _ _ ?_
 clear hK K
 refine b0k fun K1 hK1 => ?_
 have J2 : ∀ (p_4_0 : Int) (p_4_1 : Int) (p_4_2 : Int) (i4 : Nat) (i6 : Nat) (t : Slots) (h : Heap), t 4 = .rp i4 0 0 -> t 6 = .rp i6 0 0 -> h.ob i4 = some (3, [[I p_4_0, I p_4_1, I p_4_2]]) -> i4 < h.nx -> h.ob i6 = some (3, [[I 0, I 0, I 0]]) -> i6 < h.nx -> ¬i4 = i6 -> c3t p_4_0 p_4_1 p_4_2 = some r -> K1 t h := by
  intro p_4_0 p_4_1 p_4_2 i4 i6 t h s4 s6 Q9 Q5 Q3 Q1 Qd hm0
  refine hK1 _ _ ?_
  unfold c3t at hm0
  refine b0b fun K hK => ?_
  simp only [go_sem, s4, s6, Q9, Q3]
  refine hK _ _ ?_
  clear hK K
  simp only [b0v, b0w]
  obtain rfl := sI9 hm0
  exact b8t (id := i6) (m := 3) (cs := [I p_4_0, I p_4_1, I p_4_2]) (by simp only [go_sem, s6]) (by simp only [go_sem]) rfl (.refl _ (.agg _ (b0a (b0d _) (b0a (b0d _) (b0a (b0d _) b0o)))))
 simp only [b0u]
 obtain ⟨b3, hl3, hm0⟩ := b0g hm0
 refine b1p hl3 (fun | x_15, t, h => ∃ i4 : Nat, ∃ i6 : Nat, t 2 = I input /\ t 3 = .fp [.fs 1 (List.map eS m.Machine.Inputs), .fs 1 (List.map eS m.Machine.Outputs), .fs 2 (List.map b0l m.Machine.Counters), .fs 2 (List.map b0m m.Machine.States), .fs 4 (List.map b0i m.Machine.Rules)] 0 /\ t 4 = .rp i4 0 0 /\ t 6 = .rp i6 0 0 /\ t 13 = .fs 4 (List.map b0i m.Machine.Rules) /\ t 14 = I (List.length m.Machine.Rules : Int) /\ t 15 = I x_15 /\ h.ob i4 = some (3, [[I p.State, I p.Values.1, I p.Values.2]]) /\ i4 < h.nx /\ h.ob i6 = some (3, [[I 0, I 0, I 0]]) /\ i6 < h.nx /\ ¬i4 = i6) ?_ ?_
 ·exact ⟨h.nx, (nxs h.nx), s2, (by first | (simp only [go_sem]; done) | rfl), (by first | (simp only [go_sem]; done) | rfl), (by first | (simp only [go_sem]; done) | rfl), (by first | (simp only [go_sem]; done) | rfl), (by first | (simp only [go_sem]; done) | rfl), (by first | (simp only [go_sem]; done) | rfl), (by simp only [go_sem]), (by simp only [go_sem]), (by simp only [go_sem]), (by simp only [go_sem]), (by first | first | assumption | omega | (simp only [nxs] <;> omega))⟩
 ·rintro x_15 o t h ⟨i4, i6, s2, s3, s4, s6, s13, s14, s15, Q9, Q5, Q3, Q1, Qd⟩ hm1 hb3
  simp only [c3r] at hm1
  rw [d95]
  refine b0b fun K hK => ?_
  simp only [go_sem, s14, s15]
  refine hK _ _ ?_
  clear hK K
  refine b0k fun K4 hK4 => ?_
  simp only [go_sem]
  refine b0j (fun hc5 => ?_) (fun hc5 => ?_)
  ·rw [b0q hc5] at hm1
   simp only [b0r, b0f]
   refine hK4 _ _ ?_
   refine b0k fun K6 hK6 => ?_
   have J7 : ∀ (t : Slots) (h : Heap), t 2 = I input -> t 3 = .fp [.fs 1 (List.map eS m.Machine.Inputs), .fs 1 (List.map eS m.Machine.Outputs), .fs 2 (List.map b0l m.Machine.Counters), .fs 2 (List.map b0m m.Machine.States), .fs 4 (List.map b0i m.Machine.Rules)] 0 -> t 4 = .rp i4 0 0 -> t 6 = .rp i6 0 0 -> t 13 = .fs 4 (List.map b0i m.Machine.Rules) -> t 14 = I (List.length m.Machine.Rules : Int) -> t 15 = I x_15 -> h.ob i4 = some (3, [[I p.State, I p.Values.1, I p.Values.2]]) -> i4 < h.nx -> h.ob i6 = some (3, [[I 0, I 0, I 0]]) -> i6 < h.nx -> ¬i4 = i6 -> c3u x_15 = some o -> K6 t h := by
    try clear s2 s3 s4 s6 s13 s14 s15 Q9 Q5 Q3 Q1 Qd
    intro t h s2 s3 s4 s6 s13 s14 s15 Q9 Q5 Q3 Q1 Qd hm1
    refine hK6 _ _ ?_
    unfold c3u at hm1
    refine b04 fun K hK => ?_
    simp only [go_sem, s15]
    refine hK _ _ ?_
    clear hK K
    simp only [b0f]
    obtain rfl := sI9 hm1
    refine ⟨_, rfl, ?_⟩
    exact ⟨i4, i6, s2, s3, s4, s6, s13, s14, (by first | (simp only [go_sem]; done) | rfl), Q9, Q5, Q3, Q1, Qd⟩
   simp only [b0u]
   obtain ⟨x9, h_x9, hm1⟩ := b0g hm1
   have h_x90 := b05 h_x9
   have h_x91 := b08 h_x9
   refine b0b fun K hK => ?_
   simp only [go_sem, s13, s15, b1b h_x9, h_x91]
   refine hK _ _ ?_
   clear hK K
   refine b0t ?_
   obtain ⟨c13, h_c13, hm1⟩ := b0g hm1
   refine b2v (fun t h => ∃ i8 : Nat, t 2 = I input /\ t 3 = .fp [.fs 1 (List.map eS m.Machine.Inputs), .fs 1 (List.map eS m.Machine.Outputs), .fs 2 (List.map b0l m.Machine.Counters), .fs 2 (List.map b0m m.Machine.States), .fs 4 (List.map b0i m.Machine.Rules)] 0 /\ t 4 = .rp i4 0 0 /\ t 6 = .rp i6 0 0 /\ t 8 = .rp i8 0 0 /\ t 13 = .fs 4 (List.map b0i m.Machine.Rules) /\ t 14 = I (List.length m.Machine.Rules : Int) /\ t 15 = I x_15 /\ t 37 = B c13 /\ h.ob i4 = some (3, [[I p.State, I p.Values.1, I p.Values.2]]) /\ i4 < h.nx /\ h.ob i6 = some (3, [[I 0, I 0, I 0]]) /\ i6 < h.nx /\ h.ob i8 = some (4, [[I x9.From, I x9.To, .fs 1 (List.map b0x x9.When), .fs 2 (List.map b2j x9.Sets)]]) /\ i8 < h.nx /\ ¬i4 = i6 /\ ¬i4 = i8 /\ ¬i6 = i8) (fun K hK => ?_) ?_
   ·simp only [go_sem]
    refine b0j (fun hg14 => ?_) (fun hg14 => ?_)
    ·simp only [go_sem, s4, Q9, Q5, hg14]
     refine b0j (fun hg15 => ?_) (fun hg15 => ?_)
     ·simp only [hg14, hg15, eq_self, if_true, Bool.and_true] at h_c13
      obtain rfl := sI9 h_c13
      simp only [go_sem, hg14, hg15]
      exact hK _ _ ⟨h.nx, s2, s3, s4, s6, (by first | (simp only [go_sem]; done) | rfl), s13, s14, s15, (by first | (simp only [go_sem]; done) | rfl), (by simp only [go_sem, Q9, Q5]), (by simp only [go_sem, Q5]), (by simp only [go_sem, Q3, Q1]), (by simp only [go_sem, Q1]), (by simp only [go_sem]), (by simp only [go_sem]), Qd, (by first | first | assumption | omega | (simp only [nxs] <;> omega)), (by first | first | assumption | omega | (simp only [nxs] <;> omega))⟩
     ·simp only [hg14, hg15, if_false, Bool.and_false, Bool.false_eq_true] at h_c13
      obtain ⟨y12, h_y12, h_c13⟩ := b0g h_c13
      obtain rfl := sI9 h_c13
      simp only [go_sem, s2, s3, s4, Q9, Q5, hg14, hg15]
      refine b03 (b88 m x9.When (Place.mk p.State (p.Values.1, p.Values.2)) input _ h_y12) ?_
      simp only [go_sem, hg14, hg15]
      exact hK _ _ ⟨h.nx, s2, s3, s4, s6, (by first | (simp only [go_sem]; done) | rfl), s13, s14, s15, (by first | (simp only [go_sem]; done) | rfl), (by simp only [go_sem, Q9, Q5]), (by simp only [go_sem, Q5]), (by simp only [go_sem, Q3, Q1]), (by simp only [go_sem, Q1]), (by simp only [go_sem]), (by simp only [go_sem]), Qd, (by first | first | assumption | omega | (simp only [nxs] <;> omega)), (by first | first | assumption | omega | (simp only [nxs] <;> omega))⟩
    ·simp only [hg14, if_false, Bool.false_and, Bool.false_eq_true] at h_c13
     obtain ⟨y12, h_y12, h_c13⟩ := b0g h_c13
     obtain rfl := sI9 h_c13
     simp only [go_sem, s2, s3, s4, Q9, Q5, hg14]
     refine b03 (b88 m x9.When (Place.mk p.State (p.Values.1, p.Values.2)) input _ h_y12) ?_
     simp only [go_sem, hg14]
     exact hK _ _ ⟨h.nx, s2, s3, s4, s6, (by first | (simp only [go_sem]; done) | rfl), s13, s14, s15, (by first | (simp only [go_sem]; done) | rfl), (by simp only [go_sem, Q9, Q5]), (by simp only [go_sem, Q5]), (by simp only [go_sem, Q3, Q1]), (by simp only [go_sem, Q1]), (by simp only [go_sem]), (by simp only [go_sem]), Qd, (by first | first | assumption | omega | (simp only [nxs] <;> omega)), (by first | first | assumption | omega | (simp only [nxs] <;> omega))⟩
   ·try clear s2 s3 s4 s6 s13 s14 s15 Q9 Q5 Q3 Q1 Qd
    rintro t h ⟨i8, s2, s3, s4, s6, s8, s13, s14, s15, s37, Q9, Q5, Q3, Q1, Q2, Q0, Qd, Q1a, Qe⟩
    refine b0k fun K16 hK16 => ?_
    simp only [go_sem, s37]
    refine b0j (fun hc17 => ?_) (fun hc17 => ?_)
    ·rw [b0q hc17] at hm1
     simp only [b1e, b1h, b1g, b0f]
     exact J7  _ _ s2 s3 s4 s6 s13 s14 s15 Q9 Q5 Q3 Q1 Qd hm1
    ·rw [b0p hc17] at hm1
     simp only [b0r, b0f]
     refine hK16 _ _ ?_
     refine b0t ?_
     refine b0b fun K hK => ?_
     simp only [go_sem, s8, Q2]
     refine hK _ _ ?_
     clear hK K
     refine b0k fun K18 hK18 => ?_
     have J19 : ∀ (p_4_0 : Int) (p_4_1 : Int) (p_4_2 : Int) (t : Slots) (h : Heap), t 4 = .rp i4 0 0 -> t 6 = .rp i6 0 0 -> t 8 = .rp i8 0 0 -> h.ob i4 = some (3, [[I p_4_0, I p_4_1, I p_4_2]]) -> i4 < h.nx -> h.ob i6 = some (3, [[I 0, I 0, I 0]]) -> i6 < h.nx -> h.ob i8 = some (4, [[I x9.From, I x9.To, .fs 1 (List.map b0x x9.When), .fs 2 (List.map b2j x9.Sets)]]) -> i8 < h.nx -> ¬i4 = i6 -> ¬i4 = i8 -> ¬i6 = i8 -> c3s x9 p_4_0 p_4_1 p_4_2 = some o -> K18 t h := by
      try clear s2 s3 s4 s6 s8 s13 s14 s15 s37 Q9 Q5 Q3 Q1 Q2 Q0 Qd Q1a Qe
      intro p_4_0 p_4_1 p_4_2 t h s4 s6 s8 Q9 Q5 Q3 Q1 Q2 Q0 Qd Q1a Qe hm1
      refine hK18 _ _ ?_
      unfold c3s at hm1
      refine b0b fun K hK => ?_
      simp only [go_sem, s4, s8, Q9, Q2]
      refine hK _ _ ?_
      clear hK K
      simp only [b1e, b1h, b1g, b9f, b0f, Nat.reduceEqDiff, nF9]
      obtain rfl := sI9 hm1
      obtain rfl := hb3 _ rfl
      try dsimp only at hm0
      exact J2 x9.To p_4_1 p_4_2 i4 i6 _ _ s4 s6 (by simp only [go_sem]) (by simp only [go_sem, Q5]) (by simp only [go_sem, Q3, b1x Qd]) (by simp only [go_sem, Q1]) Qd hm0
     simp only [b0u]
     obtain ⟨b20, hl20, hm1⟩ := b0g hm1
     refine b1p hl20 (fun | (p_4_0, p_4_1, p_4_2, x_41), t, h => t 3 = .fp [.fs 1 (List.map eS m.Machine.Inputs), .fs 1 (List.map eS m.Machine.Outputs), .fs 2 (List.map b0l m.Machine.Counters), .fs 2 (List.map b0m m.Machine.States), .fs 4 (List.map b0i m.Machine.Rules)] 0 /\ t 4 = .rp i4 0 0 /\ t 6 = .rp i6 0 0 /\ t 8 = .rp i8 0 0 /\ t 39 = .fs 2 (List.map b2j x9.Sets) /\ t 40 = I (List.length x9.Sets : Int) /\ t 41 = I x_41 /\ h.ob i4 = some (3, [[I p_4_0, I p_4_1, I p_4_2]]) /\ i4 < h.nx /\ h.ob i6 = some (3, [[I 0, I 0, I 0]]) /\ i6 < h.nx /\ h.ob i8 = some (4, [[I x9.From, I x9.To, .fs 1 (List.map b0x x9.When), .fs 2 (List.map b2j x9.Sets)]]) /\ i8 < h.nx /\ ¬i4 = i6 /\ ¬i4 = i8 /\ ¬i6 = i8) ?_ ?_
     ·exact ⟨s3, s4, s6, s8, (by first | (simp only [go_sem]; done) | rfl), (by first | (simp only [go_sem]; done) | rfl), (by first | (simp only [go_sem]; done) | rfl), Q9, Q5, Q3, Q1, Q2, Q0, Qd, Q1a, Qe⟩
     ·try clear s2 s3 s4 s6 s8 s13 s14 s15 s37 Q9 Q5 Q3 Q1 Q2 Q0 Qd Q1a Qe
      rintro ⟨p_4_0, p_4_1, p_4_2, x_41⟩ o t h ⟨s3, s4, s6, s8, s39, s40, s41, Q9, Q5, Q3, Q1, Q2, Q0, Qd, Q1a, Qe⟩ hm2 hb20
      simp only [c0d] at hm2
      rw [d94]
      refine b0b fun K hK => ?_
      simp only [go_sem, s40, s41]
      refine hK _ _ ?_
      clear hK K
      refine b0k fun K21 hK21 => ?_
      simp only [go_sem]
      refine b0j (fun hc22 => ?_) (fun hc22 => ?_)
      ·rw [b0q hc22] at hm2
       simp only [b0r, b0f]
       refine hK21 _ _ ?_
       refine b0k fun K23 hK23 => ?_
       simp only [b0u]
       obtain ⟨x25, h_x25, hm2⟩ := b0g hm2
       have h_x250 := b05 h_x25
       have h_x251 := b08 h_x25
       refine b0b fun K hK => ?_
       simp only [go_sem, s39, s41, b1b h_x25, h_x251]
       refine hK _ _ ?_
       clear hK K
       obtain ⟨y27, h_y27, hm2⟩ := b0g hm2
       refine b8r (fun t h => t 3 = .fp [.fs 1 (List.map eS m.Machine.Inputs), .fs 1 (List.map eS m.Machine.Outputs), .fs 2 (List.map b0l m.Machine.Counters), .fs 2 (List.map b0m m.Machine.States), .fs 4 (List.map b0i m.Machine.Rules)] 0 /\ t 4 = .rp i4 0 0 /\ t 6 = .rp i6 0 0 /\ t 8 = .rp i8 0 0 /\ t 39 = .fs 2 (List.map b2j x9.Sets) /\ t 40 = I (List.length x9.Sets : Int) /\ t 41 = I x_41 /\ h.ob i4 = some (3, [[I y27.State, I y27.Values.1, I y27.Values.2]]) /\ i4 < h.nx /\ h.ob i6 = some (3, [[I 0, I 0, I 0]]) /\ i6 < h.nx /\ h.ob i8 = some (4, [[I x9.From, I x9.To, .fs 1 (List.map b0x x9.When), .fs 2 (List.map b2j x9.Sets)]]) /\ i8 < h.nx /\ ¬i4 = i6 /\ ¬i4 = i8 /\ ¬i6 = i8) (fun K hK => ?_) ?_
       ·simp only [go_sem, s3, s4]
        refine g98 (c9z m x25 (Place.mk p_4_0 (p_4_1, p_4_2)) i4 _ (by simp only [go_sem, Q9, Q5]) (by first | omega | simp only [go_sem, Q5]) _ h_y27) ?_
        rintro _ hq_y27 ⟨rfl, ob_y27, fr_y27, fx_y27⟩
        have lw_y270 : i4 < hq_y27.nx := Nat.lt_of_lt_of_le (by first | omega | simp only [go_sem, Q5]) fx_y27
        have lw_y271 : i6 < hq_y27.nx := Nat.lt_of_lt_of_le (by first | omega | simp only [go_sem, Q1]) fx_y27
        have lw_y272 : i8 < hq_y27.nx := Nat.lt_of_lt_of_le (by first | omega | simp only [go_sem, Q0]) fx_y27
        have lw_y273 : h.nx < hq_y27.nx := Nat.lt_of_lt_of_le (by first | omega | simp only [go_sem]) fx_y27
        simp only [go_sem]
        exact hK _ _ ⟨s3, s4, s6, s8, s39, s40, s41, (by simp only [go_sem, ob_y27]), (by first | omega | simp only [go_sem, Q5]), (by simp only [go_sem, Q3, Q1, b1x Qd, fr_y27]), (by first | omega | simp only [go_sem, Q1]), (by simp only [go_sem, Q2, Q0, b1x Q1a, fr_y27]), (by first | omega | simp only [go_sem, Q0]), Qd, Q1a, Qe⟩
       ·try clear s3 s4 s6 s8 s39 s40 s41 Q9 Q5 Q3 Q1 Q2 Q0 Qd Q1a Qe
        rintro t h ⟨s3, s4, s6, s8, s39, s40, s41, Q9, Q5, Q3, Q1, Q2, Q0, Qd, Q1a, Qe⟩
        simp only [b02, b0f]
        refine hK23 _ _ ?_
        refine b04 fun K hK => ?_
        simp only [go_sem, s41]
        refine hK _ _ ?_
        clear hK K
        simp only [b0f]
        obtain rfl := sI9 hm2
        refine ⟨_, rfl, ?_⟩
        exact ⟨s3, s4, s6, s8, s39, s40, (by first | (simp only [go_sem]; done) | rfl), Q9, Q5, Q3, Q1, Q2, Q0, Qd, Q1a, Qe⟩
      ·rw [b0p hc22] at hm2
       simp only [b1e, b1h, b1g, b0f]
       obtain rfl := sI9 hm2
       obtain rfl := hb20 _ rfl
       try dsimp only at hm1
       exact J19 p_4_0 p_4_1 p_4_2 _ _ s4 s6 s8 Q9 Q5 Q3 Q1 Q2 Q0 Qd Q1a Qe hm1
  ·rw [b0p hc5] at hm1
   simp only [b1e, b1h, b1g, b0f]
   obtain rfl := sI9 hm1
   obtain rfl := hb3 _ rfl
   try dsimp only at hm0
   exact J2 p.State p.Values.1 p.Values.2 i4 i6 _ _ s4 s6 Q9 Q5 Q3 Q1 Qd hm0
theorem c9y (hf : Has O "(newel/situation.Plant).literal" x__situation_Plant__literal) : c7b O := by
 intro m x p input r hm0
 unfold b7g at hm0
 refine b1k hf rfl (b0a (.agg _ (b0a (b0e fun a _ => b00 a) (b0a (b0e fun a _ => b00 a) (b0a (b0e fun a _ => b1r a) (b0a (b0e fun a _ => b1t a) (b0a (b0e fun a _ => b1s a) b0o)))))) (b0a (.agg _ (b0a (b0d _) (b0a (b0d _) (b0a (b0d _) (b0a (b0d _) b0o))))) (b0a (.agg _ (b0a (b0d _) (b0a (b0d _) (b0a (b0d _) b0o)))) (b0a (b0d _) b0o)))) (b0d _) ?_
 refine b1f (fun t h => t 0 = .agg [.fs 1 (List.map eS m.Machine.Inputs), .fs 1 (List.map eS m.Machine.Outputs), .fs 2 (List.map b0l m.Machine.Counters), .fs 2 (List.map b0m m.Machine.States), .fs 4 (List.map b0i m.Machine.Rules)] /\ t 1 = .agg [I x.Kind, I x.Number, I x.Value, B x.Not] /\ t 2 = .agg [I p.State, I p.Values.1, I p.Values.2] /\ t 3 = I input) ⟨rfl, rfl, rfl, rfl⟩ fun t h ⟨s0, s1, s2, s3⟩ => ?_
 simp only [x__situation_Plant__literal]
 refine b0b fun K hK => ?_
 simp only [go_sem, s0, s1, s2]
 refine hK _ _ ?_
 clear hK K
 refine b0b fun K hK => ?_
 simp only [go_sem]
 refine hK _ _ ?_
 clear hK K
 refine b0t ?_
 refine b0b fun K hK => ?_
 simp only [go_sem]
 refine hK _ _ ?_
 clear hK K
 refine b0k fun K1 hK1 => ?_
 have J2 : ∀ (holds_9 : Bool) (t : Slots) (h : Heap), t 5 = .fp [I x.Kind, I x.Number, I x.Value, B x.Not] 0 -> t 9 = B holds_9 -> b59 x holds_9 = some r -> K1 t h := by
  intro holds_9 t h s5 s9 hm0
  refine hK1 _ _ ?_
  unfold b59 at hm0
  refine b0b fun K hK => ?_
  simp only [go_sem, s5, s9]
  refine hK _ _ ?_
  clear hK K
  simp only [b0v, b0w]
  obtain rfl := sI9 hm0
  exact b01 (by simp only [go_sem]) (b0d _)
 simp only [b0u]
 refine b0b fun K hK => ?_
 simp only [go_sem]
 refine hK _ _ ?_
 clear hK K
 simp only [go_sem]
 refine b0j (fun hc3 => ?_) (fun hc3 => ?_)
 ·rw [b0q hc3] at hm0
  obtain ⟨q5, h_q5, hm0⟩ := b0g hm0
  refine b04 fun K hK => ?_
  simp only [go_sem, s3, c4n h_q5]
  refine hK _ _ ?_
  clear hK K
  simp only [b02, b0f]
  exact J2 (decide ((b6c q5 1) = 1)) _ _ (by first | (simp only [go_sem]; done) | rfl) (by first | (simp only [go_sem]; done) | rfl) hm0
 ·rw [b0p hc3] at hm0
  refine b0b fun K hK => ?_
  simp only [go_sem]
  refine hK _ _ ?_
  clear hK K
  simp only [go_sem]
  refine b0j (fun hc6 => ?_) (fun hc6 => ?_)
  ·rw [b0q hc6] at hm0
   obtain ⟨x8, h_x8, hm0⟩ := b0g hm0
   have ha_x8 : ∀ v : Int, List.take (1 + Int.toNat (x.Number)) [I p.State, I p.Values.1, I p.Values.2] ++ [I v] ++ List.drop (1 + Int.toNat (x.Number)) [I p.Values.1, I p.Values.2] = [I p.State, I (b1i (x.Number) 0 v p.Values.1), I (b1i (x.Number) 1 v p.Values.2)] := fun v => (b9t (cs := [I p.State, I p.Values.1, I p.Values.2]) (off := 1) (v := v) h_x8 rfl).trans (by rw [b9s h_x8]; rfl)
   have hb_x8 : 1 + Int.toNat (x.Number) + 1 <= 3 := Nat.le_trans (Nat.add_le_add_left (b80 h_x8) 1) (by simp)
   refine b04 fun K hK => ?_
   simp only [go_sem, d6e (n := 2) (l := [p.Values.1, p.Values.2]) h_x8 rfl, b82 (cs := [I p.State, I p.Values.1, I p.Values.2]) (off := 1) h_x8 rfl]
   refine hK _ _ ?_
   clear hK K
   simp only [b02, b0f]
   exact J2 (decide (x.Value <= x8)) _ _ (by first | (simp only [go_sem]; done) | rfl) (by first | (simp only [go_sem]; done) | rfl) hm0
  ·rw [b0p hc6] at hm0
   refine b0b fun K hK => ?_
   simp only [go_sem]
   refine hK _ _ ?_
   clear hK K
   simp only [go_sem]
   refine b0j (fun hc9 => ?_) (fun hc9 => ?_)
   ·rw [b0q hc9] at hm0
    refine b04 fun K hK => ?_
    simp only [go_sem]
    refine hK _ _ ?_
    clear hK K
    simp only [b02, b0f]
    exact J2 (decide (p.State = x.Number)) _ _ (by first | (simp only [go_sem]; done) | rfl) (by first | (simp only [go_sem]; done) | rfl) hm0
   ·rw [b0p hc9] at hm0
    refine b0b fun K hK => ?_
    simp only [go_sem]
    refine hK _ _ ?_
    clear hK K
    simp only [go_sem]
    refine b0j (fun hc10 => ?_) (fun hc10 => ?_)
    ·rw [b0q hc10] at hm0
     obtain ⟨x13, h_x13, hm0⟩ := b0g hm0
     have h_x130 := b05 h_x13
     have h_x131 := b08 h_x13
     obtain ⟨q14, h_q14, hm0⟩ := b0g hm0
     refine b04 fun K hK => ?_
     simp only [go_sem, b1b h_x13, c4n h_q14]
     refine hK _ _ ?_
     clear hK K
     simp only [b02, b0f]
     exact J2 (decide ((b6c q14 1) = 1)) _ _ (by first | (simp only [go_sem]; done) | rfl) (by first | (simp only [go_sem]; done) | rfl) hm0
    ·rw [b0p hc10] at hm0
     simp only [b0r, b02, b0f]
     exact J2 false _ _ (by first | (simp only [go_sem]; done) | rfl) (by first | (simp only [go_sem]; done) | rfl) hm0
theorem c9z (hf : Has O "(newel/situation.Plant).set" x__situation_Plant__set) : c7c O := by
 intro m s p i_2 h0 ob_p2 lt_p2 r hm0
 unfold c0e at hm0
 refine g86 hf rfl ?_
 refine b1f (fun t h => t 0 = .agg [.fs 1 (List.map eS m.Machine.Inputs), .fs 1 (List.map eS m.Machine.Outputs), .fs 2 (List.map b0l m.Machine.Counters), .fs 2 (List.map b0m m.Machine.States), .fs 4 (List.map b0i m.Machine.Rules)] /\ t 1 = .agg [I s.Kind, I s.Counter] /\ t 2 = .rp i_2 0 0 /\ h.ob i_2 = some (3, [[I p.State, I p.Values.1, I p.Values.2]]) /\ i_2 < h.nx /\ (∀ j, j < h0.nx -> ¬j = i_2 -> h.ob j = h0.ob j) /\ h0.nx <= h.nx) ⟨rfl, rfl, rfl, ob_p2, lt_p2, fun _ _ _ => rfl, Nat.le_refl _⟩ fun t h ⟨s0, s1, s2, ob_p2, lt_p2, fr, fx⟩ => ?_
 simp only [x__situation_Plant__set]
 refine b0b fun K hK => ?_
 simp only [go_sem, s0, s1]
 refine hK _ _ ?_
 clear hK K
 obtain ⟨x2, h_x2, hm0⟩ := b0g hm0
 have ha_x2 : ∀ v : Int, List.take (1 + Int.toNat (s.Counter)) [I p.State, I p.Values.1, I p.Values.2] ++ [I v] ++ List.drop (1 + Int.toNat (s.Counter)) [I p.Values.1, I p.Values.2] = [I p.State, I (b1i (s.Counter) 0 v p.Values.1), I (b1i (s.Counter) 1 v p.Values.2)] := fun v => (b9t (cs := [I p.State, I p.Values.1, I p.Values.2]) (off := 1) (v := v) h_x2 rfl).trans (by rw [b9s h_x2]; rfl)
 have hb_x2 : 1 + Int.toNat (s.Counter) + 1 <= 3 := Nat.le_trans (Nat.add_le_add_left (b80 h_x2) 1) (by simp)
 refine b0b fun K hK => ?_
 simp only [go_sem, s2, ob_p2, c4q (n := 2) (l := [p.Values.1, p.Values.2]) h_x2 rfl]
 refine hK _ _ ?_
 clear hK K
 refine b0b fun K hK => ?_
 simp only [go_sem]
 refine hK _ _ ?_
 clear hK K
 simp only [b0u]
 refine b0b fun K hK => ?_
 simp only [go_sem]
 refine hK _ _ ?_
 clear hK K
 simp only [go_sem]
 refine b0j (fun hc3 => ?_) (fun hc3 => ?_)
 ·rw [b0q hc3] at hm0
  refine b04 fun K hK => ?_
  simp only [go_sem, ob_p2, ha_x2, hb_x2]
  refine hK _ _ ?_
  clear hK K
  simp only [b02]
  obtain rfl := sI9 hm0
  exact c59 (Post := fun v h => v = .tup [] /\ h.ob i_2 = some (3, [[I ((Place.mk p.State (b1i s.Counter 0 0 p.Values.1, b1i s.Counter 1 0 p.Values.2)).State), I (((Place.mk p.State (b1i s.Counter 0 0 p.Values.1, b1i s.Counter 1 0 p.Values.2)).Values).1), I (((Place.mk p.State (b1i s.Counter 0 0 p.Values.1, b1i s.Counter 1 0 p.Values.2)).Values).2)]]) /\ (∀ j, j < h0.nx -> ¬j = i_2 -> h.ob j = h0.ob j) /\ h0.nx <= h.nx) ⟨rfl, (by simp only [go_sem]), (by intro j hj hx0; first | exact fr j hj hx0 | (refine Eq.trans ?_ (fr j hj hx0); first | rfl | simp only [go_sem, hx0])), (by first | exact fx | omega | (simp only [go_sem, nxs] <;> omega))⟩
 ·rw [b0p hc3] at hm0
  refine b0b fun K hK => ?_
  simp only [go_sem]
  refine hK _ _ ?_
  clear hK K
  simp only [go_sem]
  refine b0j (fun hc4 => ?_) (fun hc4 => ?_)
  ·rw [b0q hc4] at hm0
   obtain ⟨x6, h_x6, hm0⟩ := b0g hm0
   have h_x60 := b05 h_x6
   have h_x61 := b08 h_x6
   refine b04 fun K hK => ?_
   simp only [go_sem, ob_p2, b1b h_x6, b82 (cs := [I p.State, I p.Values.1, I p.Values.2]) (off := 1) h_x2 rfl, ha_x2, hb_x2]
   refine hK _ _ ?_
   clear hK K
   simp only [b02]
   obtain rfl := sI9 hm0
   exact c59 (Post := fun v h => v = .tup [] /\ h.ob i_2 = some (3, [[I ((Place.mk p.State (b1i s.Counter 0 (mn (wr (x2 + 1)) x6.Max) p.Values.1, b1i s.Counter 1 (mn (wr (x2 + 1)) x6.Max) p.Values.2)).State), I (((Place.mk p.State (b1i s.Counter 0 (mn (wr (x2 + 1)) x6.Max) p.Values.1, b1i s.Counter 1 (mn (wr (x2 + 1)) x6.Max) p.Values.2)).Values).1), I (((Place.mk p.State (b1i s.Counter 0 (mn (wr (x2 + 1)) x6.Max) p.Values.1, b1i s.Counter 1 (mn (wr (x2 + 1)) x6.Max) p.Values.2)).Values).2)]]) /\ (∀ j, j < h0.nx -> ¬j = i_2 -> h.ob j = h0.ob j) /\ h0.nx <= h.nx) ⟨rfl, (by simp only [go_sem]), (by intro j hj hx0; first | exact fr j hj hx0 | (refine Eq.trans ?_ (fr j hj hx0); first | rfl | simp only [go_sem, hx0])), (by first | exact fx | omega | (simp only [go_sem, nxs] <;> omega))⟩
  ·rw [b0p hc4] at hm0
   refine b0b fun K hK => ?_
   simp only [go_sem]
   refine hK _ _ ?_
   clear hK K
   simp only [go_sem]
   refine b0j (fun hc7 => ?_) (fun hc7 => ?_)
   ·rw [b0q hc7] at hm0
    refine b04 fun K hK => ?_
    simp only [go_sem, ob_p2, b82 (cs := [I p.State, I p.Values.1, I p.Values.2]) (off := 1) h_x2 rfl, ha_x2, hb_x2]
    refine hK _ _ ?_
    clear hK K
    simp only [b02]
    obtain rfl := sI9 hm0
    exact c59 (Post := fun v h => v = .tup [] /\ h.ob i_2 = some (3, [[I ((Place.mk p.State (b1i s.Counter 0 (mx (wr (x2 - 1)) 0) p.Values.1, b1i s.Counter 1 (mx (wr (x2 - 1)) 0) p.Values.2)).State), I (((Place.mk p.State (b1i s.Counter 0 (mx (wr (x2 - 1)) 0) p.Values.1, b1i s.Counter 1 (mx (wr (x2 - 1)) 0) p.Values.2)).Values).1), I (((Place.mk p.State (b1i s.Counter 0 (mx (wr (x2 - 1)) 0) p.Values.1, b1i s.Counter 1 (mx (wr (x2 - 1)) 0) p.Values.2)).Values).2)]]) /\ (∀ j, j < h0.nx -> ¬j = i_2 -> h.ob j = h0.ob j) /\ h0.nx <= h.nx) ⟨rfl, (by simp only [go_sem]), (by intro j hj hx0; first | exact fr j hj hx0 | (refine Eq.trans ?_ (fr j hj hx0); first | rfl | simp only [go_sem, hx0])), (by first | exact fx | omega | (simp only [go_sem, nxs] <;> omega))⟩
   ·rw [b0p hc7] at hm0
    simp only [b0r, b02]
    obtain rfl := sI9 hm0
    exact c59 (Post := fun v h => v = .tup [] /\ h.ob i_2 = some (3, [[I ((Place.mk p.State (p.Values.1, p.Values.2)).State), I (((Place.mk p.State (p.Values.1, p.Values.2)).Values).1), I (((Place.mk p.State (p.Values.1, p.Values.2)).Values).2)]]) /\ (∀ j, j < h0.nx -> ¬j = i_2 -> h.ob j = h0.ob j) /\ h0.nx <= h.nx) ⟨rfl, ob_p2, fr, fx⟩
theorem c90 (hf : Has O "newel/control.Check" x_control_Check) (d0k : c7x O) : c7d O := by
 intro m r hm0
 unfold c0l at hm0
 refine b1k hf rfl (b0a (.agg _ (b0a (b0e fun a _ => b00 a) (b0a (b0e fun a _ => b00 a) (b0a (b0e fun a _ => b1r a) (b0a (b0e fun a _ => b1t a) (b0a (b0e fun a _ => b1s a) b0o)))))) b0o) (b0d _) ?_
 refine b1f (fun t h => t 0 = .agg [.fs 1 (List.map eS m.Inputs), .fs 1 (List.map eS m.Outputs), .fs 2 (List.map b0l m.Counters), .fs 2 (List.map b0m m.States), .fs 4 (List.map b0i m.Rules)]) rfl fun t h s0 => ?_
 simp only [x_control_Check]
 refine b0b fun K hK => ?_
 simp only [go_sem, s0]
 refine hK _ _ ?_
 clear hK K
 obtain ⟨y2, h_y2, hm0⟩ := b0g hm0
 refine b0b fun K hK => ?_
 simp only [go_sem]
 refine b03 (d0k m _ h_y2) ?_
 simp only [go_sem]
 refine hK _ _ ?_
 clear hK K
 simp only [b0v, b0w]
 obtain rfl := sI9 hm0
 exact b01 (by simp only [go_sem]) (b0d _)
theorem c91 (hf : Has O "newel/control.Reach" x_control_Reach) (c92 : c7f O) (c93 : c7g O) (c9s : c65 O) (c94 : c7h O) : c7e O := by
 intro m assume r hm0
 unfold c0m at hm0
 refine b1k hf rfl (b0a (.agg _ (b0a (b0e fun a _ => b00 a) (b0a (b0e fun a _ => b00 a) (b0a (b0e fun a _ => b1r a) (b0a (b0e fun a _ => b1t a) (b0a (b0e fun a _ => b1s a) b0o)))))) (b0a (b0e fun a _ => b21 a) b0o)) (.tup _ (b0a (b0e fun a _ => b4w a) (b0a (b0d _) b0o))) ?_
 refine b1f (fun t h => t 0 = .agg [.fs 1 (List.map eS m.Inputs), .fs 1 (List.map eS m.Outputs), .fs 2 (List.map b0l m.Counters), .fs 2 (List.map b0m m.States), .fs 4 (List.map b0i m.Rules)] /\ t 1 = .fs 1 (List.map b0x assume)) ⟨rfl, rfl⟩ fun t h ⟨s0, s1⟩ => ?_
 simp only [x_control_Reach]
 refine b0b fun K hK => ?_
 simp only [go_sem, s0]
 refine hK _ _ ?_
 clear hK K
 refine b0t ?_
 obtain ⟨y2, h_y2, hm0⟩ := b0g hm0
 refine b0b fun K hK => ?_
 simp only [go_sem, s1]
 refine c4o ?_ (c92 m ([assume]) _ h_y2) (.v _) ?_
 ·exact .cons (.refl _ (.agg _ (b0a (b0e fun a _ => b00 a) (b0a (b0e fun a _ => b00 a) (b0a (b0e fun a _ => b1r a) (b0a (b0e fun a _ => b1t a) (b0a (b0e fun a _ => b1s a) b0o))))))) (.cons (b29 (f := b4t) (l := ([assume])) (id := h.nx) (by simp only [go_sem]) (by first | rfl | simp only [go_sem, lA9, mA9]) c4f d7j) (.nil))
 simp only [go_sem]
 refine hK _ _ ?_
 clear hK K
 refine b0t ?_
 refine b0b fun K hK => ?_
 simp only [go_sem]
 refine hK _ _ ?_
 clear hK K
 refine b0k fun K3 hK3 => ?_
 simp only [go_sem]
 refine b0j (fun hc4 => ?_) (fun hc4 => ?_)
 ·rw [b0q hc4] at hm0
  refine b0b fun K hK => ?_
  simp only [go_sem]
  refine hK _ _ ?_
  clear hK K
  simp only [b0v, b1n, b0w]
  obtain rfl := sI9 hm0
  exact d3m (v := .v (.slice none 0 0)) (u := I y2) (by simp only [go_sem]) (by simp only [go_sem]) (.nil _) (.refl _ (b0d _))
 ·rw [b0p hc4] at hm0
  simp only [b0r, b0f]
  refine hK3 _ _ ?_
  obtain ⟨y8, h_y8, hm0⟩ := b0g hm0
  refine b0b fun K hK => ?_
  simp only [go_sem]
  refine b03 (c93 m) ?_
  simp only [go_sem, s1]
  refine b03 (c9s (b5g m) assume "newel/control.same" [] [] (fun z7 => some (b8q z7)) (.fn _ _ _ b0o b0o) (fun z0 y hz => by cases hz; exact c94 z0) _ h_y8) ?_
  simp only [go_sem]
  refine hK _ _ ?_
  clear hK K
  simp only [b0v, b0w]
  obtain rfl := sI9 hm0
  exact d3n (by simp only [go_sem]) (by simp only [go_sem]) (b0e fun a _ => b4w a) (b0d _)
theorem c92 (hf : Has O "newel/control.check" x_control_check) (c90 : c7d O) (c1d : c3d O) : c7f O := by
 intro m conds r hm0
 unfold c0n at hm0
 refine b1k hf rfl (b0a (.agg _ (b0a (b0e fun a _ => b00 a) (b0a (b0e fun a _ => b00 a) (b0a (b0e fun a _ => b1r a) (b0a (b0e fun a _ => b1t a) (b0a (b0e fun a _ => b1s a) b0o)))))) (b0a (b0e fun a _ => c4f a) b0o)) (b0d _) ?_
 refine b1f (fun t h => t 0 = .agg [.fs 1 (List.map eS m.Inputs), .fs 1 (List.map eS m.Outputs), .fs 2 (List.map b0l m.Counters), .fs 2 (List.map b0m m.States), .fs 4 (List.map b0i m.Rules)] /\ t 1 = .fs 1 (List.map b4t conds)) ⟨rfl, rfl⟩ fun t h ⟨s0, s1⟩ => ?_
 simp only [x_control_check]
 refine b0b fun K hK => ?_
 simp only [go_sem, s0]
 refine hK _ _ ?_
 clear hK K
 refine b0t ?_
 obtain ⟨y2, h_y2, hm0⟩ := b0g hm0
 refine b0b fun K hK => ?_
 simp only [go_sem]
 refine b03 (c90 m _ h_y2) ?_
 simp only [go_sem]
 refine hK _ _ ?_
 clear hK K
 refine b0t ?_
 refine b0b fun K hK => ?_
 simp only [go_sem]
 refine hK _ _ ?_
 clear hK K
 refine b0k fun K3 hK3 => ?_
 simp only [go_sem]
 refine b0j (fun hc4 => ?_) (fun hc4 => ?_)
 ·rw [b0q hc4] at hm0
  refine b0b fun K hK => ?_
  simp only [go_sem]
  refine hK _ _ ?_
  clear hK K
  simp only [b0v, b1n, b0w]
  obtain rfl := sI9 hm0
  exact b01 (by simp only [go_sem]) (b0d _)
 ·rw [b0p hc4] at hm0
  simp only [b0r, b0f]
  refine hK3 _ _ ?_
  refine b0t ?_
  refine b0b fun K hK => ?_
  simp only [go_sem, s1]
  refine hK _ _ ?_
  clear hK K
  refine b0k fun K5 hK5 => ?_
  have J6 : ∀ (t : Slots) (h : Heap), c8t = some r -> K5 t h := by
   intro t h hm0
   refine hK5 _ _ ?_
   unfold c8t at hm0
   refine b0b fun K hK => ?_
   simp only [go_sem]
   refine hK _ _ ?_
   clear hK K
   simp only [b0v, b0w]
   obtain rfl := sI9 hm0
   exact b01 (by simp only [go_sem]) (b0d _)
  simp only [b0u]
  obtain ⟨b7, hl7, hm0⟩ := b0g hm0
  refine b1p hl7 (fun | x_15, t, h => t 2 = .fp [.fs 1 (List.map eS m.Inputs), .fs 1 (List.map eS m.Outputs), .fs 2 (List.map b0l m.Counters), .fs 2 (List.map b0m m.States), .fs 4 (List.map b0i m.Rules)] 0 /\ t 13 = .fs 1 (List.map b4t conds) /\ t 14 = I (List.length conds : Int) /\ t 15 = I x_15) ?_ ?_
  ·exact ⟨(by first | (simp only [go_sem]; done) | rfl), (by first | (simp only [go_sem]; done) | rfl), (by first | (simp only [go_sem]; done) | rfl), (by first | (simp only [go_sem]; done) | rfl)⟩
  ·rintro x_15 o t h ⟨s2, s13, s14, s15⟩ hm1 hb7
   simp only [c0o] at hm1
   rw [d96]
   refine b0b fun K hK => ?_
   simp only [go_sem, s14, s15]
   refine hK _ _ ?_
   clear hK K
   refine b0k fun K8 hK8 => ?_
   simp only [go_sem]
   refine b0j (fun hc9 => ?_) (fun hc9 => ?_)
   ·rw [b0q hc9] at hm1
    simp only [b0r, b0f]
    refine hK8 _ _ ?_
    refine b0k fun K10 hK10 => ?_
    simp only [b0u]
    obtain ⟨x12, h_x12, hm1⟩ := b0g hm1
    have h_x120 := b05 h_x12
    have h_x121 := b08 h_x12
    refine b0b fun K hK => ?_
    simp only [go_sem, s13, s15, b1b h_x12, h_x121]
    refine hK _ _ ?_
    clear hK K
    obtain ⟨y14, h_y14, hm1⟩ := b0g hm1
    refine b0b fun K hK => ?_
    simp only [go_sem, s2]
    refine b03 (c1d m x12 _ h_y14) ?_
    simp only [go_sem]
    refine hK _ _ ?_
    clear hK K
    simp only [go_sem]
    refine b0j (fun hc15 => ?_) (fun hc15 => ?_)
    ·rw [b0q hc15] at hm1
     refine b0b fun K hK => ?_
     simp only [go_sem]
     refine hK _ _ ?_
     clear hK K
     simp only [b0v, b1n, b2f, b0w]
     obtain rfl := sI9 hm1
     obtain rfl := hb7 _ rfl
     try dsimp only at hm0
     obtain rfl := sI9 hm0
     exact b01 (by simp only [go_sem]) (b0d _)
    ·rw [b0p hc15] at hm1
     simp only [b0r, b02, b0f]
     refine hK10 _ _ ?_
     refine b04 fun K hK => ?_
     simp only [go_sem, s15]
     refine hK _ _ ?_
     clear hK K
     simp only [b0f]
     obtain rfl := sI9 hm1
     refine ⟨_, rfl, ?_⟩
     exact ⟨s2, s13, s14, (by first | (simp only [go_sem]; done) | rfl)⟩
   ·rw [b0p hc9] at hm1
    simp only [b1e, b1h, b1g, b0f]
    obtain rfl := sI9 hm1
    obtain rfl := hb7 _ rfl
    try dsimp only at hm0
    exact J6  _ _  hm0
theorem c93 (hf : Has O "newel/control.of" x_control_of) : c7g O := by
 intro m
 generalize hm0 : b5g m = r
 unfold b5g at hm0
 refine b1k hf rfl (b0a (.agg _ (b0a (b0e fun a _ => b00 a) (b0a (b0e fun a _ => b00 a) (b0a (b0e fun a _ => b1r a) (b0a (b0e fun a _ => b1t a) (b0a (b0e fun a _ => b1s a) b0o)))))) b0o) (.agg _ (b0a (b0e fun a _ => b00 a) (b0a (b0e fun a _ => b00 a) (b0a (b0e fun a _ => b1r a) (b0a (b0e fun a _ => b1t a) (b0a (b0e fun a _ => b1s a) b0o)))))) ?_
 refine b1f (fun t h => t 0 = .agg [.fs 1 (List.map eS m.Inputs), .fs 1 (List.map eS m.Outputs), .fs 2 (List.map b0l m.Counters), .fs 2 (List.map b0m m.States), .fs 4 (List.map b0i m.Rules)]) rfl fun t h s0 => ?_
 simp only [x_control_of]
 refine b0b fun K hK => ?_
 simp only [go_sem, s0]
 refine hK _ _ ?_
 clear hK K
 refine b0b fun K hK => ?_
 simp only [go_sem]
 refine hK _ _ ?_
 clear hK K
 simp only [b0v, b0w]
 obtain rfl := hm0
 exact b8t (id := h.nx) (m := 5) (cs := [.fs 1 (List.map eS m.Inputs), .fs 1 (List.map eS m.Outputs), .fs 2 (List.map b0l m.Counters), .fs 2 (List.map b0m m.States), .fs 4 (List.map b0i m.Rules)]) (by simp only [go_sem]) (by simp only [go_sem]) rfl (.refl _ (.agg _ (b0a (b0e fun a _ => b00 a) (b0a (b0e fun a _ => b00 a) (b0a (b0e fun a _ => b1r a) (b0a (b0e fun a _ => b1t a) (b0a (b0e fun a _ => b1s a) b0o)))))))
theorem c94 (hf : Has O "newel/control.same" x_control_same) : c7h O := by
 intro input
 generalize hm0 : b8q input = r
 unfold b8q at hm0
 refine b1k hf rfl (b0a (b0d _) b0o) (b0d _) ?_
 refine b1f (fun t h => t 0 = I input) rfl fun t h s0 => ?_
 simp only [x_control_same]
 refine b0b fun K hK => ?_
 simp only [go_sem]
 refine hK _ _ ?_
 clear hK K
 refine b0b fun K hK => ?_
 simp only [go_sem, s0]
 refine hK _ _ ?_
 clear hK K
 simp only [b0v, b0w]
 obtain rfl := hm0
 exact b01 (by simp only [go_sem]) (b0d _)
theorem j2q (hf : Has O "newel/newellaw04.ControlReaches" x_l04_ControlReaches) (c95 : c7i O) (k_l04_works : d2m O) (c99 : c7m O) (c1b : c29 O) (c91 : c7e O) (d0c : c7p O) (c96 : c7j O) : d2l O := by
 intro m c r hm0
 unfold c1f at hm0
 refine b1k hf rfl (b0a (.agg _ (b0a (b0e fun a _ => b00 a) (b0a (b0e fun a _ => b00 a) (b0a (b0e fun a _ => b1r a) (b0a (b0e fun a _ => b1t a) (b0a (b0e fun a _ => b1s a) b0o)))))) (b0a (.agg _ (b0a (b0e fun a _ => b21 a) (b0a (b0e fun a _ => b21 a) b0o))) b0o)) (b0d _) ?_
 refine b1f (fun t h => t 0 = .agg [.fs 1 (List.map eS m.Inputs), .fs 1 (List.map eS m.Outputs), .fs 2 (List.map b0l m.Counters), .fs 2 (List.map b0m m.States), .fs 4 (List.map b0i m.Rules)] /\ t 1 = .agg [.fs 1 (List.map b0x c.Assume), .fs 1 (List.map b0x c.Never)]) ⟨rfl, rfl⟩ fun t h ⟨s0, s1⟩ => ?_
 simp only [x_l04_ControlReaches]
 refine b0b fun K hK => ?_
 simp only [go_sem, s0, s1]
 refine hK _ _ ?_
 clear hK K
 refine b0t ?_
 obtain ⟨y2, h_y2, hm0⟩ := b0g hm0
 refine b0b fun K hK => ?_
 simp only [go_sem]
 refine b03 (c95 m _ h_y2) ?_
 simp only [go_sem]
 refine hK _ _ ?_
 clear hK K
 refine b0k fun K3 hK3 => ?_
 simp only [go_sem]
 refine b0j (fun hc4 => ?_) (fun hc4 => ?_)
 ·rw [b0q hc4] at hm0
  obtain ⟨y6, h_y6, hm0⟩ := b0g hm0
  refine b0b fun K hK => ?_
  simp only [go_sem]
  refine b03 (k_l04_works  _ h_y6) ?_
  simp only [go_sem]
  refine hK _ _ ?_
  clear hK K
  simp only [b0v, b1n, b0w]
  obtain rfl := sI9 hm0
  exact b01 (by simp only [go_sem]) (b0d _)
 ·rw [b0p hc4] at hm0
  simp only [b0r, b0f]
  refine hK3 _ _ ?_
  obtain ⟨y10, h_y10, hm0⟩ := b0g hm0
  obtain ⟨y11, h_y11, hm0⟩ := b0g hm0
  obtain ⟨y12, h_y12, hm0⟩ := b0g hm0
  refine b0b fun K hK => ?_
  simp only [go_sem]
  refine b03 (c99 m _ h_y10) ?_
  simp only [go_sem]
  refine b03 (c1b c.Assume _ h_y11) ?_
  simp only [go_sem]
  refine b03 (c91 y10 y11 _ h_y12) ?_
  simp only [go_sem]
  refine hK _ _ ?_
  clear hK K
  obtain ⟨y14, h_y14, hm0⟩ := b0g hm0
  refine b0b fun K hK => ?_
  simp only [go_sem]
  refine b03 (d0c m c.Assume _ h_y14) ?_
  simp only [go_sem]
  refine hK _ _ ?_
  clear hK K
  obtain ⟨y18, h_y18, hm0⟩ := b0g hm0
  obtain ⟨c20, h_c20, hm0⟩ := b0g hm0
  refine b2v (fun t h => t 4 = B c20) (fun K hK => ?_) ?_
  ·simp only [go_sem]
   refine b03 (c96 y12.1 y14.1 _ h_y18) ?_
   simp only [go_sem]
   refine b0j (fun hg21 => ?_) (fun hg21 => ?_)
   ·simp only [go_sem, hg21]
    refine b0j (fun hg22 => ?_) (fun hg22 => ?_)
    ·simp only [hg21, hg22, eq_self, if_true, Bool.and_true] at h_c20
     obtain ⟨y19, h_y19, h_c20⟩ := b0g h_c20
     obtain rfl := sI9 h_c20
     simp only [go_sem, hg21, hg22]
     refine b03 (k_l04_works  _ h_y19) ?_
     simp only [go_sem, hg21, hg22]
     exact hK _ _ (by first | (simp only [go_sem]; done) | rfl)
    ·simp only [hg21, hg22, if_false, Bool.and_false, Bool.false_eq_true] at h_c20
     obtain rfl := sI9 h_c20
     simp only [go_sem, hg21, hg22]
     exact hK _ _ (by first | (simp only [go_sem]; done) | rfl)
   ·simp only [hg21, if_false, Bool.false_and, Bool.false_eq_true] at h_c20
    obtain rfl := sI9 h_c20
    simp only [go_sem, hg21]
    exact hK _ _ (by first | (simp only [go_sem]; done) | rfl)
  ·rintro t h s4
   simp only [b0v, b0w]
   obtain rfl := sI9 hm0
   exact b01 (by simp only [go_sem, s4]) (b0d _)
theorem c95 (hf : Has O "newel/newellaw04.Wide" x_l04_Wide) (c1a : c26 O) : c7i O := by
 intro m r hm0
 unfold b7u at hm0
 refine b1k hf rfl (b0a (.agg _ (b0a (b0e fun a _ => b00 a) (b0a (b0e fun a _ => b00 a) (b0a (b0e fun a _ => b1r a) (b0a (b0e fun a _ => b1t a) (b0a (b0e fun a _ => b1s a) b0o)))))) b0o) (b0d _) ?_
 refine b1f (fun t h => t 0 = .agg [.fs 1 (List.map eS m.Inputs), .fs 1 (List.map eS m.Outputs), .fs 2 (List.map b0l m.Counters), .fs 2 (List.map b0m m.States), .fs 4 (List.map b0i m.Rules)]) rfl fun t h s0 => ?_
 simp only [x_l04_Wide]
 refine b0b fun K hK => ?_
 simp only [go_sem, s0]
 refine hK _ _ ?_
 clear hK K
 refine b0t ?_
 obtain ⟨y2, h_y2, hm0⟩ := b0g hm0
 refine b0b fun K hK => ?_
 simp only [go_sem]
 refine b03 (c1a m _ h_y2) ?_
 simp only [go_sem]
 refine hK _ _ ?_
 clear hK K
 refine b0k fun K3 hK3 => ?_
 simp only [go_sem]
 refine b0j (fun hc4 => ?_) (fun hc4 => ?_)
 ·rw [b0q hc4] at hm0
  refine b0b fun K hK => ?_
  simp only [go_sem]
  refine hK _ _ ?_
  clear hK K
  simp only [b0v, b1n, b0w]
  obtain rfl := sI9 hm0
  exact b01 (by simp only [go_sem]) (b0d _)
 ·rw [b0p hc4] at hm0
  simp only [b0r, b0f]
  refine hK3 _ _ ?_
  refine b0b fun K hK => ?_
  simp only [go_sem]
  refine hK _ _ ?_
  clear hK K
  refine b0t ?_
  refine b0b fun K hK => ?_
  simp only [go_sem]
  refine hK _ _ ?_
  clear hK K
  refine b0k fun K5 hK5 => ?_
  have J6 : ∀ (places_3 : Int) (t : Slots) (h : Heap), t 1 = .fp [.fs 1 (List.map eS m.Inputs), .fs 1 (List.map eS m.Outputs), .fs 2 (List.map b0l m.Counters), .fs 2 (List.map b0m m.States), .fs 4 (List.map b0i m.Rules)] 0 -> t 3 = I places_3 -> d01 m places_3 = some r -> K5 t h := by
   intro places_3 t h s1 s3 hm0
   refine hK5 _ _ ?_
   unfold d01 at hm0
   refine b2v (fun t h => t 2 = B ((decide (3 < (List.length m.Inputs : Int))) || (decide (80 < places_3)))) (fun K hK => ?_) ?_
   ·simp only [go_sem, s1]
    refine b0j (fun hg7 => ?_) (fun hg7 => ?_)
    ·simp only [go_sem, hg7]
     exact hK _ _ (by first | (simp only [go_sem, hg7]; done) | rfl)
    ·simp only [go_sem, s3, hg7]
     exact hK _ _ (by first | (simp only [go_sem, hg7]; done) | rfl)
   ·rintro t h s2
    simp only [b0v, b0w]
    obtain rfl := sI9 hm0
    exact b01 (by simp only [go_sem, s2]) (b0d _)
  simp only [b0u]
  obtain ⟨b8, hl8, hm0⟩ := b0g hm0
  refine b1p hl8 (fun | (places_3, i_4), t, h => t 1 = .fp [.fs 1 (List.map eS m.Inputs), .fs 1 (List.map eS m.Outputs), .fs 2 (List.map b0l m.Counters), .fs 2 (List.map b0m m.States), .fs 4 (List.map b0i m.Rules)] 0 /\ t 3 = I places_3 /\ t 4 = I i_4) ?_ ?_
  ·exact ⟨(by first | (simp only [go_sem]; done) | rfl), (by first | (simp only [go_sem]; done) | rfl), (by first | (simp only [go_sem]; done) | rfl)⟩
  ·rintro ⟨places_3, i_4⟩ o t h ⟨s1, s3, s4⟩ hm1 hb8
   simp only [c1g] at hm1
   rw [d97]
   refine b0t ?_
   refine b0b fun K hK => ?_
   simp only [go_sem, s1, s4]
   refine hK _ _ ?_
   clear hK K
   refine b0k fun K9 hK9 => ?_
   simp only [go_sem]
   refine b0j (fun hc10 => ?_) (fun hc10 => ?_)
   ·rw [b0q hc10] at hm1
    simp only [b0r, b0f]
    refine hK9 _ _ ?_
    refine b0k fun K11 hK11 => ?_
    simp only [b0u]
    obtain ⟨x13, h_x13, hm1⟩ := b0g hm1
    have h_x130 := b05 h_x13
    have h_x131 := b08 h_x13
    refine b04 fun K hK => ?_
    simp only [go_sem, s1, s3, s4, b1b h_x13, h_x131]
    refine hK _ _ ?_
    clear hK K
    simp only [b02, b0f]
    refine hK11 _ _ ?_
    refine b04 fun K hK => ?_
    simp only [go_sem, s4]
    refine hK _ _ ?_
    clear hK K
    simp only [b0f]
    obtain rfl := sI9 hm1
    refine ⟨_, rfl, ?_⟩
    exact ⟨s1, (by first | (simp only [go_sem]; done) | rfl), (by first | (simp only [go_sem]; done) | rfl)⟩
   ·rw [b0p hc10] at hm1
    simp only [b1e, b1h, b1g, b0f]
    obtain rfl := sI9 hm1
    obtain rfl := hb8 _ rfl
    try dsimp only at hm0
    exact J6 places_3 _ _ s1 s3 hm0
theorem c96 (hf : Has O "newel/newellaw04.samePlaces" x_l04_samePlaces) : c7j O := by
 intro a b r hm0
 unfold c1h at hm0
 refine b1k hf rfl (b0a (b0e fun a _ => b4w a) (b0a (b0e fun a _ => b4w a) b0o)) (b0d _) ?_
 refine b1f (fun t h => t 0 = .fs 3 (List.map b2a a) /\ t 1 = .fs 3 (List.map b2a b)) ⟨rfl, rfl⟩ fun t h ⟨s0, s1⟩ => ?_
 simp only [x_l04_samePlaces]
 refine b0b fun K hK => ?_
 simp only [go_sem]
 refine hK _ _ ?_
 clear hK K
 refine b0t ?_
 refine b0b fun K hK => ?_
 simp only [go_sem, s0, s1]
 refine hK _ _ ?_
 clear hK K
 refine b0k fun K1 hK1 => ?_
 simp only [go_sem]
 refine b0j (fun hc2 => ?_) (fun hc2 => ?_)
 ·rw [b0q hc2] at hm0
  refine b0b fun K hK => ?_
  simp only [go_sem]
  refine hK _ _ ?_
  clear hK K
  simp only [b0v, b1n, b0w]
  obtain rfl := sI9 hm0
  exact b01 (by simp only [go_sem]) (b0d _)
 ·rw [b0p hc2] at hm0
  simp only [b0r, b0f]
  refine hK1 _ _ ?_
  refine b0t ?_
  refine b0b fun K hK => ?_
  simp only [go_sem]
  refine hK _ _ ?_
  clear hK K
  refine b0k fun K3 hK3 => ?_
  have J4 : ∀ (t : Slots) (h : Heap), c40 = some r -> K3 t h := by
   intro t h hm0
   refine hK3 _ _ ?_
   unfold c40 at hm0
   refine b0b fun K hK => ?_
   simp only [go_sem]
   refine hK _ _ ?_
   clear hK K
   simp only [b0v, b0w]
   obtain rfl := sI9 hm0
   exact b01 (by simp only [go_sem]) (b0d _)
  simp only [b0u]
  obtain ⟨b5, hl5, hm0⟩ := b0g hm0
  refine b1p hl5 (fun | i_5, t, h => t 0 = .fs 3 (List.map b2a a) /\ t 1 = .fs 3 (List.map b2a b) /\ t 5 = I i_5) ?_ ?_
  ·exact ⟨s0, s1, (by first | (simp only [go_sem]; done) | rfl)⟩
  ·rintro i_5 o t h ⟨s0, s1, s5⟩ hm1 hb5
   simp only [c1i] at hm1
   rw [d98]
   refine b0t ?_
   refine b0b fun K hK => ?_
   simp only [go_sem, s0, s5]
   refine hK _ _ ?_
   clear hK K
   refine b0k fun K6 hK6 => ?_
   simp only [go_sem]
   refine b0j (fun hc7 => ?_) (fun hc7 => ?_)
   ·rw [b0q hc7] at hm1
    simp only [b0r, b0f]
    refine hK6 _ _ ?_
    refine b0k fun K8 hK8 => ?_
    simp only [b0u]
    obtain ⟨x11, h_x11, hm1⟩ := b0g hm1
    have h_x110 := b05 h_x11
    have h_x111 := b08 h_x11
    obtain ⟨x12, h_x12, hm1⟩ := b0g hm1
    have h_x120 := b05 h_x12
    have h_x121 := b08 h_x12
    refine b0b fun K hK => ?_
    simp only [go_sem, s0, s1, s5, b1b h_x11, h_x111, b1b h_x12]
    refine hK _ _ ?_
    clear hK K
    simp only [go_sem]
    refine b0j (fun hc13 => ?_) (fun hc13 => ?_)
    ·rw [b0q hc13] at hm1
     refine b0b fun K hK => ?_
     simp only [go_sem]
     refine hK _ _ ?_
     clear hK K
     simp only [b0v, b1n, b2f, b0w]
     obtain rfl := sI9 hm1
     obtain rfl := hb5 _ rfl
     try dsimp only at hm0
     obtain rfl := sI9 hm0
     exact b01 (by simp only [go_sem]) (b0d _)
    ·rw [b0p hc13] at hm1
     simp only [b0r, b02, b0f]
     refine hK8 _ _ ?_
     refine b04 fun K hK => ?_
     simp only [go_sem, s5]
     refine hK _ _ ?_
     clear hK K
     simp only [b0f]
     obtain rfl := sI9 hm1
     refine ⟨_, rfl, ?_⟩
     exact ⟨s0, s1, (by first | (simp only [go_sem]; done) | rfl)⟩
   ·rw [b0p hc7] at hm1
    simp only [b1e, b1h, b1g, b0f]
    obtain rfl := sI9 hm1
    obtain rfl := hb5 _ rfl
    try dsimp only at hm0
    exact J4  _ _  hm0
theorem c97 (hf : Has O "newel/newelref04.Allows" x_r04_Allows) (b89 : c3a O) : c7k O := by
 intro m p input assume r hm0
 unfold c1s at hm0
 refine b1k hf rfl (b0a (.agg _ (b0a (b0e fun a _ => b00 a) (b0a (b0e fun a _ => b00 a) (b0a (b0e fun a _ => b1r a) (b0a (b0e fun a _ => b1t a) (b0a (b0e fun a _ => b1s a) b0o)))))) (b0a (.agg _ (b0a (b0d _) (b0a (b0d _) (b0a (b0d _) b0o)))) (b0a (b0d _) (b0a (b0e fun a _ => b21 a) b0o)))) (b0d _) ?_
 refine b1f (fun t h => t 0 = .agg [.fs 1 (List.map eS m.Inputs), .fs 1 (List.map eS m.Outputs), .fs 2 (List.map b0l m.Counters), .fs 2 (List.map b0m m.States), .fs 4 (List.map b0i m.Rules)] /\ t 1 = .agg [I p.State, I p.Values.1, I p.Values.2] /\ t 2 = I input /\ t 3 = .fs 1 (List.map b0x assume)) ⟨rfl, rfl, rfl, rfl⟩ fun t h ⟨s0, s1, s2, s3⟩ => ?_
 simp only [x_r04_Allows]
 refine b0b fun K hK => ?_
 simp only [go_sem, s0, s1]
 refine hK _ _ ?_
 clear hK K
 obtain ⟨c4, h_c4, hm0⟩ := b0g hm0
 refine b2v (fun t h => t 8 = B c4) (fun K hK => ?_) ?_
 ·simp only [go_sem, s3]
  refine b0j (fun hg5 => ?_) (fun hg5 => ?_)
  ·simp only [hg5, eq_self, if_true] at h_c4
   obtain rfl := sI9 h_c4
   simp only [go_sem, hg5]
   exact hK _ _ (by first | (simp only [go_sem]; done) | rfl)
  ·simp only [hg5, if_false, Bool.false_eq_true] at h_c4
   obtain ⟨y3, h_y3, h_c4⟩ := b0g h_c4
   obtain rfl := sI9 h_c4
   simp only [go_sem, s2, s3, hg5]
   refine b03 (b89 m p input assume _ h_y3) ?_
   simp only [go_sem, hg5]
   exact hK _ _ (by first | (simp only [go_sem]; done) | rfl)
 ·rintro t h s8
  simp only [b0v, b0w]
  obtain rfl := sI9 hm0
  exact b01 (by simp only [go_sem, s8]) (b0d _)
theorem c1a (hf : Has O "newel/newelref04.Check" x_r04_Check) (b37 : c3c O) (d0i : c7v O) (d0d : c7q O) (c1c : c3b O) : c26 O := by
 intro m r hm0
 unfold b9g at hm0
 refine b1k hf rfl (b0a (.agg _ (b0a (b0e fun a _ => b00 a) (b0a (b0e fun a _ => b00 a) (b0a (b0e fun a _ => b1r a) (b0a (b0e fun a _ => b1t a) (b0a (b0e fun a _ => b1s a) b0o)))))) b0o) (b0d _) ?_
 refine b1f (fun t h => t 0 = .agg [.fs 1 (List.map eS m.Inputs), .fs 1 (List.map eS m.Outputs), .fs 2 (List.map b0l m.Counters), .fs 2 (List.map b0m m.States), .fs 4 (List.map b0i m.Rules)]) rfl fun t h s0 => ?_
 simp only [x_r04_Check]
 refine b0b fun K hK => ?_
 simp only [go_sem, s0]
 refine hK _ _ ?_
 clear hK K
 refine b0t ?_
 refine b2v (fun t h => t 1 = .fp [.fs 1 (List.map eS m.Inputs), .fs 1 (List.map eS m.Outputs), .fs 2 (List.map b0l m.Counters), .fs 2 (List.map b0m m.States), .fs 4 (List.map b0i m.Rules)] 0 /\ t 39 = B (((((decide (4 < (List.length m.Inputs : Int))) || (decide (6 < (List.length m.Outputs : Int)))) || (decide (2 < (List.length m.Counters : Int)))) || (!(b1y (List.length m.States : Int) 1 12))) || (decide (40 < (List.length m.Rules : Int))))) (fun K hK => ?_) ?_
 ·simp only [go_sem]
  refine b0j (fun hg1 => ?_) (fun hg1 => ?_)
  ·simp only [go_sem, hg1]
   exact hK _ _ ⟨(by first | (simp only [go_sem]; done) | rfl), (by first | (simp only [go_sem, hg1]; done) | rfl)⟩
  ·simp only [go_sem, hg1]
   refine b0j (fun hg2 => ?_) (fun hg2 => ?_)
   ·simp only [go_sem, hg1, hg2]
    exact hK _ _ ⟨(by first | (simp only [go_sem]; done) | rfl), (by first | (simp only [go_sem, hg1, hg2]; done) | rfl)⟩
   ·simp only [go_sem, hg1, hg2]
    refine b0j (fun hg3 => ?_) (fun hg3 => ?_)
    ·simp only [go_sem, hg1, hg2, hg3]
     exact hK _ _ ⟨(by first | (simp only [go_sem]; done) | rfl), (by first | (simp only [go_sem, hg1, hg2, hg3]; done) | rfl)⟩
    ·simp only [go_sem, hg1, hg2, hg3]
     refine b03 (b37 (List.length m.States : Int) 1 12) ?_
     simp only [go_sem, hg1, hg2, hg3]
     refine b0j (fun hg4 => ?_) (fun hg4 => ?_)
     ·simp only [go_sem, hg1, hg2, hg3, hg4]
      exact hK _ _ ⟨(by first | (simp only [go_sem]; done) | rfl), (by first | (simp only [go_sem, hg1, hg2, hg3, hg4]; done) | rfl)⟩
     ·simp only [go_sem, hg1, hg2, hg3, hg4]
      exact hK _ _ ⟨(by first | (simp only [go_sem]; done) | rfl), (by first | (simp only [go_sem, hg1, hg2, hg3, hg4]; done) | rfl)⟩
 ·rintro t h ⟨s1, s39⟩
  refine b0k fun K5 hK5 => ?_
  simp only [go_sem, s39]
  refine b0j (fun hc6 => ?_) (fun hc6 => ?_)
  ·rw [b0q hc6] at hm0
   refine b0b fun K hK => ?_
   simp only [go_sem]
   refine hK _ _ ?_
   clear hK K
   simp only [b0v, b1n, b0w]
   obtain rfl := sI9 hm0
   exact b01 (by simp only [go_sem]) (b0d _)
  ·rw [b0p hc6] at hm0
   simp only [b0r, b0f]
   refine hK5 _ _ ?_
   obtain ⟨y8, h_y8, hm0⟩ := b0g hm0
   refine b0b fun K hK => ?_
   simp only [go_sem, s1]
   refine b03 (d0i m _ h_y8) ?_
   simp only [go_sem]
   refine hK _ _ ?_
   clear hK K
   refine b0t ?_
   refine b0b fun K hK => ?_
   simp only [go_sem]
   refine hK _ _ ?_
   clear hK K
   refine b0k fun K9 hK9 => ?_
   have J10 : ∀ (t : Slots) (h : Heap), t 1 = .fp [.fs 1 (List.map eS m.Inputs), .fs 1 (List.map eS m.Outputs), .fs 2 (List.map b0l m.Counters), .fs 2 (List.map b0m m.States), .fs 4 (List.map b0i m.Rules)] 0 -> c5k m = some r -> K9 t h := by
    intro t h s1 hm0
    refine hK9 _ _ ?_
    unfold c5k at hm0
    refine b0t ?_
    refine b0b fun K hK => ?_
    simp only [go_sem]
    refine hK _ _ ?_
    clear hK K
    refine b0k fun K11 hK11 => ?_
    have J12 : ∀ (t : Slots) (h : Heap), t 1 = .fp [.fs 1 (List.map eS m.Inputs), .fs 1 (List.map eS m.Outputs), .fs 2 (List.map b0l m.Counters), .fs 2 (List.map b0m m.States), .fs 4 (List.map b0i m.Rules)] 0 -> c5l m = some r -> K11 t h := by
     intro t h s1 hm0
     refine hK11 _ _ ?_
     unfold c5l at hm0
     refine b0t ?_
     refine b0b fun K hK => ?_
     simp only [go_sem]
     refine hK _ _ ?_
     clear hK K
     refine b0k fun K13 hK13 => ?_
     have J14 : ∀ (t : Slots) (h : Heap), t 1 = .fp [.fs 1 (List.map eS m.Inputs), .fs 1 (List.map eS m.Outputs), .fs 2 (List.map b0l m.Counters), .fs 2 (List.map b0m m.States), .fs 4 (List.map b0i m.Rules)] 0 -> c5m m = some r -> K13 t h := by
      intro t h s1 hm0
      refine hK13 _ _ ?_
      unfold c5m at hm0
      refine b0t ?_
      refine b0b fun K hK => ?_
      simp only [go_sem]
      refine hK _ _ ?_
      clear hK K
      refine b0k fun K15 hK15 => ?_
      have J16 : ∀ (t : Slots) (h : Heap), d1p = some r -> K15 t h := by
       intro t h hm0
       refine hK15 _ _ ?_
       unfold d1p at hm0
       refine b0b fun K hK => ?_
       simp only [go_sem]
       refine hK _ _ ?_
       clear hK K
       simp only [b0v, b0w]
       obtain rfl := sI9 hm0
       exact b01 (by simp only [go_sem]) (b0d _)
      simp only [b0u]
      obtain ⟨b17, hl17, hm0⟩ := b0g hm0
      refine b1p hl17 (fun | i_8, t, h => t 1 = .fp [.fs 1 (List.map eS m.Inputs), .fs 1 (List.map eS m.Outputs), .fs 2 (List.map b0l m.Counters), .fs 2 (List.map b0m m.States), .fs 4 (List.map b0i m.Rules)] 0 /\ t 8 = I i_8) ?_ ?_
      ·exact ⟨s1, (by first | (simp only [go_sem]; done) | rfl)⟩
      ·rintro i_8 o t h ⟨s1, s8⟩ hm1 hb17
       simp only [b70] at hm1
       rw [g0f]
       refine b0t ?_
       refine b0b fun K hK => ?_
       simp only [go_sem, s1, s8]
       refine hK _ _ ?_
       clear hK K
       refine b0k fun K18 hK18 => ?_
       simp only [go_sem]
       refine b0j (fun hc19 => ?_) (fun hc19 => ?_)
       ·rw [b0q hc19] at hm1
        simp only [b0r, b0f]
        refine hK18 _ _ ?_
        refine b0k fun K20 hK20 => ?_
        have J21 : ∀ (t : Slots) (h : Heap), t 1 = .fp [.fs 1 (List.map eS m.Inputs), .fs 1 (List.map eS m.Outputs), .fs 2 (List.map b0l m.Counters), .fs 2 (List.map b0m m.States), .fs 4 (List.map b0i m.Rules)] 0 -> t 8 = I i_8 -> c5n i_8 = some o -> K20 t h := by
         intro t h s1 s8 hm1
         refine hK20 _ _ ?_
         unfold c5n at hm1
         refine b04 fun K hK => ?_
         simp only [go_sem, s8]
         refine hK _ _ ?_
         clear hK K
         simp only [b0f]
         obtain rfl := sI9 hm1
         refine ⟨_, rfl, ?_⟩
         exact ⟨s1, (by first | (simp only [go_sem]; done) | rfl)⟩
        simp only [b0u]
        obtain ⟨x23, h_x23, hm1⟩ := b0g hm1
        have h_x230 := b05 h_x23
        have h_x231 := b08 h_x23
        refine b0b fun K hK => ?_
        simp only [go_sem, s1, s8, b1b h_x23, h_x231]
        refine hK _ _ ?_
        clear hK K
        refine b0t ?_
        obtain ⟨c27, h_c27, hm1⟩ := b0g hm1
        refine b2v (fun t h => ∃ i9 : Nat, t 1 = .fp [.fs 1 (List.map eS m.Inputs), .fs 1 (List.map eS m.Outputs), .fs 2 (List.map b0l m.Counters), .fs 2 (List.map b0m m.States), .fs 4 (List.map b0i m.Rules)] 0 /\ t 8 = I i_8 /\ t 9 = .rp i9 0 0 /\ t 154 = B (c27 || (decide (4 < (List.length x23.Sets : Int)))) /\ h.ob i9 = some (4, [[I x23.From, I x23.To, .fs 1 (List.map b0x x23.When), .fs 2 (List.map b2j x23.Sets)]]) /\ i9 < h.nx) (fun K hK => ?_) ?_
        ·simp only [go_sem, s1]
         refine b03 (b37 x23.From (-1) (wr ((List.length m.States : Int) - 1))) ?_
         simp only [go_sem]
         refine b0j (fun hg28 => ?_) (fun hg28 => ?_)
         ·simp only [hg28, eq_self, if_true, Bool.true_or] at h_c27
          obtain rfl := sI9 h_c27
          simp only [go_sem, hg28]
          exact hK _ _ ⟨h.nx, s1, s8, (by first | (simp only [go_sem]; done) | rfl), (by first | (simp only [go_sem]; done) | rfl), (by simp only [go_sem]), (by simp only [go_sem])⟩
         ·simp only [go_sem, s1, hg28]
          refine b03 (b37 x23.To 0 (wr ((List.length m.States : Int) - 1))) ?_
          simp only [go_sem, hg28]
          refine b0j (fun hg29 => ?_) (fun hg29 => ?_)
          ·simp only [hg28, hg29, eq_self, if_true, Bool.or_true] at h_c27
           obtain rfl := sI9 h_c27
           simp only [go_sem, hg28, hg29]
           exact hK _ _ ⟨h.nx, s1, s8, (by first | (simp only [go_sem]; done) | rfl), (by first | (simp only [go_sem]; done) | rfl), (by simp only [go_sem]), (by simp only [go_sem])⟩
          ·simp only [hg28, hg29, if_false, Bool.or_false, Bool.false_eq_true] at h_c27
           obtain ⟨y26, h_y26, h_c27⟩ := b0g h_c27
           obtain rfl := sI9 h_c27
           simp only [go_sem, s1, hg28, hg29]
           refine b03 (c1c m x23.When false _ h_y26) ?_
           simp only [go_sem, hg28, hg29]
           refine b0j (fun hg30 => ?_) (fun hg30 => ?_)
           ·simp only [go_sem, hg28, hg29, hg30]
            exact hK _ _ ⟨h.nx, s1, s8, (by first | (simp only [go_sem]; done) | rfl), (by first | (simp only [go_sem, hg30]; done) | rfl), (by simp only [go_sem]), (by simp only [go_sem])⟩
           ·simp only [go_sem, hg28, hg29, hg30]
            exact hK _ _ ⟨h.nx, s1, s8, (by first | (simp only [go_sem]; done) | rfl), (by first | (simp only [go_sem, hg30]; done) | rfl), (by simp only [go_sem]), (by simp only [go_sem])⟩
        ·rintro t h ⟨i9, s1, s8, s9, s154, Qw, Q13⟩
         refine b0k fun K31 hK31 => ?_
         simp only [go_sem, s154]
         refine b0j (fun hc32 => ?_) (fun hc32 => ?_)
         ·rw [b0q hc32] at hm1
          refine b0b fun K hK => ?_
          simp only [go_sem]
          refine hK _ _ ?_
          clear hK K
          simp only [b0v, b1n, b2f, b0w]
          obtain rfl := sI9 hm1
          obtain rfl := hb17 _ rfl
          try dsimp only at hm0
          obtain rfl := sI9 hm0
          exact b01 (by simp only [go_sem]) (b0d _)
         ·rw [b0p hc32] at hm1
          simp only [b0r, b0f]
          refine hK31 _ _ ?_
          refine b0b fun K hK => ?_
          simp only [go_sem]
          refine hK _ _ ?_
          clear hK K
          simp only [b0u]
          obtain ⟨b33, hl33, hm1⟩ := b0g hm1
          refine b1p hl33 (fun | k_10, t, h => t 1 = .fp [.fs 1 (List.map eS m.Inputs), .fs 1 (List.map eS m.Outputs), .fs 2 (List.map b0l m.Counters), .fs 2 (List.map b0m m.States), .fs 4 (List.map b0i m.Rules)] 0 /\ t 8 = I i_8 /\ t 9 = .rp i9 0 0 /\ t 10 = I k_10 /\ h.ob i9 = some (4, [[I x23.From, I x23.To, .fs 1 (List.map b0x x23.When), .fs 2 (List.map b2j x23.Sets)]]) /\ i9 < h.nx) ?_ ?_
          ·exact ⟨s1, s8, s9, (by first | (simp only [go_sem]; done) | rfl), Qw, Q13⟩
          ·rintro k_10 o t h ⟨s1, s8, s9, s10, Qw, Q13⟩ hm2 hb33
           simp only [c1x] at hm2
           rw [g0e]
           refine b0t ?_
           refine b0b fun K hK => ?_
           simp only [go_sem, s9, s10, Qw]
           refine hK _ _ ?_
           clear hK K
           refine b0k fun K34 hK34 => ?_
           simp only [go_sem]
           refine b0j (fun hc35 => ?_) (fun hc35 => ?_)
           ·rw [b0q hc35] at hm2
            simp only [b0r, b0f]
            refine hK34 _ _ ?_
            refine b0k fun K36 hK36 => ?_
            simp only [b0u]
            obtain ⟨x38, h_x38, hm2⟩ := b0g hm2
            have h_x380 := b05 h_x38
            have h_x381 := b08 h_x38
            refine b2v (fun t h => t 1 = .fp [.fs 1 (List.map eS m.Inputs), .fs 1 (List.map eS m.Outputs), .fs 2 (List.map b0l m.Counters), .fs 2 (List.map b0m m.States), .fs 4 (List.map b0i m.Rules)] 0 /\ t 8 = I i_8 /\ t 9 = .rp i9 0 0 /\ t 10 = I k_10 /\ t 183 = B ((!(b1y x38.Kind 1 3)) || (!(b1y x38.Counter 0 (wr ((List.length m.Counters : Int) - 1))))) /\ h.ob i9 = some (4, [[I x23.From, I x23.To, .fs 1 (List.map b0x x23.When), .fs 2 (List.map b2j x23.Sets)]]) /\ i9 < h.nx) (fun K hK => ?_) ?_
            ·simp only [go_sem, s9, s10, Qw, b1b h_x38, h_x381]
             refine b03 (b37 x38.Kind 1 3) ?_
             simp only [go_sem]
             refine b0j (fun hg39 => ?_) (fun hg39 => ?_)
             ·simp only [go_sem, hg39]
              exact hK _ _ ⟨s1, s8, s9, s10, (by first | (simp only [go_sem, hg39]; done) | rfl), Qw, Q13⟩
             ·simp only [go_sem, s1, s9, s10, Qw, b1b h_x38, hg39]
              refine b03 (b37 x38.Counter 0 (wr ((List.length m.Counters : Int) - 1))) ?_
              simp only [go_sem, hg39]
              exact hK _ _ ⟨s1, s8, s9, s10, (by first | (simp only [go_sem, hg39]; done) | rfl), Qw, Q13⟩
            ·rintro t h ⟨s1, s8, s9, s10, s183, Qw, Q13⟩
             simp only [go_sem, s183]
             refine b0j (fun hc40 => ?_) (fun hc40 => ?_)
             ·rw [b0q hc40] at hm2
              refine b0b fun K hK => ?_
              simp only [go_sem]
              refine hK _ _ ?_
              clear hK K
              simp only [b0v, b1n, b2f, b0w]
              obtain rfl := sI9 hm2
              obtain rfl := hb33 _ rfl
              try dsimp only at hm1
              obtain rfl := sI9 hm1
              obtain rfl := hb17 _ rfl
              try dsimp only at hm0
              obtain rfl := sI9 hm0
              exact b01 (by simp only [go_sem]) (b0d _)
             ·rw [b0p hc40] at hm2
              simp only [b0r, b02, b0f]
              refine hK36 _ _ ?_
              refine b04 fun K hK => ?_
              simp only [go_sem, s10]
              refine hK _ _ ?_
              clear hK K
              simp only [b0f]
              obtain rfl := sI9 hm2
              refine ⟨_, rfl, ?_⟩
              exact ⟨s1, s8, s9, (by first | (simp only [go_sem]; done) | rfl), Qw, Q13⟩
           ·rw [b0p hc35] at hm2
            simp only [b1e, b1h, b1g, b02, b0f]
            obtain rfl := sI9 hm2
            obtain rfl := hb33 _ rfl
            try dsimp only at hm1
            exact J21  _ _ s1 s8 hm1
       ·rw [b0p hc19] at hm1
        simp only [b1e, b1h, b1g, b0f]
        obtain rfl := sI9 hm1
        obtain rfl := hb17 _ rfl
        try dsimp only at hm0
        exact J16  _ _  hm0
     simp only [b0u]
     obtain ⟨b43, hl43, hm0⟩ := b0g hm0
     refine b1p hl43 (fun | i_7, t, h => t 1 = .fp [.fs 1 (List.map eS m.Inputs), .fs 1 (List.map eS m.Outputs), .fs 2 (List.map b0l m.Counters), .fs 2 (List.map b0m m.States), .fs 4 (List.map b0i m.Rules)] 0 /\ t 7 = I i_7) ?_ ?_
     ·exact ⟨s1, (by first | (simp only [go_sem]; done) | rfl)⟩
     ·rintro i_7 o t h ⟨s1, s7⟩ hm1 hb43
      simp only [c1w] at hm1
      rw [g0d]
      refine b0t ?_
      refine b0b fun K hK => ?_
      simp only [go_sem, s1, s7]
      refine hK _ _ ?_
      clear hK K
      refine b0k fun K44 hK44 => ?_
      simp only [go_sem]
      refine b0j (fun hc45 => ?_) (fun hc45 => ?_)
      ·rw [b0q hc45] at hm1
       simp only [b0r, b0f]
       refine hK44 _ _ ?_
       refine b0k fun K46 hK46 => ?_
       simp only [b0u]
       obtain ⟨x49, h_x49, hm1⟩ := b0g hm1
       have h_x490 := b05 h_x49
       have h_x491 := b08 h_x49
       obtain ⟨q50, h_q50, hm1⟩ := b0g hm1
       refine b0b fun K hK => ?_
       simp only [go_sem, s1, s7, b1b h_x49, h_x491, c04 h_q50]
       refine b03 (b37 x49.Shows 0 (wr (q50 - 1))) ?_
       simp only [go_sem]
       refine hK _ _ ?_
       clear hK K
       simp only [go_sem]
       refine b0j (fun hc51 => ?_) (fun hc51 => ?_)
       ·rw [b0q hc51] at hm1
        refine b0b fun K hK => ?_
        simp only [go_sem]
        refine hK _ _ ?_
        clear hK K
        simp only [b0v, b1n, b2f, b0w]
        obtain rfl := sI9 hm1
        obtain rfl := hb43 _ rfl
        try dsimp only at hm0
        obtain rfl := sI9 hm0
        exact b01 (by simp only [go_sem]) (b0d _)
       ·rw [b0p hc51] at hm1
        simp only [b0r, b02, b0f]
        refine hK46 _ _ ?_
        refine b04 fun K hK => ?_
        simp only [go_sem, s7]
        refine hK _ _ ?_
        clear hK K
        simp only [b0f]
        obtain rfl := sI9 hm1
        refine ⟨_, rfl, ?_⟩
        exact ⟨s1, (by first | (simp only [go_sem]; done) | rfl)⟩
      ·rw [b0p hc45] at hm1
       simp only [b1e, b1h, b1g, b0f]
       obtain rfl := sI9 hm1
       obtain rfl := hb43 _ rfl
       try dsimp only at hm0
       exact J14  _ _ s1 hm0
    simp only [b0u]
    obtain ⟨b53, hl53, hm0⟩ := b0g hm0
    refine b1p hl53 (fun | i_6, t, h => t 1 = .fp [.fs 1 (List.map eS m.Inputs), .fs 1 (List.map eS m.Outputs), .fs 2 (List.map b0l m.Counters), .fs 2 (List.map b0m m.States), .fs 4 (List.map b0i m.Rules)] 0 /\ t 6 = I i_6) ?_ ?_
    ·exact ⟨s1, (by first | (simp only [go_sem]; done) | rfl)⟩
    ·rintro i_6 o t h ⟨s1, s6⟩ hm1 hb53
     simp only [c1v] at hm1
     rw [g0c]
     refine b0t ?_
     refine b0b fun K hK => ?_
     simp only [go_sem, s1, s6]
     refine hK _ _ ?_
     clear hK K
     refine b0k fun K54 hK54 => ?_
     simp only [go_sem]
     refine b0j (fun hc55 => ?_) (fun hc55 => ?_)
     ·rw [b0q hc55] at hm1
      simp only [b0r, b0f]
      refine hK54 _ _ ?_
      refine b0k fun K56 hK56 => ?_
      simp only [b0u]
      obtain ⟨x58, h_x58, hm1⟩ := b0g hm1
      have h_x580 := b05 h_x58
      have h_x581 := b08 h_x58
      refine b0b fun K hK => ?_
      simp only [go_sem, s1, s6, b1b h_x58, h_x581]
      refine b03 (b37 x58.Max 1 7) ?_
      simp only [go_sem]
      refine hK _ _ ?_
      clear hK K
      simp only [go_sem]
      refine b0j (fun hc59 => ?_) (fun hc59 => ?_)
      ·rw [b0q hc59] at hm1
       refine b0b fun K hK => ?_
       simp only [go_sem]
       refine hK _ _ ?_
       clear hK K
       simp only [b0v, b1n, b2f, b0w]
       obtain rfl := sI9 hm1
       obtain rfl := hb53 _ rfl
       try dsimp only at hm0
       obtain rfl := sI9 hm0
       exact b01 (by simp only [go_sem]) (b0d _)
      ·rw [b0p hc59] at hm1
       simp only [b0r, b02, b0f]
       refine hK56 _ _ ?_
       refine b04 fun K hK => ?_
       simp only [go_sem, s6]
       refine hK _ _ ?_
       clear hK K
       simp only [b0f]
       obtain rfl := sI9 hm1
       refine ⟨_, rfl, ?_⟩
       exact ⟨s1, (by first | (simp only [go_sem]; done) | rfl)⟩
     ·rw [b0p hc55] at hm1
      simp only [b1e, b1h, b1g, b0f]
      obtain rfl := sI9 hm1
      obtain rfl := hb53 _ rfl
      try dsimp only at hm0
      exact J12  _ _ s1 hm0
   simp only [b0u]
   obtain ⟨b61, hl61, hm0⟩ := b0g hm0
   refine b1p hl61 (fun | i_4, t, h => t 1 = .fp [.fs 1 (List.map eS m.Inputs), .fs 1 (List.map eS m.Outputs), .fs 2 (List.map b0l m.Counters), .fs 2 (List.map b0m m.States), .fs 4 (List.map b0i m.Rules)] 0 /\ t 3 = .fs 1 (List.map eS y8) /\ t 4 = I i_4) ?_ ?_
   ·exact ⟨s1, (by first | (simp only [go_sem]; done) | rfl), (by first | (simp only [go_sem]; done) | rfl)⟩
   ·rintro i_4 o t h ⟨s1, s3, s4⟩ hm1 hb61
    simp only [b6z] at hm1
    rw [g0b]
    refine b0t ?_
    refine b0b fun K hK => ?_
    simp only [go_sem, s3, s4]
    refine hK _ _ ?_
    clear hK K
    refine b0k fun K62 hK62 => ?_
    simp only [go_sem]
    refine b0j (fun hc63 => ?_) (fun hc63 => ?_)
    ·rw [b0q hc63] at hm1
     simp only [b0r, b0f]
     refine hK62 _ _ ?_
     refine b0k fun K64 hK64 => ?_
     have J65 : ∀ (t : Slots) (h : Heap), t 1 = .fp [.fs 1 (List.map eS m.Inputs), .fs 1 (List.map eS m.Outputs), .fs 2 (List.map b0l m.Counters), .fs 2 (List.map b0m m.States), .fs 4 (List.map b0i m.Rules)] 0 -> t 3 = .fs 1 (List.map eS y8) -> t 4 = I i_4 -> c5o i_4 = some o -> K64 t h := by
      intro t h s1 s3 s4 hm1
      refine hK64 _ _ ?_
      unfold c5o at hm1
      refine b04 fun K hK => ?_
      simp only [go_sem, s4]
      refine hK _ _ ?_
      clear hK K
      simp only [b0f]
      obtain rfl := sI9 hm1
      refine ⟨_, rfl, ?_⟩
      exact ⟨s1, s3, (by first | (simp only [go_sem]; done) | rfl)⟩
     simp only [b0u]
     refine b0t ?_
     obtain ⟨x69, h_x69, hm1⟩ := b0g hm1
     have h_x690 := b05 h_x69
     have h_x691 := b08 h_x69
     obtain ⟨c71, h_c71, hm1⟩ := b0g hm1
     refine b2v (fun t h => t 1 = .fp [.fs 1 (List.map eS m.Inputs), .fs 1 (List.map eS m.Outputs), .fs 2 (List.map b0l m.Counters), .fs 2 (List.map b0m m.States), .fs 4 (List.map b0i m.Rules)] 0 /\ t 3 = .fs 1 (List.map eS y8) /\ t 4 = I i_4 /\ t 61 = B c71) (fun K hK => ?_) ?_
     ·simp only [go_sem, s3, s4, b1b h_x69, h_x691]
      refine b0j (fun hg72 => ?_) (fun hg72 => ?_)
      ·simp only [hg72, eq_self, if_true] at h_c71
       obtain rfl := sI9 h_c71
       simp only [go_sem, hg72]
       exact hK _ _ ⟨s1, s3, s4, (by first | (simp only [go_sem]; done) | rfl)⟩
      ·simp only [hg72, if_false, Bool.false_eq_true] at h_c71
       obtain ⟨y70, h_y70, h_c71⟩ := b0g h_c71
       obtain rfl := sI9 h_c71
       simp only [go_sem, s3, s4, b1b h_x69, hg72]
       refine b03 (d0d x69 _ h_y70) ?_
       simp only [go_sem, hg72]
       exact hK _ _ ⟨s1, s3, s4, (by first | (simp only [go_sem]; done) | rfl)⟩
     ·rintro t h ⟨s1, s3, s4, s61⟩
      refine b0k fun K73 hK73 => ?_
      simp only [go_sem, s61]
      refine b0j (fun hc74 => ?_) (fun hc74 => ?_)
      ·rw [b0q hc74] at hm1
       refine b0b fun K hK => ?_
       simp only [go_sem]
       refine hK _ _ ?_
       clear hK K
       simp only [b0v, b1n, b2f, b0w]
       obtain rfl := sI9 hm1
       obtain rfl := hb61 _ rfl
       try dsimp only at hm0
       obtain rfl := sI9 hm0
       exact b01 (by simp only [go_sem]) (b0d _)
      ·rw [b0p hc74] at hm1
       simp only [b0r, b0f]
       refine hK73 _ _ ?_
       refine b0b fun K hK => ?_
       simp only [go_sem]
       refine hK _ _ ?_
       clear hK K
       simp only [b0u]
       obtain ⟨b75, hl75, hm1⟩ := b0g hm1
       refine b1p hl75 (fun | k_5, t, h => t 1 = .fp [.fs 1 (List.map eS m.Inputs), .fs 1 (List.map eS m.Outputs), .fs 2 (List.map b0l m.Counters), .fs 2 (List.map b0m m.States), .fs 4 (List.map b0i m.Rules)] 0 /\ t 3 = .fs 1 (List.map eS y8) /\ t 4 = I i_4 /\ t 5 = I k_5) ?_ ?_
       ·exact ⟨s1, s3, s4, (by first | (simp only [go_sem]; done) | rfl)⟩
       ·rintro k_5 o t h ⟨s1, s3, s4, s5⟩ hm2 hb75
        simp only [b7z] at hm2
        rw [g0a]
        refine b0t ?_
        refine b0b fun K hK => ?_
        simp only [go_sem, s4, s5]
        refine hK _ _ ?_
        clear hK K
        refine b0k fun K76 hK76 => ?_
        simp only [go_sem]
        refine b0j (fun hc77 => ?_) (fun hc77 => ?_)
        ·rw [b0q hc77] at hm2
         simp only [b0r, b0f]
         refine hK76 _ _ ?_
         refine b0k fun K78 hK78 => ?_
         simp only [b0u]
         obtain ⟨x81, h_x81, hm2⟩ := b0g hm2
         have h_x810 := b05 h_x81
         have h_x811 := b08 h_x81
         obtain ⟨x82, h_x82, hm2⟩ := b0g hm2
         have h_x820 := b05 h_x82
         have h_x821 := b08 h_x82
         refine b0b fun K hK => ?_
         simp only [go_sem, s3, s4, s5, b1b h_x81, b1b h_x82]
         refine hK _ _ ?_
         clear hK K
         simp only [go_sem]
         refine b0j (fun hc83 => ?_) (fun hc83 => ?_)
         ·rw [b0q hc83] at hm2
          refine b0b fun K hK => ?_
          simp only [go_sem]
          refine hK _ _ ?_
          clear hK K
          simp only [b0v, b1n, b2f, b0w]
          obtain rfl := sI9 hm2
          obtain rfl := hb75 _ rfl
          try dsimp only at hm1
          obtain rfl := sI9 hm1
          obtain rfl := hb61 _ rfl
          try dsimp only at hm0
          obtain rfl := sI9 hm0
          exact b01 (by simp only [go_sem]) (b0d _)
         ·rw [b0p hc83] at hm2
          simp only [b0r, b02, b0f]
          refine hK78 _ _ ?_
          refine b04 fun K hK => ?_
          simp only [go_sem, s5]
          refine hK _ _ ?_
          clear hK K
          simp only [b0f]
          obtain rfl := sI9 hm2
          refine ⟨_, rfl, ?_⟩
          exact ⟨s1, s3, s4, (by first | (simp only [go_sem]; done) | rfl)⟩
        ·rw [b0p hc77] at hm2
         simp only [b1e, b1h, b1g, b02, b0f]
         obtain rfl := sI9 hm2
         obtain rfl := hb75 _ rfl
         try dsimp only at hm1
         exact J65  _ _ s1 s3 s4 hm1
    ·rw [b0p hc63] at hm1
     simp only [b1e, b1h, b1g, b0f]
     obtain rfl := sI9 hm1
     obtain rfl := hb61 _ rfl
     try dsimp only at hm0
     exact J10  _ _ s1 hm0
theorem c98 (hf : Has O "newel/newelref04.CheckConds" x_r04_CheckConds) (c1a : c26 O) (c1c : c3b O) : c7l O := by
 intro m l r hm0
 unfold c1t at hm0
 refine b1k hf rfl (b0a (.agg _ (b0a (b0e fun a _ => b00 a) (b0a (b0e fun a _ => b00 a) (b0a (b0e fun a _ => b1r a) (b0a (b0e fun a _ => b1t a) (b0a (b0e fun a _ => b1s a) b0o)))))) (b0a (b0e fun a _ => c4f a) b0o)) (b0d _) ?_
 refine b1f (fun t h => t 0 = .agg [.fs 1 (List.map eS m.Inputs), .fs 1 (List.map eS m.Outputs), .fs 2 (List.map b0l m.Counters), .fs 2 (List.map b0m m.States), .fs 4 (List.map b0i m.Rules)] /\ t 1 = .fs 1 (List.map b4t l)) ⟨rfl, rfl⟩ fun t h ⟨s0, s1⟩ => ?_
 simp only [x_r04_CheckConds]
 refine b0b fun K hK => ?_
 simp only [go_sem, s0]
 refine hK _ _ ?_
 clear hK K
 obtain ⟨y2, h_y2, hm0⟩ := b0g hm0
 refine b0b fun K hK => ?_
 simp only [go_sem]
 refine b03 (c1a m _ h_y2) ?_
 simp only [go_sem]
 refine hK _ _ ?_
 clear hK K
 refine b0t ?_
 refine b0b fun K hK => ?_
 simp only [go_sem]
 refine hK _ _ ?_
 clear hK K
 refine b0k fun K3 hK3 => ?_
 simp only [go_sem]
 refine b0j (fun hc4 => ?_) (fun hc4 => ?_)
 ·rw [b0q hc4] at hm0
  refine b0b fun K hK => ?_
  simp only [go_sem]
  refine hK _ _ ?_
  clear hK K
  simp only [b0v, b1n, b0w]
  obtain rfl := sI9 hm0
  exact b01 (by simp only [go_sem]) (b0d _)
 ·rw [b0p hc4] at hm0
  simp only [b0r, b0f]
  refine hK3 _ _ ?_
  refine b0t ?_
  refine b0b fun K hK => ?_
  simp only [go_sem]
  refine hK _ _ ?_
  clear hK K
  refine b0k fun K5 hK5 => ?_
  have J6 : ∀ (t : Slots) (h : Heap), d1o = some r -> K5 t h := by
   intro t h hm0
   refine hK5 _ _ ?_
   unfold d1o at hm0
   refine b0b fun K hK => ?_
   simp only [go_sem]
   refine hK _ _ ?_
   clear hK K
   simp only [b0v, b0w]
   obtain rfl := sI9 hm0
   exact b01 (by simp only [go_sem]) (b0d _)
  simp only [b0u]
  obtain ⟨b7, hl7, hm0⟩ := b0g hm0
  refine b1p hl7 (fun | i_6, t, h => t 1 = .fs 1 (List.map b4t l) /\ t 2 = .fp [.fs 1 (List.map eS m.Inputs), .fs 1 (List.map eS m.Outputs), .fs 2 (List.map b0l m.Counters), .fs 2 (List.map b0m m.States), .fs 4 (List.map b0i m.Rules)] 0 /\ t 6 = I i_6) ?_ ?_
  ·exact ⟨s1, (by first | (simp only [go_sem]; done) | rfl), (by first | (simp only [go_sem]; done) | rfl)⟩
  ·rintro i_6 o t h ⟨s1, s2, s6⟩ hm1 hb7
   simp only [c1u] at hm1
   rw [d99]
   refine b0t ?_
   refine b0b fun K hK => ?_
   simp only [go_sem, s1, s6]
   refine hK _ _ ?_
   clear hK K
   refine b0k fun K8 hK8 => ?_
   simp only [go_sem]
   refine b0j (fun hc9 => ?_) (fun hc9 => ?_)
   ·rw [b0q hc9] at hm1
    simp only [b0r, b0f]
    refine hK8 _ _ ?_
    refine b0k fun K10 hK10 => ?_
    simp only [b0u]
    obtain ⟨x13, h_x13, hm1⟩ := b0g hm1
    have h_x130 := b05 h_x13
    have h_x131 := b08 h_x13
    obtain ⟨y14, h_y14, hm1⟩ := b0g hm1
    refine b0b fun K hK => ?_
    simp only [go_sem, s1, s2, s6, b1b h_x13, h_x131]
    refine b03 (c1c m x13 true _ h_y14) ?_
    simp only [go_sem]
    refine hK _ _ ?_
    clear hK K
    simp only [go_sem]
    refine b0j (fun hc15 => ?_) (fun hc15 => ?_)
    ·rw [b0q hc15] at hm1
     refine b0b fun K hK => ?_
     simp only [go_sem]
     refine hK _ _ ?_
     clear hK K
     simp only [b0v, b1n, b2f, b0w]
     obtain rfl := sI9 hm1
     obtain rfl := hb7 _ rfl
     try dsimp only at hm0
     obtain rfl := sI9 hm0
     exact b01 (by simp only [go_sem]) (b0d _)
    ·rw [b0p hc15] at hm1
     simp only [b0r, b02, b0f]
     refine hK10 _ _ ?_
     refine b04 fun K hK => ?_
     simp only [go_sem, s6]
     refine hK _ _ ?_
     clear hK K
     simp only [b0f]
     obtain rfl := sI9 hm1
     refine ⟨_, rfl, ?_⟩
     exact ⟨s1, s2, (by first | (simp only [go_sem]; done) | rfl)⟩
   ·rw [b0p hc9] at hm1
    simp only [b1e, b1h, b1g, b0f]
    obtain rfl := sI9 hm1
    obtain rfl := hb7 _ rfl
    try dsimp only at hm0
    exact J6  _ _  hm0
theorem c99 (hf : Has O "newel/newelref04.Copy" x_r04_Copy) (c1b : c29 O) : c7m O := by
 intro m r hm0
 unfold c1y at hm0
 refine b1k hf rfl (b0a (.agg _ (b0a (b0e fun a _ => b00 a) (b0a (b0e fun a _ => b00 a) (b0a (b0e fun a _ => b1r a) (b0a (b0e fun a _ => b1t a) (b0a (b0e fun a _ => b1s a) b0o)))))) b0o) (.agg _ (b0a (b0e fun a _ => b00 a) (b0a (b0e fun a _ => b00 a) (b0a (b0e fun a _ => b1r a) (b0a (b0e fun a _ => b1t a) (b0a (b0e fun a _ => b1s a) b0o)))))) ?_
 refine b1f (fun t h => t 0 = .agg [.fs 1 (List.map eS m.Inputs), .fs 1 (List.map eS m.Outputs), .fs 2 (List.map b0l m.Counters), .fs 2 (List.map b0m m.States), .fs 4 (List.map b0i m.Rules)]) rfl fun t h s0 => ?_
 simp only [x_r04_Copy]
 refine b0b fun K hK => ?_
 simp only [go_sem, s0]
 refine hK _ _ ?_
 clear hK K
 obtain ⟨l5, h_l5, hm0⟩ := b0g hm0
 obtain ⟨l6, h_l6, hm0⟩ := b0g hm0
 obtain ⟨l7, h_l7, hm0⟩ := b0g hm0
 obtain ⟨l8, h_l8, hm0⟩ := b0g hm0
 refine b0b fun K hK => ?_
 simp only [go_sem]
 refine b22 (f := eS) (l := ([])) (m := m.Inputs) ?_ ?_ ?_ ?_ h_l5 ?_
 ·exact (b2u (by simp only [go_sem]) (by simp only [go_sem]) (by simp only [go_sem]))
 ·exact b6v
 ·exact b6u
 ·exact (fun e => by cases e)
 simp only [go_sem]
 refine b22 (f := eS) (l := ([])) (m := m.Outputs) ?_ ?_ ?_ ?_ h_l6 ?_
 ·exact (b2u (by simp only [go_sem]) (by simp only [go_sem]) (by simp only [go_sem]))
 ·exact b6v
 ·exact b6u
 ·exact (fun e => by cases e)
 simp only [go_sem]
 refine b22 (f := b0l) (l := ([])) (m := m.Counters) ?_ ?_ ?_ ?_ h_l7 ?_
 ·exact (b2u (by simp only [go_sem]) (by simp only [go_sem]) (by simp only [go_sem]))
 ·exact b6v
 ·exact b6u
 ·exact (fun e => by cases e)
 simp only [go_sem]
 refine b22 (f := b0m) (l := ([])) (m := m.States) ?_ ?_ ?_ ?_ h_l8 ?_
 ·exact (b2u (by simp only [go_sem]) (by simp only [go_sem]) (by simp only [go_sem]))
 ·exact b6v
 ·exact b6u
 ·exact (fun e => by cases e)
 simp only [go_sem]
 refine hK _ _ ?_
 clear hK K
 refine b0t ?_
 refine b0b fun K hK => ?_
 simp only [go_sem]
 refine hK _ _ ?_
 clear hK K
 refine b0k fun K9 hK9 => ?_
 have J10 : ∀ (o_3_4 : List Rule) (i2 : Nat) (i3 : Nat) (i3_1 : Nat) (i3_2 : Nat) (i3_3 : Nat) (i3_4 : Nat) (v3 : AV) (t : Slots) (h : Heap), t 2 = .rp i2 0 0 -> t 3 = .rp i3 0 0 -> h.ob i2 = some (5, [[.v (.slice none 0 0), .v (.slice none 0 0), .v (.slice none 0 0), .v (.slice none 0 0), .v (.slice none 0 0)]]) -> i2 < h.nx -> h.ob i3 = some (5, [[.rs i3_1 0 (List.length l5), .rs i3_2 0 (List.length l6), .rs i3_3 0 (List.length l7), .rs i3_4 0 (List.length l8), v3]]) -> i3 < h.nx -> h.ob i3_1 = some (1, List.map eS l5) -> i3_1 < h.nx -> h.ob i3_2 = some (1, List.map eS l6) -> i3_2 < h.nx -> h.ob i3_3 = some (2, List.map b0l l7) -> i3_3 < h.nx -> h.ob i3_4 = some (2, List.map b0m l8) -> i3_4 < h.nx -> b15 h v3 4 (List.map b0i o_3_4) -> ¬i2 = i3 -> ¬i2 = i3_1 -> ¬i2 = i3_2 -> ¬i2 = i3_3 -> ¬i2 = i3_4 -> b0s v3 i2 -> ¬i3 = i3_1 -> ¬i3 = i3_2 -> ¬i3 = i3_3 -> ¬i3 = i3_4 -> b0s v3 i3 -> ¬i3_1 = i3_2 -> ¬i3_1 = i3_3 -> ¬i3_1 = i3_4 -> b0s v3 i3_1 -> ¬i3_2 = i3_3 -> ¬i3_2 = i3_4 -> b0s v3 i3_2 -> ¬i3_3 = i3_4 -> b0s v3 i3_3 -> b0s v3 i3_4 -> c5q l5 l6 l7 l8 o_3_4 = some r -> K9 t h := by
  intro o_3_4 i2 i3 i3_1 i3_2 i3_3 i3_4 v3 t h s2 s3 Q1m Q1n Q1k Q1i Q1o Q1p Q1q Q1r Q1s Q1t Q1u Q1v Q1l Q1w Q1x Q1y Q1z Q20 Q21 Q22 Q23 Q24 Q25 Q26 Q27 Q28 Q29 Q2a Q2b Q2c Q2d Q2e Q2f Q2g hm0
  refine hK9 _ _ ?_
  unfold c5q at hm0
  refine b0b fun K hK => ?_
  simp only [go_sem, s2, s3, Q1m, Q1k]
  refine hK _ _ ?_
  clear hK K
  simp only [b0v, b0w]
  obtain rfl := sI9 hm0
  exact b8t (id := i2) (m := 5) (cs := [.rs i3_1 0 (List.length l5), .rs i3_2 0 (List.length l6), .rs i3_3 0 (List.length l7), .rs i3_4 0 (List.length l8), v3]) (by simp only [go_sem, s2]) (by simp only [go_sem]) rfl (d4l (.cons (b29 (f := eS) (l := l5) (id := i3_1) (by simp only [go_sem, Q1o, b1x Q1x]) (by first | rfl | simp only [go_sem, lA9, mA9]) b00 c1k) (.cons (b29 (f := eS) (l := l6) (id := i3_2) (by simp only [go_sem, Q1q, b1x Q1y]) (by first | rfl | simp only [go_sem, lA9, mA9]) b00 c1k) (.cons (b29 (f := b0l) (l := l7) (id := i3_3) (by simp only [go_sem, Q1s, b1x Q1z]) (by first | rfl | simp only [go_sem, lA9, mA9]) b1r j20) (.cons (b29 (f := b0m) (l := l8) (id := i3_4) (by simp only [go_sem, Q1u, b1x Q20]) (by first | rfl | simp only [go_sem, lA9, mA9]) b1t j25) (.cons (c01 (f := b0i) (l := o_3_4) (b3d Q1l (by intro j hj hl; first | rfl | simp only [go_sem, b39 hj Q21]) (by first | omega | exact Nat.le_refl _ | (simp only [go_sem, nxs] <;> omega))) b1s j23) (.nil)))))))
 simp only [b0u]
 obtain ⟨b11, hl11, hm0⟩ := b0g hm0
 refine b1p hl11 (fun | (o_3_4, i_4), t, h => ∃ i2 : Nat, ∃ i3 : Nat, ∃ i3_1 : Nat, ∃ i3_2 : Nat, ∃ i3_3 : Nat, ∃ i3_4 : Nat, ∃ v3 : AV, t 1 = .fp [.fs 1 (List.map eS m.Inputs), .fs 1 (List.map eS m.Outputs), .fs 2 (List.map b0l m.Counters), .fs 2 (List.map b0m m.States), .fs 4 (List.map b0i m.Rules)] 0 /\ t 2 = .rp i2 0 0 /\ t 3 = .rp i3 0 0 /\ t 4 = I i_4 /\ h.ob i2 = some (5, [[.v (.slice none 0 0), .v (.slice none 0 0), .v (.slice none 0 0), .v (.slice none 0 0), .v (.slice none 0 0)]]) /\ i2 < h.nx /\ h.ob i3 = some (5, [[.rs i3_1 0 (List.length l5), .rs i3_2 0 (List.length l6), .rs i3_3 0 (List.length l7), .rs i3_4 0 (List.length l8), v3]]) /\ i3 < h.nx /\ h.ob i3_1 = some (1, List.map eS l5) /\ i3_1 < h.nx /\ h.ob i3_2 = some (1, List.map eS l6) /\ i3_2 < h.nx /\ h.ob i3_3 = some (2, List.map b0l l7) /\ i3_3 < h.nx /\ h.ob i3_4 = some (2, List.map b0m l8) /\ i3_4 < h.nx /\ b15 h v3 4 (List.map b0i o_3_4) /\ ¬i2 = i3 /\ ¬i2 = i3_1 /\ ¬i2 = i3_2 /\ ¬i2 = i3_3 /\ ¬i2 = i3_4 /\ b0s v3 i2 /\ ¬i3 = i3_1 /\ ¬i3 = i3_2 /\ ¬i3 = i3_3 /\ ¬i3 = i3_4 /\ b0s v3 i3 /\ ¬i3_1 = i3_2 /\ ¬i3_1 = i3_3 /\ ¬i3_1 = i3_4 /\ b0s v3 i3_1 /\ ¬i3_2 = i3_3 /\ ¬i3_2 = i3_4 /\ b0s v3 i3_2 /\ ¬i3_3 = i3_4 /\ b0s v3 i3_3 /\ b0s v3 i3_4) ?_ ?_
 ·exact ⟨h.nx, (nxs (nxs (nxs (nxs (nxs (nxs (nxs (nxs (nxs h.nx))))))))), (nxs (nxs h.nx)), (nxs (nxs (nxs (nxs h.nx)))), (nxs (nxs (nxs (nxs (nxs (nxs h.nx)))))), (nxs (nxs (nxs (nxs (nxs (nxs (nxs (nxs h.nx)))))))), (.v (.slice none 0 0)), (by first | (simp only [go_sem]; done) | rfl), (by first | (simp only [go_sem]; done) | rfl), (by first | (simp only [go_sem]; done) | rfl), (by first | (simp only [go_sem]; done) | rfl), (by simp only [go_sem]), (by simp only [go_sem]), (by simp only [go_sem]), (by simp only [go_sem]), (by simp only [go_sem]), (by simp only [go_sem]), (by simp only [go_sem]), (by simp only [go_sem]), (by simp only [go_sem]), (by simp only [go_sem]), (by simp only [go_sem]), (by simp only [go_sem]), c5g, (by first | first | assumption | omega | (simp only [nxs] <;> omega)), (by first | first | assumption | omega | (simp only [nxs] <;> omega)), (by first | first | assumption | omega | (simp only [nxs] <;> omega)), (by first | first | assumption | omega | (simp only [nxs] <;> omega)), (by first | first | assumption | omega | (simp only [nxs] <;> omega)), (by first | exact b1u | exact b1v (by first | assumption | omega | (simp only [nxs] <;> omega)) | assumption | exact b1q (by assumption) (by first | assumption | omega | (simp only [nxs] <;> omega))), (by first | first | assumption | omega | (simp only [nxs] <;> omega)), (by first | first | assumption | omega | (simp only [nxs] <;> omega)), (by first | first | assumption | omega | (simp only [nxs] <;> omega)), (by first | first | assumption | omega | (simp only [nxs] <;> omega)), (by first | exact b1u | exact b1v (by first | assumption | omega | (simp only [nxs] <;> omega)) | assumption | exact b1q (by assumption) (by first | assumption | omega | (simp only [nxs] <;> omega))), (by first | first | assumption | omega | (simp only [nxs] <;> omega)), (by first | first | assumption | omega | (simp only [nxs] <;> omega)), (by first | first | assumption | omega | (simp only [nxs] <;> omega)), (by first | exact b1u | exact b1v (by first | assumption | omega | (simp only [nxs] <;> omega)) | assumption | exact b1q (by assumption) (by first | assumption | omega | (simp only [nxs] <;> omega))), (by first | first | assumption | omega | (simp only [nxs] <;> omega)), (by first | first | assumption | omega | (simp only [nxs] <;> omega)), (by first | exact b1u | exact b1v (by first | assumption | omega | (simp only [nxs] <;> omega)) | assumption | exact b1q (by assumption) (by first | assumption | omega | (simp only [nxs] <;> omega))), (by first | first | assumption | omega | (simp only [nxs] <;> omega)), (by first | exact b1u | exact b1v (by first | assumption | omega | (simp only [nxs] <;> omega)) | assumption | exact b1q (by assumption) (by first | assumption | omega | (simp only [nxs] <;> omega))), (by first | exact b1u | exact b1v (by first | assumption | omega | (simp only [nxs] <;> omega)) | assumption | exact b1q (by assumption) (by first | assumption | omega | (simp only [nxs] <;> omega)))⟩
 ·rintro ⟨o_3_4, i_4⟩ o t h ⟨i2, i3, i3_1, i3_2, i3_3, i3_4, v3, s1, s2, s3, s4, Q1m, Q1n, Q1k, Q1i, Q1o, Q1p, Q1q, Q1r, Q1s, Q1t, Q1u, Q1v, Q1l, Q1w, Q1x, Q1y, Q1z, Q20, Q21, Q22, Q23, Q24, Q25, Q26, Q27, Q28, Q29, Q2a, Q2b, Q2c, Q2d, Q2e, Q2f, Q2g⟩ hm1 hb11
  simp only [c10] at hm1
  rw [g0h]
  refine b0t ?_
  refine b0b fun K hK => ?_
  simp only [go_sem, s1, s4]
  refine hK _ _ ?_
  clear hK K
  refine b0k fun K12 hK12 => ?_
  simp only [go_sem]
  refine b0j (fun hc13 => ?_) (fun hc13 => ?_)
  ·rw [b0q hc13] at hm1
   simp only [b0r, b0f]
   refine hK12 _ _ ?_
   refine b0k fun K14 hK14 => ?_
   simp only [b0u]
   obtain ⟨x16, h_x16, hm1⟩ := b0g hm1
   have h_x160 := b05 h_x16
   have h_x161 := b08 h_x16
   refine b0b fun K hK => ?_
   simp only [go_sem, s1, s4, b1b h_x16, h_x161]
   refine hK _ _ ?_
   clear hK K
   obtain ⟨y18, h_y18, hm1⟩ := b0g hm1
   refine b0b fun K hK => ?_
   simp only [go_sem]
   refine b03 (c1b x16.When _ h_y18) ?_
   simp only [go_sem]
   refine hK _ _ ?_
   clear hK K
   obtain ⟨l20, h_l20, hm1⟩ := b0g hm1
   refine b0b fun K hK => ?_
   simp only [go_sem]
   refine b22 (f := b2j) (l := ([])) (m := x16.Sets) ?_ ?_ ?_ ?_ h_l20 ?_
   ·exact (b2u (by simp only [go_sem]) (by simp only [go_sem]) (by simp only [go_sem]))
   ·exact b6v
   ·exact b6u
   ·exact (fun e => by cases e)
   simp only [go_sem]
   refine hK _ _ ?_
   clear hK K
   refine g45 (s := 5) (v := .rp h.nx 0 0) (y := .fp [I x16.From, I x16.To, .fs 1 (List.map b0x y18), .fs 2 (List.map b2j l20)] 0) (fun j => j == h.nx || j == (nxs (nxs h.nx))) (by simp only [go_sem]) (d4n (id := h.nx) (sz := 4) (xs := [I x16.From, I x16.To, .fs 1 (List.map b0x y18), .rs (nxs (nxs h.nx)) 0 (List.length l20)]) (by rw [c5a (by simp)]; simp only [go_sem]) (.cons (.refl _ (b0d _)) (.cons (.refl _ (b0d _)) (.cons (.refl _ (b0e fun a _ => b21 a)) (.cons (b29 (f := b2j) (l := l20) (id := (nxs (nxs h.nx))) (by rw [c5a (by simp)]; simp only [go_sem]) (by first | rfl | simp only [go_sem, lA9, mA9]) c9a j24) (.nil)))))) (.fp _ _ (b0a (b0d _) (b0a (b0d _) (b0a (b0e fun a _ => b21 a) (b0a (b0e fun a _ => c9a a) b0o))))) ?_
   obtain ⟨l22, h_l22, hm1⟩ := b0g hm1
   refine b04 fun K hK => ?_
   simp only [go_sem, s3, Q1k, Q1i, oF9, bF9, ne_eq, nF9, and_self]
   refine b22 (f := b0i) (l := o_3_4) (m := ([(Rule.mk x16.From x16.To y18 l20)])) ?_ ?_ ?_ ?_ h_l22 ?_
   ·exact (b3d Q1l (by intro j hj hl; first | rfl | simp only [go_sem, hl, oF9, bF9, ne_eq, nF9, and_self]) (by first | omega | exact Nat.le_refl _ | (simp only [go_sem, nxs] <;> omega)))
   ·exact (b4i (by simp only [go_sem]) (by simp only [go_sem]))
   ·exact (b4h (by first | exact b1u | exact b1v (by first | omega | (simp only [nxs] <;> omega)) | assumption | exact b1q (by assumption) (by first | omega | (simp only [go_sem, nxs] <;> omega))))
   ·exact (fun _ => by simp)
   simp only [go_sem, s3, Q1k, Q1i, Q26, oF9, bF9, ne_eq, nF9, and_self]
   refine hK _ _ ?_
   clear hK K
   simp only [b02, b0f]
   refine hK14 _ _ ?_
   refine b04 fun K hK => ?_
   simp only [go_sem, s4, nF9]
   refine hK _ _ ?_
   clear hK K
   simp only [b0f]
   obtain rfl := sI9 hm1
   refine ⟨_, rfl, ?_⟩
   exact ⟨i2, i3, i3_1, i3_2, i3_3, i3_4, (.rs (nxs (nxs (nxs (nxs h.nx)))) 0 (List.length l22)), s1, s2, s3, (by first | (simp only [go_sem]; done) | rfl), (by simp only [go_sem, oF9, bF9, ne_eq, nF9, and_self, Q1m, Q1n, Q1w, Q21]), (by simp only [go_sem, Q1n]), (by simp only [go_sem]), (by simp only [go_sem, Q1i]), (by simp only [go_sem, oF9, bF9, ne_eq, nF9, and_self, Q1o, Q1p, b1x Q22, Q2a]), (by simp only [go_sem, Q1p]), (by simp only [go_sem, oF9, bF9, ne_eq, nF9, and_self, Q1q, Q1r, b1x Q23, Q2d]), (by simp only [go_sem, Q1r]), (by simp only [go_sem, oF9, bF9, ne_eq, nF9, and_self, Q1s, Q1t, b1x Q24, Q2f]), (by simp only [go_sem, Q1t]), (by simp only [go_sem, oF9, bF9, ne_eq, nF9, and_self, Q1u, Q1v, b1x Q25, Q2g]), (by simp only [go_sem, Q1v]), (b2u (by simp only [go_sem, nF9, Q1i, b9e Q1l]) (by first | rfl | simp only [go_sem]) (by simp only [go_sem])), Q1w, Q1x, Q1y, Q1z, Q20, (by first | exact b1u | exact b1v (by first | assumption | omega | (simp only [nxs] <;> omega)) | assumption | exact b1q (by assumption) (by first | assumption | omega | (simp only [nxs] <;> omega))), Q22, Q23, Q24, Q25, (by first | exact b1u | exact b1v (by first | assumption | omega | (simp only [nxs] <;> omega)) | assumption | exact b1q (by assumption) (by first | assumption | omega | (simp only [nxs] <;> omega))), Q27, Q28, Q29, (by first | exact b1u | exact b1v (by first | assumption | omega | (simp only [nxs] <;> omega)) | assumption | exact b1q (by assumption) (by first | assumption | omega | (simp only [nxs] <;> omega))), Q2b, Q2c, (by first | exact b1u | exact b1v (by first | assumption | omega | (simp only [nxs] <;> omega)) | assumption | exact b1q (by assumption) (by first | assumption | omega | (simp only [nxs] <;> omega))), Q2e, (by first | exact b1u | exact b1v (by first | assumption | omega | (simp only [nxs] <;> omega)) | assumption | exact b1q (by assumption) (by first | assumption | omega | (simp only [nxs] <;> omega))), (by first | exact b1u | exact b1v (by first | assumption | omega | (simp only [nxs] <;> omega)) | assumption | exact b1q (by assumption) (by first | assumption | omega | (simp only [nxs] <;> omega)))⟩
  ·rw [b0p hc13] at hm1
   simp only [b1e, b1h, b1g, b0f]
   obtain rfl := sI9 hm1
   obtain rfl := hb11 _ rfl
   try dsimp only at hm0
   exact J10 o_3_4 i2 i3 i3_1 i3_2 i3_3 i3_4 v3 _ _ s2 s3 Q1m Q1n Q1k Q1i Q1o Q1p Q1q Q1r Q1s Q1t Q1u Q1v Q1l Q1w Q1x Q1y Q1z Q20 Q21 Q22 Q23 Q24 Q25 Q26 Q27 Q28 Q29 Q2a Q2b Q2c Q2d Q2e Q2f Q2g hm0
theorem c1b (hf : Has O "newel/newelref04.CopyCond" x_r04_CopyCond) : c29 O := by
 intro c r hm0
 unfold b9h at hm0
 refine b1k hf rfl (b0a (b0e fun a _ => b21 a) b0o) (b0e fun a _ => b21 a) ?_
 refine b1f (fun t h => t 0 = .fs 1 (List.map b0x c)) rfl fun t h s0 => ?_
 simp only [x_r04_CopyCond]
 refine b0b fun K hK => ?_
 simp only [go_sem]
 refine hK _ _ ?_
 clear hK K
 refine b0b fun K hK => ?_
 simp only [go_sem]
 refine hK _ _ ?_
 clear hK K
 refine b0t ?_
 refine b0b fun K hK => ?_
 simp only [go_sem]
 refine hK _ _ ?_
 clear hK K
 refine b0k fun K1 hK1 => ?_
 have J2 : ∀ (o_3 : List (List Literal)) (v3 : AV) (t : Slots) (h : Heap), t 3 = v3 -> b15 h v3 1 (List.map b0x o_3) -> c5p o_3 = some r -> K1 t h := by
  intro o_3 v3 t h s3 Q1j hm0
  refine hK1 _ _ ?_
  unfold c5p at hm0
  refine b0b fun K hK => ?_
  simp only [go_sem, s3, c09 v3]
  refine hK _ _ ?_
  clear hK K
  simp only [b0v, b0w]
  obtain rfl := sI9 hm0
  exact c0q (v := v3) (by simp only [go_sem]) (c01 (f := b0x) (l := o_3) (b3d Q1j (by intro j hj hl; first | rfl | simp only [go_sem, hl]) (by first | omega | exact Nat.le_refl _ | (simp only [go_sem, nxs] <;> omega))) b21 d7k)
 simp only [b0u]
 obtain ⟨b3, hl3, hm0⟩ := b0g hm0
 refine b1p hl3 (fun | (o_3, i_4), t, h => ∃ v3 : AV, t 0 = .fs 1 (List.map b0x c) /\ t 3 = v3 /\ t 4 = I i_4 /\ b15 h v3 1 (List.map b0x o_3)) ?_ ?_
 ·exact ⟨(.v (.slice none 0 0)), s0, (by first | (simp only [go_sem]; done) | rfl), (by first | (simp only [go_sem]; done) | rfl), c5g⟩
 ·rintro ⟨o_3, i_4⟩ o t h ⟨v3, s0, s3, s4, Q1j⟩ hm1 hb3
  simp only [c1z] at hm1
  rw [g0g]
  refine b0t ?_
  refine b0b fun K hK => ?_
  simp only [go_sem, s0, s4]
  refine hK _ _ ?_
  clear hK K
  refine b0k fun K4 hK4 => ?_
  simp only [go_sem]
  refine b0j (fun hc5 => ?_) (fun hc5 => ?_)
  ·rw [b0q hc5] at hm1
   simp only [b0r, b0f]
   refine hK4 _ _ ?_
   refine b0k fun K6 hK6 => ?_
   simp only [b0u]
   obtain ⟨x10, h_x10, hm1⟩ := b0g hm1
   have h_x100 := b05 h_x10
   have h_x101 := b08 h_x10
   obtain ⟨l11, h_l11, hm1⟩ := b0g hm1
   obtain ⟨l12, h_l12, hm1⟩ := b0g hm1
   refine b0b fun K hK => ?_
   simp only [go_sem, s0, s3, s4, b1b h_x10, h_x101, c09 v3]
   refine b22 (f := b27) (l := ([])) (m := x10) ?_ ?_ ?_ ?_ h_l11 ?_
   ·exact (b2u (by simp only [go_sem]) (by simp only [go_sem]) (by simp only [go_sem]))
   ·exact b6v
   ·exact b6u
   ·exact (fun e => by cases e)
   simp only [go_sem]
   refine d4w (f := b0x) (l := o_3) (a := l11) (raw := [.rs (nxs h.nx) 0 (List.length l11)]) ?_ ?_ ?_ h_l12 ?_
   ·exact (b3d Q1j (by intro j hj hl; first | rfl | simp only [go_sem, hl]) (by first | omega | exact Nat.le_refl _ | (simp only [go_sem, nxs] <;> omega)))
   ·exact (by simp only [go_sem])
   ·exact (by first | exact b1u | exact b1v (by first | omega | (simp only [nxs] <;> omega)) | assumption | exact b1q (by assumption) (by first | omega | (simp only [go_sem, nxs] <;> omega)))
   simp only [go_sem]
   refine hK _ _ ?_
   clear hK K
   refine g48 ?_
   refine g47 (id := (nxs (nxs (nxs h.nx)))) (sz := 1) (f := b0x) (l := o_3) (a := l11) (raw := [.rs (nxs h.nx) 0 (List.length l11)]) (fun j => j == (nxs h.nx)) (by simp only [go_sem, b9e Q1j]) (by first | (simp; done) | (simp [nxs] <;> omega)) (.cons (b29 (f := b27) (l := l11) (id := (nxs h.nx)) (by rw [c5a (by simp)]; simp only [go_sem, b9e Q1j]) (by first | rfl | simp only [go_sem, lA9, mA9]) c00 j22) (.nil)) b21 d7k ?_
   rw [<- (b8j h_l12).2]
   simp only [b0r, b02, b0f]
   refine hK6 _ _ ?_
   refine b04 fun K hK => ?_
   simp only [go_sem, s4, nF9]
   refine hK _ _ ?_
   clear hK K
   simp only [b0f]
   obtain rfl := sI9 hm1
   refine ⟨_, rfl, ?_⟩
   exact ⟨(.rs (nxs (nxs (nxs h.nx))) 0 (List.length l12)), s0, (by first | (simp only [go_sem]; done) | rfl), (by first | (simp only [go_sem]; done) | rfl), (b2u (by simp only [go_sem]) (by first | rfl | simp only [go_sem]) (by simp only [go_sem]))⟩
  ·rw [b0p hc5] at hm1
   simp only [b1e, b1h, b1g, b0f]
   obtain rfl := sI9 hm1
   obtain rfl := hb3 _ rfl
   try dsimp only at hm0
   exact J2 o_3 v3 _ _ s3 Q1j hm0
theorem d0a (hf : Has O "newel/newelref04.Heard" x_r04_Heard) : c7n O := by
 intro x input value r hm0
 unfold b71 at hm0
 refine b1k hf rfl (b0a (b0d _) (b0a (b0d _) (b0a (b0d _) b0o))) (b0d _) ?_
 refine b1f (fun t h => t 0 = I x /\ t 1 = I input /\ t 2 = I value) ⟨rfl, rfl, rfl⟩ fun t h ⟨s0, s1, s2⟩ => ?_
 simp only [x_r04_Heard]
 refine b0b fun K hK => ?_
 simp only [go_sem]
 refine hK _ _ ?_
 clear hK K
 refine b0t ?_
 refine b0b fun K hK => ?_
 simp only [go_sem, s1]
 refine hK _ _ ?_
 clear hK K
 refine b0k fun K1 hK1 => ?_
 simp only [go_sem]
 refine b0j (fun hc2 => ?_) (fun hc2 => ?_)
 ·rw [b0q hc2] at hm0
  refine b0b fun K hK => ?_
  simp only [go_sem, s0]
  refine hK _ _ ?_
  clear hK K
  simp only [b0v, b1n, b0w]
  obtain rfl := sI9 hm0
  exact b01 (by simp only [go_sem]) (b0d _)
 ·rw [b0p hc2] at hm0
  simp only [b0r, b0f]
  refine hK1 _ _ ?_
  obtain ⟨q4, h_q4, hm0⟩ := b0g hm0
  refine b0b fun K hK => ?_
  simp only [go_sem, s1, c04 h_q4]
  refine hK _ _ ?_
  clear hK K
  refine b0t ?_
  refine b0b fun K hK => ?_
  simp only [go_sem, s2]
  refine hK _ _ ?_
  clear hK K
  refine b0k fun K5 hK5 => ?_
  simp only [go_sem]
  refine b0j (fun hc6 => ?_) (fun hc6 => ?_)
  ·rw [b0q hc6] at hm0
   refine b0b fun K hK => ?_
   simp only [go_sem, s0]
   refine hK _ _ ?_
   clear hK K
   simp only [b0v, b1n, b0w]
   obtain rfl := sI9 hm0
   exact b01 (by simp only [go_sem]) (b0d _)
  ·rw [b0p hc6] at hm0
   simp only [b0r, b0f]
   refine hK5 _ _ ?_
   refine b0b fun K hK => ?_
   simp only [go_sem, s0]
   refine hK _ _ ?_
   clear hK K
   simp only [b0v, b0w]
   obtain rfl := sI9 hm0
   exact b01 (by simp only [go_sem]) (b0d _)
theorem b89 (hf : Has O "newel/newelref04.Holds" x_r04_Holds) (d0h : c7u O) : c3a O := by
 intro m p input c r hm0
 unfold b9i at hm0
 refine b1k hf rfl (b0a (.agg _ (b0a (b0e fun a _ => b00 a) (b0a (b0e fun a _ => b00 a) (b0a (b0e fun a _ => b1r a) (b0a (b0e fun a _ => b1t a) (b0a (b0e fun a _ => b1s a) b0o)))))) (b0a (.agg _ (b0a (b0d _) (b0a (b0d _) (b0a (b0d _) b0o)))) (b0a (b0d _) (b0a (b0e fun a _ => b21 a) b0o)))) (b0d _) ?_
 refine b1f (fun t h => t 0 = .agg [.fs 1 (List.map eS m.Inputs), .fs 1 (List.map eS m.Outputs), .fs 2 (List.map b0l m.Counters), .fs 2 (List.map b0m m.States), .fs 4 (List.map b0i m.Rules)] /\ t 1 = .agg [I p.State, I p.Values.1, I p.Values.2] /\ t 2 = I input /\ t 3 = .fs 1 (List.map b0x c)) ⟨rfl, rfl, rfl, rfl⟩ fun t h ⟨s0, s1, s2, s3⟩ => ?_
 simp only [x_r04_Holds]
 refine b0b fun K hK => ?_
 simp only [go_sem, s0, s1]
 refine hK _ _ ?_
 clear hK K
 refine b0t ?_
 refine b0b fun K hK => ?_
 simp only [go_sem]
 refine hK _ _ ?_
 clear hK K
 refine b0k fun K1 hK1 => ?_
 have J2 : ∀ (t : Slots) (h : Heap), d1q = some r -> K1 t h := by
  intro t h hm0
  refine hK1 _ _ ?_
  unfold d1q at hm0
  refine b0b fun K hK => ?_
  simp only [go_sem]
  refine hK _ _ ?_
  clear hK K
  simp only [b0v, b0w]
  obtain rfl := sI9 hm0
  exact b01 (by simp only [go_sem]) (b0d _)
 simp only [b0u]
 obtain ⟨b3, hl3, hm0⟩ := b0g hm0
 refine b1p hl3 (fun | i_9, t, h => t 2 = I input /\ t 3 = .fs 1 (List.map b0x c) /\ t 4 = .fp [.fs 1 (List.map eS m.Inputs), .fs 1 (List.map eS m.Outputs), .fs 2 (List.map b0l m.Counters), .fs 2 (List.map b0m m.States), .fs 4 (List.map b0i m.Rules)] 0 /\ t 5 = .fp [I p.State, I p.Values.1, I p.Values.2] 0 /\ t 9 = I i_9) ?_ ?_
 ·exact ⟨s2, s3, (by first | (simp only [go_sem]; done) | rfl), (by first | (simp only [go_sem]; done) | rfl), (by first | (simp only [go_sem]; done) | rfl)⟩
 ·rintro i_9 o t h ⟨s2, s3, s4, s5, s9⟩ hm1 hb3
  simp only [c11] at hm1
  rw [g0i]
  refine b0t ?_
  refine b0b fun K hK => ?_
  simp only [go_sem, s3, s9]
  refine hK _ _ ?_
  clear hK K
  refine b0k fun K4 hK4 => ?_
  simp only [go_sem]
  refine b0j (fun hc5 => ?_) (fun hc5 => ?_)
  ·rw [b0q hc5] at hm1
   simp only [b0r, b0f]
   refine hK4 _ _ ?_
   refine b0k fun K6 hK6 => ?_
   have J7 : ∀ (t : Slots) (h : Heap), t 2 = I input -> t 3 = .fs 1 (List.map b0x c) -> t 4 = .fp [.fs 1 (List.map eS m.Inputs), .fs 1 (List.map eS m.Outputs), .fs 2 (List.map b0l m.Counters), .fs 2 (List.map b0m m.States), .fs 4 (List.map b0i m.Rules)] 0 -> t 5 = .fp [I p.State, I p.Values.1, I p.Values.2] 0 -> t 9 = I i_9 -> c5r i_9 = some o -> K6 t h := by
    intro t h s2 s3 s4 s5 s9 hm1
    refine hK6 _ _ ?_
    unfold c5r at hm1
    refine b04 fun K hK => ?_
    simp only [go_sem, s9]
    refine hK _ _ ?_
    clear hK K
    simp only [b0f]
    obtain rfl := sI9 hm1
    refine ⟨_, rfl, ?_⟩
    exact ⟨s2, s3, s4, s5, (by first | (simp only [go_sem]; done) | rfl)⟩
   simp only [b0u]
   refine b0b fun K hK => ?_
   simp only [go_sem]
   refine hK _ _ ?_
   clear hK K
   refine b0t ?_
   refine b0b fun K hK => ?_
   simp only [go_sem]
   refine hK _ _ ?_
   clear hK K
   refine b0k fun K8 hK8 => ?_
   have J9 : ∀ (all_10 : Bool) (t : Slots) (h : Heap), t 2 = I input -> t 3 = .fs 1 (List.map b0x c) -> t 4 = .fp [.fs 1 (List.map eS m.Inputs), .fs 1 (List.map eS m.Outputs), .fs 2 (List.map b0l m.Counters), .fs 2 (List.map b0m m.States), .fs 4 (List.map b0i m.Rules)] 0 -> t 5 = .fp [I p.State, I p.Values.1, I p.Values.2] 0 -> t 9 = I i_9 -> t 10 = B all_10 -> c5s i_9 all_10 = some o -> K8 t h := by
    intro all_10 t h s2 s3 s4 s5 s9 s10 hm1
    refine hK8 _ _ ?_
    unfold c5s at hm1
    refine b0b fun K hK => ?_
    simp only [go_sem, s10]
    refine hK _ _ ?_
    clear hK K
    simp only [go_sem]
    refine b0j (fun hc10 => ?_) (fun hc10 => ?_)
    ·rw [b0q hc10] at hm1
     refine b0b fun K hK => ?_
     simp only [go_sem]
     refine hK _ _ ?_
     clear hK K
     simp only [b0v, b1n, b2f, b0w]
     obtain rfl := sI9 hm1
     obtain rfl := hb3 _ rfl
     try dsimp only at hm0
     obtain rfl := sI9 hm0
     exact b01 (by simp only [go_sem]) (b0d _)
    ·rw [b0p hc10] at hm1
     simp only [b0r, b02, b0f]
     exact J7  _ _ s2 s3 s4 s5 s9 hm1
   simp only [b0u]
   obtain ⟨b11, hl11, hm1⟩ := b0g hm1
   refine b1p hl11 (fun | (all_10, k_11), t, h => t 2 = I input /\ t 3 = .fs 1 (List.map b0x c) /\ t 4 = .fp [.fs 1 (List.map eS m.Inputs), .fs 1 (List.map eS m.Outputs), .fs 2 (List.map b0l m.Counters), .fs 2 (List.map b0m m.States), .fs 4 (List.map b0i m.Rules)] 0 /\ t 5 = .fp [I p.State, I p.Values.1, I p.Values.2] 0 /\ t 9 = I i_9 /\ t 10 = B all_10 /\ t 11 = I k_11) ?_ ?_
   ·exact ⟨s2, s3, s4, s5, s9, (by first | (simp only [go_sem]; done) | rfl), (by first | (simp only [go_sem]; done) | rfl)⟩
   ·rintro ⟨all_10, k_11⟩ o t h ⟨s2, s3, s4, s5, s9, s10, s11⟩ hm2 hb11
    simp only [c12] at hm2
    rw [g0j]
    refine b0t ?_
    obtain ⟨x13, h_x13, hm2⟩ := b0g hm2
    have h_x130 := b05 h_x13
    have h_x131 := b08 h_x13
    refine b0b fun K hK => ?_
    simp only [go_sem, s3, s9, s11, b1b h_x13]
    refine hK _ _ ?_
    clear hK K
    refine b0k fun K14 hK14 => ?_
    simp only [go_sem]
    refine b0j (fun hc15 => ?_) (fun hc15 => ?_)
    ·rw [b0q hc15] at hm2
     simp only [b0r, b0f]
     refine hK14 _ _ ?_
     refine b0k fun K16 hK16 => ?_
     simp only [b0u]
     obtain ⟨c22, h_c22, hm2⟩ := b0g hm2
     refine b8r (fun t h => t 2 = I input /\ t 3 = .fs 1 (List.map b0x c) /\ t 4 = .fp [.fs 1 (List.map eS m.Inputs), .fs 1 (List.map eS m.Outputs), .fs 2 (List.map b0l m.Counters), .fs 2 (List.map b0m m.States), .fs 4 (List.map b0i m.Rules)] 0 /\ t 5 = .fp [I p.State, I p.Values.1, I p.Values.2] 0 /\ t 9 = I i_9 /\ t 10 = B c22 /\ t 11 = I k_11) (fun K hK => ?_) ?_
     ·simp only [go_sem, s10]
      refine b0j (fun hg23 => ?_) (fun hg23 => ?_)
      ·simp only [hg23, eq_self, if_true] at h_c22
       obtain ⟨x20, h_x20, h_c22⟩ := b0g h_c22
       have h_x200 := b05 h_x20
       have h_x201 := b08 h_x20
       obtain ⟨y21, h_y21, h_c22⟩ := b0g h_c22
       obtain rfl := sI9 h_c22
       simp only [go_sem, s2, s3, s4, s5, s9, s11, b1b h_x20, h_x201, b1b h_x13, hg23]
       refine b03 (d0h m p input x20 _ h_y21) ?_
       simp only [go_sem, h_x201, hg23]
       exact hK _ _ ⟨s2, s3, s4, s5, s9, (by first | (simp only [go_sem]; done) | rfl), s11⟩
      ·simp only [hg23, if_false, Bool.false_eq_true] at h_c22
       obtain rfl := sI9 h_c22
       simp only [go_sem, hg23]
       exact hK _ _ ⟨s2, s3, s4, s5, s9, (by first | (simp only [go_sem]; done) | rfl), s11⟩
     ·rintro t h ⟨s2, s3, s4, s5, s9, s10, s11⟩
      simp only [b02, b0f]
      refine hK16 _ _ ?_
      refine b04 fun K hK => ?_
      simp only [go_sem, s11]
      refine hK _ _ ?_
      clear hK K
      simp only [b0f]
      obtain rfl := sI9 hm2
      refine ⟨_, rfl, ?_⟩
      exact ⟨s2, s3, s4, s5, s9, s10, (by first | (simp only [go_sem]; done) | rfl)⟩
    ·rw [b0p hc15] at hm2
     simp only [b1e, b1h, b1g, b0f]
     obtain rfl := sI9 hm2
     obtain rfl := hb11 _ rfl
     try dsimp only at hm1
     exact J9 all_10 _ _ s2 s3 s4 s5 s9 s10 hm1
  ·rw [b0p hc5] at hm1
   simp only [b1e, b1h, b1g, b0f]
   obtain rfl := sI9 hm1
   obtain rfl := hb3 _ rfl
   try dsimp only at hm0
   exact J2  _ _  hm0
theorem d0b (hf : Has O "newel/newelref04.Next" x_r04_Next) (b89 : c3a O) : c7o O := by
 intro m p input r hm0
 unfold c14 at hm0
 refine b1k hf rfl (b0a (.agg _ (b0a (b0e fun a _ => b00 a) (b0a (b0e fun a _ => b00 a) (b0a (b0e fun a _ => b1r a) (b0a (b0e fun a _ => b1t a) (b0a (b0e fun a _ => b1s a) b0o)))))) (b0a (.agg _ (b0a (b0d _) (b0a (b0d _) (b0a (b0d _) b0o)))) (b0a (b0d _) b0o))) (.agg _ (b0a (b0d _) (b0a (b0d _) (b0a (b0d _) b0o)))) ?_
 refine b1f (fun t h => t 0 = .agg [.fs 1 (List.map eS m.Inputs), .fs 1 (List.map eS m.Outputs), .fs 2 (List.map b0l m.Counters), .fs 2 (List.map b0m m.States), .fs 4 (List.map b0i m.Rules)] /\ t 1 = .agg [I p.State, I p.Values.1, I p.Values.2] /\ t 2 = I input) ⟨rfl, rfl, rfl⟩ fun t h ⟨s0, s1, s2⟩ => ?_
 simp only [x_r04_Next]
 refine b0b fun K hK => ?_
 simp only [go_sem, s0, s1]
 refine hK _ _ ?_
 clear hK K
 refine b0t ?_
 refine b0b fun K hK => ?_
 simp only [go_sem]
 refine hK _ _ ?_
 clear hK K
 refine b0k fun K1 hK1 => ?_
 have J2 : ∀ (i6 : Nat) (t : Slots) (h : Heap), t 4 = .fp [I p.State, I p.Values.1, I p.Values.2] 0 -> t 6 = .rp i6 0 0 -> h.ob i6 = some (3, [[I 0, I 0, I 0]]) -> i6 < h.nx -> c5v p = some r -> K1 t h := by
  intro i6 t h s4 s6 Q3 Q1 hm0
  refine hK1 _ _ ?_
  unfold c5v at hm0
  refine b0b fun K hK => ?_
  simp only [go_sem, s4, s6, Q3]
  refine hK _ _ ?_
  clear hK K
  simp only [b0v, b0w]
  obtain rfl := sI9 hm0
  exact b8t (id := i6) (m := 3) (cs := [I p.State, I p.Values.1, I p.Values.2]) (by simp only [go_sem, s6]) (by simp only [go_sem]) rfl (.refl _ (.agg _ (b0a (b0d _) (b0a (b0d _) (b0a (b0d _) b0o)))))
 simp only [b0u]
 obtain ⟨b3, hl3, hm0⟩ := b0g hm0
 refine b1p hl3 (fun | i_7, t, h => ∃ i6 : Nat, t 2 = I input /\ t 3 = .fp [.fs 1 (List.map eS m.Inputs), .fs 1 (List.map eS m.Outputs), .fs 2 (List.map b0l m.Counters), .fs 2 (List.map b0m m.States), .fs 4 (List.map b0i m.Rules)] 0 /\ t 4 = .fp [I p.State, I p.Values.1, I p.Values.2] 0 /\ t 6 = .rp i6 0 0 /\ t 7 = I i_7 /\ h.ob i6 = some (3, [[I 0, I 0, I 0]]) /\ i6 < h.nx) ?_ ?_
 ·exact ⟨h.nx, s2, (by first | (simp only [go_sem]; done) | rfl), (by first | (simp only [go_sem]; done) | rfl), (by first | (simp only [go_sem]; done) | rfl), (by first | (simp only [go_sem]; done) | rfl), (by simp only [go_sem]), (by simp only [go_sem])⟩
 ·rintro i_7 o t h ⟨i6, s2, s3, s4, s6, s7, Q3, Q1⟩ hm1 hb3
  simp only [c5t] at hm1
  rw [g0l]
  refine b0t ?_
  refine b0b fun K hK => ?_
  simp only [go_sem, s3, s7]
  refine hK _ _ ?_
  clear hK K
  refine b0k fun K4 hK4 => ?_
  simp only [go_sem]
  refine b0j (fun hc5 => ?_) (fun hc5 => ?_)
  ·rw [b0q hc5] at hm1
   simp only [b0r, b0f]
   refine hK4 _ _ ?_
   refine b0k fun K6 hK6 => ?_
   have J7 : ∀ (t : Slots) (h : Heap), t 2 = I input -> t 3 = .fp [.fs 1 (List.map eS m.Inputs), .fs 1 (List.map eS m.Outputs), .fs 2 (List.map b0l m.Counters), .fs 2 (List.map b0m m.States), .fs 4 (List.map b0i m.Rules)] 0 -> t 4 = .fp [I p.State, I p.Values.1, I p.Values.2] 0 -> t 6 = .rp i6 0 0 -> t 7 = I i_7 -> h.ob i6 = some (3, [[I 0, I 0, I 0]]) -> i6 < h.nx -> c5w i_7 = some o -> K6 t h := by
    intro t h s2 s3 s4 s6 s7 Q3 Q1 hm1
    refine hK6 _ _ ?_
    unfold c5w at hm1
    refine b04 fun K hK => ?_
    simp only [go_sem, s7]
    refine hK _ _ ?_
    clear hK K
    simp only [b0f]
    obtain rfl := sI9 hm1
    refine ⟨_, rfl, ?_⟩
    exact ⟨i6, s2, s3, s4, s6, (by first | (simp only [go_sem]; done) | rfl), Q3, Q1⟩
   simp only [b0u]
   obtain ⟨x9, h_x9, hm1⟩ := b0g hm1
   have h_x90 := b05 h_x9
   have h_x91 := b08 h_x9
   refine b0b fun K hK => ?_
   simp only [go_sem, s3, s7, b1b h_x9, h_x91]
   refine hK _ _ ?_
   clear hK K
   refine b0t ?_
   obtain ⟨c13, h_c13, hm1⟩ := b0g hm1
   refine b2v (fun t h => ∃ i8 : Nat, t 2 = I input /\ t 3 = .fp [.fs 1 (List.map eS m.Inputs), .fs 1 (List.map eS m.Outputs), .fs 2 (List.map b0l m.Counters), .fs 2 (List.map b0m m.States), .fs 4 (List.map b0i m.Rules)] 0 /\ t 4 = .fp [I p.State, I p.Values.1, I p.Values.2] 0 /\ t 6 = .rp i6 0 0 /\ t 7 = I i_7 /\ t 8 = .rp i8 0 0 /\ t 42 = B c13 /\ h.ob i6 = some (3, [[I 0, I 0, I 0]]) /\ i6 < h.nx /\ h.ob i8 = some (4, [[I x9.From, I x9.To, .fs 1 (List.map b0x x9.When), .fs 2 (List.map b2j x9.Sets)]]) /\ i8 < h.nx /\ ¬i6 = i8) (fun K hK => ?_) ?_
   ·simp only [go_sem]
    refine b0j (fun hg14 => ?_) (fun hg14 => ?_)
    ·simp only [go_sem, s4, hg14]
     refine b0j (fun hg15 => ?_) (fun hg15 => ?_)
     ·simp only [hg14, hg15, eq_self, if_true, Bool.and_true] at h_c13
      obtain rfl := sI9 h_c13
      simp only [go_sem, hg14, hg15]
      exact hK _ _ ⟨h.nx, s2, s3, s4, s6, s7, (by first | (simp only [go_sem]; done) | rfl), (by first | (simp only [go_sem]; done) | rfl), (by simp only [go_sem, Q3, Q1]), (by simp only [go_sem, Q1]), (by simp only [go_sem]), (by simp only [go_sem]), (by first | first | assumption | omega | (simp only [nxs] <;> omega))⟩
     ·simp only [hg14, hg15, if_false, Bool.and_false, Bool.false_eq_true] at h_c13
      obtain ⟨y12, h_y12, h_c13⟩ := b0g h_c13
      obtain rfl := sI9 h_c13
      simp only [go_sem, s2, s3, s4, hg14, hg15]
      refine b03 (b89 m p input x9.When _ h_y12) ?_
      simp only [go_sem, hg14, hg15]
      exact hK _ _ ⟨h.nx, s2, s3, s4, s6, s7, (by first | (simp only [go_sem]; done) | rfl), (by first | (simp only [go_sem]; done) | rfl), (by simp only [go_sem, Q3, Q1]), (by simp only [go_sem, Q1]), (by simp only [go_sem]), (by simp only [go_sem]), (by first | first | assumption | omega | (simp only [nxs] <;> omega))⟩
    ·simp only [hg14, if_false, Bool.false_and, Bool.false_eq_true] at h_c13
     obtain ⟨y12, h_y12, h_c13⟩ := b0g h_c13
     obtain rfl := sI9 h_c13
     simp only [go_sem, s2, s3, s4, hg14]
     refine b03 (b89 m p input x9.When _ h_y12) ?_
     simp only [go_sem, hg14]
     exact hK _ _ ⟨h.nx, s2, s3, s4, s6, s7, (by first | (simp only [go_sem]; done) | rfl), (by first | (simp only [go_sem]; done) | rfl), (by simp only [go_sem, Q3, Q1]), (by simp only [go_sem, Q1]), (by simp only [go_sem]), (by simp only [go_sem]), (by first | first | assumption | omega | (simp only [nxs] <;> omega))⟩
   ·rintro t h ⟨i8, s2, s3, s4, s6, s7, s8, s42, Q3, Q1, Q2, Q0, Qe⟩
    refine b0k fun K16 hK16 => ?_
    simp only [go_sem, s42]
    refine b0j (fun hc17 => ?_) (fun hc17 => ?_)
    ·rw [b0q hc17] at hm1
     simp only [b1e, b1h, b1g, b0f]
     exact J7  _ _ s2 s3 s4 s6 s7 Q3 Q1 hm1
    ·rw [b0p hc17] at hm1
     simp only [b0r, b0f]
     refine hK16 _ _ ?_
     refine b0b fun K hK => ?_
     simp only [go_sem, s4]
     refine hK _ _ ?_
     clear hK K
     refine b0t ?_
     refine b0b fun K hK => ?_
     simp only [go_sem]
     refine hK _ _ ?_
     clear hK K
     refine b0k fun K18 hK18 => ?_
     have J19 : ∀ (q_9_1 : Int) (q_9_2 : Int) (i9 : Nat) (t : Slots) (h : Heap), t 6 = .rp i6 0 0 -> t 8 = .rp i8 0 0 -> t 9 = .rp i9 0 0 -> h.ob i6 = some (3, [[I 0, I 0, I 0]]) -> i6 < h.nx -> h.ob i8 = some (4, [[I x9.From, I x9.To, .fs 1 (List.map b0x x9.When), .fs 2 (List.map b2j x9.Sets)]]) -> i8 < h.nx -> h.ob i9 = some (3, [[I p.State, I q_9_1, I q_9_2]]) -> i9 < h.nx -> ¬i6 = i8 -> ¬i6 = i9 -> ¬i8 = i9 -> c5u x9 q_9_1 q_9_2 = some o -> K18 t h := by
      try clear s2 s3 s4 s6 s7 s8 s42 Q3 Q1 Q2 Q0 Qe
      intro q_9_1 q_9_2 i9 t h s6 s8 s9 Q3 Q1 Q2 Q0 Qw Q13 Qe Q16 Q17 hm1
      refine hK18 _ _ ?_
      unfold c5u at hm1
      refine b0b fun K hK => ?_
      simp only [go_sem, s8, s9, Q2, Qw]
      refine hK _ _ ?_
      clear hK K
      refine b0b fun K hK => ?_
      simp only [go_sem, s6, s9, Q3, Q16]
      refine hK _ _ ?_
      clear hK K
      simp only [b0v, b1n, b2f, b0w]
      obtain rfl := sI9 hm1
      obtain rfl := hb3 _ rfl
      try dsimp only at hm0
      obtain rfl := sI9 hm0
      exact b8t (id := i6) (m := 3) (cs := [I x9.To, I q_9_1, I q_9_2]) (by simp only [go_sem, s6]) (by simp only [go_sem]) rfl (.refl _ (.agg _ (b0a (b0d _) (b0a (b0d _) (b0a (b0d _) b0o)))))
     simp only [b0u]
     obtain ⟨b20, hl20, hm1⟩ := b0g hm1
     refine b1p hl20 (fun | (q_9_1, q_9_2, k_10), t, h => ∃ i9 : Nat, t 3 = .fp [.fs 1 (List.map eS m.Inputs), .fs 1 (List.map eS m.Outputs), .fs 2 (List.map b0l m.Counters), .fs 2 (List.map b0m m.States), .fs 4 (List.map b0i m.Rules)] 0 /\ t 6 = .rp i6 0 0 /\ t 8 = .rp i8 0 0 /\ t 9 = .rp i9 0 0 /\ t 10 = I k_10 /\ h.ob i6 = some (3, [[I 0, I 0, I 0]]) /\ i6 < h.nx /\ h.ob i8 = some (4, [[I x9.From, I x9.To, .fs 1 (List.map b0x x9.When), .fs 2 (List.map b2j x9.Sets)]]) /\ i8 < h.nx /\ h.ob i9 = some (3, [[I p.State, I q_9_1, I q_9_2]]) /\ i9 < h.nx /\ ¬i6 = i8 /\ ¬i6 = i9 /\ ¬i8 = i9) ?_ ?_
     ·exact ⟨h.nx, s3, s6, s8, (by first | (simp only [go_sem]; done) | rfl), (by first | (simp only [go_sem]; done) | rfl), (by simp only [go_sem, Q3, Q1]), (by simp only [go_sem, Q1]), (by simp only [go_sem, Q2, Q0]), (by simp only [go_sem, Q0]), (by simp only [go_sem]), (by simp only [go_sem]), Qe, (by first | first | assumption | omega | (simp only [nxs] <;> omega)), (by first | first | assumption | omega | (simp only [nxs] <;> omega))⟩
     ·try clear s2 s3 s4 s6 s7 s8 s42 Q3 Q1 Q2 Q0 Qe
      rintro ⟨q_9_1, q_9_2, k_10⟩ o t h ⟨i9, s3, s6, s8, s9, s10, Q3, Q1, Q2, Q0, Qw, Q13, Qe, Q16, Q17⟩ hm2 hb20
      simp only [c15] at hm2
      rw [g0k]
      refine b0t ?_
      refine b0b fun K hK => ?_
      simp only [go_sem, s8, s10, Q2]
      refine hK _ _ ?_
      clear hK K
      refine b0k fun K21 hK21 => ?_
      simp only [go_sem]
      refine b0j (fun hc22 => ?_) (fun hc22 => ?_)
      ·rw [b0q hc22] at hm2
       simp only [b0r, b0f]
       refine hK21 _ _ ?_
       refine b0k fun K23 hK23 => ?_
       have J24 : ∀ (q_9_1_1 : Int) (q_9_2_1 : Int) (t : Slots) (h : Heap), t 3 = .fp [.fs 1 (List.map eS m.Inputs), .fs 1 (List.map eS m.Outputs), .fs 2 (List.map b0l m.Counters), .fs 2 (List.map b0m m.States), .fs 4 (List.map b0i m.Rules)] 0 -> t 6 = .rp i6 0 0 -> t 8 = .rp i8 0 0 -> t 9 = .rp i9 0 0 -> t 10 = I k_10 -> h.ob i6 = some (3, [[I 0, I 0, I 0]]) -> i6 < h.nx -> h.ob i8 = some (4, [[I x9.From, I x9.To, .fs 1 (List.map b0x x9.When), .fs 2 (List.map b2j x9.Sets)]]) -> i8 < h.nx -> h.ob i9 = some (3, [[I p.State, I q_9_1_1, I q_9_2_1]]) -> i9 < h.nx -> ¬i6 = i8 -> ¬i6 = i9 -> ¬i8 = i9 -> b72 k_10 q_9_1_1 q_9_2_1 = some o -> K23 t h := by
        try clear s3 s6 s8 s9 s10 Q3 Q1 Q2 Q0 Qw Q13 Qe Q16 Q17
        intro q_9_1_1 q_9_2_1 t h s3 s6 s8 s9 s10 Q3 Q1 Q2 Q0 Qw Q13 Qe Q16 Q17 hm2
        refine hK23 _ _ ?_
        unfold b72 at hm2
        refine b04 fun K hK => ?_
        simp only [go_sem, s10]
        refine hK _ _ ?_
        clear hK K
        simp only [b0f]
        obtain rfl := sI9 hm2
        refine ⟨_, rfl, ?_⟩
        exact ⟨i9, s3, s6, s8, s9, (by first | (simp only [go_sem]; done) | rfl), Q3, Q1, Q2, Q0, Qw, Q13, Qe, Q16, Q17⟩
       simp only [b0u]
       obtain ⟨x26, h_x26, hm2⟩ := b0g hm2
       have h_x260 := b05 h_x26
       have h_x261 := b08 h_x26
       refine b0b fun K hK => ?_
       simp only [go_sem, s8, s10, Q2, b1b h_x26, h_x261]
       refine hK _ _ ?_
       clear hK K
       refine b0b fun K hK => ?_
       simp only [go_sem, s8, s10, Q2, b1b h_x26]
       refine hK _ _ ?_
       clear hK K
       simp only [b0u]
       refine b0b fun K hK => ?_
       simp only [go_sem]
       refine hK _ _ ?_
       clear hK K
       simp only [go_sem]
       refine b0j (fun hc27 => ?_) (fun hc27 => ?_)
       ·rw [b0q hc27] at hm2
        obtain ⟨x29, h_x29, hm2⟩ := b0g hm2
        have ha_x29 : ∀ v : Int, List.take (1 + Int.toNat (x26.Counter)) [I p.State, I q_9_1, I q_9_2] ++ [I v] ++ List.drop (1 + Int.toNat (x26.Counter)) [I q_9_1, I q_9_2] = [I p.State, I (b1i (x26.Counter) 0 v q_9_1), I (b1i (x26.Counter) 1 v q_9_2)] := fun v => (b9t (cs := [I p.State, I q_9_1, I q_9_2]) (off := 1) (v := v) h_x29 rfl).trans (by rw [b9s h_x29]; rfl)
        have hb_x29 : 1 + Int.toNat (x26.Counter) + 1 <= 3 := Nat.le_trans (Nat.add_le_add_left (b80 h_x29) 1) (by simp)
        refine b04 fun K hK => ?_
        simp only [go_sem, s9, Qw, c4q (n := 2) (l := [q_9_1, q_9_2]) h_x29 rfl, ha_x29, hb_x29]
        refine hK _ _ ?_
        clear hK K
        simp only [b02, b0f]
        exact J24 (b1i x26.Counter 0 0 q_9_1) (b1i x26.Counter 1 0 q_9_2) _ _ s3 s6 s8 s9 s10 (by simp only [go_sem, Q3, Q16]) (by simp only [go_sem, Q1]) (by simp only [go_sem, Q2, Q17]) (by simp only [go_sem, Q0]) (by simp only [go_sem]) (by simp only [go_sem, Q13]) Qe Q16 Q17 hm2
       ·rw [b0p hc27] at hm2
        refine b0b fun K hK => ?_
        simp only [go_sem]
        refine hK _ _ ?_
        clear hK K
        simp only [go_sem]
        refine b0j (fun hc30 => ?_) (fun hc30 => ?_)
        ·rw [b0q hc30] at hm2
         obtain ⟨x33, h_x33, hm2⟩ := b0g hm2
         have ha_x33 : ∀ v : Int, List.take (1 + Int.toNat (x26.Counter)) [I p.State, I q_9_1, I q_9_2] ++ [I v] ++ List.drop (1 + Int.toNat (x26.Counter)) [I q_9_1, I q_9_2] = [I p.State, I (b1i (x26.Counter) 0 v q_9_1), I (b1i (x26.Counter) 1 v q_9_2)] := fun v => (b9t (cs := [I p.State, I q_9_1, I q_9_2]) (off := 1) (v := v) h_x33 rfl).trans (by rw [b9s h_x33]; rfl)
         have hb_x33 : 1 + Int.toNat (x26.Counter) + 1 <= 3 := Nat.le_trans (Nat.add_le_add_left (b80 h_x33) 1) (by simp)
         obtain ⟨x34, h_x34, hm2⟩ := b0g hm2
         have h_x340 := b05 h_x34
         have h_x341 := b08 h_x34
         refine b04 fun K hK => ?_
         simp only [go_sem, s3, s9, Qw, c4q (n := 2) (l := [q_9_1, q_9_2]) h_x33 rfl, b82 (cs := [I p.State, I q_9_1, I q_9_2]) (off := 1) h_x33 rfl, ha_x33, hb_x33, b1b h_x34]
         refine hK _ _ ?_
         clear hK K
         simp only [b02, b0f]
         exact J24 (b1i x26.Counter 0 (mn (wr (x33 + 1)) x34.Max) q_9_1) (b1i x26.Counter 1 (mn (wr (x33 + 1)) x34.Max) q_9_2) _ _ s3 s6 s8 s9 s10 (by simp only [go_sem, Q3, Q16]) (by simp only [go_sem, Q1]) (by simp only [go_sem, Q2, Q17]) (by simp only [go_sem, Q0]) (by simp only [go_sem]) (by simp only [go_sem, Q13]) Qe Q16 Q17 hm2
        ·rw [b0p hc30] at hm2
         refine b0b fun K hK => ?_
         simp only [go_sem]
         refine hK _ _ ?_
         clear hK K
         simp only [go_sem]
         refine b0j (fun hc35 => ?_) (fun hc35 => ?_)
         ·rw [b0q hc35] at hm2
          obtain ⟨x37, h_x37, hm2⟩ := b0g hm2
          have ha_x37 : ∀ v : Int, List.take (1 + Int.toNat (x26.Counter)) [I p.State, I q_9_1, I q_9_2] ++ [I v] ++ List.drop (1 + Int.toNat (x26.Counter)) [I q_9_1, I q_9_2] = [I p.State, I (b1i (x26.Counter) 0 v q_9_1), I (b1i (x26.Counter) 1 v q_9_2)] := fun v => (b9t (cs := [I p.State, I q_9_1, I q_9_2]) (off := 1) (v := v) h_x37 rfl).trans (by rw [b9s h_x37]; rfl)
          have hb_x37 : 1 + Int.toNat (x26.Counter) + 1 <= 3 := Nat.le_trans (Nat.add_le_add_left (b80 h_x37) 1) (by simp)
          refine b04 fun K hK => ?_
          simp only [go_sem, s9, Qw, c4q (n := 2) (l := [q_9_1, q_9_2]) h_x37 rfl, b82 (cs := [I p.State, I q_9_1, I q_9_2]) (off := 1) h_x37 rfl, ha_x37, hb_x37]
          refine hK _ _ ?_
          clear hK K
          simp only [b02, b0f]
          exact J24 (b1i x26.Counter 0 (mx (wr (x37 - 1)) 0) q_9_1) (b1i x26.Counter 1 (mx (wr (x37 - 1)) 0) q_9_2) _ _ s3 s6 s8 s9 s10 (by simp only [go_sem, Q3, Q16]) (by simp only [go_sem, Q1]) (by simp only [go_sem, Q2, Q17]) (by simp only [go_sem, Q0]) (by simp only [go_sem]) (by simp only [go_sem, Q13]) Qe Q16 Q17 hm2
         ·rw [b0p hc35] at hm2
          simp only [b0r, b02, b0f]
          exact J24 q_9_1 q_9_2 _ _ s3 s6 s8 s9 s10 Q3 Q1 Q2 Q0 Qw Q13 Qe Q16 Q17 hm2
      ·rw [b0p hc22] at hm2
       simp only [b1e, b1h, b1g, b0f]
       obtain rfl := sI9 hm2
       obtain rfl := hb20 _ rfl
       try dsimp only at hm1
       exact J19 q_9_1 q_9_2 i9 _ _ s6 s8 s9 Q3 Q1 Q2 Q0 Qw Q13 Qe Q16 Q17 hm1
  ·rw [b0p hc5] at hm1
   simp only [b1e, b1h, b1g, b0f]
   obtain rfl := sI9 hm1
   obtain rfl := hb3 _ rfl
   try dsimp only at hm0
   exact J2 i6 _ _ s4 s6 Q3 Q1 hm0
theorem d0c (hf : Has O "newel/newelref04.Reach" x_r04_Reach) (c98 : c7l O) (d0f : c7s O) : c7p O := by
 intro m assume r hm0
 unfold c17 at hm0
 refine b1k hf rfl (b0a (.agg _ (b0a (b0e fun a _ => b00 a) (b0a (b0e fun a _ => b00 a) (b0a (b0e fun a _ => b1r a) (b0a (b0e fun a _ => b1t a) (b0a (b0e fun a _ => b1s a) b0o)))))) (b0a (b0e fun a _ => b21 a) b0o)) (.tup _ (b0a (b0e fun a _ => b4w a) (b0a (b0d _) b0o))) ?_
 refine b1f (fun t h => t 0 = .agg [.fs 1 (List.map eS m.Inputs), .fs 1 (List.map eS m.Outputs), .fs 2 (List.map b0l m.Counters), .fs 2 (List.map b0m m.States), .fs 4 (List.map b0i m.Rules)] /\ t 1 = .fs 1 (List.map b0x assume)) ⟨rfl, rfl⟩ fun t h ⟨s0, s1⟩ => ?_
 simp only [x_r04_Reach]
 refine b0b fun K hK => ?_
 simp only [go_sem, s0]
 refine hK _ _ ?_
 clear hK K
 obtain ⟨y2, h_y2, hm0⟩ := b0g hm0
 refine b0b fun K hK => ?_
 simp only [go_sem, s1]
 refine c4o ?_ (c98 m ([assume]) _ h_y2) (.v _) ?_
 ·exact .cons (.refl _ (.agg _ (b0a (b0e fun a _ => b00 a) (b0a (b0e fun a _ => b00 a) (b0a (b0e fun a _ => b1r a) (b0a (b0e fun a _ => b1t a) (b0a (b0e fun a _ => b1s a) b0o))))))) (.cons (b29 (f := b4t) (l := ([assume])) (id := h.nx) (by simp only [go_sem]) (by first | rfl | simp only [go_sem, lA9, mA9]) c4f d7j) (.nil))
 simp only [go_sem]
 refine hK _ _ ?_
 clear hK K
 refine b0t ?_
 refine b0b fun K hK => ?_
 simp only [go_sem]
 refine hK _ _ ?_
 clear hK K
 refine b0k fun K3 hK3 => ?_
 simp only [go_sem]
 refine b0j (fun hc4 => ?_) (fun hc4 => ?_)
 ·rw [b0q hc4] at hm0
  refine b0b fun K hK => ?_
  simp only [go_sem]
  refine hK _ _ ?_
  clear hK K
  simp only [b0v, b1n, b0w]
  obtain rfl := sI9 hm0
  exact d3m (v := .v (.slice none 0 0)) (u := I y2) (by simp only [go_sem]) (by simp only [go_sem]) (.nil _) (.refl _ (b0d _))
 ·rw [b0p hc4] at hm0
  simp only [b0r, b0f]
  refine hK3 _ _ ?_
  obtain ⟨y6, h_y6, hm0⟩ := b0g hm0
  refine b0b fun K hK => ?_
  simp only [go_sem, s1]
  refine b03 (d0f m assume (-1) 0 _ h_y6) ?_
  simp only [go_sem]
  refine hK _ _ ?_
  clear hK K
  simp only [b0v, b0w]
  obtain rfl := sI9 hm0
  exact d3n (by simp only [go_sem]) (by simp only [go_sem]) (b0e fun a _ => b4w a) (b0d _)
theorem d0d (hf : Has O "newel/newelref04.Word" x_r04_Word) : c7q O := by
 intro s r hm0
 unfold b9j at hm0
 refine b1k hf rfl (b0a (b0d _) b0o) (b0d _) ?_
 refine b1f (fun t h => t 0 = .v (.string s)) rfl fun t h s0 => ?_
 simp only [x_r04_Word]
 refine b0b fun K hK => ?_
 simp only [go_sem]
 refine hK _ _ ?_
 clear hK K
 refine b0t ?_
 refine b0b fun K hK => ?_
 simp only [go_sem]
 refine hK _ _ ?_
 clear hK K
 refine b0k fun K1 hK1 => ?_
 have J2 : ∀ (t : Slots) (h : Heap), t 0 = .v (.string s) -> c5x s = some r -> K1 t h := by
  intro t h s0 hm0
  refine hK1 _ _ ?_
  unfold c5x at hm0
  refine b0t ?_
  refine b0b fun K hK => ?_
  simp only [go_sem]
  refine hK _ _ ?_
  clear hK K
  refine b0k fun K3 hK3 => ?_
  have J4 : ∀ (t : Slots) (h : Heap), t 0 = .v (.string s) -> d1r s = some r -> K3 t h := by
   intro t h s0 hm0
   refine hK3 _ _ ?_
   unfold d1r at hm0
   refine b0b fun K hK => ?_
   simp only [go_sem, s0]
   refine hK _ _ ?_
   clear hK K
   simp only [b0v, b0w]
   obtain rfl := sI9 hm0
   exact b01 (by simp only [go_sem]) (b0d _)
  simp only [b0u]
  obtain ⟨b5, hl5, hm0⟩ := b0g hm0
  refine b1p hl5 (fun | i_4, t, h => t 0 = .v (.string s) /\ t 4 = I i_4) ?_ ?_
  ·exact ⟨s0, (by first | (simp only [go_sem]; done) | rfl)⟩
  ·rintro i_4 o t h ⟨s0, s4⟩ hm1 hb5
   simp only [c18] at hm1
   rw [g0m]
   refine b0t ?_
   refine b0b fun K hK => ?_
   simp only [go_sem, s0, s4]
   refine hK _ _ ?_
   clear hK K
   refine b0k fun K6 hK6 => ?_
   simp only [go_sem]
   refine b0j (fun hc7 => ?_) (fun hc7 => ?_)
   ·rw [b0q hc7] at hm1
    simp only [b0r, b0f]
    refine hK6 _ _ ?_
    refine b0k fun K8 hK8 => ?_
    simp only [b0u]
    obtain ⟨x10, h_x10, hm1⟩ := b0g hm1
    refine b2v (fun t h => t 0 = .v (.string s) /\ t 4 = I i_4 /\ t 32 = B ((decide (x10 < 97)) || (decide (122 < x10)))) (fun K hK => ?_) ?_
    ·simp only [go_sem, s0, s4, d6f h_x10]
     refine b0j (fun hg11 => ?_) (fun hg11 => ?_)
     ·simp only [go_sem, hg11]
      exact hK _ _ ⟨s0, s4, (by first | (simp only [go_sem, hg11]; done) | rfl)⟩
     ·simp only [go_sem, s0, s4, d6f h_x10, hg11]
      exact hK _ _ ⟨s0, s4, (by first | (simp only [go_sem, hg11]; done) | rfl)⟩
    ·rintro t h ⟨s0, s4, s32⟩
     simp only [go_sem, s32]
     refine b0j (fun hc12 => ?_) (fun hc12 => ?_)
     ·rw [b0q hc12] at hm1
      refine b0b fun K hK => ?_
      simp only [go_sem]
      refine hK _ _ ?_
      clear hK K
      simp only [b0v, b1n, b2f, b0w]
      obtain rfl := sI9 hm1
      obtain rfl := hb5 _ rfl
      try dsimp only at hm0
      obtain rfl := sI9 hm0
      exact b01 (by simp only [go_sem]) (b0d _)
     ·rw [b0p hc12] at hm1
      simp only [b0r, b02, b0f]
      refine hK8 _ _ ?_
      refine b04 fun K hK => ?_
      simp only [go_sem, s4]
      refine hK _ _ ?_
      clear hK K
      simp only [b0f]
      obtain rfl := sI9 hm1
      refine ⟨_, rfl, ?_⟩
      exact ⟨s0, (by first | (simp only [go_sem]; done) | rfl)⟩
   ·rw [b0p hc7] at hm1
    simp only [b1e, b1h, b1g, b0f]
    obtain rfl := sI9 hm1
    obtain rfl := hb5 _ rfl
    try dsimp only at hm0
    exact J4  _ _ s0 hm0
 simp only [b0u]
 obtain ⟨b14, hl14, hm0⟩ := b0g hm0
 refine b1p hl14 (fun | i_3, t, h => t 0 = .v (.string s) /\ t 3 = I i_3) ?_ ?_
 ·exact ⟨s0, (by first | (simp only [go_sem]; done) | rfl)⟩
 ·rintro i_3 o t h ⟨s0, s3⟩ hm1 hb14
  simp only [c19] at hm1
  rw [g0n]
  refine b0t ?_
  refine b0b fun K hK => ?_
  simp only [go_sem, s3]
  refine hK _ _ ?_
  clear hK K
  refine b0k fun K15 hK15 => ?_
  simp only [go_sem]
  refine b0j (fun hc16 => ?_) (fun hc16 => ?_)
  ·rw [b0q hc16] at hm1
   simp only [b0r, b0f]
   refine hK15 _ _ ?_
   refine b0k fun K17 hK17 => ?_
   simp only [b0u]
   obtain ⟨x19, h_x19, hm1⟩ := b0g hm1
   have h_x190 := b05 h_x19
   have h_x191 := b08 h_x19
   refine b0b fun K hK => ?_
   simp only [go_sem, s0, s3, b1b h_x19, h_x191]
   refine hK _ _ ?_
   clear hK K
   simp only [go_sem]
   refine b0j (fun hc20 => ?_) (fun hc20 => ?_)
   ·rw [b0q hc20] at hm1
    refine b0b fun K hK => ?_
    simp only [go_sem]
    refine hK _ _ ?_
    clear hK K
    simp only [b0v, b1n, b2f, b0w]
    obtain rfl := sI9 hm1
    obtain rfl := hb14 _ rfl
    try dsimp only at hm0
    obtain rfl := sI9 hm0
    exact b01 (by simp only [go_sem]) (b0d _)
   ·rw [b0p hc20] at hm1
    simp only [b0r, b02, b0f]
    refine hK17 _ _ ?_
    refine b04 fun K hK => ?_
    simp only [go_sem, s3]
    refine hK _ _ ?_
    clear hK K
    simp only [b0f]
    obtain rfl := sI9 hm1
    refine ⟨_, rfl, ?_⟩
    exact ⟨s0, (by first | (simp only [go_sem]; done) | rfl)⟩
  ·rw [b0p hc16] at hm1
   simp only [b1e, b1h, b1g, b0f]
   obtain rfl := sI9 hm1
   obtain rfl := hb14 _ rfl
   try dsimp only at hm0
   exact J2  _ _ s0 hm0
theorem d0e (hf : Has O "newel/newelref04.all" x_r04_all) : c7r O := by
 intro m r hm0
 unfold c2a at hm0
 refine b1k hf rfl (b0a (.agg _ (b0a (b0e fun a _ => b00 a) (b0a (b0e fun a _ => b00 a) (b0a (b0e fun a _ => b1r a) (b0a (b0e fun a _ => b1t a) (b0a (b0e fun a _ => b1s a) b0o)))))) b0o) (b0d _) ?_
 refine b1f (fun t h => t 0 = .agg [.fs 1 (List.map eS m.Inputs), .fs 1 (List.map eS m.Outputs), .fs 2 (List.map b0l m.Counters), .fs 2 (List.map b0m m.States), .fs 4 (List.map b0i m.Rules)]) rfl fun t h s0 => ?_
 simp only [x_r04_all]
 refine b0b fun K hK => ?_
 simp only [go_sem, s0]
 refine hK _ _ ?_
 clear hK K
 obtain ⟨q2, h_q2, hm0⟩ := b0g hm0
 refine b0b fun K hK => ?_
 simp only [go_sem, c04 h_q2]
 refine hK _ _ ?_
 clear hK K
 simp only [b0v, b0w]
 obtain rfl := sI9 hm0
 exact b01 (by simp only [go_sem]) (b0d _)
theorem c1c (hf : Has O "newel/newelref04.condition" x_r04_condition) (b37 : c3c O) : c3b O := by
 intro m c inside r hm0
 unfold b9k at hm0
 refine b1k hf rfl (b0a (.agg _ (b0a (b0e fun a _ => b00 a) (b0a (b0e fun a _ => b00 a) (b0a (b0e fun a _ => b1r a) (b0a (b0e fun a _ => b1t a) (b0a (b0e fun a _ => b1s a) b0o)))))) (b0a (b0e fun a _ => b21 a) (b0a (b0d _) b0o))) (b0d _) ?_
 refine b1f (fun t h => t 0 = .agg [.fs 1 (List.map eS m.Inputs), .fs 1 (List.map eS m.Outputs), .fs 2 (List.map b0l m.Counters), .fs 2 (List.map b0m m.States), .fs 4 (List.map b0i m.Rules)] /\ t 1 = .fs 1 (List.map b0x c) /\ t 2 = B inside) ⟨rfl, rfl, rfl⟩ fun t h ⟨s0, s1, s2⟩ => ?_
 simp only [x_r04_condition]
 refine b0b fun K hK => ?_
 simp only [go_sem, s0]
 refine hK _ _ ?_
 clear hK K
 refine b0t ?_
 refine b0b fun K hK => ?_
 simp only [go_sem, s1]
 refine hK _ _ ?_
 clear hK K
 refine b0k fun K1 hK1 => ?_
 simp only [go_sem]
 refine b0j (fun hc2 => ?_) (fun hc2 => ?_)
 ·rw [b0q hc2] at hm0
  refine b0b fun K hK => ?_
  simp only [go_sem]
  refine hK _ _ ?_
  clear hK K
  simp only [b0v, b1n, b0w]
  obtain rfl := sI9 hm0
  exact b01 (by simp only [go_sem]) (b0d _)
 ·rw [b0p hc2] at hm0
  simp only [b0r, b0f]
  refine hK1 _ _ ?_
  refine b0t ?_
  refine b0b fun K hK => ?_
  simp only [go_sem]
  refine hK _ _ ?_
  clear hK K
  refine b0k fun K3 hK3 => ?_
  have J4 : ∀ (t : Slots) (h : Heap), d1s = some r -> K3 t h := by
   intro t h hm0
   refine hK3 _ _ ?_
   unfold d1s at hm0
   refine b0b fun K hK => ?_
   simp only [go_sem]
   refine hK _ _ ?_
   clear hK K
   simp only [b0v, b0w]
   obtain rfl := sI9 hm0
   exact b01 (by simp only [go_sem]) (b0d _)
  simp only [b0u]
  obtain ⟨b5, hl5, hm0⟩ := b0g hm0
  refine b1p hl5 (fun | i_7, t, h => t 1 = .fs 1 (List.map b0x c) /\ t 2 = B inside /\ t 3 = .fp [.fs 1 (List.map eS m.Inputs), .fs 1 (List.map eS m.Outputs), .fs 2 (List.map b0l m.Counters), .fs 2 (List.map b0m m.States), .fs 4 (List.map b0i m.Rules)] 0 /\ t 7 = I i_7) ?_ ?_
  ·exact ⟨s1, s2, (by first | (simp only [go_sem]; done) | rfl), (by first | (simp only [go_sem]; done) | rfl)⟩
  ·rintro i_7 o t h ⟨s1, s2, s3, s7⟩ hm1 hb5
   simp only [b9l] at hm1
   rw [g0p]
   refine b0t ?_
   refine b0b fun K hK => ?_
   simp only [go_sem, s1, s7]
   refine hK _ _ ?_
   clear hK K
   refine b0k fun K6 hK6 => ?_
   simp only [go_sem]
   refine b0j (fun hc7 => ?_) (fun hc7 => ?_)
   ·rw [b0q hc7] at hm1
    simp only [b0r, b0f]
    refine hK6 _ _ ?_
    refine b0k fun K8 hK8 => ?_
    have J9 : ∀ (t : Slots) (h : Heap), t 1 = .fs 1 (List.map b0x c) -> t 2 = B inside -> t 3 = .fp [.fs 1 (List.map eS m.Inputs), .fs 1 (List.map eS m.Outputs), .fs 2 (List.map b0l m.Counters), .fs 2 (List.map b0m m.States), .fs 4 (List.map b0i m.Rules)] 0 -> t 7 = I i_7 -> c5y i_7 = some o -> K8 t h := by
     intro t h s1 s2 s3 s7 hm1
     refine hK8 _ _ ?_
     unfold c5y at hm1
     refine b04 fun K hK => ?_
     simp only [go_sem, s7]
     refine hK _ _ ?_
     clear hK K
     simp only [b0f]
     obtain rfl := sI9 hm1
     refine ⟨_, rfl, ?_⟩
     exact ⟨s1, s2, s3, (by first | (simp only [go_sem]; done) | rfl)⟩
    simp only [b0u]
    refine b0t ?_
    obtain ⟨x11, h_x11, hm1⟩ := b0g hm1
    have h_x110 := b05 h_x11
    have h_x111 := b08 h_x11
    refine b0b fun K hK => ?_
    simp only [go_sem, s1, s7, b1b h_x11, h_x111]
    refine hK _ _ ?_
    clear hK K
    refine b0k fun K12 hK12 => ?_
    simp only [go_sem]
    refine b0j (fun hc13 => ?_) (fun hc13 => ?_)
    ·rw [b0q hc13] at hm1
     refine b0b fun K hK => ?_
     simp only [go_sem]
     refine hK _ _ ?_
     clear hK K
     simp only [b0v, b1n, b2f, b0w]
     obtain rfl := sI9 hm1
     obtain rfl := hb5 _ rfl
     try dsimp only at hm0
     obtain rfl := sI9 hm0
     exact b01 (by simp only [go_sem]) (b0d _)
    ·rw [b0p hc13] at hm1
     simp only [b0r, b0f]
     refine hK12 _ _ ?_
     refine b0b fun K hK => ?_
     simp only [go_sem]
     refine hK _ _ ?_
     clear hK K
     simp only [b0u]
     obtain ⟨b14, hl14, hm1⟩ := b0g hm1
     refine b1p hl14 (fun | k_8, t, h => t 1 = .fs 1 (List.map b0x c) /\ t 2 = B inside /\ t 3 = .fp [.fs 1 (List.map eS m.Inputs), .fs 1 (List.map eS m.Outputs), .fs 2 (List.map b0l m.Counters), .fs 2 (List.map b0m m.States), .fs 4 (List.map b0i m.Rules)] 0 /\ t 7 = I i_7 /\ t 8 = I k_8) ?_ ?_
     ·exact ⟨s1, s2, s3, s7, (by first | (simp only [go_sem]; done) | rfl)⟩
     ·rintro k_8 o t h ⟨s1, s2, s3, s7, s8⟩ hm2 hb14
      simp only [b73] at hm2
      rw [g0o]
      refine b0t ?_
      obtain ⟨x16, h_x16, hm2⟩ := b0g hm2
      have h_x160 := b05 h_x16
      have h_x161 := b08 h_x16
      refine b0b fun K hK => ?_
      simp only [go_sem, s1, s7, s8, b1b h_x16]
      refine hK _ _ ?_
      clear hK K
      refine b0k fun K17 hK17 => ?_
      simp only [go_sem]
      refine b0j (fun hc18 => ?_) (fun hc18 => ?_)
      ·rw [b0q hc18] at hm2
       simp only [b0r, b0f]
       refine hK17 _ _ ?_
       refine b0k fun K19 hK19 => ?_
       simp only [b0u]
       obtain ⟨x21, h_x21, hm2⟩ := b0g hm2
       have h_x210 := b05 h_x21
       have h_x211 := b08 h_x21
       refine b0b fun K hK => ?_
       simp only [go_sem, s1, s7, s8, b1b h_x21, h_x211, b1b h_x16]
       refine hK _ _ ?_
       clear hK K
       refine b0b fun K hK => ?_
       simp only [go_sem]
       refine hK _ _ ?_
       clear hK K
       refine b0t ?_
       refine b0b fun K hK => ?_
       simp only [go_sem]
       refine hK _ _ ?_
       clear hK K
       refine b0k fun K22 hK22 => ?_
       have J23 : ∀ (is_10 : Bool) (t : Slots) (h : Heap), t 1 = .fs 1 (List.map b0x c) -> t 2 = B inside -> t 3 = .fp [.fs 1 (List.map eS m.Inputs), .fs 1 (List.map eS m.Outputs), .fs 2 (List.map b0l m.Counters), .fs 2 (List.map b0m m.States), .fs 4 (List.map b0i m.Rules)] 0 -> t 7 = I i_7 -> t 8 = I k_8 -> t 10 = B is_10 -> b60 k_8 is_10 = some o -> K22 t h := by
        intro is_10 t h s1 s2 s3 s7 s8 s10 hm2
        refine hK22 _ _ ?_
        unfold b60 at hm2
        refine b0b fun K hK => ?_
        simp only [go_sem, s10]
        refine hK _ _ ?_
        clear hK K
        simp only [go_sem]
        refine b0j (fun hc24 => ?_) (fun hc24 => ?_)
        ·rw [b0q hc24] at hm2
         refine b0b fun K hK => ?_
         simp only [go_sem]
         refine hK _ _ ?_
         clear hK K
         simp only [b0v, b1n, b2f, b0w]
         obtain rfl := sI9 hm2
         obtain rfl := hb14 _ rfl
         try dsimp only at hm1
         obtain rfl := sI9 hm1
         obtain rfl := hb5 _ rfl
         try dsimp only at hm0
         obtain rfl := sI9 hm0
         exact b01 (by simp only [go_sem]) (b0d _)
        ·rw [b0p hc24] at hm2
         simp only [b0r, b02, b0f]
         refine hK19 _ _ ?_
         refine b04 fun K hK => ?_
         simp only [go_sem, s8]
         refine hK _ _ ?_
         clear hK K
         simp only [b0f]
         obtain rfl := sI9 hm2
         refine ⟨_, rfl, ?_⟩
         exact ⟨s1, s2, s3, s7, (by first | (simp only [go_sem]; done) | rfl)⟩
       simp only [b0u]
       refine b0b fun K hK => ?_
       simp only [go_sem]
       refine hK _ _ ?_
       clear hK K
       simp only [go_sem]
       refine b0j (fun hc25 => ?_) (fun hc25 => ?_)
       ·rw [b0q hc25] at hm2
        refine b8r (fun t h => t 1 = .fs 1 (List.map b0x c) /\ t 2 = B inside /\ t 3 = .fp [.fs 1 (List.map eS m.Inputs), .fs 1 (List.map eS m.Outputs), .fs 2 (List.map b0l m.Counters), .fs 2 (List.map b0m m.States), .fs 4 (List.map b0i m.Rules)] 0 /\ t 7 = I i_7 /\ t 8 = I k_8 /\ t 10 = B ((b1y x21.Number 0 (wr ((List.length m.Inputs : Int) - 1))) && (decide (x21.Value = 0)))) (fun K hK => ?_) ?_
        ·simp only [go_sem, s3]
         refine b03 (b37 x21.Number 0 (wr ((List.length m.Inputs : Int) - 1))) ?_
         simp only [go_sem]
         refine b0j (fun hg26 => ?_) (fun hg26 => ?_)
         ·simp only [go_sem, hg26]
          exact hK _ _ ⟨s1, s2, s3, s7, s8, (by first | (simp only [go_sem, hg26]; done) | rfl)⟩
         ·simp only [go_sem, hg26]
          exact hK _ _ ⟨s1, s2, s3, s7, s8, (by first | (simp only [go_sem, hg26]; done) | rfl)⟩
        ·rintro t h ⟨s1, s2, s3, s7, s8, s10⟩
         simp only [b02, b0f]
         exact J23 ((b1y x21.Number 0 (wr ((List.length m.Inputs : Int) - 1))) && (decide (x21.Value = 0))) _ _ s1 s2 s3 s7 s8 s10 hm2
       ·rw [b0p hc25] at hm2
        refine b0b fun K hK => ?_
        simp only [go_sem]
        refine hK _ _ ?_
        clear hK K
        simp only [go_sem]
        refine b0j (fun hc27 => ?_) (fun hc27 => ?_)
        ·rw [b0q hc27] at hm2
         obtain ⟨c31, h_c31, hm2⟩ := b0g hm2
         refine b8r (fun t h => t 1 = .fs 1 (List.map b0x c) /\ t 2 = B inside /\ t 3 = .fp [.fs 1 (List.map eS m.Inputs), .fs 1 (List.map eS m.Outputs), .fs 2 (List.map b0l m.Counters), .fs 2 (List.map b0m m.States), .fs 4 (List.map b0i m.Rules)] 0 /\ t 7 = I i_7 /\ t 8 = I k_8 /\ t 10 = B c31) (fun K hK => ?_) ?_
         ·simp only [go_sem, s3]
          refine b03 (b37 x21.Number 0 (wr ((List.length m.Counters : Int) - 1))) ?_
          simp only [go_sem]
          refine b0j (fun hg32 => ?_) (fun hg32 => ?_)
          ·simp only [hg32, eq_self, if_true] at h_c31
           obtain ⟨x30, h_x30, h_c31⟩ := b0g h_c31
           have h_x300 := b05 h_x30
           have h_x301 := b08 h_x30
           obtain rfl := sI9 h_c31
           simp only [go_sem, s3, b1b h_x30, hg32]
           refine b03 (b37 x21.Value 0 x30.Max) ?_
           simp only [go_sem, hg32]
           exact hK _ _ ⟨s1, s2, s3, s7, s8, (by first | (simp only [go_sem]; done) | rfl)⟩
          ·simp only [hg32, if_false, Bool.false_eq_true] at h_c31
           obtain rfl := sI9 h_c31
           simp only [go_sem, hg32]
           exact hK _ _ ⟨s1, s2, s3, s7, s8, (by first | (simp only [go_sem]; done) | rfl)⟩
         ·rintro t h ⟨s1, s2, s3, s7, s8, s10⟩
          simp only [b02, b0f]
          exact J23 c31 _ _ s1 s2 s3 s7 s8 s10 hm2
        ·rw [b0p hc27] at hm2
         refine b0b fun K hK => ?_
         simp only [go_sem]
         refine hK _ _ ?_
         clear hK K
         simp only [go_sem]
         refine b0j (fun hc33 => ?_) (fun hc33 => ?_)
         ·rw [b0q hc33] at hm2
          refine b8r (fun t h => t 1 = .fs 1 (List.map b0x c) /\ t 2 = B inside /\ t 3 = .fp [.fs 1 (List.map eS m.Inputs), .fs 1 (List.map eS m.Outputs), .fs 2 (List.map b0l m.Counters), .fs 2 (List.map b0m m.States), .fs 4 (List.map b0i m.Rules)] 0 /\ t 7 = I i_7 /\ t 8 = I k_8 /\ t 10 = B ((inside && (b1y x21.Number 0 (wr ((List.length m.States : Int) - 1)))) && (decide (x21.Value = 0)))) (fun K hK => ?_) ?_
          ·simp only [go_sem, s2]
           refine b0j (fun hg34 => ?_) (fun hg34 => ?_)
           ·simp only [go_sem, s3, hg34]
            refine b03 (b37 x21.Number 0 (wr ((List.length m.States : Int) - 1))) ?_
            simp only [go_sem, hg34]
            refine b0j (fun hg35 => ?_) (fun hg35 => ?_)
            ·simp only [go_sem, hg34, hg35]
             exact hK _ _ ⟨s1, s2, s3, s7, s8, (by first | (simp only [go_sem, hg34, hg35]; done) | rfl)⟩
            ·simp only [go_sem, hg34, hg35]
             exact hK _ _ ⟨s1, s2, s3, s7, s8, (by first | (simp only [go_sem, hg34, hg35]; done) | rfl)⟩
           ·simp only [go_sem, hg34]
            exact hK _ _ ⟨s1, s2, s3, s7, s8, (by first | (simp only [go_sem, hg34]; done) | rfl)⟩
          ·rintro t h ⟨s1, s2, s3, s7, s8, s10⟩
           simp only [b02, b0f]
           exact J23 ((inside && (b1y x21.Number 0 (wr ((List.length m.States : Int) - 1)))) && (decide (x21.Value = 0))) _ _ s1 s2 s3 s7 s8 s10 hm2
         ·rw [b0p hc33] at hm2
          refine b0b fun K hK => ?_
          simp only [go_sem]
          refine hK _ _ ?_
          clear hK K
          simp only [go_sem]
          refine b0j (fun hc36 => ?_) (fun hc36 => ?_)
          ·rw [b0q hc36] at hm2
           refine b8r (fun t h => t 1 = .fs 1 (List.map b0x c) /\ t 2 = B inside /\ t 3 = .fp [.fs 1 (List.map eS m.Inputs), .fs 1 (List.map eS m.Outputs), .fs 2 (List.map b0l m.Counters), .fs 2 (List.map b0m m.States), .fs 4 (List.map b0i m.Rules)] 0 /\ t 7 = I i_7 /\ t 8 = I k_8 /\ t 10 = B ((b1y x21.Number 0 (wr ((List.length m.Outputs : Int) - 1))) && (decide (x21.Value = 0)))) (fun K hK => ?_) ?_
           ·simp only [go_sem, s3]
            refine b03 (b37 x21.Number 0 (wr ((List.length m.Outputs : Int) - 1))) ?_
            simp only [go_sem]
            refine b0j (fun hg37 => ?_) (fun hg37 => ?_)
            ·simp only [go_sem, hg37]
             exact hK _ _ ⟨s1, s2, s3, s7, s8, (by first | (simp only [go_sem, hg37]; done) | rfl)⟩
            ·simp only [go_sem, hg37]
             exact hK _ _ ⟨s1, s2, s3, s7, s8, (by first | (simp only [go_sem, hg37]; done) | rfl)⟩
           ·rintro t h ⟨s1, s2, s3, s7, s8, s10⟩
            simp only [b02, b0f]
            exact J23 ((b1y x21.Number 0 (wr ((List.length m.Outputs : Int) - 1))) && (decide (x21.Value = 0))) _ _ s1 s2 s3 s7 s8 s10 hm2
          ·rw [b0p hc36] at hm2
           simp only [b0r, b02, b0f]
           exact J23 false _ _ s1 s2 s3 s7 s8 (by first | (simp only [go_sem]; done) | rfl) hm2
      ·rw [b0p hc18] at hm2
       simp only [b1e, b1h, b1g, b02, b0f]
       obtain rfl := sI9 hm2
       obtain rfl := hb14 _ rfl
       try dsimp only at hm1
       exact J9  _ _ s1 s2 s3 s7 hm1
   ·rw [b0p hc7] at hm1
    simp only [b1e, b1h, b1g, b0f]
    obtain rfl := sI9 hm1
    obtain rfl := hb5 _ rfl
    try dsimp only at hm0
    exact J4  _ _  hm0
theorem b37 (hf : Has O "newel/newelref04.from" x_r04_from) : c3c O := by
 intro n low high
 generalize hm0 : b1y n low high = r
 unfold b1y at hm0
 refine b1k hf rfl (b0a (b0d _) (b0a (b0d _) (b0a (b0d _) b0o))) (b0d _) ?_
 refine b1f (fun t h => t 0 = I n /\ t 1 = I low /\ t 2 = I high) ⟨rfl, rfl, rfl⟩ fun t h ⟨s0, s1, s2⟩ => ?_
 simp only [x_r04_from]
 refine b0b fun K hK => ?_
 simp only [go_sem]
 refine hK _ _ ?_
 clear hK K
 refine b2v (fun t h => t 6 = B ((decide (low <= n)) && (decide (n <= high)))) (fun K hK => ?_) ?_
 ·simp only [go_sem, s0, s1]
  refine b0j (fun hg1 => ?_) (fun hg1 => ?_)
  ·simp only [go_sem, s0, s2, hg1]
   exact hK _ _ (by first | (simp only [go_sem, hg1]; done) | rfl)
  ·simp only [go_sem, hg1]
   exact hK _ _ (by first | (simp only [go_sem, hg1]; done) | rfl)
 ·rintro t h s6
  simp only [b0v, b0w]
  obtain rfl := hm0
  exact b01 (by simp only [go_sem, s6]) (b0d _)
theorem d0g (hf : Has O "newel/newelref04.index" x_r04_index) : c7t O := by
 intro l p r hm0
 unfold c2d at hm0
 refine b1k hf rfl (b0a (b0e fun a _ => b4w a) (b0a (.agg _ (b0a (b0d _) (b0a (b0d _) (b0a (b0d _) b0o)))) b0o)) (b0d _) ?_
 refine b1f (fun t h => t 0 = .fs 3 (List.map b2a l) /\ t 1 = .agg [I p.State, I p.Values.1, I p.Values.2]) ⟨rfl, rfl⟩ fun t h ⟨s0, s1⟩ => ?_
 simp only [x_r04_index]
 refine b0b fun K hK => ?_
 simp only [go_sem, s1]
 refine hK _ _ ?_
 clear hK K
 refine b0t ?_
 refine b0b fun K hK => ?_
 simp only [go_sem]
 refine hK _ _ ?_
 clear hK K
 refine b0k fun K1 hK1 => ?_
 have J2 : ∀ (t : Slots) (h : Heap), d1t = some r -> K1 t h := by
  intro t h hm0
  refine hK1 _ _ ?_
  unfold d1t at hm0
  refine b0b fun K hK => ?_
  simp only [go_sem]
  refine hK _ _ ?_
  clear hK K
  simp only [b0v, b0w]
  obtain rfl := sI9 hm0
  exact b01 (by simp only [go_sem]) (b0d _)
 simp only [b0u]
 obtain ⟨b3, hl3, hm0⟩ := b0g hm0
 refine b1p hl3 (fun | i_5, t, h => t 0 = .fs 3 (List.map b2a l) /\ t 3 = .fp [I p.State, I p.Values.1, I p.Values.2] 0 /\ t 5 = I i_5) ?_ ?_
 ·exact ⟨s0, (by first | (simp only [go_sem]; done) | rfl), (by first | (simp only [go_sem]; done) | rfl)⟩
 ·rintro i_5 o t h ⟨s0, s3, s5⟩ hm1 hb3
  simp only [b9o] at hm1
  rw [g0s]
  refine b0t ?_
  refine b0b fun K hK => ?_
  simp only [go_sem, s0, s5]
  refine hK _ _ ?_
  clear hK K
  refine b0k fun K4 hK4 => ?_
  simp only [go_sem]
  refine b0j (fun hc5 => ?_) (fun hc5 => ?_)
  ·rw [b0q hc5] at hm1
   simp only [b0r, b0f]
   refine hK4 _ _ ?_
   refine b0k fun K6 hK6 => ?_
   simp only [b0u]
   obtain ⟨x8, h_x8, hm1⟩ := b0g hm1
   have h_x80 := b05 h_x8
   have h_x81 := b08 h_x8
   refine b0b fun K hK => ?_
   simp only [go_sem, s0, s3, s5, b1b h_x8, h_x81]
   refine hK _ _ ?_
   clear hK K
   simp only [go_sem]
   refine b0j (fun hc9 => ?_) (fun hc9 => ?_)
   ·rw [b0q hc9] at hm1
    refine b0b fun K hK => ?_
    simp only [go_sem, s5]
    refine hK _ _ ?_
    clear hK K
    simp only [b0v, b1n, b2f, b0w]
    obtain rfl := sI9 hm1
    obtain rfl := hb3 _ rfl
    try dsimp only at hm0
    obtain rfl := sI9 hm0
    exact b01 (by simp only [go_sem]) (b0d _)
   ·rw [b0p hc9] at hm1
    simp only [b0r, b02, b0f]
    refine hK6 _ _ ?_
    refine b04 fun K hK => ?_
    simp only [go_sem, s5]
    refine hK _ _ ?_
    clear hK K
    simp only [b0f]
    obtain rfl := sI9 hm1
    refine ⟨_, rfl, ?_⟩
    exact ⟨s0, s3, (by first | (simp only [go_sem]; done) | rfl)⟩
  ·rw [b0p hc5] at hm1
   simp only [b1e, b1h, b1g, b0f]
   obtain rfl := sI9 hm1
   obtain rfl := hb3 _ rfl
   try dsimp only at hm0
   exact J2  _ _  hm0
theorem d0h (hf : Has O "newel/newelref04.literal" x_r04_literal) : c7u O := by
 intro m p input l r hm0
 unfold b9p at hm0
 refine b1k hf rfl (b0a (.agg _ (b0a (b0e fun a _ => b00 a) (b0a (b0e fun a _ => b00 a) (b0a (b0e fun a _ => b1r a) (b0a (b0e fun a _ => b1t a) (b0a (b0e fun a _ => b1s a) b0o)))))) (b0a (.agg _ (b0a (b0d _) (b0a (b0d _) (b0a (b0d _) b0o)))) (b0a (b0d _) (b0a (.agg _ (b0a (b0d _) (b0a (b0d _) (b0a (b0d _) (b0a (b0d _) b0o))))) b0o)))) (b0d _) ?_
 refine b1f (fun t h => t 0 = .agg [.fs 1 (List.map eS m.Inputs), .fs 1 (List.map eS m.Outputs), .fs 2 (List.map b0l m.Counters), .fs 2 (List.map b0m m.States), .fs 4 (List.map b0i m.Rules)] /\ t 1 = .agg [I p.State, I p.Values.1, I p.Values.2] /\ t 2 = I input /\ t 3 = .agg [I l.Kind, I l.Number, I l.Value, B l.Not]) ⟨rfl, rfl, rfl, rfl⟩ fun t h ⟨s0, s1, s2, s3⟩ => ?_
 simp only [x_r04_literal]
 refine b0b fun K hK => ?_
 simp only [go_sem, s0, s1, s3]
 refine hK _ _ ?_
 clear hK K
 refine b0b fun K hK => ?_
 simp only [go_sem]
 refine hK _ _ ?_
 clear hK K
 refine b0t ?_
 refine b0b fun K hK => ?_
 simp only [go_sem]
 refine hK _ _ ?_
 clear hK K
 refine b0k fun K1 hK1 => ?_
 have J2 : ∀ (is_9 : Bool) (t : Slots) (h : Heap), t 7 = .fp [I l.Kind, I l.Number, I l.Value, B l.Not] 0 -> t 9 = B is_9 -> b62 l is_9 = some r -> K1 t h := by
  intro is_9 t h s7 s9 hm0
  refine hK1 _ _ ?_
  unfold b62 at hm0
  refine b0b fun K hK => ?_
  simp only [go_sem, s7, s9]
  refine hK _ _ ?_
  clear hK K
  simp only [b0v, b0w]
  obtain rfl := sI9 hm0
  exact b01 (by simp only [go_sem]) (b0d _)
 simp only [b0u]
 refine b0b fun K hK => ?_
 simp only [go_sem]
 refine hK _ _ ?_
 clear hK K
 simp only [go_sem]
 refine b0j (fun hc3 => ?_) (fun hc3 => ?_)
 ·rw [b0q hc3] at hm0
  obtain ⟨q5, h_q5, hm0⟩ := b0g hm0
  refine b04 fun K hK => ?_
  simp only [go_sem, s2, c4n h_q5]
  refine hK _ _ ?_
  clear hK K
  simp only [b02, b0f]
  exact J2 (decide ((b6c q5 1) = 1)) _ _ (by first | (simp only [go_sem]; done) | rfl) (by first | (simp only [go_sem]; done) | rfl) hm0
 ·rw [b0p hc3] at hm0
  refine b0b fun K hK => ?_
  simp only [go_sem]
  refine hK _ _ ?_
  clear hK K
  simp only [go_sem]
  refine b0j (fun hc6 => ?_) (fun hc6 => ?_)
  ·rw [b0q hc6] at hm0
   obtain ⟨x8, h_x8, hm0⟩ := b0g hm0
   have ha_x8 : ∀ v : Int, List.take (1 + Int.toNat (l.Number)) [I p.State, I p.Values.1, I p.Values.2] ++ [I v] ++ List.drop (1 + Int.toNat (l.Number)) [I p.Values.1, I p.Values.2] = [I p.State, I (b1i (l.Number) 0 v p.Values.1), I (b1i (l.Number) 1 v p.Values.2)] := fun v => (b9t (cs := [I p.State, I p.Values.1, I p.Values.2]) (off := 1) (v := v) h_x8 rfl).trans (by rw [b9s h_x8]; rfl)
   have hb_x8 : 1 + Int.toNat (l.Number) + 1 <= 3 := Nat.le_trans (Nat.add_le_add_left (b80 h_x8) 1) (by simp)
   refine b04 fun K hK => ?_
   simp only [go_sem, d6e (n := 2) (l := [p.Values.1, p.Values.2]) h_x8 rfl, b82 (cs := [I p.State, I p.Values.1, I p.Values.2]) (off := 1) h_x8 rfl]
   refine hK _ _ ?_
   clear hK K
   simp only [b02, b0f]
   exact J2 (decide (l.Value <= x8)) _ _ (by first | (simp only [go_sem]; done) | rfl) (by first | (simp only [go_sem]; done) | rfl) hm0
  ·rw [b0p hc6] at hm0
   refine b0b fun K hK => ?_
   simp only [go_sem]
   refine hK _ _ ?_
   clear hK K
   simp only [go_sem]
   refine b0j (fun hc9 => ?_) (fun hc9 => ?_)
   ·rw [b0q hc9] at hm0
    refine b04 fun K hK => ?_
    simp only [go_sem]
    refine hK _ _ ?_
    clear hK K
    simp only [b02, b0f]
    exact J2 (decide (p.State = l.Number)) _ _ (by first | (simp only [go_sem]; done) | rfl) (by first | (simp only [go_sem]; done) | rfl) hm0
   ·rw [b0p hc9] at hm0
    refine b0b fun K hK => ?_
    simp only [go_sem]
    refine hK _ _ ?_
    clear hK K
    simp only [go_sem]
    refine b0j (fun hc10 => ?_) (fun hc10 => ?_)
    ·rw [b0q hc10] at hm0
     obtain ⟨x13, h_x13, hm0⟩ := b0g hm0
     have h_x130 := b05 h_x13
     have h_x131 := b08 h_x13
     obtain ⟨q14, h_q14, hm0⟩ := b0g hm0
     refine b04 fun K hK => ?_
     simp only [go_sem, b1b h_x13, c4n h_q14]
     refine hK _ _ ?_
     clear hK K
     simp only [b02, b0f]
     exact J2 (decide ((b6c q14 1) = 1)) _ _ (by first | (simp only [go_sem]; done) | rfl) (by first | (simp only [go_sem]; done) | rfl) hm0
    ·rw [b0p hc10] at hm0
     simp only [b0r, b02, b0f]
     exact J2 false _ _ (by first | (simp only [go_sem]; done) | rfl) (by first | (simp only [go_sem]; done) | rfl) hm0
theorem c1d (hf : Has O "newel/situation.Asked" x_situation_Asked) (b7t : b90 O) (d0j : c7w O) : c3d O := by
 intro m c r hm0
 unfold b9w at hm0
 refine b1k hf rfl (b0a (.agg _ (b0a (b0e fun a _ => b00 a) (b0a (b0e fun a _ => b00 a) (b0a (b0e fun a _ => b1r a) (b0a (b0e fun a _ => b1t a) (b0a (b0e fun a _ => b1s a) b0o)))))) (b0a (b0e fun a _ => b21 a) b0o)) (b0d _) ?_
 refine b1f (fun t h => t 0 = .agg [.fs 1 (List.map eS m.Inputs), .fs 1 (List.map eS m.Outputs), .fs 2 (List.map b0l m.Counters), .fs 2 (List.map b0m m.States), .fs 4 (List.map b0i m.Rules)] /\ t 1 = .fs 1 (List.map b0x c)) ⟨rfl, rfl⟩ fun t h ⟨s0, s1⟩ => ?_
 simp only [x_situation_Asked]
 refine b0b fun K hK => ?_
 simp only [go_sem, s0]
 refine hK _ _ ?_
 clear hK K
 refine b0t ?_
 refine b0b fun K hK => ?_
 simp only [go_sem, s1]
 refine hK _ _ ?_
 clear hK K
 refine b0k fun K1 hK1 => ?_
 simp only [go_sem]
 refine b0j (fun hc2 => ?_) (fun hc2 => ?_)
 ·rw [b0q hc2] at hm0
  refine b0b fun K hK => ?_
  simp only [go_sem]
  refine hK _ _ ?_
  clear hK K
  simp only [b0v, b1n, b0w]
  obtain rfl := sI9 hm0
  exact b01 (by simp only [go_sem]) (b0d _)
 ·rw [b0p hc2] at hm0
  simp only [b0r, b0f]
  refine hK1 _ _ ?_
  refine b0t ?_
  refine b0b fun K hK => ?_
  simp only [go_sem, s1]
  refine hK _ _ ?_
  clear hK K
  refine b0k fun K3 hK3 => ?_
  have J4 : ∀ (t : Slots) (h : Heap), d15 = some r -> K3 t h := by
   intro t h hm0
   refine hK3 _ _ ?_
   unfold d15 at hm0
   refine b0b fun K hK => ?_
   simp only [go_sem]
   refine hK _ _ ?_
   clear hK K
   simp only [b0v, b0w]
   obtain rfl := sI9 hm0
   exact b01 (by simp only [go_sem]) (b0d _)
  simp only [b0u]
  obtain ⟨b5, hl5, hm0⟩ := b0g hm0
  refine b1p hl5 (fun | x_12, t, h => t 2 = .fp [.fs 1 (List.map eS m.Inputs), .fs 1 (List.map eS m.Outputs), .fs 2 (List.map b0l m.Counters), .fs 2 (List.map b0m m.States), .fs 4 (List.map b0i m.Rules)] 0 /\ t 10 = .fs 1 (List.map b0x c) /\ t 11 = I (List.length c : Int) /\ t 12 = I x_12) ?_ ?_
  ·exact ⟨(by first | (simp only [go_sem]; done) | rfl), (by first | (simp only [go_sem]; done) | rfl), (by first | (simp only [go_sem]; done) | rfl), (by first | (simp only [go_sem]; done) | rfl)⟩
  ·rintro x_12 o t h ⟨s2, s10, s11, s12⟩ hm1 hb5
   simp only [c2m] at hm1
   rw [g0v]
   refine b0b fun K hK => ?_
   simp only [go_sem, s11, s12]
   refine hK _ _ ?_
   clear hK K
   refine b0k fun K6 hK6 => ?_
   simp only [go_sem]
   refine b0j (fun hc7 => ?_) (fun hc7 => ?_)
   ·rw [b0q hc7] at hm1
    simp only [b0r, b0f]
    refine hK6 _ _ ?_
    refine b0k fun K8 hK8 => ?_
    simp only [b0u]
    obtain ⟨x10, h_x10, hm1⟩ := b0g hm1
    have h_x100 := b05 h_x10
    have h_x101 := b08 h_x10
    refine b0b fun K hK => ?_
    simp only [go_sem, s10, s12, b1b h_x10, h_x101]
    refine hK _ _ ?_
    clear hK K
    obtain ⟨c16, h_c16, hm1⟩ := b0g hm1
    refine b2v (fun t h => t 2 = .fp [.fs 1 (List.map eS m.Inputs), .fs 1 (List.map eS m.Outputs), .fs 2 (List.map b0l m.Counters), .fs 2 (List.map b0m m.States), .fs 4 (List.map b0i m.Rules)] 0 /\ t 10 = .fs 1 (List.map b0x c) /\ t 11 = I (List.length c : Int) /\ t 12 = I x_12 /\ t 23 = B c16) (fun K hK => ?_) ?_
    ·simp only [go_sem]
     refine b0j (fun hg17 => ?_) (fun hg17 => ?_)
     ·simp only [hg17, eq_self, if_true] at h_c16
      obtain rfl := sI9 h_c16
      simp only [go_sem, hg17]
      exact hK _ _ ⟨s2, s10, s11, s12, (by first | (simp only [go_sem]; done) | rfl)⟩
     ·simp only [hg17, if_false, Bool.false_eq_true] at h_c16
      obtain ⟨y15, h_y15, h_c16⟩ := b0g h_c16
      obtain rfl := sI9 h_c16
      simp only [go_sem, s2, hg17]
      refine b03 (b7t x10 "newel/situation.Asked$1" [] [.fp [.fs 1 (List.map eS m.Inputs), .fs 1 (List.map eS m.Outputs), .fs 2 (List.map b0l m.Counters), .fs 2 (List.map b0m m.States), .fs 4 (List.map b0i m.Rules)] 0] (fun z14 => b77 z14 m) (.fn _ _ _ b0o (b0a (.fp _ _ (b0a (b0e fun a _ => b00 a) (b0a (b0e fun a _ => b00 a) (b0a (b0e fun a _ => b1r a) (b0a (b0e fun a _ => b1t a) (b0a (b0e fun a _ => b1s a) b0o)))))) b0o)) (fun z0 y hz => d0j z0 m y hz) _ h_y15) ?_
      simp only [go_sem, s2, hg17]
      exact hK _ _ ⟨s2, s10, s11, s12, (by first | (simp only [go_sem]; done) | rfl)⟩
    ·rintro t h ⟨s2, s10, s11, s12, s23⟩
     simp only [go_sem, s23]
     refine b0j (fun hc18 => ?_) (fun hc18 => ?_)
     ·rw [b0q hc18] at hm1
      refine b0b fun K hK => ?_
      simp only [go_sem]
      refine hK _ _ ?_
      clear hK K
      simp only [b0v, b1n, b2f, b0w]
      obtain rfl := sI9 hm1
      obtain rfl := hb5 _ rfl
      try dsimp only at hm0
      obtain rfl := sI9 hm0
      exact b01 (by simp only [go_sem]) (b0d _)
     ·rw [b0p hc18] at hm1
      simp only [b0r, b02, b0f]
      refine hK8 _ _ ?_
      refine b04 fun K hK => ?_
      simp only [go_sem, s12]
      refine hK _ _ ?_
      clear hK K
      simp only [b0f]
      obtain rfl := sI9 hm1
      refine ⟨_, rfl, ?_⟩
      exact ⟨s2, s10, s11, (by first | (simp only [go_sem]; done) | rfl)⟩
   ·rw [b0p hc7] at hm1
    simp only [b1e, b1h, b1g, b0f]
    obtain rfl := sI9 hm1
    obtain rfl := hb5 _ rfl
    try dsimp only at hm0
    exact J4  _ _  hm0
theorem d0l (hf : Has O "newel/situation.Check$1" x_situation_CheckD1) : c7y O := by
 intro x
 generalize hm0 : b64 x = r
 unfold b64 at hm0
 refine b1k hf rfl (b0a (.agg _ (b0a (b0d _) (b0a (b0d _) (b0a (b0d _) (b0a (b0d _) b0o))))) b0o) (b0d _) ?_
 refine b1f (fun t h => t 0 = .agg [I x.Kind, I x.Number, I x.Value, B x.Not]) rfl fun t h s0 => ?_
 simp only [x_situation_CheckD1]
 refine b0b fun K hK => ?_
 simp only [go_sem, s0]
 refine hK _ _ ?_
 clear hK K
 refine b0b fun K hK => ?_
 simp only [go_sem]
 refine hK _ _ ?_
 clear hK K
 simp only [b0v, b0w]
 obtain rfl := hm0
 exact b01 (by simp only [go_sem]) (b0d _)
end Go.Nw.KM
