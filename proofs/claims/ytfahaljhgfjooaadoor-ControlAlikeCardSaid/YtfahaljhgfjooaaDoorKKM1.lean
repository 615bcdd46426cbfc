/- That the texts make what their models say: printed by a program. -/
import Derived.Test.YtfahaljhgfjooaaDoorKM
set_option linter.all false
namespace Go.Nw.KM
open Go.Nw.Ctl
set_option maxHeartbeats 4000000
variable {O : Orac} [MapsOk O]
theorem c3c (hf : Has O "(newel/control.plant).explore" x__control_plant__explore) (d2w : c9y O) (d2x : c9z O) (d20 : c92 O) : c5e O := by
 intro m assume heard_n heard_a heard_b heard heard_z heard_h r hm0;unfold b9h at hm0;refine b1i hf rfl (b0a (fM _) (b0a (b0c fun a _ => b2j a) (b0a heard_z b0j))) (.fp _ _ (b0a (b0c fun a _ => b44 a) (b0a (b0c fun a _ => b1t a) (b0a (b0c fun a _ => b1t a) (b0a (b0c fun a _ => b8i a) b0j))))) ?_;refine b1c (fun t h => t 0 = .agg (vM m.Plant.Machine) /\ t 1 = .fs 1 (List.map b0t assume) /\ t 2 = .fn heard_n heard_a heard_b) ⟨rfl, rfl, rfl⟩ fun t h ⟨s0, s1, s2⟩ => ?_;simp only [x__control_plant__explore];apply b0b;intro K hK;simp only [go_sem, s0];apply hK;clear hK K;apply b0b;intro K hK;simp only [go_sem];apply hK;clear hK K;apply b0b;intro K hK;simp only [go_sem];refine g0d (O := O) (e := List.map (eM (vks b47) vI) ([] : List (Place × Int))) rfl ?_;simp only [go_sem];refine d2i (O := O) (fk := (vks b47)) (fv := vI) (l := ([] : List (Place × Int))) (x := (Place.mk 0 (0, 0))) (v := 0) g1t d30 ?_ ?_ ?_
 ·rfl
 ·simp only [go_sem]
 simp only [go_sem];apply hK;clear hK K;refine b0v ?_;apply b0b;intro K hK;simp only [go_sem];apply hK;clear hK K;refine b0i fun K1 hK1 => ?_
 have J2 : ∀ (w_7_0 : List Place) (w_7_1 w_7_2 : List Int) (w_7_3 : List (List Int)) (i7 i7_1 : Nat) (i7_2 i7_3 : Nat) (v7 : AV) (t : Slots) (h : Heap), t 7 = .rp i7 0 0 -> h.ob i7 = some (4, [[.rs i7_1 0 (List.length w_7_0), .rs i7_2 0 (List.length w_7_1), .rs i7_3 0 (List.length w_7_2), v7]]) -> i7 < h.nx -> h.ob i7_1 = some (3, List.map b1g w_7_0) -> i7_1 < h.nx -> h.ob i7_2 = some (1, List.map eI w_7_1) -> i7_2 < h.nx -> h.ob i7_3 = some (1, List.map eI w_7_2) -> i7_3 < h.nx -> b2a h v7 1 (List.map b2f w_7_3) -> ¬i7 = i7_1 -> ¬i7 = i7_2 -> ¬i7 = i7_3 -> b07 v7 i7 -> ¬i7_1 = i7_2 -> ¬i7_1 = i7_3 -> b07 v7 i7_1 -> ¬i7_2 = i7_3 -> b07 v7 i7_2 -> b07 v7 i7_3 -> c6a w_7_0 w_7_1 w_7_2 w_7_3 = some r -> K1 t h := by
  intro w_7_0 w_7_1 w_7_2 w_7_3 i7 i7_1 i7_2 i7_3 v7 t h s7 Q4 Q2 Qe Qa Qg Q7 Qh Q6 Qk Qc Qf Qi Ql Qm Qn Qp Qo Qq Qr hm0;refine hK1 _ _ ?_;unfold c6a at hm0;apply b0b;intro K hK;simp only [go_sem, s7];apply hK;clear hK K;simp only [b0x, b0y];obtain rfl := sI9 hm0;exact b8e (v := .rp i7 0 0) vc9 (c66 (id := i7) (sz := 4) (xs := [.rs i7_1 0 (List.length w_7_0), .rs i7_2 0 (List.length w_7_1), .rs i7_3 0 (List.length w_7_2), v7]) (by simp only [go_sem, Q4]) (.cons (b29 (f := b1g) (l := w_7_0) (id := i7_1) (by simp only [go_sem, Qe]) vh9 b44 d32) (.cons (b29 (f := eI) (l := w_7_1) (id := i7_2) (by simp only [go_sem, Qg]) vh9 b1t b8p) (.cons (b29 (f := eI) (l := w_7_2) (id := i7_3) (by simp only [go_sem, Qh]) vh9 b1t b8p) (.cons (r8x (f := b2f) (l := w_7_3) (b3x Qk (by intro j hj hl; first | rfl | simp only [go_sem, hl, b4s hj Ql, b4s hj Qp, b4s hj Qq, b4s hj Qr]) (by first | omega | exact Nat.le_refl _ | (simp only [go_sem, nxs] <;> omega))) b8i j7n) (.nil))))))
 simp only [b0u];obtain ⟨b3, hl3, hm0⟩ := b0g hm0;refine b1j hl3 (fun | (w_7_0, w_7_1, w_7_2, w_7_3, found_8, at_9), t, h => ∃ i7 i7_1 : Nat, ∃ i7_2 i7_3 : Nat, ∃ v7 : AV, ∃ i8 : Nat, t 1 = .fs 1 (List.map b0t assume) /\ t 2 = .fn heard_n heard_a heard_b /\ t 3 = .fp (vM m.Plant.Machine) 0 /\ t 7 = .rp i7 0 0 /\ t 8 = .mp i8 /\ t 9 = I at_9 /\ h.ob i7 = some (4, [[.rs i7_1 0 (List.length w_7_0), .rs i7_2 0 (List.length w_7_1), .rs i7_3 0 (List.length w_7_2), v7]]) /\ i7 < h.nx /\ h.ob i7_1 = some (3, List.map b1g w_7_0) /\ i7_1 < h.nx /\ h.ob i7_2 = some (1, List.map eI w_7_1) /\ i7_2 < h.nx /\ h.ob i7_3 = some (1, List.map eI w_7_2) /\ i7_3 < h.nx /\ b2a h v7 1 (List.map b2f w_7_3) /\ h.ob i8 = some (0, List.map (eM (vks b47) vI) found_8) /\ i8 < h.nx /\ ¬i7 = i7_1 /\ ¬i7 = i7_2 /\ ¬i7 = i7_3 /\ b07 v7 i7 /\ ¬i7 = i8 /\ ¬i7_1 = i7_2 /\ ¬i7_1 = i7_3 /\ b07 v7 i7_1 /\ ¬i7_1 = i8 /\ ¬i7_2 = i7_3 /\ b07 v7 i7_2 /\ ¬i7_2 = i8 /\ b07 v7 i7_3 /\ ¬i7_3 = i8 /\ b07 v7 i8) ?_ ?_
 ·exact ⟨(nxs (nxs (nxs h.nx))), h.nx, (nxs h.nx), (nxs (nxs h.nx)), (.v (.slice none 0 0)), (nxs (nxs (nxs (nxs h.nx)))), s1, s2, va9, va9, va9, va9, vc9, vc9, vc9, vc9, vc9, vc9, vc9, vc9, c0o, vc9, vc9, vd9, vd9, vd9, vb9, vd9, vd9, vd9, vb9, vd9, vd9, vb9, vd9, vb9, vd9, vb9⟩
 ·rintro ⟨w_7_0, w_7_1, w_7_2, w_7_3, found_8, at_9⟩ o t h ⟨i7, i7_1, i7_2, i7_3, v7, i8, s1, s2, s3, s7, s8, s9, Q4, Q2, Qe, Qa, Qg, Q7, Qh, Q6, Qk, Q1, Q0, Qc, Qf, Qi, Ql, Qb, Qm, Qn, Qp, Qs, Qo, Qq, Qt, Qr, Qu, Qv⟩ hm1 hb3;simp only [b9i] at hm1;rw [g33];refine b0v ?_;apply b0b;intro K hK;simp only [go_sem, s7, s9, Q4];apply hK;clear hK K;refine b0i fun K4 hK4 => ?_;simp only [go_sem];refine b0k (fun hc5 => ?_) (fun hc5 => ?_)
  ·rw [b0r hc5] at hm1;simp only [b0s, b0f];refine hK4 _ _ ?_;refine b0i fun K6 hK6 => ?_
   have J7 : ∀ (w_7_0_1 : List Place) (w_7_1_1 w_7_2_1 : List Int) (w_7_3_1 : List (List Int)) (found_8_1 : List (Place × Int)) (i7_4 i7_5 : Nat) (i7_6 i7_7 : Nat) (t : Slots) (h : Heap), t 1 = .fs 1 (List.map b0t assume) -> t 2 = .fn heard_n heard_a heard_b -> t 3 = .fp (vM m.Plant.Machine) 0 -> t 7 = .rp i7 0 0 -> t 8 = .mp i8 -> t 9 = I at_9 -> h.ob i7 = some (4, [[.rs i7_4 0 (List.length w_7_0_1), .rs i7_5 0 (List.length w_7_1_1), .rs i7_6 0 (List.length w_7_2_1), .rs i7_7 0 (List.length w_7_3_1)]]) -> i7 < h.nx -> h.ob i7_4 = some (3, List.map b1g w_7_0_1) -> i7_4 < h.nx -> h.ob i7_5 = some (1, List.map eI w_7_1_1) -> i7_5 < h.nx -> h.ob i7_6 = some (1, List.map eI w_7_2_1) -> i7_6 < h.nx -> h.ob i7_7 = some (1, List.map b2f w_7_3_1) -> i7_7 < h.nx -> h.ob i8 = some (0, List.map (eM (vks b47) vI) found_8_1) -> i8 < h.nx -> ¬i7 = i7_4 -> ¬i7 = i7_5 -> ¬i7 = i7_6 -> ¬i7 = i7_7 -> ¬i7 = i8 -> ¬i7_4 = i7_5 -> ¬i7_4 = i7_6 -> ¬i7_4 = i7_7 -> ¬i7_4 = i8 -> ¬i7_5 = i7_6 -> ¬i7_5 = i7_7 -> ¬i7_5 = i8 -> ¬i7_6 = i7_7 -> ¬i7_6 = i8 -> ¬i7_7 = i8 -> c6b at_9 w_7_0_1 w_7_1_1 w_7_2_1 w_7_3_1 found_8_1 = some o -> K6 t h := by
    try clear s1 s2 s3 s7 s8 s9 Q4 Q2 Qe Qa Qg Q7 Qh Q6 Qk Q1 Q0 Qc Qf Qi Ql Qb Qm Qn Qp Qs Qo Qq Qt Qr Qu Qv
    intro w_7_0_1 w_7_1_1 w_7_2_1 w_7_3_1 found_8_1 i7_4 i7_5 i7_6 i7_7 t h s1 s2 s3 s7 s8 s9 Q4 Q2 Qe Qa Qg Q7 Qh Q6 Q1i Q1j Q1 Q0 Qc Qf Qi Q1k Qb Qm Qn Q1l Qs Qo Q1m Qt Q1n Qu Q1o hm1;refine hK6 _ _ ?_;unfold c6b at hm1;apply b03;intro K hK;simp only [go_sem, s9];apply hK;clear hK K;simp only [b0f];obtain rfl := sI9 hm1;refine ⟨_, rfl, ?_⟩;exact ⟨i7, i7_4, i7_5, i7_6, (.rs i7_7 0 (List.length w_7_3_1)), i8, s1, s2, s3, s7, s8, va9, Q4, Q2, Qe, Qa, Qg, Q7, Qh, Q6, (b2v (by simp only [go_sem, Q1i]) (by first | rfl | simp only [go_sem]) (by simp only [go_sem, Q1j])), Q1, Q0, Qc, Qf, Qi, vb9, Qb, Qm, Qn, vb9, Qs, Qo, vb9, Qt, vb9, Qu, vb9⟩
   simp only [b0u];obtain ⟨x9, h_x9, hm1⟩ := b0g hm1;have h_x90 := b05 h_x9;have h_x91 := b06 h_x9;apply b0b;intro K hK;simp only [go_sem, s7, s9, Q4, Qe, b3n h_x9, h_x90, h_x91];apply hK;clear hK K;obtain ⟨y12, h_y12, hm1⟩ := b0g hm1;obtain ⟨l13, h_l13, hm1⟩ := b0g hm1;apply b0b;intro K hK;simp only [go_sem, s3];refine b01 (d2w m.Plant _ h_y12) ?_;simp only [go_sem];refine d2k (f := eI) (z := 0) rfl h_l13 ?_;simp only [go_sem];apply hK;clear hK K;refine b0v ?_;apply b0b;intro K hK;simp only [go_sem];apply hK;clear hK K;refine b0i fun K14 hK14 => ?_
   have J15 : ∀ (w_7_0_1 : List Place) (w_7_1_1 w_7_2_1 : List Int) (found_8_1 : List (Place × Int)) (row_11 : List Int) (i7_4 i7_5 : Nat) (i7_6 i11 : Nat) (t : Slots) (h : Heap), t 1 = .fs 1 (List.map b0t assume) -> t 2 = .fn heard_n heard_a heard_b -> t 3 = .fp (vM m.Plant.Machine) 0 -> t 7 = .rp i7 0 0 -> t 8 = .mp i8 -> t 9 = I at_9 -> t 11 = .rs i11 0 (List.length row_11) -> h.ob i7 = some (4, [[.rs i7_4 0 (List.length w_7_0_1), .rs i7_5 0 (List.length w_7_1_1), .rs i7_6 0 (List.length w_7_2_1), v7]]) -> i7 < h.nx -> h.ob i7_4 = some (3, List.map b1g w_7_0_1) -> i7_4 < h.nx -> h.ob i7_5 = some (1, List.map eI w_7_1_1) -> i7_5 < h.nx -> h.ob i7_6 = some (1, List.map eI w_7_2_1) -> i7_6 < h.nx -> b2a h v7 1 (List.map b2f w_7_3) -> h.ob i8 = some (0, List.map (eM (vks b47) vI) found_8_1) -> i8 < h.nx -> h.ob i11 = some (1, List.map eI row_11) -> i11 < h.nx -> ¬i7 = i7_4 -> ¬i7 = i7_5 -> ¬i7 = i7_6 -> b07 v7 i7 -> ¬i7 = i8 -> ¬i7 = i11 -> ¬i7_4 = i7_5 -> ¬i7_4 = i7_6 -> b07 v7 i7_4 -> ¬i7_4 = i8 -> ¬i7_4 = i11 -> ¬i7_5 = i7_6 -> b07 v7 i7_5 -> ¬i7_5 = i8 -> ¬i7_5 = i11 -> b07 v7 i7_6 -> ¬i7_6 = i8 -> ¬i7_6 = i11 -> b07 v7 i8 -> b07 v7 i11 -> ¬i8 = i11 -> c59 w_7_3 at_9 w_7_0_1 w_7_1_1 w_7_2_1 found_8_1 row_11 = some o -> K14 t h := by
    try clear s1 s2 s3 s7 s8 s9 Q4 Q2 Qe Qa Qg Q7 Qh Q6 Qk Q1 Q0 Qc Qf Qi Ql Qb Qm Qn Qp Qs Qo Qq Qt Qr Qu Qv
    intro w_7_0_1 w_7_1_1 w_7_2_1 found_8_1 row_11 i7_4 i7_5 i7_6 i11 t h s1 s2 s3 s7 s8 s9 s11 Q4 Q2 Qe Qa Qg Q7 Qh Q6 Qk Q1 Q0 Q17 Q12 Qc Qf Qi Ql Qb Qj Qm Qn Qp Qs Qx Qo Qq Qt Qy Qr Qu Qz Qv Q10 Qw hm1;refine hK14 _ _ ?_;unfold c59 at hm1;refine g9j (s := 11) (v := .rs i11 0 (List.length row_11)) (f := eI) (l := row_11) (by simp only [go_sem, s11]) (b2v (by simp only [go_sem, Q17]) vc9 (by simp only [go_sem, Q12])) b1t b8p ?_;simp only [d75];obtain ⟨l17, h_l17, hm1⟩ := b0g hm1;apply b03;intro K hK;simp only [go_sem, s7, Q4, Qj];refine b3a (f := b2f) (l := w_7_3) (m := ([row_11])) ?_ ?_ ?_ ?_ h_l17 ?_
    ·exact (b3x Qk (by intro j hj hl; first | rfl | simp only [go_sem, hl, b4s hj Q10]) (by first | omega | exact Nat.le_refl _ | (simp only [go_sem, nxs] <;> omega)))
    ·exact (b4t vc9 vc9)
    ·exact (b4r vf9)
    ·exact (fun _ => by simp)
    simp only [go_sem, Q4, Q2, Ql, Qj];apply hK;clear hK K;simp only [b02, b0f];exact J7 w_7_0_1 w_7_1_1 w_7_2_1 l17 found_8_1 i7_4 i7_5 i7_6 (nxs h.nx) _ _ s1 s2 s3 s7 s8 s9 vc9 (by simp only [go_sem, Q2]) (by simp only [go_sem, Qe, Qa, b1z Qc, Qp, Qx]) (by simp only [go_sem, Qa]) (by simp only [go_sem, Qg, Q7, b1z Qf, Qq, Qy]) (by simp only [go_sem, Q7]) (by simp only [go_sem, Qh, Q6, b1z Qi, Qr, Qz]) (by simp only [go_sem, Q6]) (by simp only [go_sem, Q2, b8s Qk]) vc9 (by simp only [go_sem, Q1, Q0, b1z Qb, Qv, Qw]) (by simp only [go_sem, Q0]) Qc Qf Qi vd9 Qb Qm Qn vd9 Qs Qo vd9 Qt vd9 Qu vd9 hm1
   simp only [b0u];obtain ⟨b18, hl18, hm1⟩ := b0g hm1;refine b1j hl18 (fun | (w_7_0_1, w_7_1_1, w_7_2_1, found_8_1, row_11, x_47), t, h => ∃ i7_4 i7_5 : Nat, ∃ i7_6 i10 i11 : Nat, t 1 = .fs 1 (List.map b0t assume) /\ t 2 = .fn heard_n heard_a heard_b /\ t 3 = .fp (vM m.Plant.Machine) 0 /\ t 7 = .rp i7 0 0 /\ t 8 = .mp i8 /\ t 9 = I at_9 /\ t 10 = .rp i10 0 0 /\ t 11 = .rs i11 0 (List.length row_11) /\ t 46 = I ((List.length l13 : Nat) : Int) /\ t 47 = I x_47 /\ h.ob i7 = some (4, [[.rs i7_4 0 (List.length w_7_0_1), .rs i7_5 0 (List.length w_7_1_1), .rs i7_6 0 (List.length w_7_2_1), v7]]) /\ i7 < h.nx /\ h.ob i7_4 = some (3, List.map b1g w_7_0_1) /\ i7_4 < h.nx /\ h.ob i7_5 = some (1, List.map eI w_7_1_1) /\ i7_5 < h.nx /\ h.ob i7_6 = some (1, List.map eI w_7_2_1) /\ i7_6 < h.nx /\ b2a h v7 1 (List.map b2f w_7_3) /\ h.ob i8 = some (0, List.map (eM (vks b47) vI) found_8_1) /\ i8 < h.nx /\ h.ob i10 = some (3, [[I x9.State, I x9.Values.1, I x9.Values.2]]) /\ i10 < h.nx /\ h.ob i11 = some (1, List.map eI row_11) /\ i11 < h.nx /\ ¬i7 = i7_4 /\ ¬i7 = i7_5 /\ ¬i7 = i7_6 /\ b07 v7 i7 /\ ¬i7 = i8 /\ ¬i7 = i10 /\ ¬i7 = i11 /\ ¬i7_4 = i7_5 /\ ¬i7_4 = i7_6 /\ b07 v7 i7_4 /\ ¬i7_4 = i8 /\ ¬i7_4 = i10 /\ ¬i7_4 = i11 /\ ¬i7_5 = i7_6 /\ b07 v7 i7_5 /\ ¬i7_5 = i8 /\ ¬i7_5 = i10 /\ ¬i7_5 = i11 /\ b07 v7 i7_6 /\ ¬i7_6 = i8 /\ ¬i7_6 = i10 /\ ¬i7_6 = i11 /\ b07 v7 i8 /\ b07 v7 i10 /\ b07 v7 i11 /\ ¬i8 = i10 /\ ¬i8 = i11 /\ ¬i10 = i11) ?_ ?_
   ·exact ⟨i7_1, i7_2, i7_3, h.nx, (nxs h.nx), s1, s2, s3, s7, s8, s9, va9, va9, va9, va9, (by simp only [go_sem, Q4, Q2]), (by simp only [go_sem, Q2]), (by simp only [go_sem, Qe, Qa]), (by simp only [go_sem, Qa]), (by simp only [go_sem, Qg, Q7]), (by simp only [go_sem, Q7]), (by simp only [go_sem, Qh, Q6]), (by simp only [go_sem, Q6]), (b3x Qk (by intro j hj hl; first | rfl | simp only [go_sem, hl]) (by first | omega | exact Nat.le_refl _ | (simp only [go_sem, nxs] <;> omega))), (by simp only [go_sem, Q1, Q0]), (by simp only [go_sem, Q0]), vc9, vc9, vc9, vc9, Qc, Qf, Qi, Ql, Qb, vd9, vd9, Qm, Qn, Qp, Qs, vd9, vd9, Qo, Qq, Qt, vd9, vd9, Qr, Qu, vd9, vd9, Qv, vb9, vb9, vd9, vd9, vd9⟩
   ·try clear s1 s2 s3 s7 s8 s9 Q4 Q2 Qe Qa Qg Q7 Qh Q6 Qk Q1 Q0 Qc Qf Qi Ql Qb Qm Qn Qp Qs Qo Qq Qt Qr Qu Qv
    rintro ⟨w_7_0_1, w_7_1_1, w_7_2_1, found_8_1, row_11, x_47⟩ o t h ⟨i7_4, i7_5, i7_6, i10, i11, s1, s2, s3, s7, s8, s9, s10, s11, s46, s47, Q4, Q2, Qe, Qa, Qg, Q7, Qh, Q6, Qk, Q1, Q0, Q13, Q14, Q17, Q12, Qc, Qf, Qi, Ql, Qb, Q18, Qj, Qm, Qn, Qp, Qs, Q1c, Qx, Qo, Qq, Qt, Q1d, Qy, Qr, Qu, Q1e, Qz, Qv, Q1f, Q10, Q19, Qw, Q11⟩ hm2 hb18;simp only [c1u] at hm2;rw [g32];apply b0b;intro K hK;simp only [go_sem, s46, s47];apply hK;clear hK K;refine b0i fun K19 hK19 => ?_;simp only [go_sem];refine b0k (fun hc20 => ?_) (fun hc20 => ?_)
    ·rw [b0r hc20] at hm2;simp only [b0s, b0f];refine hK19 _ _ ?_;refine b0i fun K21 hK21 => ?_
     have J22 : ∀ (w_7_0_2 : List Place) (w_7_1_2 w_7_2_2 : List Int) (found_8_2 : List (Place × Int)) (row_11_1 : List Int) (i7_7 i7_8 i7_9 : Nat) (t : Slots) (h : Heap), t 1 = .fs 1 (List.map b0t assume) -> t 2 = .fn heard_n heard_a heard_b -> t 3 = .fp (vM m.Plant.Machine) 0 -> t 7 = .rp i7 0 0 -> t 8 = .mp i8 -> t 9 = I at_9 -> t 10 = .rp i10 0 0 -> t 11 = .rs i11 0 (List.length row_11_1) -> t 46 = I ((List.length l13 : Nat) : Int) -> t 47 = I x_47 -> h.ob i7 = some (4, [[.rs i7_7 0 (List.length w_7_0_2), .rs i7_8 0 (List.length w_7_1_2), .rs i7_9 0 (List.length w_7_2_2), v7]]) -> i7 < h.nx -> h.ob i7_7 = some (3, List.map b1g w_7_0_2) -> i7_7 < h.nx -> h.ob i7_8 = some (1, List.map eI w_7_1_2) -> i7_8 < h.nx -> h.ob i7_9 = some (1, List.map eI w_7_2_2) -> i7_9 < h.nx -> b2a h v7 1 (List.map b2f w_7_3) -> h.ob i8 = some (0, List.map (eM (vks b47) vI) found_8_2) -> i8 < h.nx -> h.ob i10 = some (3, [[I x9.State, I x9.Values.1, I x9.Values.2]]) -> i10 < h.nx -> h.ob i11 = some (1, List.map eI row_11_1) -> i11 < h.nx -> ¬i7 = i7_7 -> ¬i7 = i7_8 -> ¬i7 = i7_9 -> b07 v7 i7 -> ¬i7 = i8 -> ¬i7 = i10 -> ¬i7 = i11 -> ¬i7_7 = i7_8 -> ¬i7_7 = i7_9 -> b07 v7 i7_7 -> ¬i7_7 = i8 -> ¬i7_7 = i10 -> ¬i7_7 = i11 -> ¬i7_8 = i7_9 -> b07 v7 i7_8 -> ¬i7_8 = i8 -> ¬i7_8 = i10 -> ¬i7_8 = i11 -> b07 v7 i7_9 -> ¬i7_9 = i8 -> ¬i7_9 = i10 -> ¬i7_9 = i11 -> b07 v7 i8 -> b07 v7 i10 -> b07 v7 i11 -> ¬i8 = i10 -> ¬i8 = i11 -> ¬i10 = i11 -> c1v x_47 w_7_0_2 w_7_1_2 w_7_2_2 found_8_2 row_11_1 = some o -> K21 t h := by
      try clear s1 s2 s3 s7 s8 s9 s10 s11 s46 s47 Q4 Q2 Qe Qa Qg Q7 Qh Q6 Qk Q1 Q0 Q13 Q14 Q17 Q12 Qc Qf Qi Ql Qb Q18 Qj Qm Qn Qp Qs Q1c Qx Qo Qq Qt Q1d Qy Qr Qu Q1e Qz Qv Q1f Q10 Q19 Qw Q11
      intro w_7_0_2 w_7_1_2 w_7_2_2 found_8_2 row_11_1 i7_7 i7_8 i7_9 t h s1 s2 s3 s7 s8 s9 s10 s11 s46 s47 Q4 Q2 Qe Qa Qg Q7 Qh Q6 Qk Q1 Q0 Q13 Q14 Q17 Q12 Qc Qf Qi Ql Qb Q18 Qj Qm Qn Qp Qs Q1c Qx Qo Qq Qt Q1d Qy Qr Qu Q1e Qz Qv Q1f Q10 Q19 Qw Q11 hm2;refine hK21 _ _ ?_;unfold c1v at hm2;apply b03;intro K hK;simp only [go_sem, s47];apply hK;clear hK K;simp only [b0f];obtain rfl := sI9 hm2;refine ⟨_, rfl, ?_⟩;exact ⟨i7_7, i7_8, i7_9, i10, i11, s1, s2, s3, s7, s8, s9, s10, (by first | exact s11 | simp only [go_sem, s11, lA9, mA9]), s46, va9, Q4, Q2, Qe, Qa, Qg, Q7, Qh, Q6, Qk, Q1, Q0, Q13, Q14, Q17, Q12, Qc, Qf, Qi, Ql, Qb, Q18, Qj, Qm, Qn, Qp, Qs, Q1c, Qx, Qo, Qq, Qt, Q1d, Qy, Qr, Qu, Q1e, Qz, Qv, Q1f, Q10, Q19, Qw, Q11⟩
     simp only [b0u];apply b0b;intro K hK;simp only [go_sem, s47];apply hK;clear hK K;obtain ⟨x24, h_x24, hm2⟩ := b0g hm2;have h_x240 := b05 h_x24;have h_x241 := b06 h_x24;apply b0b;intro K hK;simp only [go_sem, s11, Q17, b3n h_x24, h_x240, h_x241];apply hK;clear hK K;refine b0v ?_;obtain ⟨y26, h_y26, hm2⟩ := b0g hm2;apply b0b;intro K hK;simp only [go_sem, s1, s3, s10, Q13, Q11];refine b01 (d2x m.Plant assume (Place.mk x9.State (x9.Values.1, x9.Values.2)) x_47 _ h_y26) ?_;simp only [go_sem];apply hK;clear hK K;refine b0i fun K27 hK27 => ?_;simp only [go_sem];refine b0k (fun hc28 => ?_) (fun hc28 => ?_)
     ·rw [b0r hc28] at hm2;simp only [b09, b1b, b1a, b0f];exact J22 w_7_0_1 w_7_1_1 w_7_2_1 found_8_1 (List.set row_11 (Int.toNat x_47) (-1)) i7_4 i7_5 i7_6 _ _ s1 s2 s3 s7 s8 s9 s10 (by first | exact s11 | simp only [go_sem, s11]) s46 s47 (by simp only [go_sem, Q4, Qj]) (by simp only [go_sem, Q2]) (by simp only [go_sem, Qe, Qx]) (by simp only [go_sem, Qa]) (by simp only [go_sem, Qg, Qy]) (by simp only [go_sem, Q7]) (by simp only [go_sem, Qh, Qz]) (by simp only [go_sem, Q6]) (b3x Qk (by intro j hj hl; first | rfl | simp only [go_sem, b4s hj Q10]) (by first | omega | exact Nat.le_refl _ | (simp only [go_sem, nxs] <;> omega))) (by simp only [go_sem, Q1, Qw]) (by simp only [go_sem, Q0]) (by simp only [go_sem, Q13, Q11]) (by simp only [go_sem, Q14]) vc9 (by simp only [go_sem, Q12]) Qc Qf Qi Ql Qb Q18 Qj Qm Qn Qp Qs Q1c Qx Qo Qq Qt Q1d Qy Qr Qu Q1e Qz Qv Q1f Q10 Q19 Qw Q11 hm2
     ·rw [b0q hc28] at hm2;simp only [b0s, b0f];refine hK27 _ _ ?_;obtain ⟨y31, h_y31, hm2⟩ := b0g hm2;obtain ⟨y32, h_y32, hm2⟩ := b0g hm2;apply b0b;intro K hK;simp only [go_sem, s2, s3, s10, Q13, Q11];refine o5t (heard_h x_47 _ h_y31) ?_;simp only [go_sem];refine b01 (d20 m.Plant (Place.mk x9.State (x9.Values.1, x9.Values.2)) y31 _ h_y32) ?_;simp only [go_sem];apply hK;clear hK K;apply b0b;intro K hK;simp only [go_sem, s8];refine j5x (O := O) (fk := (vks b47)) (fv := vI) (l := found_8_1) (x := (Place.mk y32.State (y32.Values.1, y32.Values.2))) (z := 0) j8c d30 ?_ ?_ ?_
      ·rfl
      ·simp only [go_sem, Q1, Q0, Qw]
      simp only [go_sem];apply hK;clear hK K;refine b0v ?_;apply b0b;intro K hK;simp only [go_sem];apply hK;clear hK K;refine b0i fun K33 hK33 => ?_
      have J34 : ∀ (w_7_0_2 : List Place) (w_7_1_2 w_7_2_2 : List Int) (found_8_2 : List (Place × Int)) (to_14 : Int) (i7_7 i7_8 i7_9 : Nat) (t : Slots) (h : Heap), t 1 = .fs 1 (List.map b0t assume) -> t 2 = .fn heard_n heard_a heard_b -> t 3 = .fp (vM m.Plant.Machine) 0 -> t 7 = .rp i7 0 0 -> t 8 = .mp i8 -> t 9 = I at_9 -> t 10 = .rp i10 0 0 -> t 11 = .rs i11 0 (List.length (List.set row_11 (Int.toNat x_47) (-1))) -> t 12 = I x_47 -> t 14 = I to_14 -> t 46 = I ((List.length l13 : Nat) : Int) -> t 47 = I x_47 -> h.ob i7 = some (4, [[.rs i7_7 0 (List.length w_7_0_2), .rs i7_8 0 (List.length w_7_1_2), .rs i7_9 0 (List.length w_7_2_2), v7]]) -> i7 < h.nx -> h.ob i7_7 = some (3, List.map b1g w_7_0_2) -> i7_7 < h.nx -> h.ob i7_8 = some (1, List.map eI w_7_1_2) -> i7_8 < h.nx -> h.ob i7_9 = some (1, List.map eI w_7_2_2) -> i7_9 < h.nx -> b2a h v7 1 (List.map b2f w_7_3) -> h.ob i8 = some (0, List.map (eM (vks b47) vI) found_8_2) -> i8 < h.nx -> h.ob i10 = some (3, [[I x9.State, I x9.Values.1, I x9.Values.2]]) -> i10 < h.nx -> h.ob i11 = some (1, List.map eI (List.set row_11 (Int.toNat x_47) (-1))) -> i11 < h.nx -> ¬i7 = i7_7 -> ¬i7 = i7_8 -> ¬i7 = i7_9 -> b07 v7 i7 -> ¬i7 = i8 -> ¬i7 = i10 -> ¬i7 = i11 -> ¬i7_7 = i7_8 -> ¬i7_7 = i7_9 -> b07 v7 i7_7 -> ¬i7_7 = i8 -> ¬i7_7 = i10 -> ¬i7_7 = i11 -> ¬i7_8 = i7_9 -> b07 v7 i7_8 -> ¬i7_8 = i8 -> ¬i7_8 = i10 -> ¬i7_8 = i11 -> b07 v7 i7_9 -> ¬i7_9 = i8 -> ¬i7_9 = i10 -> ¬i7_9 = i11 -> b07 v7 i8 -> b07 v7 i10 -> b07 v7 i11 -> ¬i8 = i10 -> ¬i8 = i11 -> ¬i10 = i11 -> c1w row_11 x_47 w_7_0_2 w_7_1_2 w_7_2_2 found_8_2 to_14 = some o -> K33 t h := by
       try clear s1 s2 s3 s7 s8 s9 s10 s11 s46 s47 Q4 Q2 Qe Qa Qg Q7 Qh Q6 Qk Q1 Q0 Q13 Q14 Q17 Q12 Qc Qf Qi Ql Qb Q18 Qj Qm Qn Qp Qs Q1c Qx Qo Qq Qt Q1d Qy Qr Qu Q1e Qz Qv Q1f Q10 Q19 Qw Q11
       intro w_7_0_2 w_7_1_2 w_7_2_2 found_8_2 to_14 i7_7 i7_8 i7_9 t h s1 s2 s3 s7 s8 s9 s10 s11 s12 s14 s46 s47 Q4 Q2 Qe Qa Qg Q7 Qh Q6 Qk Q1 Q0 Q13 Q14 Q17 Q12 Qc Qf Qi Ql Qb Q18 Qj Qm Qn Qp Qs Q1c Qx Qo Qq Qt Q1d Qy Qr Qu Q1e Qz Qv Q1f Q10 Q19 Qw Q11 hm2;refine hK33 _ _ ?_;unfold c1w at hm2;obtain ⟨x36, h_x36, hm2⟩ := b0g hm2;have h_x360 := b05 h_x36;have h_x361 := b06 h_x36; (try simp only [List.length_set] at h_x361);apply b03;intro K hK;simp only [go_sem, s11, s12, s14, Q17, b3n h_x36, h_x360, h_x361];apply hK;clear hK K;simp only [b02, b0f];exact J22 w_7_0_2 w_7_1_2 w_7_2_2 found_8_2 (List.set (List.set row_11 (Int.toNat x_47) (-1)) (Int.toNat x_47) to_14) i7_7 i7_8 i7_9 _ _ s1 s2 s3 s7 s8 s9 s10 (by first | exact s11 | simp only [go_sem, s11]) s46 s47 (by simp only [go_sem, Q4, Qj]) (by simp only [go_sem, Q2]) (by simp only [go_sem, Qe, Qx]) (by simp only [go_sem, Qa]) (by simp only [go_sem, Qg, Qy]) (by simp only [go_sem, Q7]) (by simp only [go_sem, Qh, Qz]) (by simp only [go_sem, Q6]) (b3x Qk (by intro j hj hl; first | rfl | simp only [go_sem, b4s hj Q10]) (by first | omega | exact Nat.le_refl _ | (simp only [go_sem, nxs] <;> omega))) (by simp only [go_sem, Q1, Qw]) (by simp only [go_sem, Q0]) (by simp only [go_sem, Q13, Q11]) (by simp only [go_sem, Q14]) vc9 (by simp only [go_sem, Q12]) Qc Qf Qi Ql Qb Q18 Qj Qm Qn Qp Qs Q1c Qx Qo Qq Qt Q1d Qy Qr Qu Q1e Qz Qv Q1f Q10 Q19 Qw Q11 hm2
      simp only [go_sem];refine b0k (fun hc37 => ?_) (fun hc37 => ?_)
      ·rw [b0r hc37] at hm2;apply b0b;intro K hK;simp only [go_sem, s7, Q4, Q2, Qj];apply hK;clear hK K;apply b0b;intro K hK;simp only [go_sem, s8];refine d2i (O := O) (fk := (vks b47)) (fv := vI) (l := found_8_1) (x := (Place.mk y32.State (y32.Values.1, y32.Values.2))) (v := ((List.length w_7_0_1 : Nat) : Int)) g1t d30 ?_ ?_ ?_
       ·rfl
       ·simp only [go_sem, Q1, Q0, Qw]
       simp only [go_sem];apply hK;clear hK K;obtain ⟨l41, h_l41, hm2⟩ := b0g hm2;obtain ⟨l42, h_l42, hm2⟩ := b0g hm2;obtain ⟨l43, h_l43, hm2⟩ := b0g hm2;apply b03;intro K hK;simp only [go_sem, s7, Q4, Q2, Q0, Qb, Qj];refine b3a (f := b1g) (l := w_7_0_1) (m := ([(Place.mk y32.State (y32.Values.1, y32.Values.2))])) ?_ ?_ ?_ ?_ h_l41 ?_
       ·exact (b2v (by simp only [go_sem, Qe, Qa, Qs, Qx]) vc9 (by simp only [go_sem, Qa]))
       ·exact (b4t vc9 vc9)
       ·exact (b4r vf9)
       ·exact (fun _ => by simp)
       simp only [go_sem, s7, s9, Q4, Q2, Qc, Qb, Qj];refine b3a (f := eI) (l := w_7_1_1) (m := ([at_9])) ?_ ?_ ?_ ?_ h_l42 ?_
       ·exact (b2v (by simp only [go_sem, Qg, Q7, b1z Qm, Qt, Qy]) vc9 (by simp only [go_sem, Q7]))
       ·exact (b4t vc9 vc9)
       ·exact (b4r vf9)
       ·exact (fun _ => by simp)
       simp only [go_sem, s7, Q4, Q2, Qc, Qf, Qb, Qj];refine b3a (f := eI) (l := w_7_2_1) (m := ([x_47])) ?_ ?_ ?_ ?_ h_l43 ?_
       ·exact (b2v (by simp only [go_sem, Qh, Q6, b1z Qn, b1z Qo, Qu, Qz]) vc9 (by simp only [go_sem, Q6]))
       ·exact (b4t vc9 vc9)
       ·exact (b4r vf9)
       ·exact (fun _ => by simp)
       simp only [go_sem, Q4, Q2, Qc, Qf, Qi, Qb, Qj];apply hK;clear hK K;simp only [b0f];exact J34 l41 l42 l43 (b3w found_8_1 (Place.mk y32.State (y32.Values.1, y32.Values.2)) ((List.length w_7_0_1 : Nat) : Int)) ((List.length w_7_0_1 : Nat) : Int) (nxs (nxs h.nx)) (nxs (nxs (nxs (nxs h.nx)))) (nxs (nxs (nxs (nxs (nxs (nxs h.nx)))))) _ _ s1 s2 s3 s7 s8 s9 s10 (by first | exact s11 | simp only [go_sem, s11]) va9 va9 s46 s47 vc9 (by simp only [go_sem, Q2]) (by simp only [go_sem, Q2, Q7, Q6]) vc9 (by simp only [go_sem, Q2, Q6]) vc9 (by simp only [go_sem, Q2]) vc9 (b3x Qk (by intro j hj hl; first | rfl | simp only [go_sem, hl, b4s hj Ql, b4s hj Qp, b4s hj Qq, b4s hj Qr, b4s hj Qv, b4s hj Q10]) (by first | omega | exact Nat.le_refl _ | (simp only [go_sem, nxs] <;> omega))) (by simp only [go_sem, Q0, b1z Qb, b1z Qs, b1z Qt, b1z Qu]) (by simp only [go_sem, Q0]) (by simp only [go_sem, Q13, Q14, b1z Q18, b1z Q1c, b1z Q1d, b1z Q1e, b1z Q19, Q11]) (by simp only [go_sem, Q14]) (by simp only [go_sem, Q12, b1z Qj, b1z Qx, b1z Qy, b1z Qz, b1z Qw]) (by simp only [go_sem, Q12]) vd9 vd9 vd9 Ql Qb Q18 Qj vd9 vd9 vb9 vd9 vd9 vd9 vd9 vb9 vd9 vd9 vd9 vb9 vd9 vd9 vd9 Qv Q1f Q10 Q19 Qw Q11 hm2
      ·rw [b0q hc37] at hm2;simp only [b0s, b0f];exact J34 w_7_0_1 w_7_1_1 w_7_2_1 found_8_1 (b2w found_8_1 (Place.mk y32.State (y32.Values.1, y32.Values.2)) 0) i7_4 i7_5 i7_6 _ _ s1 s2 s3 s7 s8 s9 s10 (by first | exact s11 | simp only [go_sem, s11]) va9 va9 s46 s47 (by simp only [go_sem, Q4, Q2, Qj]) (by simp only [go_sem, Q2]) (by simp only [go_sem, Qe, Qa, Qx]) (by simp only [go_sem, Qa]) (by simp only [go_sem, Qg, Q7, Qy]) (by simp only [go_sem, Q7]) (by simp only [go_sem, Qh, Q6, Qz]) (by simp only [go_sem, Q6]) (b3x Qk (by intro j hj hl; first | rfl | simp only [go_sem, hl, b4s hj Q10]) (by first | omega | exact Nat.le_refl _ | (simp only [go_sem, nxs] <;> omega))) (by simp only [go_sem, Q1, Q0, Qw]) (by simp only [go_sem, Q0]) (by simp only [go_sem, Q13, Q14, Q11]) (by simp only [go_sem, Q14]) (by simp only [go_sem, Q12]) (by simp only [go_sem, Q12]) Qc Qf Qi Ql Qb Q18 Qj Qm Qn Qp Qs Q1c Qx Qo Qq Qt Q1d Qy Qr Qu Q1e Qz Qv Q1f Q10 Q19 Qw Q11 hm2
    ·rw [b0q hc20] at hm2;simp only [b09, b1b, b1a, b0f];obtain rfl := sI9 hm2;obtain rfl := hb18 _ rfl
     try dsimp only at hm1
     exact J15 w_7_0_1 w_7_1_1 w_7_2_1 found_8_1 row_11 i7_4 i7_5 i7_6 i11 _ _ s1 s2 s3 s7 s8 s9 (by first | exact s11 | simp only [go_sem, s11, lA9, mA9]) Q4 Q2 Qe Qa Qg Q7 Qh Q6 Qk Q1 Q0 Q17 Q12 Qc Qf Qi Ql Qb Qj Qm Qn Qp Qs Qx Qo Qq Qt Qy Qr Qu Qz Qv Q10 Qw hm1
  ·rw [b0q hc5] at hm1;simp only [b09, b1b, b1a, b0f];obtain rfl := sI9 hm1;obtain rfl := hb3 _ rfl
   try dsimp only at hm0
   exact J2 w_7_0 w_7_1 w_7_2 w_7_3 i7 i7_1 i7_2 i7_3 v7 _ _ s7 Q4 Q2 Qe Qa Qg Q7 Qh Q6 Qk Qc Qf Qi Ql Qm Qn Qp Qo Qq Qr hm0
theorem d2w (hf : Has O "(newel/situation.Plant).All" x__situation_Plant__All) : c9y O := by
 intro m r hm0;unfold c1y at hm0;refine b1i hf rfl (b0a (fM _) b0j) (b0e _) ?_;refine b1c (fun t h => t 0 = .agg (vM m.Machine)) rfl fun t h s0 => ?_;simp only [x__situation_Plant__All];apply b0b;intro K hK;simp only [go_sem, s0];apply hK;clear hK K;obtain ⟨q2, h_q2, hm0⟩ := b0g hm0;apply b0b;intro K hK;simp only [go_sem, c21 h_q2];apply hK;clear hK K;simp only [b0x, b0y];obtain rfl := sI9 hm0;exact b04 vc9 (b0e _)
theorem d2x (hf : Has O "(newel/situation.Plant).Allowed" x__situation_Plant__Allowed) (b52 : b89 O) : c9z O := by
 intro m assume p input r hm0;unfold c1z at hm0;refine b1i hf rfl (b0a (fM _) (b0a (b0c fun a _ => b2j a) (b0a (.agg _ (b0a (b0e _) (b0a (b0e _) (b0a (b0e _) b0j)))) (b0a (b0e _) b0j)))) (b0e _) ?_;refine b1c (fun t h => t 0 = .agg (vM m.Machine) /\ t 1 = .fs 1 (List.map b0t assume) /\ t 2 = .agg [I p.State, I p.Values.1, I p.Values.2] /\ t 3 = I input) ⟨rfl, rfl, rfl, rfl⟩ fun t h ⟨s0, s1, s2, s3⟩ => ?_;simp only [x__situation_Plant__Allowed];apply b0b;intro K hK;simp only [go_sem, s0, s2];apply hK;clear hK K;obtain ⟨c4, h_c4, hm0⟩ := b0g hm0;refine b2p (fun t h => t 8 = B c4) (fun K hK => ?_) ?_
 ·simp only [go_sem, s1];refine b0k (fun hg5 => ?_) (fun hg5 => ?_)
  ·simp only [hg5, eq_self, if_true] at h_c4;obtain rfl := sI9 h_c4;simp only [go_sem, hg5];exact hK _ _ va9
  ·simp only [hg5, if_false, fT9] at h_c4;obtain ⟨y3, h_y3, h_c4⟩ := b0g h_c4;obtain rfl := sI9 h_c4;simp only [go_sem, s1, s3, hg5];refine b01 (b52 m assume p input _ h_y3) ?_;simp only [go_sem, hg5];exact hK _ _ va9
 ·rintro t h s8;simp only [b0x, b0y];obtain rfl := sI9 hm0;exact b04 (by simp only [go_sem, s8]) (b0e _)
theorem b52 (hf : Has O "(newel/situation.Plant).Holds" x__situation_Plant__Holds) (d3t : d0w O) (d2y : c90 O) : b89 O := by
 intro m c p input r hm0;unfold b6v at hm0;refine b1i hf rfl (b0a (fM _) (b0a (b0c fun a _ => b2j a) (b0a (.agg _ (b0a (b0e _) (b0a (b0e _) (b0a (b0e _) b0j)))) (b0a (b0e _) b0j)))) (b0e _) ?_;refine b1c (fun t h => t 0 = .agg (vM m.Machine) /\ t 1 = .fs 1 (List.map b0t c) /\ t 2 = .agg [I p.State, I p.Values.1, I p.Values.2] /\ t 3 = I input) ⟨rfl, rfl, rfl, rfl⟩ fun t h ⟨s0, s1, s2, s3⟩ => ?_;simp only [x__situation_Plant__Holds];apply b0b;intro K hK;simp only [go_sem, s0, s2, s3];apply hK;clear hK K;obtain ⟨y4, h_y4, hm0⟩ := b0g hm0;apply b0b;intro K hK;simp only [go_sem, s1];refine b01 (d3t c "(newel/situation.Plant).Holds$1" [] [.fp (vM m.Machine) 0, .fp [I p.State, I p.Values.1, I p.Values.2] 0, .fp [I input] 0] (fun z3 => b74 z3 m p input) (.fn _ _ _ b0j (b0a (.fp _ _ (b0a (b0c fun a _ => b0z a) (b0a (b0c fun a _ => b0z a) (b0a (b0c fun a _ => b1q a) (b0a (b0c fun a _ => b1s a) (b0a (b0c fun a _ => b1r a) b0j)))))) (b0a (.fp _ _ (b0a (b0e _) (b0a (b0e _) (b0a (b0e _) b0j)))) (b0a (.fp _ _ (b0a (b0e _) b0j)) b0j)))) (fun z0 y hz => d2y z0 m p input y hz) _ h_y4) ?_;simp only [go_sem]
 apply hK;clear hK K;simp only [b0x, b0y];obtain rfl := sI9 hm0;exact b04 vc9 (b0e _)
theorem d2y (hf : Has O "(newel/situation.Plant).Holds$1" x__situation_Plant__HoldsD1) (b8n : c1o O) (d2z : c91 O) : c90 O := by
 intro t_ c0 c1 c2 r hm0;unfold b74 at hm0;refine b1i hf rfl (b0a (b0c fun a _ => c2w a) (b0a (.fp _ _ (b0a (b0c fun a _ => b0z a) (b0a (b0c fun a _ => b0z a) (b0a (b0c fun a _ => b1q a) (b0a (b0c fun a _ => b1s a) (b0a (b0c fun a _ => b1r a) b0j)))))) (b0a (.fp _ _ (b0a (b0e _) (b0a (b0e _) (b0a (b0e _) b0j)))) (b0a (.fp _ _ (b0a (b0e _) b0j)) b0j)))) (b0e _) ?_;refine b1c (fun t h => t 0 = .fs 4 (List.map b3k t_) /\ t 1 = .fp (vM c0.Machine) 0 /\ t 2 = .fp [I c1.State, I c1.Values.1, I c1.Values.2] 0 /\ t 3 = .fp [I c2] 0) ⟨rfl, rfl, rfl, rfl⟩ fun t h ⟨s0, s1, s2, s3⟩ => ?_;simp only [x__situation_Plant__HoldsD1];apply b0b;intro K hK;simp only [go_sem];apply hK;clear hK K;obtain ⟨y4, h_y4, hm0⟩ := b0g hm0;apply b0b;intro K hK;simp only [go_sem, s0, s1, s2, s3];refine b01 (b8n t_ "(newel/situation.Plant).Holds$1$1" [] [.fp (vM c0.Machine) 0, .fp [I c1.State, I c1.Values.1, I c1.Values.2] 0, .fp [I c2] 0] (fun z3 => b76 z3 c0 c1 c2) (.fn _ _ _ b0j (b0a (.fp _ _ (b0a (b0c fun a _ => b0z a) (b0a (b0c fun a _ => b0z a) (b0a (b0c fun a _ => b1q a) (b0a (b0c fun a _ => b1s a) (b0a (b0c fun a _ => b1r a) b0j)))))) (b0a (.fp _ _ (b0a (b0e _) (b0a (b0e _) (b0a (b0e _) b0j)))) (b0a (.fp _ _ (b0a (b0e _) b0j)) b0j)))) (fun z0 y hz => d2z z0 c0 c1 c2 y hz) _ h_y4) ?_
 simp only [go_sem, s1, s2, s3];apply hK;clear hK K;simp only [b0x, b0y];obtain rfl := sI9 hm0;exact b04 vc9 (b0e _)
theorem d2z (hf : Has O "(newel/situation.Plant).Holds$1$1" x__situation_Plant__HoldsD1D1) (d21 : c93 O) : c91 O := by
 intro x c0 c1 c2 r hm0;unfold b76 at hm0;refine b1i hf rfl (b0a (.agg _ (b0a (b0e _) (b0a (b0e _) (b0a (b0e _) (b0a (b0e _) b0j))))) (b0a (.fp _ _ (b0a (b0c fun a _ => b0z a) (b0a (b0c fun a _ => b0z a) (b0a (b0c fun a _ => b1q a) (b0a (b0c fun a _ => b1s a) (b0a (b0c fun a _ => b1r a) b0j)))))) (b0a (.fp _ _ (b0a (b0e _) (b0a (b0e _) (b0a (b0e _) b0j)))) (b0a (.fp _ _ (b0a (b0e _) b0j)) b0j)))) (b0e _) ?_;refine b1c (fun t h => t 0 = .agg [I x.Kind, I x.Number, I x.Value, B x.Not] /\ t 1 = .fp (vM c0.Machine) 0 /\ t 2 = .fp [I c1.State, I c1.Values.1, I c1.Values.2] 0 /\ t 3 = .fp [I c2] 0) ⟨rfl, rfl, rfl, rfl⟩ fun t h ⟨s0, s1, s2, s3⟩ => ?_;simp only [x__situation_Plant__HoldsD1D1];apply b0b;intro K hK;simp only [go_sem, s0];apply hK;clear hK K;obtain ⟨y2, h_y2, hm0⟩ := b0g hm0;apply b0b;intro K hK;simp only [go_sem, s1, s2, s3];refine b01 (d21 c0 x c1 c2 _ h_y2) ?_;simp only [go_sem];apply hK;clear hK K;simp only [b0x, b0y];obtain rfl := sI9 hm0;exact b04 vc9 (b0e _)
theorem p2y (hf : Has O "(newel/situation.Plant).Input" x__situation_Plant__Input) (d2w : c9y O) (b4q : c5u O) : p2o O := by
 intro m n r hm0;unfold p2c at hm0;refine b1i hf rfl (b0a (fM _) (b0a (b0e _) b0j)) (b0e _) ?_;refine b1c (fun t h => t 0 = .agg (vM m.Machine) /\ t 1 = I n) ⟨rfl, rfl⟩ fun t h ⟨s0, s1⟩ => ?_;simp only [x__situation_Plant__Input];apply b0b;intro K hK;simp only [go_sem, s0];apply hK;clear hK K;obtain ⟨y2, h_y2, hm0⟩ := b0g hm0;apply b0b;intro K hK;simp only [go_sem, s1];refine b01 (d2w m _ h_y2) ?_;simp only [go_sem];refine b01 (b4q n 0 (wr (y2 - 1))) ?_;simp only [go_sem];apply hK;clear hK K;simp only [b0x, b0y];obtain rfl := sI9 hm0;exact b04 vc9 (b0e _)
theorem o8g (hf : Has O "(newel/situation.Plant).Place" x__situation_Plant__Place) (b4q : c5u O) : o8b O := by
 intro m p r hm0;unfold o7s at hm0;refine b1i hf rfl (b0a (fM _) (b0a (.agg _ (b0a (b0e _) (b0a (b0e _) (b0a (b0e _) b0j)))) b0j)) (b0e _) ?_;refine b1c (fun t h => t 0 = .agg (vM m.Machine) /\ t 1 = .agg [I p.State, I p.Values.1, I p.Values.2]) ⟨rfl, rfl⟩ fun t h ⟨s0, s1⟩ => ?_;simp only [x__situation_Plant__Place];apply b0b;intro K hK;simp only [go_sem, s0, s1];apply hK;clear hK K;refine b0v ?_;apply b0b;intro K hK;simp only [go_sem];apply hK;clear hK K;refine b0i fun K1 hK1 => ?_
 have J2 : ∀ (t : Slots) (h : Heap), t 2 = .fp (vM m.Machine) 0 -> t 3 = .fp [I p.State, I p.Values.1, I p.Values.2] 0 -> o73 m p = some r -> K1 t h := by
  intro t h s2 s3 hm0;refine hK1 _ _ ?_;unfold o73 at hm0;apply b0b;intro K hK;simp only [go_sem, s2, s3];refine b01 (b4q p.State 0 (wr ((List.length m.Machine.States : Int) - 1))) ?_;simp only [go_sem];apply hK;clear hK K;simp only [b0x, b0y];obtain rfl := sI9 hm0;exact b04 vc9 (b0e _)
 simp only [b0u];obtain ⟨b3, hl3, hm0⟩ := b0g hm0;refine b1j hl3 (fun | x_10, t, h => t 2 = .fp (vM m.Machine) 0 /\ t 3 = .fp [I p.State, I p.Values.1, I p.Values.2] 0 /\ t 9 = .agg [I p.Values.1, I p.Values.2] /\ t 10 = I x_10) ?_ ?_
 ·exact ⟨va9, va9, va9, va9⟩
 ·rintro x_10 o t h ⟨s2, s3, s9, s10⟩ hm1 hb3;simp only [o7t] at hm1;rw [o8u];apply b0b;intro K hK;simp only [go_sem, s10];apply hK;clear hK K;refine b0i fun K4 hK4 => ?_;simp only [go_sem];refine b0k (fun hc5 => ?_) (fun hc5 => ?_)
  ·rw [b0r hc5] at hm1;simp only [b0s, b0f];refine hK4 _ _ ?_;refine b0i fun K6 hK6 => ?_;simp only [b0u];obtain ⟨x8, h_x8, hm1⟩ := b0g hm1;have ha_x8 : ∀ v : Int, List.take (Int.toNat (x_10)) [I p.Values.1, I p.Values.2] ++ [I v] ++ List.drop (Int.toNat (x_10)) [I p.Values.2] = [I (b1n (x_10) 0 v p.Values.1), I (b1n (x_10) 1 v p.Values.2)] := fun v => (o9p (cs := [I p.Values.1, I p.Values.2]) (v := v) h_x8 rfl).trans (by rw [c1d h_x8]; rfl);have hb_x8 : Int.toNat (x_10) + 1 <= 2 := Nat.le_trans (c0a h_x8) vk9;apply b0b;intro K hK;simp only [go_sem, s9, s10, o9i (n := 2) (l := [p.Values.1, p.Values.2]) (cs := [I p.Values.1, I p.Values.2]) h_x8 rfl rfl];apply hK;clear hK K;apply b0b;intro K hK;simp only [go_sem];apply hK;clear hK K;refine b0v ?_;apply b0b;intro K hK;simp only [go_sem, s2];apply hK;clear hK K;refine b0i fun K9 hK9 => ?_
   have J10 : ∀ (most_7 : Int) (t : Slots) (h : Heap), t 2 = .fp (vM m.Machine) 0 -> t 3 = .fp [I p.State, I p.Values.1, I p.Values.2] 0 -> t 6 = I x8 -> t 7 = I most_7 -> t 9 = .agg [I p.Values.1, I p.Values.2] -> t 10 = I x_10 -> o7u x_10 x8 most_7 = some o -> K9 t h := by
    intro most_7 t h s2 s3 s6 s7 s9 s10 hm1;refine hK9 _ _ ?_;unfold o7u at hm1;apply b0b;intro K hK;simp only [go_sem, s6, s7];refine b01 (b4q x8 0 most_7) ?_;simp only [go_sem];apply hK;clear hK K;simp only [go_sem];refine b0k (fun hc11 => ?_) (fun hc11 => ?_)
    ·rw [b0r hc11] at hm1;apply b0b;intro K hK;simp only [go_sem];apply hK;clear hK K;simp only [b0x, b1p, b2e, b0y];obtain rfl := sI9 hm1;obtain rfl := hb3 _ rfl
     try dsimp only at hm0
     obtain rfl := sI9 hm0;exact b04 vc9 (b0e _)
    ·rw [b0q hc11] at hm1;simp only [b0s, b02, b0f];refine hK6 _ _ ?_;apply b03;intro K hK;simp only [go_sem, s10];apply hK;clear hK K;simp only [b0f];obtain rfl := sI9 hm1;refine ⟨_, rfl, ?_⟩;exact ⟨s2, s3, s9, va9⟩
   simp only [go_sem];refine b0k (fun hc12 => ?_) (fun hc12 => ?_)
   ·rw [b0r hc12] at hm1;obtain ⟨x14, h_x14, hm1⟩ := b0g hm1;have h_x140 := b05 h_x14;have h_x141 := b06 h_x14;apply b03;intro K hK;simp only [go_sem, s2, b08 h_x14, h_x141];apply hK;clear hK K;simp only [b0f];exact J10 x14.Max _ _ s2 s3 va9 va9 s9 s10 hm1
   ·rw [b0q hc12] at hm1;simp only [b0s, b0f];exact J10 0 _ _ s2 s3 va9 va9 s9 s10 hm1
  ·rw [b0q hc5] at hm1;simp only [b09, b1b, b1a, b0f];obtain rfl := sI9 hm1;obtain rfl := hb3 _ rfl
   try dsimp only at hm0
   exact J2  _ _ s2 s3 hm0
theorem d20 (hf : Has O "(newel/situation.Plant).Step" x__situation_Plant__Step) (b52 : b89 O) (d22 : c94 O) : c92 O := by
 intro m p input r hm0;unfold r7y at hm0;refine b1i hf rfl (b0a (fM _) (b0a (.agg _ (b0a (b0e _) (b0a (b0e _) (b0a (b0e _) b0j)))) (b0a (b0e _) b0j))) (.agg _ (b0a (b0e _) (b0a (b0e _) (b0a (b0e _) b0j)))) ?_;refine b1c (fun t h => t 0 = .agg (vM m.Machine) /\ t 1 = .agg [I p.State, I p.Values.1, I p.Values.2] /\ t 2 = I input) ⟨rfl, rfl, rfl⟩ fun t h ⟨s0, s1, s2⟩ => ?_;simp only [x__situation_Plant__Step];apply b0b;intro K hK;simp only [go_sem, s0, s1];apply hK;clear hK K;refine b0v ?_;apply b0b;intro K hK;simp only [go_sem];apply hK;clear hK K;refine b0i fun K1 hK1 => ?_
 have J2 : ∀ (p_4_0 p_4_1 p_4_2 : Int) (i4 i6 : Nat) (t : Slots) (h : Heap), t 4 = .rp i4 0 0 -> t 6 = .rp i6 0 0 -> h.ob i4 = some (3, [[I p_4_0, I p_4_1, I p_4_2]]) -> i4 < h.nx -> h.ob i6 = some (3, [[I 0, I 0, I 0]]) -> i6 < h.nx -> ¬i4 = i6 -> c6h p_4_0 p_4_1 p_4_2 = some r -> K1 t h := by
  intro p_4_0 p_4_1 p_4_2 i4 i6 t h s4 s6 Q8 Q3 Q9 Q5 Qd hm0;refine hK1 _ _ ?_;unfold c6h at hm0;apply b0b;intro K hK;simp only [go_sem, s4, s6, Q8, Q9];apply hK;clear hK K;simp only [b0x, b0y];obtain rfl := sI9 hm0;exact b90 (id := i6) (m := 3) (cs := [I p_4_0, I p_4_1, I p_4_2]) (by simp only [go_sem, s6]) vc9 rfl (.refl _ (.agg _ (b0a (b0e _) (b0a (b0e _) (b0a (b0e _) b0j)))))
 simp only [b0u];obtain ⟨b3, hl3, hm0⟩ := b0g hm0;refine b1j hl3 (fun | x_15, t, h => ∃ i4 i6 : Nat, t 2 = I input /\ t 3 = .fp (vM m.Machine) 0 /\ t 4 = .rp i4 0 0 /\ t 6 = .rp i6 0 0 /\ t 13 = .fs 4 (List.map b0m m.Machine.Rules) /\ t 14 = I (List.length m.Machine.Rules : Int) /\ t 15 = I x_15 /\ h.ob i4 = some (3, [[I p.State, I p.Values.1, I p.Values.2]]) /\ i4 < h.nx /\ h.ob i6 = some (3, [[I 0, I 0, I 0]]) /\ i6 < h.nx /\ ¬i4 = i6) ?_ ?_
 ·exact ⟨h.nx, (nxs h.nx), s2, va9, va9, va9, va9, va9, va9, vc9, vc9, vc9, vc9, vd9⟩
 ·rintro x_15 o t h ⟨i4, i6, s2, s3, s4, s6, s13, s14, s15, Q8, Q3, Q9, Q5, Qd⟩ hm1 hb3;simp only [c6f] at hm1;rw [g37];apply b0b;intro K hK;simp only [go_sem, s14, s15];apply hK;clear hK K;refine b0i fun K4 hK4 => ?_;simp only [go_sem];refine b0k (fun hc5 => ?_) (fun hc5 => ?_)
  ·rw [b0r hc5] at hm1;simp only [b0s, b0f];refine hK4 _ _ ?_;refine b0i fun K6 hK6 => ?_
   have J7 : ∀ (t : Slots) (h : Heap), t 2 = I input -> t 3 = .fp (vM m.Machine) 0 -> t 4 = .rp i4 0 0 -> t 6 = .rp i6 0 0 -> t 13 = .fs 4 (List.map b0m m.Machine.Rules) -> t 14 = I (List.length m.Machine.Rules : Int) -> t 15 = I x_15 -> h.ob i4 = some (3, [[I p.State, I p.Values.1, I p.Values.2]]) -> i4 < h.nx -> h.ob i6 = some (3, [[I 0, I 0, I 0]]) -> i6 < h.nx -> ¬i4 = i6 -> c6i x_15 = some o -> K6 t h := by
    try clear s2 s3 s4 s6 s13 s14 s15 Q8 Q3 Q9 Q5 Qd
    intro t h s2 s3 s4 s6 s13 s14 s15 Q8 Q3 Q9 Q5 Qd hm1;refine hK6 _ _ ?_;unfold c6i at hm1;apply b03;intro K hK;simp only [go_sem, s15];apply hK;clear hK K;simp only [b0f];obtain rfl := sI9 hm1;refine ⟨_, rfl, ?_⟩;exact ⟨i4, i6, s2, s3, s4, s6, s13, s14, va9, Q8, Q3, Q9, Q5, Qd⟩
   simp only [b0u];obtain ⟨x9, h_x9, hm1⟩ := b0g hm1;have h_x90 := b05 h_x9;have h_x91 := b06 h_x9;apply b0b;intro K hK;simp only [go_sem, s13, s15, b08 h_x9, h_x91];apply hK;clear hK K;refine b0v ?_;obtain ⟨c13, h_c13, hm1⟩ := b0g hm1;refine b2p (fun t h => ∃ i8 : Nat, t 2 = I input /\ t 3 = .fp (vM m.Machine) 0 /\ t 4 = .rp i4 0 0 /\ t 6 = .rp i6 0 0 /\ t 8 = .rp i8 0 0 /\ t 13 = .fs 4 (List.map b0m m.Machine.Rules) /\ t 14 = I (List.length m.Machine.Rules : Int) /\ t 15 = I x_15 /\ t 37 = B c13 /\ h.ob i4 = some (3, [[I p.State, I p.Values.1, I p.Values.2]]) /\ i4 < h.nx /\ h.ob i6 = some (3, [[I 0, I 0, I 0]]) /\ i6 < h.nx /\ h.ob i8 = some (4, [[I x9.From, I x9.To, .fs 1 (List.map b0t x9.When), .fs 2 (List.map b2o x9.Sets)]]) /\ i8 < h.nx /\ ¬i4 = i6 /\ ¬i4 = i8 /\ ¬i6 = i8) (fun K hK => ?_) ?_
   ·simp only [go_sem];refine b0k (fun hg14 => ?_) (fun hg14 => ?_)
    ·simp only [go_sem, s4, Q8, Q3, hg14];refine b0k (fun hg15 => ?_) (fun hg15 => ?_)
     ·simp only [hg14, hg15, eq_self, if_true, Bool.and_true] at h_c13;obtain rfl := sI9 h_c13;simp only [go_sem, hg14, hg15];exact hK _ _ ⟨h.nx, s2, s3, s4, s6, va9, s13, s14, s15, va9, (by simp only [go_sem, Q8, Q3]), (by simp only [go_sem, Q3]), (by simp only [go_sem, Q9, Q5]), (by simp only [go_sem, Q5]), vc9, vc9, Qd, vd9, vd9⟩
     ·simp only [hg14, hg15, if_false, Bool.and_false, fT9] at h_c13;obtain ⟨y12, h_y12, h_c13⟩ := b0g h_c13;obtain rfl := sI9 h_c13;simp only [go_sem, s2, s3, s4, Q8, Q3, hg14, hg15];refine b01 (b52 m x9.When (Place.mk p.State (p.Values.1, p.Values.2)) input _ h_y12) ?_;simp only [go_sem, hg14, hg15];exact hK _ _ ⟨h.nx, s2, s3, s4, s6, va9, s13, s14, s15, va9, (by simp only [go_sem, Q8, Q3]), (by simp only [go_sem, Q3]), (by simp only [go_sem, Q9, Q5]), (by simp only [go_sem, Q5]), vc9, vc9, Qd, vd9, vd9⟩
    ·simp only [hg14, if_false, Bool.false_and, fT9] at h_c13;obtain ⟨y12, h_y12, h_c13⟩ := b0g h_c13;obtain rfl := sI9 h_c13;simp only [go_sem, s2, s3, s4, Q8, Q3, hg14];refine b01 (b52 m x9.When (Place.mk p.State (p.Values.1, p.Values.2)) input _ h_y12) ?_;simp only [go_sem, hg14];exact hK _ _ ⟨h.nx, s2, s3, s4, s6, va9, s13, s14, s15, va9, (by simp only [go_sem, Q8, Q3]), (by simp only [go_sem, Q3]), (by simp only [go_sem, Q9, Q5]), (by simp only [go_sem, Q5]), vc9, vc9, Qd, vd9, vd9⟩
   ·try clear s2 s3 s4 s6 s13 s14 s15 Q8 Q3 Q9 Q5 Qd
    rintro t h ⟨i8, s2, s3, s4, s6, s8, s13, s14, s15, s37, Q8, Q3, Q9, Q5, Q1, Q0, Qd, Q15, Q1a⟩;refine b0i fun K16 hK16 => ?_;simp only [go_sem, s37];refine b0k (fun hc17 => ?_) (fun hc17 => ?_)
    ·rw [b0r hc17] at hm1;simp only [b09, b1b, b1a, b0f];exact J7  _ _ s2 s3 s4 s6 s13 s14 s15 Q8 Q3 Q9 Q5 Qd hm1
    ·rw [b0q hc17] at hm1;simp only [b0s, b0f];refine hK16 _ _ ?_;refine b0v ?_;apply b0b;intro K hK;simp only [go_sem, s8, Q1];apply hK;clear hK K;refine b0i fun K18 hK18 => ?_
     have J19 : ∀ (p_4_0 p_4_1 p_4_2 : Int) (t : Slots) (h : Heap), t 4 = .rp i4 0 0 -> t 6 = .rp i6 0 0 -> t 8 = .rp i8 0 0 -> h.ob i4 = some (3, [[I p_4_0, I p_4_1, I p_4_2]]) -> i4 < h.nx -> h.ob i6 = some (3, [[I 0, I 0, I 0]]) -> i6 < h.nx -> h.ob i8 = some (4, [[I x9.From, I x9.To, .fs 1 (List.map b0t x9.When), .fs 2 (List.map b2o x9.Sets)]]) -> i8 < h.nx -> ¬i4 = i6 -> ¬i4 = i8 -> ¬i6 = i8 -> c6g x9 p_4_0 p_4_1 p_4_2 = some o -> K18 t h := by
      try clear s2 s3 s4 s6 s8 s13 s14 s15 s37 Q8 Q3 Q9 Q5 Q1 Q0 Qd Q15 Q1a
      intro p_4_0 p_4_1 p_4_2 t h s4 s6 s8 Q8 Q3 Q9 Q5 Q1 Q0 Qd Q15 Q1a hm1;refine hK18 _ _ ?_;unfold c6g at hm1;apply b0b;intro K hK;simp only [go_sem, s4, s8, Q8, Q1];apply hK;clear hK K;simp only [b09, b1b, b1a, c0s, b0f, Nat.reduceEqDiff, nF9];obtain rfl := sI9 hm1;obtain rfl := hb3 _ rfl
      try dsimp only at hm0
      exact J2 x9.To p_4_1 p_4_2 i4 i6 _ _ s4 s6 vc9 (by simp only [go_sem, Q3]) (by simp only [go_sem, Q9, b1z Qd]) (by simp only [go_sem, Q5]) Qd hm0
     simp only [b0u];obtain ⟨b20, hl20, hm1⟩ := b0g hm1;refine b1j hl20 (fun | (p_4_0, p_4_1, p_4_2, x_41), t, h => t 3 = .fp (vM m.Machine) 0 /\ t 4 = .rp i4 0 0 /\ t 6 = .rp i6 0 0 /\ t 8 = .rp i8 0 0 /\ t 39 = .fs 2 (List.map b2o x9.Sets) /\ t 40 = I (List.length x9.Sets : Int) /\ t 41 = I x_41 /\ h.ob i4 = some (3, [[I p_4_0, I p_4_1, I p_4_2]]) /\ i4 < h.nx /\ h.ob i6 = some (3, [[I 0, I 0, I 0]]) /\ i6 < h.nx /\ h.ob i8 = some (4, [[I x9.From, I x9.To, .fs 1 (List.map b0t x9.When), .fs 2 (List.map b2o x9.Sets)]]) /\ i8 < h.nx /\ ¬i4 = i6 /\ ¬i4 = i8 /\ ¬i6 = i8) ?_ ?_
     ·exact ⟨s3, s4, s6, s8, va9, va9, va9, Q8, Q3, Q9, Q5, Q1, Q0, Qd, Q15, Q1a⟩
     ·try clear s2 s3 s4 s6 s8 s13 s14 s15 s37 Q8 Q3 Q9 Q5 Q1 Q0 Qd Q15 Q1a
      rintro ⟨p_4_0, p_4_1, p_4_2, x_41⟩ o t h ⟨s3, s4, s6, s8, s39, s40, s41, Q8, Q3, Q9, Q5, Q1, Q0, Qd, Q15, Q1a⟩ hm2 hb20;simp only [c11] at hm2;rw [g36];apply b0b;intro K hK;simp only [go_sem, s40, s41];apply hK;clear hK K;refine b0i fun K21 hK21 => ?_;simp only [go_sem];refine b0k (fun hc22 => ?_) (fun hc22 => ?_)
      ·rw [b0r hc22] at hm2;simp only [b0s, b0f];refine hK21 _ _ ?_;refine b0i fun K23 hK23 => ?_;simp only [b0u];obtain ⟨x25, h_x25, hm2⟩ := b0g hm2;have h_x250 := b05 h_x25;have h_x251 := b06 h_x25;apply b0b;intro K hK;simp only [go_sem, s39, s41, b08 h_x25, h_x251];apply hK;clear hK K;obtain ⟨y27, h_y27, hm2⟩ := b0g hm2;refine b9y (fun t h => t 3 = .fp (vM m.Machine) 0 /\ t 4 = .rp i4 0 0 /\ t 6 = .rp i6 0 0 /\ t 8 = .rp i8 0 0 /\ t 39 = .fs 2 (List.map b2o x9.Sets) /\ t 40 = I (List.length x9.Sets : Int) /\ t 41 = I x_41 /\ h.ob i4 = some (3, [[I y27.State, I y27.Values.1, I y27.Values.2]]) /\ i4 < h.nx /\ h.ob i6 = some (3, [[I 0, I 0, I 0]]) /\ i6 < h.nx /\ h.ob i8 = some (4, [[I x9.From, I x9.To, .fs 1 (List.map b0t x9.When), .fs 2 (List.map b2o x9.Sets)]]) /\ i8 < h.nx /\ ¬i4 = i6 /\ ¬i4 = i8 /\ ¬i6 = i8) (fun K hK => ?_) ?_
       ·simp only [go_sem, s3, s4];refine d9m (d22 m x25 (Place.mk p_4_0 (p_4_1, p_4_2)) i4 _ (by simp only [go_sem, Q8, Q3]) (by first | omega | simp only [go_sem, Q3]) _ h_y27) ?_;rintro _ hq_y27 ⟨rfl, ob_y27, fr_y27, fx_y27⟩;have lw_y270 : i4 < hq_y27.nx := Nat.lt_of_lt_of_le (by first | omega | simp only [go_sem, Q3]) fx_y27;have lw_y271 : i6 < hq_y27.nx := Nat.lt_of_lt_of_le (by first | omega | simp only [go_sem, Q5]) fx_y27;have lw_y272 : i8 < hq_y27.nx := Nat.lt_of_lt_of_le (by first | omega | simp only [go_sem, Q0]) fx_y27;have lw_y273 : h.nx < hq_y27.nx := Nat.lt_of_lt_of_le (by first | omega | simp only [go_sem]) fx_y27;simp only [go_sem];exact hK _ _ ⟨s3, s4, s6, s8, s39, s40, s41, (by simp only [go_sem, ob_y27]), (by first | omega | simp only [go_sem, Q3]), (by simp only [go_sem, Q9, Q5, b1z Qd, fr_y27]), (by first | omega | simp only [go_sem, Q5]), (by simp only [go_sem, Q1, Q0, b1z Q15, fr_y27]), (by first | omega | simp only [go_sem, Q0]), Qd, Q15, Q1a⟩
       ·try clear s3 s4 s6 s8 s39 s40 s41 Q8 Q3 Q9 Q5 Q1 Q0 Qd Q15 Q1a
        rintro t h ⟨s3, s4, s6, s8, s39, s40, s41, Q8, Q3, Q9, Q5, Q1, Q0, Qd, Q15, Q1a⟩;simp only [b02, b0f];refine hK23 _ _ ?_;apply b03;intro K hK;simp only [go_sem, s41];apply hK;clear hK K;simp only [b0f];obtain rfl := sI9 hm2;refine ⟨_, rfl, ?_⟩;exact ⟨s3, s4, s6, s8, s39, s40, va9, Q8, Q3, Q9, Q5, Q1, Q0, Qd, Q15, Q1a⟩
      ·rw [b0q hc22] at hm2;simp only [b09, b1b, b1a, b0f];obtain rfl := sI9 hm2;obtain rfl := hb20 _ rfl
       try dsimp only at hm1
       exact J19 p_4_0 p_4_1 p_4_2 _ _ s4 s6 s8 Q8 Q3 Q9 Q5 Q1 Q0 Qd Q15 Q1a hm1
  ·rw [b0q hc5] at hm1;simp only [b09, b1b, b1a, b0f];obtain rfl := sI9 hm1;obtain rfl := hb3 _ rfl
   try dsimp only at hm0
   exact J2 p.State p.Values.1 p.Values.2 i4 i6 _ _ s4 s6 Q8 Q3 Q9 Q5 Qd hm0
theorem d21 (hf : Has O "(newel/situation.Plant).literal" x__situation_Plant__literal) : c93 O := by
 intro m x p input r hm0;unfold b77 at hm0;refine b1i hf rfl (b0a (fM _) (b0a (.agg _ (b0a (b0e _) (b0a (b0e _) (b0a (b0e _) (b0a (b0e _) b0j))))) (b0a (.agg _ (b0a (b0e _) (b0a (b0e _) (b0a (b0e _) b0j)))) (b0a (b0e _) b0j)))) (b0e _) ?_;refine b1c (fun t h => t 0 = .agg (vM m.Machine) /\ t 1 = .agg [I x.Kind, I x.Number, I x.Value, B x.Not] /\ t 2 = .agg [I p.State, I p.Values.1, I p.Values.2] /\ t 3 = I input) ⟨rfl, rfl, rfl, rfl⟩ fun t h ⟨s0, s1, s2, s3⟩ => ?_;simp only [x__situation_Plant__literal];apply b0b;intro K hK;simp only [go_sem, s0, s1, s2];apply hK;clear hK K;apply b0b;intro K hK;simp only [go_sem];apply hK;clear hK K;refine b0v ?_;apply b0b;intro K hK;simp only [go_sem];apply hK;clear hK K;refine b0i fun K1 hK1 => ?_
 have J2 : ∀ (holds_9 : Bool) (t : Slots) (h : Heap), t 5 = .fp [I x.Kind, I x.Number, I x.Value, B x.Not] 0 -> t 9 = B holds_9 -> b6w x holds_9 = some r -> K1 t h := by
  intro holds_9 t h s5 s9 hm0;refine hK1 _ _ ?_;unfold b6w at hm0;apply b0b;intro K hK;simp only [go_sem, s5, s9];apply hK;clear hK K;simp only [b0x, b0y];obtain rfl := sI9 hm0;exact b04 vc9 (b0e _)
 simp only [b0u];apply b0b;intro K hK;simp only [go_sem];apply hK;clear hK K;simp only [go_sem];refine b0k (fun hc3 => ?_) (fun hc3 => ?_)
 ·rw [b0r hc3] at hm0;obtain ⟨q5, h_q5, hm0⟩ := b0g hm0;apply b03;intro K hK;simp only [go_sem, s3, c7d h_q5];apply hK;clear hK K;simp only [b02, b0f];exact J2 (decide ((b6y q5 1) = 1)) _ _ va9 va9 hm0
 ·rw [b0q hc3] at hm0;apply b0b;intro K hK;simp only [go_sem];apply hK;clear hK K;simp only [go_sem];refine b0k (fun hc6 => ?_) (fun hc6 => ?_)
  ·rw [b0r hc6] at hm0;obtain ⟨x8, h_x8, hm0⟩ := b0g hm0;have ha_x8 : ∀ v : Int, List.take (1 + Int.toNat (x.Number)) [I p.State, I p.Values.1, I p.Values.2] ++ [I v] ++ List.drop (1 + Int.toNat (x.Number)) [I p.Values.1, I p.Values.2] = [I p.State, I (b1n (x.Number) 0 v p.Values.1), I (b1n (x.Number) 1 v p.Values.2)] := fun v => (c1e (cs := [I p.State, I p.Values.1, I p.Values.2]) (off := 1) (v := v) h_x8 rfl).trans (by rw [c1d h_x8]; rfl);have hb_x8 : 1 + Int.toNat (x.Number) + 1 <= 3 := Nat.le_trans (Nat.add_le_add_left (c0a h_x8) 1) vk9;apply b03;intro K hK;simp only [go_sem, d94 (n := 2) (l := [p.Values.1, p.Values.2]) h_x8 rfl, c0c (cs := [I p.State, I p.Values.1, I p.Values.2]) (off := 1) h_x8 rfl];apply hK;clear hK K;simp only [b02, b0f];exact J2 (decide (x.Value <= x8)) _ _ va9 va9 hm0
  ·rw [b0q hc6] at hm0;apply b0b;intro K hK;simp only [go_sem];apply hK;clear hK K;simp only [go_sem];refine b0k (fun hc9 => ?_) (fun hc9 => ?_)
   ·rw [b0r hc9] at hm0;apply b03;intro K hK;simp only [go_sem];apply hK;clear hK K;simp only [b02, b0f];exact J2 (decide (p.State = x.Number)) _ _ va9 va9 hm0
   ·rw [b0q hc9] at hm0;apply b0b;intro K hK;simp only [go_sem];apply hK;clear hK K;simp only [go_sem];refine b0k (fun hc10 => ?_) (fun hc10 => ?_)
    ·rw [b0r hc10] at hm0;obtain ⟨x13, h_x13, hm0⟩ := b0g hm0;have h_x130 := b05 h_x13;have h_x131 := b06 h_x13;obtain ⟨q14, h_q14, hm0⟩ := b0g hm0;apply b03;intro K hK;simp only [go_sem, b08 h_x13, c7d h_q14];apply hK;clear hK K;simp only [b02, b0f];exact J2 (decide ((b6y q14 1) = 1)) _ _ va9 va9 hm0
    ·rw [b0q hc10] at hm0;simp only [b0s, b02, b0f];exact J2 false _ _ va9 va9 hm0
theorem d22 (hf : Has O "(newel/situation.Plant).set" x__situation_Plant__set) : c94 O := by
 intro m s p i_2 h0 ob_p2 lt_p2 r hm0;unfold r1b at hm0;refine d8g hf rfl ?_;refine b1c (fun t h => t 0 = .agg (vM m.Machine) /\ t 1 = .agg [I s.Kind, I s.Counter] /\ t 2 = .rp i_2 0 0 /\ h.ob i_2 = some (3, [[I p.State, I p.Values.1, I p.Values.2]]) /\ i_2 < h.nx /\ (∀ j, j < h0.nx -> ¬j = i_2 -> h.ob j = h0.ob j) /\ h0.nx <= h.nx) ⟨rfl, rfl, rfl, ob_p2, lt_p2, fun _ _ _ => rfl, Nat.le_refl _⟩ fun t h ⟨s0, s1, s2, ob_p2, lt_p2, fr, fx⟩ => ?_;simp only [x__situation_Plant__set];apply b0b;intro K hK;simp only [go_sem, s0, s1];apply hK;clear hK K;obtain ⟨x2, h_x2, hm0⟩ := b0g hm0;have ha_x2 : ∀ v : Int, List.take (1 + Int.toNat (s.Counter)) [I p.State, I p.Values.1, I p.Values.2] ++ [I v] ++ List.drop (1 + Int.toNat (s.Counter)) [I p.Values.1, I p.Values.2] = [I p.State, I (b1n (s.Counter) 0 v p.Values.1), I (b1n (s.Counter) 1 v p.Values.2)] := fun v => (c1e (cs := [I p.State, I p.Values.1, I p.Values.2]) (off := 1) (v := v) h_x2 rfl).trans (by rw [c1d h_x2]; rfl);have hb_x2 : 1 + Int.toNat (s.Counter) + 1 <= 3 := Nat.le_trans (Nat.add_le_add_left (c0a h_x2) 1) vk9;apply b0b;intro K hK;simp only [go_sem, s2, ob_p2, c7f (n := 2) (l := [p.Values.1, p.Values.2]) h_x2 rfl];apply hK;clear hK K;apply b0b;intro K hK;simp only [go_sem];apply hK;clear hK K;simp only [b0u];apply b0b;intro K hK;simp only [go_sem];apply hK;clear hK K;simp only [go_sem];refine b0k (fun hc3 => ?_) (fun hc3 => ?_)
 ·rw [b0r hc3] at hm0;apply b03;intro K hK;simp only [go_sem, ob_p2, ha_x2, hb_x2];apply hK;clear hK K;simp only [b02];obtain rfl := sI9 hm0;exact c4o (Post := fun v h => v = .tup [] /\ h.ob i_2 = some (3, [[I ((Place.mk p.State (b1n s.Counter 0 0 p.Values.1, b1n s.Counter 1 0 p.Values.2)).State), I (((Place.mk p.State (b1n s.Counter 0 0 p.Values.1, b1n s.Counter 1 0 p.Values.2)).Values).1), I (((Place.mk p.State (b1n s.Counter 0 0 p.Values.1, b1n s.Counter 1 0 p.Values.2)).Values).2)]]) /\ (∀ j, j < h0.nx -> ¬j = i_2 -> h.ob j = h0.ob j) /\ h0.nx <= h.nx) ⟨rfl, vc9, (by intro j hj hx0; first | exact fr j hj hx0 | (refine Eq.trans ?_ (fr j hj hx0); first | rfl | simp only [go_sem, hx0])), (by first | exact fx | omega | (simp only [go_sem, nxs] <;> omega))⟩
 ·rw [b0q hc3] at hm0;apply b0b;intro K hK;simp only [go_sem];apply hK;clear hK K;simp only [go_sem];refine b0k (fun hc4 => ?_) (fun hc4 => ?_)
  ·rw [b0r hc4] at hm0;obtain ⟨x6, h_x6, hm0⟩ := b0g hm0;have h_x60 := b05 h_x6;have h_x61 := b06 h_x6;apply b03;intro K hK;simp only [go_sem, ob_p2, b08 h_x6, c0c (cs := [I p.State, I p.Values.1, I p.Values.2]) (off := 1) h_x2 rfl, ha_x2, hb_x2];apply hK;clear hK K;simp only [b02];obtain rfl := sI9 hm0;exact c4o (Post := fun v h => v = .tup [] /\ h.ob i_2 = some (3, [[I ((Place.mk p.State (b1n s.Counter 0 (mn (wr (x2 + 1)) x6.Max) p.Values.1, b1n s.Counter 1 (mn (wr (x2 + 1)) x6.Max) p.Values.2)).State), I (((Place.mk p.State (b1n s.Counter 0 (mn (wr (x2 + 1)) x6.Max) p.Values.1, b1n s.Counter 1 (mn (wr (x2 + 1)) x6.Max) p.Values.2)).Values).1), I (((Place.mk p.State (b1n s.Counter 0 (mn (wr (x2 + 1)) x6.Max) p.Values.1, b1n s.Counter 1 (mn (wr (x2 + 1)) x6.Max) p.Values.2)).Values).2)]]) /\ (∀ j, j < h0.nx -> ¬j = i_2 -> h.ob j = h0.ob j) /\ h0.nx <= h.nx) ⟨rfl, vc9, (by intro j hj hx0; first | exact fr j hj hx0 | (refine Eq.trans ?_ (fr j hj hx0); first | rfl | simp only [go_sem, hx0])), (by first | exact fx | omega | (simp only [go_sem, nxs] <;> omega))⟩
  ·rw [b0q hc4] at hm0;apply b0b;intro K hK;simp only [go_sem];apply hK;clear hK K;simp only [go_sem];refine b0k (fun hc7 => ?_) (fun hc7 => ?_)
   ·rw [b0r hc7] at hm0;apply b03;intro K hK;simp only [go_sem, ob_p2, c0c (cs := [I p.State, I p.Values.1, I p.Values.2]) (off := 1) h_x2 rfl, ha_x2, hb_x2];apply hK;clear hK K;simp only [b02];obtain rfl := sI9 hm0;exact c4o (Post := fun v h => v = .tup [] /\ h.ob i_2 = some (3, [[I ((Place.mk p.State (b1n s.Counter 0 (mx (wr (x2 - 1)) 0) p.Values.1, b1n s.Counter 1 (mx (wr (x2 - 1)) 0) p.Values.2)).State), I (((Place.mk p.State (b1n s.Counter 0 (mx (wr (x2 - 1)) 0) p.Values.1, b1n s.Counter 1 (mx (wr (x2 - 1)) 0) p.Values.2)).Values).1), I (((Place.mk p.State (b1n s.Counter 0 (mx (wr (x2 - 1)) 0) p.Values.1, b1n s.Counter 1 (mx (wr (x2 - 1)) 0) p.Values.2)).Values).2)]]) /\ (∀ j, j < h0.nx -> ¬j = i_2 -> h.ob j = h0.ob j) /\ h0.nx <= h.nx) ⟨rfl, vc9, (by intro j hj hx0; first | exact fr j hj hx0 | (refine Eq.trans ?_ (fr j hj hx0); first | rfl | simp only [go_sem, hx0])), (by first | exact fx | omega | (simp only [go_sem, nxs] <;> omega))⟩
   ·rw [b0q hc7] at hm0;simp only [b0s, b02];obtain rfl := sI9 hm0;exact c4o (Post := fun v h => v = .tup [] /\ h.ob i_2 = some (3, [[I ((Place.mk p.State (p.Values.1, p.Values.2)).State), I (((Place.mk p.State (p.Values.1, p.Values.2)).Values).1), I (((Place.mk p.State (p.Values.1, p.Values.2)).Values).2)]]) /\ (∀ j, j < h0.nx -> ¬j = i_2 -> h.ob j = h0.ob j) /\ h0.nx <= h.nx) ⟨rfl, ob_p2, fr, fx⟩
theorem d24 (hf : Has O "newel/control.Check" x_control_Check) (d3h : d0k O) : c96 O := by
 intro m r hm0;unfold c2f at hm0;refine b1i hf rfl (b0a (fM _) b0j) (b0e _) ?_;refine b1c (fun t h => t 0 = .agg (vM m)) rfl fun t h s0 => ?_;simp only [x_control_Check];apply b0b;intro K hK;simp only [go_sem, s0];apply hK;clear hK K;obtain ⟨y2, h_y2, hm0⟩ := b0g hm0;apply b0b;intro K hK;simp only [go_sem];refine b01 (d3h m _ h_y2) ?_;simp only [go_sem];apply hK;clear hK K;simp only [b0x, b0y];obtain rfl := sI9 hm0;exact b04 vc9 (b0e _)
theorem r9h (hf : Has O "newel/control.Classes$1" x_control_ClassesD1) (r9i : r9b O) : r9a O := by
 intro f c0 c1 r hm0;unfold r7n at hm0;refine b1i hf rfl (b0a (b0e _) (b0a (.fp _ _ (b0a (b0c fun a _ => b8i a) b0j)) (b0a (.fp _ _ (b0a (b0e _) b0j)) b0j))) (b0e _) ?_;refine b1c (fun t h => t 0 = I f /\ t 1 = .fp [.fs 1 (List.map b2f c0)] 0 /\ t 2 = .fp [I c1] 0) ⟨rfl, rfl, rfl⟩ fun t h ⟨s0, s1, s2⟩ => ?_;simp only [x_control_ClassesD1];apply b0b;intro K hK;simp only [go_sem];apply hK;clear hK K;obtain ⟨x4, h_x4, hm0⟩ := b0g hm0;have h_x40 := b05 h_x4;have h_x41 := b06 h_x4;obtain ⟨x5, h_x5, hm0⟩ := b0g hm0;have h_x50 := b05 h_x5;have h_x51 := b06 h_x5;obtain ⟨y6, h_y6, hm0⟩ := b0g hm0;apply b0b;intro K hK;simp only [go_sem, s0, s1, s2, b08 h_x4, b08 h_x5];refine b01 (r9i x4 x5 _ h_y6) ?_;simp only [go_sem];apply hK;clear hK K;simp only [b0x, b0y];obtain rfl := sI9 hm0;exact b04 vc9 (b0e _)
theorem p2z (hf : Has O "newel/control.Reach" x_control_Reach) (c3e : c5g O) (c3f : c5h O) (c3c : c5e O) (c3g : c5i O) : p2p O := by
 intro m assume r hm0;unfold p2e at hm0;refine b1i hf rfl (b0a (fM _) (b0a (b0c fun a _ => b2j a) b0j)) (.tup _ (b0a (b0c fun a _ => b44 a) (b0a (b0e _) b0j))) ?_;refine b1c (fun t h => t 0 = .agg (vM m) /\ t 1 = .fs 1 (List.map b0t assume)) ⟨rfl, rfl⟩ fun t h ⟨s0, s1⟩ => ?_;simp only [x_control_Reach];apply b0b;intro K hK;simp only [go_sem, s0];apply hK;clear hK K;refine b0v ?_;obtain ⟨y2, h_y2, hm0⟩ := b0g hm0;apply b0b;intro K hK;simp only [go_sem, s1];refine b8l ?_ (c3e m ([assume]) _ h_y2) (.v _) ?_
 ·exact .cons (.refl _ (fM _)) (.cons (b29 (f := b4v) (l := ([assume])) (id := h.nx) vc9 vh9 b97 c7o) (.nil))
 simp only [go_sem];apply hK;clear hK K;refine b0v ?_;apply b0b;intro K hK;simp only [go_sem];apply hK;clear hK K;refine b0i fun K3 hK3 => ?_;simp only [go_sem];refine b0k (fun hc4 => ?_) (fun hc4 => ?_)
 ·rw [b0r hc4] at hm0;apply b0b;intro K hK;simp only [go_sem];apply hK;clear hK K;simp only [b0x, b1p, b0y];obtain rfl := sI9 hm0;exact d66 (v := .v (.slice none 0 0)) (u := I y2) vc9 vc9 (.nil _) (.refl _ (b0e _))
 ·rw [b0q hc4] at hm0;simp only [b0s, b0f];refine hK3 _ _ ?_;obtain ⟨y8, h_y8, hm0⟩ := b0g hm0;apply b0b;intro K hK;simp only [go_sem];refine b01 (c3f m) ?_;simp only [go_sem, s1];refine b01 (c3c (b3h m) assume "newel/control.same" [] [] (fun z7 => some (b6f z7)) (.fn _ _ _ b0j b0j) (fun z0 y hz => by cases hz; exact c3g z0) _ h_y8) ?_;simp only [go_sem];apply hK;clear hK K;simp only [b0x, b0y];obtain rfl := sI9 hm0;exact d1m vc9 vc9 (b0c fun a _ => b44 a) (b0e _)
theorem p20 (hf : Has O "newel/control.Step" x_control_Step) (d24 : c96 O) (c3f : c5h O) (o8g : o8b O) (p2y : p2o O) (d20 : c92 O) : p2q O := by
 intro m p input r hm0;unfold p2f at hm0;refine b1i hf rfl (b0a (fM _) (b0a (.agg _ (b0a (b0e _) (b0a (b0e _) (b0a (b0e _) b0j)))) (b0a (b0e _) b0j))) (.tup _ (b0a (.agg _ (b0a (b0e _) (b0a (b0e _) (b0a (b0e _) b0j)))) (b0a (b0e _) b0j))) ?_;refine b1c (fun t h => t 0 = .agg (vM m) /\ t 1 = .agg [I p.State, I p.Values.1, I p.Values.2] /\ t 2 = I input) ⟨rfl, rfl, rfl⟩ fun t h ⟨s0, s1, s2⟩ => ?_;simp only [x_control_Step];apply b0b;intro K hK;simp only [go_sem, s0, s1];apply hK;clear hK K;refine b0v ?_;obtain ⟨y2, h_y2, hm0⟩ := b0g hm0;apply b0b;intro K hK;simp only [go_sem];refine b01 (d24 m _ h_y2) ?_;simp only [go_sem];apply hK;clear hK K;refine b0v ?_;apply b0b;intro K hK;simp only [go_sem];apply hK;clear hK K;refine b0i fun K3 hK3 => ?_;simp only [go_sem];refine b0k (fun hc4 => ?_) (fun hc4 => ?_)
 ·rw [b0r hc4] at hm0;apply b0b;intro K hK;simp only [go_sem];apply hK;clear hK K;simp only [b0x, b1p, b0y];obtain rfl := sI9 hm0;exact p2s (id := h.nx) (m := 3) (cs := [I 0, I 0, I 0]) (u := I y2) vc9 vc9 rfl vc9 (.refl _ (.agg _ (b0a (b0e _) (b0a (b0e _) (b0a (b0e _) b0j))))) (.refl _ (b0e _))
 ·rw [b0q hc4] at hm0;simp only [b0s, b0f];refine hK3 _ _ ?_;apply b0b;intro K hK;simp only [go_sem];refine b01 (c3f m) ?_;simp only [go_sem];apply hK;clear hK K;refine b0v ?_;obtain ⟨y8, h_y8, hm0⟩ := b0g hm0;obtain ⟨c10, h_c10, hm0⟩ := b0g hm0;refine b2p (fun t h => ∃ i6 i9 : Nat, t 2 = I input /\ t 4 = .fp [I p.State, I p.Values.1, I p.Values.2] 0 /\ t 6 = .rp i6 0 0 /\ t 9 = .rp i9 0 0 /\ t 29 = B c10 /\ h.ob i6 = some (3, [[I 0, I 0, I 0]]) /\ i6 < h.nx /\ h.ob i9 = some (5, [[.fs 1 (List.map eS ((((b3h m).Plant).Machine).Inputs)), .fs 1 (List.map eS ((((b3h m).Plant).Machine).Outputs)), .fs 2 (List.map b0o ((((b3h m).Plant).Machine).Counters)), .fs 2 (List.map b0p ((((b3h m).Plant).Machine).States)), .fs 4 (List.map b0m ((((b3h m).Plant).Machine).Rules))]]) /\ i9 < h.nx /\ ¬i6 = i9) (fun K hK => ?_) ?_
  ·simp only [go_sem];refine b01 (o8g (situation_Plant.mk (((b3h m).Plant).Machine)) p _ h_y8) ?_;simp only [go_sem];refine b0k (fun hg11 => ?_) (fun hg11 => ?_)
   ·simp only [hg11, eq_self, if_true] at h_c10;obtain rfl := sI9 h_c10;simp only [go_sem, hg11];exact hK _ _ ⟨h.nx, (nxs h.nx), s2, va9, va9, va9, va9, vc9, vc9, vc9, vc9, vd9⟩
   ·simp only [hg11, if_false, fT9] at h_c10;obtain ⟨y9, h_y9, h_c10⟩ := b0g h_c10;obtain rfl := sI9 h_c10;simp only [go_sem, s2, hg11];refine b01 (p2y (situation_Plant.mk (((b3h m).Plant).Machine)) input _ h_y9) ?_;simp only [go_sem, hg11];exact hK _ _ ⟨h.nx, (nxs h.nx), s2, va9, va9, va9, va9, vc9, vc9, vc9, vc9, vd9⟩
  ·rintro t h ⟨i6, i9, s2, s4, s6, s9, s29, Q9, Q5, Q16, Q1h, Q1p⟩;refine b0i fun K12 hK12 => ?_;simp only [go_sem, s29];refine b0k (fun hc13 => ?_) (fun hc13 => ?_)
   ·rw [b0r hc13] at hm0;apply b0b;intro K hK;simp only [go_sem, s6, Q9];apply hK;clear hK K;simp only [b0x, b1p, b0y];obtain rfl := sI9 hm0;exact p2s (id := i6) (m := 3) (cs := [I 0, I 0, I 0]) (u := I 1) (by simp only [go_sem, s6]) vc9 rfl vc9 (.refl _ (.agg _ (b0a (b0e _) (b0a (b0e _) (b0a (b0e _) b0j))))) (.refl _ (b0e _))
   ·rw [b0q hc13] at hm0;simp only [b0s, b0f];refine hK12 _ _ ?_;obtain ⟨y15, h_y15, hm0⟩ := b0g hm0;apply b0b;intro K hK;simp only [go_sem, s2, s4, s9, Q16];refine b01 (d20 (situation_Plant.mk (((b3h m).Plant).Machine)) p input _ h_y15) ?_;simp only [go_sem, s6, Q9];apply hK;clear hK K;simp only [b0x, b0y];obtain rfl := sI9 hm0;exact p2s (id := i6) (m := 3) (cs := [I y15.State, I y15.Values.1, I y15.Values.2]) (u := I 0) (by simp only [go_sem, s6]) vc9 rfl vc9 (.refl _ (.agg _ (b0a (b0e _) (b0a (b0e _) (b0a (b0e _) b0j))))) (.refl _ (b0e _))
theorem c3e (hf : Has O "newel/control.check" x_control_check) (d24 : c96 O) (c3p : c5t O) : c5g O := by
 intro m conds r hm0;unfold b9x at hm0;refine b1i hf rfl (b0a (fM _) (b0a (b0c fun a _ => b97 a) b0j)) (b0e _) ?_;refine b1c (fun t h => t 0 = .agg (vM m) /\ t 1 = .fs 1 (List.map b4v conds)) ⟨rfl, rfl⟩ fun t h ⟨s0, s1⟩ => ?_;simp only [x_control_check];apply b0b;intro K hK;simp only [go_sem, s0];apply hK;clear hK K;refine b0v ?_;obtain ⟨y2, h_y2, hm0⟩ := b0g hm0;apply b0b;intro K hK;simp only [go_sem];refine b01 (d24 m _ h_y2) ?_;simp only [go_sem];apply hK;clear hK K;refine b0v ?_;apply b0b;intro K hK;simp only [go_sem];apply hK;clear hK K;refine b0i fun K3 hK3 => ?_;simp only [go_sem];refine b0k (fun hc4 => ?_) (fun hc4 => ?_)
 ·rw [b0r hc4] at hm0;apply b0b;intro K hK;simp only [go_sem];apply hK;clear hK K;simp only [b0x, b1p, b0y];obtain rfl := sI9 hm0;exact b04 vc9 (b0e _)
 ·rw [b0q hc4] at hm0;simp only [b0s, b0f];refine hK3 _ _ ?_;refine b0v ?_;apply b0b;intro K hK;simp only [go_sem, s1];apply hK;clear hK K;refine b0i fun K5 hK5 => ?_
  have J6 : ∀ (t : Slots) (h : Heap), d1j = some r -> K5 t h := by
   intro t h hm0;refine hK5 _ _ ?_;unfold d1j at hm0;apply b0b;intro K hK;simp only [go_sem];apply hK;clear hK K;simp only [b0x, b0y];obtain rfl := sI9 hm0;exact b04 vc9 (b0e _)
  simp only [b0u];obtain ⟨b7, hl7, hm0⟩ := b0g hm0;refine b1j hl7 (fun | x_15, t, h => t 2 = .fp (vM m) 0 /\ t 13 = .fs 1 (List.map b4v conds) /\ t 14 = I (List.length conds : Int) /\ t 15 = I x_15) ?_ ?_
  ·exact ⟨va9, va9, va9, va9⟩
  ·rintro x_15 o t h ⟨s2, s13, s14, s15⟩ hm1 hb7;simp only [c2i] at hm1;rw [g4b];apply b0b;intro K hK;simp only [go_sem, s14, s15];apply hK;clear hK K;refine b0i fun K8 hK8 => ?_;simp only [go_sem];refine b0k (fun hc9 => ?_) (fun hc9 => ?_)
   ·rw [b0r hc9] at hm1;simp only [b0s, b0f];refine hK8 _ _ ?_;refine b0i fun K10 hK10 => ?_;simp only [b0u];obtain ⟨x12, h_x12, hm1⟩ := b0g hm1;have h_x120 := b05 h_x12;have h_x121 := b06 h_x12;apply b0b;intro K hK;simp only [go_sem, s13, s15, b08 h_x12, h_x121];apply hK;clear hK K;obtain ⟨y14, h_y14, hm1⟩ := b0g hm1;apply b0b;intro K hK;simp only [go_sem, s2];refine b01 (c3p m x12 _ h_y14) ?_;simp only [go_sem];apply hK;clear hK K;simp only [go_sem];refine b0k (fun hc15 => ?_) (fun hc15 => ?_)
    ·rw [b0r hc15] at hm1;apply b0b;intro K hK;simp only [go_sem];apply hK;clear hK K;simp only [b0x, b1p, b2e, b0y];obtain rfl := sI9 hm1;obtain rfl := hb7 _ rfl
     try dsimp only at hm0
     obtain rfl := sI9 hm0;exact b04 vc9 (b0e _)
    ·rw [b0q hc15] at hm1;simp only [b0s, b02, b0f];refine hK10 _ _ ?_;apply b03;intro K hK;simp only [go_sem, s15];apply hK;clear hK K;simp only [b0f];obtain rfl := sI9 hm1;refine ⟨_, rfl, ?_⟩;exact ⟨s2, s13, s14, va9⟩
   ·rw [b0q hc9] at hm1;simp only [b09, b1b, b1a, b0f];obtain rfl := sI9 hm1;obtain rfl := hb7 _ rfl
    try dsimp only at hm0
    exact J6  _ _  hm0
theorem c3f (hf : Has O "newel/control.of" x_control_of) : c5h O := by
 intro m;generalize hm0 : b3h m = r;unfold b3h at hm0;refine b1i hf rfl (b0a (fM _) b0j) (fM _) ?_;refine b1c (fun t h => t 0 = .agg (vM m)) rfl fun t h s0 => ?_;simp only [x_control_of];apply b0b;intro K hK;simp only [go_sem, s0];apply hK;clear hK K;apply b0b;intro K hK;simp only [go_sem];apply hK;clear hK K;simp only [b0x, b0y];obtain rfl := hm0;exact b90 (id := h.nx) (m := 5) (cs := (vM m)) vc9 vc9 rfl (.refl _ (fM _))
theorem c3g (hf : Has O "newel/control.same" x_control_same) : c5i O := by
 intro input;generalize hm0 : b6f input = r;unfold b6f at hm0;refine b1i hf rfl (b0a (b0e _) b0j) (b0e _) ?_;refine b1c (fun t h => t 0 = I input) rfl fun t h s0 => ?_;simp only [x_control_same];apply b0b;intro K hK;simp only [go_sem];apply hK;clear hK K;apply b0b;intro K hK;simp only [go_sem, s0];apply hK;clear hK K;simp only [b0x, b0y];obtain rfl := hm0;exact b04 vc9 (b0e _)
theorem d28 (hf : Has O "newel/newellaw04.Wide" x_l04_Wide) (c3i : c5k O) : d0a O := by
 intro m r hm0;unfold b8o at hm0;refine b1i hf rfl (b0a (fM _) b0j) (b0e _) ?_;refine b1c (fun t h => t 0 = .agg (vM m)) rfl fun t h s0 => ?_;simp only [x_l04_Wide];apply b0b;intro K hK;simp only [go_sem, s0];apply hK;clear hK K;refine b0v ?_;obtain ⟨y2, h_y2, hm0⟩ := b0g hm0;apply b0b;intro K hK;simp only [go_sem];refine b01 (c3i m _ h_y2) ?_;simp only [go_sem];apply hK;clear hK K;refine b0i fun K3 hK3 => ?_;simp only [go_sem];refine b0k (fun hc4 => ?_) (fun hc4 => ?_)
 ·rw [b0r hc4] at hm0;apply b0b;intro K hK;simp only [go_sem];apply hK;clear hK K;simp only [b0x, b1p, b0y];obtain rfl := sI9 hm0;exact b04 vc9 (b0e _)
 ·rw [b0q hc4] at hm0;simp only [b0s, b0f];refine hK3 _ _ ?_;apply b0b;intro K hK;simp only [go_sem];apply hK;clear hK K;refine b0v ?_;apply b0b;intro K hK;simp only [go_sem];apply hK;clear hK K;refine b0i fun K5 hK5 => ?_
  have J6 : ∀ (places_3 : Int) (t : Slots) (h : Heap), t 1 = .fp (vM m) 0 -> t 3 = I places_3 -> d31 m places_3 = some r -> K5 t h := by
   intro places_3 t h s1 s3 hm0;refine hK5 _ _ ?_;unfold d31 at hm0;refine b2p (fun t h => t 2 = B ((decide (3 < (List.length m.Inputs : Int))) || (decide (80 < places_3)))) (fun K hK => ?_) ?_
   ·simp only [go_sem, s1];refine b0k (fun hg7 => ?_) (fun hg7 => ?_)
    ·simp only [go_sem, hg7];exact hK _ _ (by first | (simp only [go_sem, hg7]; done) | rfl)
    ·simp only [go_sem, s3, hg7];exact hK _ _ (by first | (simp only [go_sem, hg7]; done) | rfl)
   ·rintro t h s2;simp only [b0x, b0y];obtain rfl := sI9 hm0;exact b04 (by simp only [go_sem, s2]) (b0e _)
  simp only [b0u];obtain ⟨b8, hl8, hm0⟩ := b0g hm0;refine b1j hl8 (fun | (places_3, i_4), t, h => t 1 = .fp (vM m) 0 /\ t 3 = I places_3 /\ t 4 = I i_4) ?_ ?_
  ·exact ⟨va9, va9, va9⟩
  ·rintro ⟨places_3, i_4⟩ o t h ⟨s1, s3, s4⟩ hm1 hb8;simp only [c3s] at hm1;rw [g4c];refine b0v ?_;apply b0b;intro K hK;simp only [go_sem, s1, s4];apply hK;clear hK K;refine b0i fun K9 hK9 => ?_;simp only [go_sem];refine b0k (fun hc10 => ?_) (fun hc10 => ?_)
   ·rw [b0r hc10] at hm1;simp only [b0s, b0f];refine hK9 _ _ ?_;refine b0i fun K11 hK11 => ?_;simp only [b0u];obtain ⟨x13, h_x13, hm1⟩ := b0g hm1;have h_x130 := b05 h_x13;have h_x131 := b06 h_x13;apply b03;intro K hK;simp only [go_sem, s1, s3, s4, b08 h_x13, h_x131];apply hK;clear hK K;simp only [b02, b0f];refine hK11 _ _ ?_;apply b03;intro K hK;simp only [go_sem, s4];apply hK;clear hK K;simp only [b0f];obtain rfl := sI9 hm1;refine ⟨_, rfl, ?_⟩;exact ⟨s1, va9, va9⟩
   ·rw [b0q hc10] at hm1;simp only [b09, b1b, b1a, b0f];obtain rfl := sI9 hm1;obtain rfl := hb8 _ rfl
    try dsimp only at hm0
    exact J6 places_3 _ _ s1 s3 hm0
theorem c7l (hf : Has O "newel/newellaw04.sameInts" x_l04_sameInts) : d0b O := by
 intro a b r hm0;unfold c0j at hm0;refine b1i hf rfl (b0a (b0c fun a _ => b1t a) (b0a (b0c fun a _ => b1t a) b0j)) (b0e _) ?_;refine b1c (fun t h => t 0 = .fs 1 (List.map eI a) /\ t 1 = .fs 1 (List.map eI b)) ⟨rfl, rfl⟩ fun t h ⟨s0, s1⟩ => ?_;simp only [x_l04_sameInts];apply b0b;intro K hK;simp only [go_sem];apply hK;clear hK K;refine b0v ?_;apply b0b;intro K hK;simp only [go_sem, s0, s1];apply hK;clear hK K;refine b0i fun K1 hK1 => ?_;simp only [go_sem];refine b0k (fun hc2 => ?_) (fun hc2 => ?_)
 ·rw [b0r hc2] at hm0;apply b0b;intro K hK;simp only [go_sem];apply hK;clear hK K;simp only [b0x, b1p, b0y];obtain rfl := sI9 hm0;exact b04 vc9 (b0e _)
 ·rw [b0q hc2] at hm0;simp only [b0s, b0f];refine hK1 _ _ ?_;refine b0v ?_;apply b0b;intro K hK;simp only [go_sem];apply hK;clear hK K;refine b0i fun K3 hK3 => ?_
  have J4 : ∀ (t : Slots) (h : Heap), c7m = some r -> K3 t h := by
   intro t h hm0;refine hK3 _ _ ?_;unfold c7m at hm0;apply b0b;intro K hK;simp only [go_sem];apply hK;clear hK K;simp only [b0x, b0y];obtain rfl := sI9 hm0;exact b04 vc9 (b0e _)
  simp only [b0u];obtain ⟨b5, hl5, hm0⟩ := b0g hm0;refine b1j hl5 (fun | i_5, t, h => t 0 = .fs 1 (List.map eI a) /\ t 1 = .fs 1 (List.map eI b) /\ t 5 = I i_5) ?_ ?_
  ·exact ⟨s0, s1, va9⟩
  ·rintro i_5 o t h ⟨s0, s1, s5⟩ hm1 hb5;simp only [c3t] at hm1;rw [g4d];refine b0v ?_;apply b0b;intro K hK;simp only [go_sem, s0, s5];apply hK;clear hK K;refine b0i fun K6 hK6 => ?_;simp only [go_sem];refine b0k (fun hc7 => ?_) (fun hc7 => ?_)
   ·rw [b0r hc7] at hm1;simp only [b0s, b0f];refine hK6 _ _ ?_;refine b0i fun K8 hK8 => ?_;simp only [b0u];obtain ⟨x11, h_x11, hm1⟩ := b0g hm1;have h_x110 := b05 h_x11;have h_x111 := b06 h_x11;obtain ⟨x12, h_x12, hm1⟩ := b0g hm1;have h_x120 := b05 h_x12;have h_x121 := b06 h_x12;apply b0b;intro K hK;simp only [go_sem, s0, s1, s5, b08 h_x11, h_x111, b08 h_x12];apply hK;clear hK K;simp only [go_sem];refine b0k (fun hc13 => ?_) (fun hc13 => ?_)
    ·rw [b0r hc13] at hm1;apply b0b;intro K hK;simp only [go_sem];apply hK;clear hK K;simp only [b0x, b1p, b2e, b0y];obtain rfl := sI9 hm1;obtain rfl := hb5 _ rfl
     try dsimp only at hm0
     obtain rfl := sI9 hm0;exact b04 vc9 (b0e _)
    ·rw [b0q hc13] at hm1;simp only [b0s, b02, b0f];refine hK8 _ _ ?_;apply b03;intro K hK;simp only [go_sem, s5];apply hK;clear hK K;simp only [b0f];obtain rfl := sI9 hm1;refine ⟨_, rfl, ?_⟩;exact ⟨s0, s1, va9⟩
   ·rw [b0q hc7] at hm1;simp only [b09, b1b, b1a, b0f];obtain rfl := sI9 hm1;obtain rfl := hb5 _ rfl
    try dsimp only at hm0
    exact J4  _ _  hm0
theorem c3i (hf : Has O "newel/newelref04.Check" x_r04_Check) (b4p : c5r O) (d3f : d0i O) (d3d : d0g O) (c3m : c5p O) : c5k O := by
 intro m r hm0;unfold c0u at hm0;refine b1i hf rfl (b0a (fM _) b0j) (b0e _) ?_;refine b1c (fun t h => t 0 = .agg (vM m)) rfl fun t h s0 => ?_;simp only [x_r04_Check];apply b0b;intro K hK;simp only [go_sem, s0];apply hK;clear hK K;refine b0v ?_;refine b2p (fun t h => t 1 = .fp (vM m) 0 /\ t 39 = B (((((decide (4 < (List.length m.Inputs : Int))) || (decide (6 < (List.length m.Outputs : Int)))) || (decide (2 < (List.length m.Counters : Int)))) || (!(b2b (List.length m.States : Int) 1 12))) || (decide (40 < (List.length m.Rules : Int))))) (fun K hK => ?_) ?_
 ·simp only [go_sem];refine b0k (fun hg1 => ?_) (fun hg1 => ?_)
  ·simp only [go_sem, hg1];exact hK _ _ ⟨va9, (by first | (simp only [go_sem, hg1]; done) | rfl)⟩
  ·simp only [go_sem, hg1];refine b0k (fun hg2 => ?_) (fun hg2 => ?_)
   ·simp only [go_sem, hg1, hg2];exact hK _ _ ⟨va9, (by first | (simp only [go_sem, hg1, hg2]; done) | rfl)⟩
   ·simp only [go_sem, hg1, hg2];refine b0k (fun hg3 => ?_) (fun hg3 => ?_)
    ·simp only [go_sem, hg1, hg2, hg3];exact hK _ _ ⟨va9, (by first | (simp only [go_sem, hg1, hg2, hg3]; done) | rfl)⟩
    ·simp only [go_sem, hg1, hg2, hg3];refine b01 (b4p (List.length m.States : Int) 1 12) ?_;simp only [go_sem, hg1, hg2, hg3];refine b0k (fun hg4 => ?_) (fun hg4 => ?_)
     ·simp only [go_sem, hg1, hg2, hg3, hg4];exact hK _ _ ⟨va9, (by first | (simp only [go_sem, hg1, hg2, hg3, hg4]; done) | rfl)⟩
     ·simp only [go_sem, hg1, hg2, hg3, hg4];exact hK _ _ ⟨va9, (by first | (simp only [go_sem, hg1, hg2, hg3, hg4]; done) | rfl)⟩
 ·rintro t h ⟨s1, s39⟩;refine b0i fun K5 hK5 => ?_;simp only [go_sem, s39];refine b0k (fun hc6 => ?_) (fun hc6 => ?_)
  ·rw [b0r hc6] at hm0;apply b0b;intro K hK;simp only [go_sem];apply hK;clear hK K;simp only [b0x, b1p, b0y];obtain rfl := sI9 hm0;exact b04 vc9 (b0e _)
  ·rw [b0q hc6] at hm0;simp only [b0s, b0f];refine hK5 _ _ ?_;obtain ⟨y8, h_y8, hm0⟩ := b0g hm0;apply b0b;intro K hK;simp only [go_sem, s1];refine b01 (d3f m _ h_y8) ?_;simp only [go_sem];apply hK;clear hK K;refine b0v ?_;apply b0b;intro K hK;simp only [go_sem];apply hK;clear hK K;refine b0i fun K9 hK9 => ?_
   have J10 : ∀ (t : Slots) (h : Heap), t 1 = .fp (vM m) 0 -> c77 m = some r -> K9 t h := by
    intro t h s1 hm0;refine hK9 _ _ ?_;unfold c77 at hm0;refine b0v ?_;apply b0b;intro K hK;simp only [go_sem];apply hK;clear hK K;refine b0i fun K11 hK11 => ?_
    have J12 : ∀ (t : Slots) (h : Heap), t 1 = .fp (vM m) 0 -> c78 m = some r -> K11 t h := by
     intro t h s1 hm0;refine hK11 _ _ ?_;unfold c78 at hm0;refine b0v ?_;apply b0b;intro K hK;simp only [go_sem];apply hK;clear hK K;refine b0i fun K13 hK13 => ?_
     have J14 : ∀ (t : Slots) (h : Heap), t 1 = .fp (vM m) 0 -> c79 m = some r -> K13 t h := by
      intro t h s1 hm0;refine hK13 _ _ ?_;unfold c79 at hm0;refine b0v ?_;apply b0b;intro K hK;simp only [go_sem];apply hK;clear hK K;refine b0i fun K15 hK15 => ?_
      have J16 : ∀ (t : Slots) (h : Heap), d4p = some r -> K15 t h := by
       intro t h hm0;refine hK15 _ _ ?_;unfold d4p at hm0;apply b0b;intro K hK;simp only [go_sem];apply hK;clear hK K;simp only [b0x, b0y];obtain rfl := sI9 hm0;exact b04 vc9 (b0e _)
      simp only [b0u];obtain ⟨b17, hl17, hm0⟩ := b0g hm0;refine b1j hl17 (fun | i_8, t, h => t 1 = .fp (vM m) 0 /\ t 8 = I i_8) ?_ ?_
      ·exact ⟨s1, va9⟩
      ·rintro i_8 o t h ⟨s1, s8⟩ hm1 hb17;simp only [b8v] at hm1;rw [g4k];refine b0v ?_;apply b0b;intro K hK;simp only [go_sem, s1, s8];apply hK;clear hK K;refine b0i fun K18 hK18 => ?_;simp only [go_sem];refine b0k (fun hc19 => ?_) (fun hc19 => ?_)
       ·rw [b0r hc19] at hm1;simp only [b0s, b0f];refine hK18 _ _ ?_;refine b0i fun K20 hK20 => ?_
        have J21 : ∀ (t : Slots) (h : Heap), t 1 = .fp (vM m) 0 -> t 8 = I i_8 -> c8a i_8 = some o -> K20 t h := by
         intro t h s1 s8 hm1;refine hK20 _ _ ?_;unfold c8a at hm1;apply b03;intro K hK;simp only [go_sem, s8];apply hK;clear hK K;simp only [b0f];obtain rfl := sI9 hm1;refine ⟨_, rfl, ?_⟩;exact ⟨s1, va9⟩
        simp only [b0u];obtain ⟨x23, h_x23, hm1⟩ := b0g hm1;have h_x230 := b05 h_x23;have h_x231 := b06 h_x23;apply b0b;intro K hK;simp only [go_sem, s1, s8, b08 h_x23, h_x231];apply hK;clear hK K;refine b0v ?_;obtain ⟨c27, h_c27, hm1⟩ := b0g hm1;refine b2p (fun t h => ∃ i9 : Nat, t 1 = .fp (vM m) 0 /\ t 8 = I i_8 /\ t 9 = .rp i9 0 0 /\ t 154 = B (c27 || (decide (4 < (List.length x23.Sets : Int)))) /\ h.ob i9 = some (4, [[I x23.From, I x23.To, .fs 1 (List.map b0t x23.When), .fs 2 (List.map b2o x23.Sets)]]) /\ i9 < h.nx) (fun K hK => ?_) ?_
        ·simp only [go_sem, s1];refine b01 (b4p x23.From (-1) (wr ((List.length m.States : Int) - 1))) ?_;simp only [go_sem];refine b0k (fun hg28 => ?_) (fun hg28 => ?_)
         ·simp only [hg28, eq_self, if_true, Bool.true_or] at h_c27;obtain rfl := sI9 h_c27;simp only [go_sem, hg28];exact hK _ _ ⟨h.nx, s1, s8, va9, va9, vc9, vc9⟩
         ·simp only [go_sem, s1, hg28];refine b01 (b4p x23.To 0 (wr ((List.length m.States : Int) - 1))) ?_;simp only [go_sem, hg28];refine b0k (fun hg29 => ?_) (fun hg29 => ?_)
          ·simp only [hg28, hg29, eq_self, if_true, Bool.or_true] at h_c27;obtain rfl := sI9 h_c27;simp only [go_sem, hg28, hg29];exact hK _ _ ⟨h.nx, s1, s8, va9, va9, vc9, vc9⟩
          ·simp only [hg28, hg29, if_false, Bool.or_false, fT9] at h_c27;obtain ⟨y26, h_y26, h_c27⟩ := b0g h_c27;obtain rfl := sI9 h_c27;simp only [go_sem, s1, hg28, hg29];refine b01 (c3m m x23.When false _ h_y26) ?_;simp only [go_sem, hg28, hg29];refine b0k (fun hg30 => ?_) (fun hg30 => ?_)
           ·simp only [go_sem, hg28, hg29, hg30];exact hK _ _ ⟨h.nx, s1, s8, va9, (by first | (simp only [go_sem, hg30]; done) | rfl), vc9, vc9⟩
           ·simp only [go_sem, hg28, hg29, hg30];exact hK _ _ ⟨h.nx, s1, s8, va9, (by first | (simp only [go_sem, hg30]; done) | rfl), vc9, vc9⟩
        ·rintro t h ⟨i9, s1, s8, s9, s154, Q16, Q1h⟩;refine b0i fun K31 hK31 => ?_;simp only [go_sem, s154];refine b0k (fun hc32 => ?_) (fun hc32 => ?_)
         ·rw [b0r hc32] at hm1;apply b0b;intro K hK;simp only [go_sem];apply hK;clear hK K;simp only [b0x, b1p, b2e, b0y];obtain rfl := sI9 hm1;obtain rfl := hb17 _ rfl
          try dsimp only at hm0
          obtain rfl := sI9 hm0;exact b04 vc9 (b0e _)
         ·rw [b0q hc32] at hm1;simp only [b0s, b0f];refine hK31 _ _ ?_;apply b0b;intro K hK;simp only [go_sem];apply hK;clear hK K;simp only [b0u];obtain ⟨b33, hl33, hm1⟩ := b0g hm1;refine b1j hl33 (fun | k_10, t, h => t 1 = .fp (vM m) 0 /\ t 8 = I i_8 /\ t 9 = .rp i9 0 0 /\ t 10 = I k_10 /\ h.ob i9 = some (4, [[I x23.From, I x23.To, .fs 1 (List.map b0t x23.When), .fs 2 (List.map b2o x23.Sets)]]) /\ i9 < h.nx) ?_ ?_
          ·exact ⟨s1, s8, s9, va9, Q16, Q1h⟩
          ·rintro k_10 o t h ⟨s1, s8, s9, s10, Q16, Q1h⟩ hm2 hb33;simp only [c39] at hm2;rw [g4j];refine b0v ?_;apply b0b;intro K hK;simp only [go_sem, s9, s10, Q16];apply hK;clear hK K;refine b0i fun K34 hK34 => ?_;simp only [go_sem];refine b0k (fun hc35 => ?_) (fun hc35 => ?_)
           ·rw [b0r hc35] at hm2;simp only [b0s, b0f];refine hK34 _ _ ?_;refine b0i fun K36 hK36 => ?_;simp only [b0u];obtain ⟨x38, h_x38, hm2⟩ := b0g hm2;have h_x380 := b05 h_x38;have h_x381 := b06 h_x38;refine b2p (fun t h => t 1 = .fp (vM m) 0 /\ t 8 = I i_8 /\ t 9 = .rp i9 0 0 /\ t 10 = I k_10 /\ t 183 = B ((!(b2b x38.Kind 1 3)) || (!(b2b x38.Counter 0 (wr ((List.length m.Counters : Int) - 1))))) /\ h.ob i9 = some (4, [[I x23.From, I x23.To, .fs 1 (List.map b0t x23.When), .fs 2 (List.map b2o x23.Sets)]]) /\ i9 < h.nx) (fun K hK => ?_) ?_
            ·simp only [go_sem, s9, s10, Q16, b08 h_x38, h_x381];refine b01 (b4p x38.Kind 1 3) ?_;simp only [go_sem];refine b0k (fun hg39 => ?_) (fun hg39 => ?_)
             ·simp only [go_sem, hg39];exact hK _ _ ⟨s1, s8, s9, s10, (by first | (simp only [go_sem, hg39]; done) | rfl), Q16, Q1h⟩
             ·simp only [go_sem, s1, s9, s10, Q16, b08 h_x38, hg39];refine b01 (b4p x38.Counter 0 (wr ((List.length m.Counters : Int) - 1))) ?_;simp only [go_sem, hg39];exact hK _ _ ⟨s1, s8, s9, s10, (by first | (simp only [go_sem, hg39]; done) | rfl), Q16, Q1h⟩
            ·rintro t h ⟨s1, s8, s9, s10, s183, Q16, Q1h⟩;simp only [go_sem, s183];refine b0k (fun hc40 => ?_) (fun hc40 => ?_)
             ·rw [b0r hc40] at hm2;apply b0b;intro K hK;simp only [go_sem];apply hK;clear hK K;simp only [b0x, b1p, b2e, b0y];obtain rfl := sI9 hm2;obtain rfl := hb33 _ rfl
              try dsimp only at hm1
              obtain rfl := sI9 hm1;obtain rfl := hb17 _ rfl
              try dsimp only at hm0
              obtain rfl := sI9 hm0;exact b04 vc9 (b0e _)
             ·rw [b0q hc40] at hm2;simp only [b0s, b02, b0f];refine hK36 _ _ ?_;apply b03;intro K hK;simp only [go_sem, s10];apply hK;clear hK K;simp only [b0f];obtain rfl := sI9 hm2;refine ⟨_, rfl, ?_⟩;exact ⟨s1, s8, s9, va9, Q16, Q1h⟩
           ·rw [b0q hc35] at hm2;simp only [b09, b1b, b1a, b02, b0f];obtain rfl := sI9 hm2;obtain rfl := hb33 _ rfl
            try dsimp only at hm1
            exact J21  _ _ s1 s8 hm1
       ·rw [b0q hc19] at hm1;simp only [b09, b1b, b1a, b0f];obtain rfl := sI9 hm1;obtain rfl := hb17 _ rfl
        try dsimp only at hm0
        exact J16  _ _  hm0
     simp only [b0u];obtain ⟨b43, hl43, hm0⟩ := b0g hm0;refine b1j hl43 (fun | i_7, t, h => t 1 = .fp (vM m) 0 /\ t 7 = I i_7) ?_ ?_
     ·exact ⟨s1, va9⟩
     ·rintro i_7 o t h ⟨s1, s7⟩ hm1 hb43;simp only [r8g] at hm1;rw [g4i];refine b0v ?_;apply b0b;intro K hK;simp only [go_sem, s1, s7];apply hK;clear hK K;refine b0i fun K44 hK44 => ?_;simp only [go_sem];refine b0k (fun hc45 => ?_) (fun hc45 => ?_)
      ·rw [b0r hc45] at hm1;simp only [b0s, b0f];refine hK44 _ _ ?_;refine b0i fun K46 hK46 => ?_;simp only [b0u];obtain ⟨x49, h_x49, hm1⟩ := b0g hm1;have h_x490 := b05 h_x49;have h_x491 := b06 h_x49;obtain ⟨q50, h_q50, hm1⟩ := b0g hm1;apply b0b;intro K hK;simp only [go_sem, s1, s7, b08 h_x49, h_x491, c21 h_q50];refine b01 (b4p x49.Shows 0 (wr (q50 - 1))) ?_;simp only [go_sem];apply hK;clear hK K;simp only [go_sem];refine b0k (fun hc51 => ?_) (fun hc51 => ?_)
       ·rw [b0r hc51] at hm1;apply b0b;intro K hK;simp only [go_sem];apply hK;clear hK K;simp only [b0x, b1p, b2e, b0y];obtain rfl := sI9 hm1;obtain rfl := hb43 _ rfl
        try dsimp only at hm0
        obtain rfl := sI9 hm0;exact b04 vc9 (b0e _)
       ·rw [b0q hc51] at hm1;simp only [b0s, b02, b0f];refine hK46 _ _ ?_;apply b03;intro K hK;simp only [go_sem, s7];apply hK;clear hK K;simp only [b0f];obtain rfl := sI9 hm1;refine ⟨_, rfl, ?_⟩;exact ⟨s1, va9⟩
      ·rw [b0q hc45] at hm1;simp only [b09, b1b, b1a, b0f];obtain rfl := sI9 hm1;obtain rfl := hb43 _ rfl
       try dsimp only at hm0
       exact J14  _ _ s1 hm0
    simp only [b0u];obtain ⟨b53, hl53, hm0⟩ := b0g hm0;refine b1j hl53 (fun | i_6, t, h => t 1 = .fp (vM m) 0 /\ t 6 = I i_6) ?_ ?_
    ·exact ⟨s1, va9⟩
    ·rintro i_6 o t h ⟨s1, s6⟩ hm1 hb53;simp only [p6x] at hm1;rw [g4h];refine b0v ?_;apply b0b;intro K hK;simp only [go_sem, s1, s6];apply hK;clear hK K;refine b0i fun K54 hK54 => ?_;simp only [go_sem];refine b0k (fun hc55 => ?_) (fun hc55 => ?_)
     ·rw [b0r hc55] at hm1;simp only [b0s, b0f];refine hK54 _ _ ?_;refine b0i fun K56 hK56 => ?_;simp only [b0u];obtain ⟨x58, h_x58, hm1⟩ := b0g hm1;have h_x580 := b05 h_x58;have h_x581 := b06 h_x58;apply b0b;intro K hK;simp only [go_sem, s1, s6, b08 h_x58, h_x581];refine b01 (b4p x58.Max 1 7) ?_;simp only [go_sem];apply hK;clear hK K;simp only [go_sem];refine b0k (fun hc59 => ?_) (fun hc59 => ?_)
      ·rw [b0r hc59] at hm1;apply b0b;intro K hK;simp only [go_sem];apply hK;clear hK K;simp only [b0x, b1p, b2e, b0y];obtain rfl := sI9 hm1;obtain rfl := hb53 _ rfl
       try dsimp only at hm0
       obtain rfl := sI9 hm0;exact b04 vc9 (b0e _)
      ·rw [b0q hc59] at hm1;simp only [b0s, b02, b0f];refine hK56 _ _ ?_;apply b03;intro K hK;simp only [go_sem, s6];apply hK;clear hK K;simp only [b0f];obtain rfl := sI9 hm1;refine ⟨_, rfl, ?_⟩;exact ⟨s1, va9⟩
     ·rw [b0q hc55] at hm1;simp only [b09, b1b, b1a, b0f];obtain rfl := sI9 hm1;obtain rfl := hb53 _ rfl
      try dsimp only at hm0
      exact J12  _ _ s1 hm0
   simp only [b0u];obtain ⟨b61, hl61, hm0⟩ := b0g hm0;refine b1j hl61 (fun | i_4, t, h => t 1 = .fp (vM m) 0 /\ t 3 = .fs 1 (List.map eS y8) /\ t 4 = I i_4) ?_ ?_
   ·exact ⟨s1, va9, va9⟩
   ·rintro i_4 o t h ⟨s1, s3, s4⟩ hm1 hb61;simp only [b7n] at hm1;rw [g4g];refine b0v ?_;apply b0b;intro K hK;simp only [go_sem, s3, s4];apply hK;clear hK K;refine b0i fun K62 hK62 => ?_;simp only [go_sem];refine b0k (fun hc63 => ?_) (fun hc63 => ?_)
    ·rw [b0r hc63] at hm1;simp only [b0s, b0f];refine hK62 _ _ ?_;refine b0i fun K64 hK64 => ?_
     have J65 : ∀ (t : Slots) (h : Heap), t 1 = .fp (vM m) 0 -> t 3 = .fs 1 (List.map eS y8) -> t 4 = I i_4 -> c8b i_4 = some o -> K64 t h := by
      intro t h s1 s3 s4 hm1;refine hK64 _ _ ?_;unfold c8b at hm1;apply b03;intro K hK;simp only [go_sem, s4];apply hK;clear hK K;simp only [b0f];obtain rfl := sI9 hm1;refine ⟨_, rfl, ?_⟩;exact ⟨s1, s3, va9⟩
     simp only [b0u];refine b0v ?_;obtain ⟨x69, h_x69, hm1⟩ := b0g hm1;have h_x690 := b05 h_x69;have h_x691 := b06 h_x69;obtain ⟨c71, h_c71, hm1⟩ := b0g hm1;refine b2p (fun t h => t 1 = .fp (vM m) 0 /\ t 3 = .fs 1 (List.map eS y8) /\ t 4 = I i_4 /\ t 61 = B c71) (fun K hK => ?_) ?_
     ·simp only [go_sem, s3, s4, b08 h_x69, h_x691];refine b0k (fun hg72 => ?_) (fun hg72 => ?_)
      ·simp only [hg72, eq_self, if_true] at h_c71;obtain rfl := sI9 h_c71;simp only [go_sem, hg72];exact hK _ _ ⟨s1, s3, s4, va9⟩
      ·simp only [hg72, if_false, fT9] at h_c71;obtain ⟨y70, h_y70, h_c71⟩ := b0g h_c71;obtain rfl := sI9 h_c71;simp only [go_sem, s3, s4, b08 h_x69, hg72];refine b01 (d3d x69 _ h_y70) ?_;simp only [go_sem, hg72];exact hK _ _ ⟨s1, s3, s4, va9⟩
     ·rintro t h ⟨s1, s3, s4, s61⟩;refine b0i fun K73 hK73 => ?_;simp only [go_sem, s61];refine b0k (fun hc74 => ?_) (fun hc74 => ?_)
      ·rw [b0r hc74] at hm1;apply b0b;intro K hK;simp only [go_sem];apply hK;clear hK K;simp only [b0x, b1p, b2e, b0y];obtain rfl := sI9 hm1;obtain rfl := hb61 _ rfl
       try dsimp only at hm0
       obtain rfl := sI9 hm0;exact b04 vc9 (b0e _)
      ·rw [b0q hc74] at hm1;simp only [b0s, b0f];refine hK73 _ _ ?_;apply b0b;intro K hK;simp only [go_sem];apply hK;clear hK K;simp only [b0u];obtain ⟨b75, hl75, hm1⟩ := b0g hm1;refine b1j hl75 (fun | k_5, t, h => t 1 = .fp (vM m) 0 /\ t 3 = .fs 1 (List.map eS y8) /\ t 4 = I i_4 /\ t 5 = I k_5) ?_ ?_
       ·exact ⟨s1, s3, s4, va9⟩
       ·rintro k_5 o t h ⟨s1, s3, s4, s5⟩ hm2 hb75;simp only [b8u] at hm2;rw [g4f];refine b0v ?_;apply b0b;intro K hK;simp only [go_sem, s4, s5];apply hK;clear hK K;refine b0i fun K76 hK76 => ?_;simp only [go_sem];refine b0k (fun hc77 => ?_) (fun hc77 => ?_)
        ·rw [b0r hc77] at hm2;simp only [b0s, b0f];refine hK76 _ _ ?_;refine b0i fun K78 hK78 => ?_;simp only [b0u];obtain ⟨x81, h_x81, hm2⟩ := b0g hm2;have h_x810 := b05 h_x81;have h_x811 := b06 h_x81;obtain ⟨x82, h_x82, hm2⟩ := b0g hm2;have h_x820 := b05 h_x82;have h_x821 := b06 h_x82;apply b0b;intro K hK;simp only [go_sem, s3, s4, s5, b08 h_x81, b08 h_x82];apply hK;clear hK K;simp only [go_sem];refine b0k (fun hc83 => ?_) (fun hc83 => ?_)
         ·rw [b0r hc83] at hm2;apply b0b;intro K hK;simp only [go_sem];apply hK;clear hK K;simp only [b0x, b1p, b2e, b0y];obtain rfl := sI9 hm2;obtain rfl := hb75 _ rfl
          try dsimp only at hm1
          obtain rfl := sI9 hm1;obtain rfl := hb61 _ rfl
          try dsimp only at hm0
          obtain rfl := sI9 hm0;exact b04 vc9 (b0e _)
         ·rw [b0q hc83] at hm2;simp only [b0s, b02, b0f];refine hK78 _ _ ?_;apply b03;intro K hK;simp only [go_sem, s5];apply hK;clear hK K;simp only [b0f];obtain rfl := sI9 hm2;refine ⟨_, rfl, ?_⟩;exact ⟨s1, s3, s4, va9⟩
        ·rw [b0q hc77] at hm2;simp only [b09, b1b, b1a, b02, b0f];obtain rfl := sI9 hm2;obtain rfl := hb75 _ rfl
         try dsimp only at hm1
         exact J65  _ _ s1 s3 s4 hm1
    ·rw [b0q hc63] at hm1;simp only [b09, b1b, b1a, b0f];obtain rfl := sI9 hm1;obtain rfl := hb61 _ rfl
     try dsimp only at hm0
     exact J10  _ _ s1 hm0
theorem o8i (hf : Has O "newel/newelref04.IsPlace" x_r04_IsPlace) (b4p : c5r O) : o8d O := by
 intro m p r hm0;unfold o7y at hm0;refine b1i hf rfl (b0a (fM _) (b0a (.agg _ (b0a (b0e _) (b0a (b0e _) (b0a (b0e _) b0j)))) b0j)) (b0e _) ?_;refine b1c (fun t h => t 0 = .agg (vM m) /\ t 1 = .agg [I p.State, I p.Values.1, I p.Values.2]) ⟨rfl, rfl⟩ fun t h ⟨s0, s1⟩ => ?_;simp only [x_r04_IsPlace];apply b0b;intro K hK;simp only [go_sem, s0, s1];apply hK;clear hK K;refine b0v ?_;apply b0b;intro K hK;simp only [go_sem];refine b01 (b4p p.State 0 (wr ((List.length m.States : Int) - 1))) ?_;simp only [go_sem];apply hK;clear hK K;refine b0i fun K1 hK1 => ?_;simp only [go_sem];refine b0k (fun hc2 => ?_) (fun hc2 => ?_)
 ·rw [b0r hc2] at hm0;apply b0b;intro K hK;simp only [go_sem];apply hK;clear hK K;simp only [b0x, b1p, b0y];obtain rfl := sI9 hm0;exact b04 vc9 (b0e _)
 ·rw [b0q hc2] at hm0;simp only [b0s, b0f];refine hK1 _ _ ?_;refine b0v ?_;apply b0b;intro K hK;simp only [go_sem];apply hK;clear hK K;refine b0i fun K3 hK3 => ?_
  have J4 : ∀ (t : Slots) (h : Heap), o77 = some r -> K3 t h := by
   intro t h hm0;refine hK3 _ _ ?_;unfold o77 at hm0;apply b0b;intro K hK;simp only [go_sem];apply hK;clear hK K;simp only [b0x, b0y];obtain rfl := sI9 hm0;exact b04 vc9 (b0e _)
  simp only [b0u];obtain ⟨b5, hl5, hm0⟩ := b0g hm0;refine b1j hl5 (fun | i_5, t, h => t 2 = .fp (vM m) 0 /\ t 3 = .fp [I p.State, I p.Values.1, I p.Values.2] 0 /\ t 5 = I i_5) ?_ ?_
  ·exact ⟨va9, va9, va9⟩
  ·rintro i_5 o t h ⟨s2, s3, s5⟩ hm1 hb5;simp only [o7z] at hm1;rw [o8y];refine b0v ?_;apply b0b;intro K hK;simp only [go_sem, s5];apply hK;clear hK K;refine b0i fun K6 hK6 => ?_;simp only [go_sem];refine b0k (fun hc7 => ?_) (fun hc7 => ?_)
   ·rw [b0r hc7] at hm1;simp only [b0s, b0f];refine hK6 _ _ ?_;refine b0i fun K8 hK8 => ?_;simp only [b0u];apply b0b;intro K hK;simp only [go_sem];apply hK;clear hK K;refine b0v ?_;apply b0b;intro K hK;simp only [go_sem, s2, s5];apply hK;clear hK K;refine b0i fun K9 hK9 => ?_
    have J10 : ∀ (most_6 : Int) (t : Slots) (h : Heap), t 2 = .fp (vM m) 0 -> t 3 = .fp [I p.State, I p.Values.1, I p.Values.2] 0 -> t 5 = I i_5 -> t 6 = I most_6 -> o70 p i_5 most_6 = some o -> K9 t h := by
     intro most_6 t h s2 s3 s5 s6 hm1;refine hK9 _ _ ?_;unfold o70 at hm1;obtain ⟨x12, h_x12, hm1⟩ := b0g hm1;have ha_x12 : ∀ v : Int, List.take (1 + Int.toNat (i_5)) [I p.State, I p.Values.1, I p.Values.2] ++ [I v] ++ List.drop (1 + Int.toNat (i_5)) [I p.Values.1, I p.Values.2] = [I p.State, I (b1n (i_5) 0 v p.Values.1), I (b1n (i_5) 1 v p.Values.2)] := fun v => (c1e (cs := [I p.State, I p.Values.1, I p.Values.2]) (off := 1) (v := v) h_x12 rfl).trans (by rw [c1d h_x12]; rfl);have hb_x12 : 1 + Int.toNat (i_5) + 1 <= 3 := Nat.le_trans (Nat.add_le_add_left (c0a h_x12) 1) vk9;apply b0b;intro K hK;simp only [go_sem, s3, s5, s6, d94 (n := 2) (l := [p.Values.1, p.Values.2]) h_x12 rfl, c0c (cs := [I p.State, I p.Values.1, I p.Values.2]) (off := 1) h_x12 rfl];refine b01 (b4p x12 0 most_6) ?_;simp only [go_sem];apply hK;clear hK K;simp only [go_sem];refine b0k (fun hc13 => ?_) (fun hc13 => ?_)
     ·rw [b0r hc13] at hm1;apply b0b;intro K hK;simp only [go_sem];apply hK;clear hK K;simp only [b0x, b1p, b2e, b0y];obtain rfl := sI9 hm1;obtain rfl := hb5 _ rfl
      try dsimp only at hm0
      obtain rfl := sI9 hm0;exact b04 vc9 (b0e _)
     ·rw [b0q hc13] at hm1;simp only [b0s, b02, b0f];refine hK8 _ _ ?_;apply b03;intro K hK;simp only [go_sem, s5];apply hK;clear hK K;simp only [b0f];obtain rfl := sI9 hm1;refine ⟨_, rfl, ?_⟩;exact ⟨s2, s3, va9⟩
    simp only [go_sem];refine b0k (fun hc14 => ?_) (fun hc14 => ?_)
    ·rw [b0r hc14] at hm1;obtain ⟨x16, h_x16, hm1⟩ := b0g hm1;have h_x160 := b05 h_x16;have h_x161 := b06 h_x16;apply b03;intro K hK;simp only [go_sem, s2, s5, b08 h_x16, h_x161];apply hK;clear hK K;simp only [b0f];exact J10 x16.Max _ _ s2 s3 s5 va9 hm1
    ·rw [b0q hc14] at hm1;simp only [b0s, b0f];exact J10 0 _ _ s2 s3 s5 va9 hm1
   ·rw [b0q hc7] at hm1;simp only [b09, b1b, b1a, b0f];obtain rfl := sI9 hm1;obtain rfl := hb5 _ rfl
    try dsimp only at hm0
    exact J4  _ _  hm0
theorem d3d (hf : Has O "newel/newelref04.Word" x_r04_Word) : d0g O := by
 intro s r hm0;unfold c02 at hm0;refine b1i hf rfl (b0a (b0e _) b0j) (b0e _) ?_;refine b1c (fun t h => t 0 = .v (.string s)) rfl fun t h s0 => ?_;simp only [x_r04_Word];apply b0b;intro K hK;simp only [go_sem];apply hK;clear hK K;refine b0v ?_;apply b0b;intro K hK;simp only [go_sem];apply hK;clear hK K;refine b0i fun K1 hK1 => ?_
 have J2 : ∀ (t : Slots) (h : Heap), t 0 = .v (.string s) -> c8o s = some r -> K1 t h := by
  intro t h s0 hm0;refine hK1 _ _ ?_;unfold c8o at hm0;refine b0v ?_;apply b0b;intro K hK;simp only [go_sem];apply hK;clear hK K;refine b0i fun K3 hK3 => ?_
  have J4 : ∀ (t : Slots) (h : Heap), t 0 = .v (.string s) -> d4r s = some r -> K3 t h := by
   intro t h s0 hm0;refine hK3 _ _ ?_;unfold d4r at hm0;apply b0b;intro K hK;simp only [go_sem, s0];apply hK;clear hK K;simp only [b0x, b0y];obtain rfl := sI9 hm0;exact b04 vc9 (b0e _)
  simp only [b0u];obtain ⟨b5, hl5, hm0⟩ := b0g hm0;refine b1j hl5 (fun | i_4, t, h => t 0 = .v (.string s) /\ t 4 = I i_4) ?_ ?_
  ·exact ⟨s0, va9⟩
  ·rintro i_4 o t h ⟨s0, s4⟩ hm1 hb5;simp only [c4i] at hm1;rw [g4w];refine b0v ?_;apply b0b;intro K hK;simp only [go_sem, s0, s4];apply hK;clear hK K;refine b0i fun K6 hK6 => ?_;simp only [go_sem];refine b0k (fun hc7 => ?_) (fun hc7 => ?_)
   ·rw [b0r hc7] at hm1;simp only [b0s, b0f];refine hK6 _ _ ?_;refine b0i fun K8 hK8 => ?_;simp only [b0u];obtain ⟨x10, h_x10, hm1⟩ := b0g hm1;refine b2p (fun t h => t 0 = .v (.string s) /\ t 4 = I i_4 /\ t 32 = B ((decide (x10 < 97)) || (decide (122 < x10)))) (fun K hK => ?_) ?_
    ·simp only [go_sem, s0, s4, d95 h_x10];refine b0k (fun hg11 => ?_) (fun hg11 => ?_)
     ·simp only [go_sem, hg11];exact hK _ _ ⟨s0, s4, (by first | (simp only [go_sem, hg11]; done) | rfl)⟩
     ·simp only [go_sem, s0, s4, d95 h_x10, hg11];exact hK _ _ ⟨s0, s4, (by first | (simp only [go_sem, hg11]; done) | rfl)⟩
    ·rintro t h ⟨s0, s4, s32⟩;simp only [go_sem, s32];refine b0k (fun hc12 => ?_) (fun hc12 => ?_)
     ·rw [b0r hc12] at hm1;apply b0b;intro K hK;simp only [go_sem];apply hK;clear hK K;simp only [b0x, b1p, b2e, b0y];obtain rfl := sI9 hm1;obtain rfl := hb5 _ rfl
      try dsimp only at hm0
      obtain rfl := sI9 hm0;exact b04 vc9 (b0e _)
     ·rw [b0q hc12] at hm1;simp only [b0s, b02, b0f];refine hK8 _ _ ?_;apply b03;intro K hK;simp only [go_sem, s4];apply hK;clear hK K;simp only [b0f];obtain rfl := sI9 hm1;refine ⟨_, rfl, ?_⟩;exact ⟨s0, va9⟩
   ·rw [b0q hc7] at hm1;simp only [b09, b1b, b1a, b0f];obtain rfl := sI9 hm1;obtain rfl := hb5 _ rfl
    try dsimp only at hm0
    exact J4  _ _ s0 hm0
 simp only [b0u];obtain ⟨b14, hl14, hm0⟩ := b0g hm0;refine b1j hl14 (fun | i_3, t, h => t 0 = .v (.string s) /\ t 3 = I i_3) ?_ ?_
 ·exact ⟨s0, va9⟩
 ·rintro i_3 o t h ⟨s0, s3⟩ hm1 hb14;simp only [c4j] at hm1;rw [g4x];refine b0v ?_;apply b0b;intro K hK;simp only [go_sem, s3];apply hK;clear hK K;refine b0i fun K15 hK15 => ?_;simp only [go_sem];refine b0k (fun hc16 => ?_) (fun hc16 => ?_)
  ·rw [b0r hc16] at hm1;simp only [b0s, b0f];refine hK15 _ _ ?_;refine b0i fun K17 hK17 => ?_;simp only [b0u];obtain ⟨x19, h_x19, hm1⟩ := b0g hm1;have h_x190 := b05 h_x19;have h_x191 := b06 h_x19;apply b0b;intro K hK;simp only [go_sem, s0, s3, b08 h_x19, h_x191];apply hK;clear hK K;simp only [go_sem];refine b0k (fun hc20 => ?_) (fun hc20 => ?_)
   ·rw [b0r hc20] at hm1;apply b0b;intro K hK;simp only [go_sem];apply hK;clear hK K;simp only [b0x, b1p, b2e, b0y];obtain rfl := sI9 hm1;obtain rfl := hb14 _ rfl
    try dsimp only at hm0
    obtain rfl := sI9 hm0;exact b04 vc9 (b0e _)
   ·rw [b0q hc20] at hm1;simp only [b0s, b02, b0f];refine hK17 _ _ ?_;apply b03;intro K hK;simp only [go_sem, s3];apply hK;clear hK K;simp only [b0f];obtain rfl := sI9 hm1;refine ⟨_, rfl, ?_⟩;exact ⟨s0, va9⟩
  ·rw [b0q hc16] at hm1;simp only [b09, b1b, b1a, b0f];obtain rfl := sI9 hm1;obtain rfl := hb14 _ rfl
   try dsimp only at hm0
   exact J2  _ _ s0 hm0
theorem c3m (hf : Has O "newel/newelref04.condition" x_r04_condition) (b4p : c5r O) : c5p O := by
 intro m c inside r hm0;unfold c04 at hm0;refine b1i hf rfl (b0a (fM _) (b0a (b0c fun a _ => b2j a) (b0a (b0e _) b0j))) (b0e _) ?_;refine b1c (fun t h => t 0 = .agg (vM m) /\ t 1 = .fs 1 (List.map b0t c) /\ t 2 = B inside) ⟨rfl, rfl, rfl⟩ fun t h ⟨s0, s1, s2⟩ => ?_;simp only [x_r04_condition];apply b0b;intro K hK;simp only [go_sem, s0];apply hK;clear hK K;refine b0v ?_;apply b0b;intro K hK;simp only [go_sem, s1];apply hK;clear hK K;refine b0i fun K1 hK1 => ?_;simp only [go_sem];refine b0k (fun hc2 => ?_) (fun hc2 => ?_)
 ·rw [b0r hc2] at hm0;apply b0b;intro K hK;simp only [go_sem];apply hK;clear hK K;simp only [b0x, b1p, b0y];obtain rfl := sI9 hm0;exact b04 vc9 (b0e _)
 ·rw [b0q hc2] at hm0;simp only [b0s, b0f];refine hK1 _ _ ?_;refine b0v ?_;apply b0b;intro K hK;simp only [go_sem];apply hK;clear hK K;refine b0i fun K3 hK3 => ?_
  have J4 : ∀ (t : Slots) (h : Heap), d4s = some r -> K3 t h := by
   intro t h hm0;refine hK3 _ _ ?_;unfold d4s at hm0;apply b0b;intro K hK;simp only [go_sem];apply hK;clear hK K;simp only [b0x, b0y];obtain rfl := sI9 hm0;exact b04 vc9 (b0e _)
  simp only [b0u];obtain ⟨b5, hl5, hm0⟩ := b0g hm0;refine b1j hl5 (fun | i_7, t, h => t 1 = .fs 1 (List.map b0t c) /\ t 2 = B inside /\ t 3 = .fp (vM m) 0 /\ t 7 = I i_7) ?_ ?_
  ·exact ⟨s1, s2, va9, va9⟩
  ·rintro i_7 o t h ⟨s1, s2, s3, s7⟩ hm1 hb5;simp only [c05] at hm1;rw [g4z];refine b0v ?_;apply b0b;intro K hK;simp only [go_sem, s1, s7];apply hK;clear hK K;refine b0i fun K6 hK6 => ?_;simp only [go_sem];refine b0k (fun hc7 => ?_) (fun hc7 => ?_)
   ·rw [b0r hc7] at hm1;simp only [b0s, b0f];refine hK6 _ _ ?_;refine b0i fun K8 hK8 => ?_
    have J9 : ∀ (t : Slots) (h : Heap), t 1 = .fs 1 (List.map b0t c) -> t 2 = B inside -> t 3 = .fp (vM m) 0 -> t 7 = I i_7 -> c8p i_7 = some o -> K8 t h := by
     intro t h s1 s2 s3 s7 hm1;refine hK8 _ _ ?_;unfold c8p at hm1;apply b03;intro K hK;simp only [go_sem, s7];apply hK;clear hK K;simp only [b0f];obtain rfl := sI9 hm1;refine ⟨_, rfl, ?_⟩;exact ⟨s1, s2, s3, va9⟩
    simp only [b0u];refine b0v ?_;obtain ⟨x11, h_x11, hm1⟩ := b0g hm1;have h_x110 := b05 h_x11;have h_x111 := b06 h_x11;apply b0b;intro K hK;simp only [go_sem, s1, s7, b08 h_x11, h_x111];apply hK;clear hK K;refine b0i fun K12 hK12 => ?_;simp only [go_sem];refine b0k (fun hc13 => ?_) (fun hc13 => ?_)
    ·rw [b0r hc13] at hm1;apply b0b;intro K hK;simp only [go_sem];apply hK;clear hK K;simp only [b0x, b1p, b2e, b0y];obtain rfl := sI9 hm1;obtain rfl := hb5 _ rfl
     try dsimp only at hm0
     obtain rfl := sI9 hm0;exact b04 vc9 (b0e _)
    ·rw [b0q hc13] at hm1;simp only [b0s, b0f];refine hK12 _ _ ?_;apply b0b;intro K hK;simp only [go_sem];apply hK;clear hK K;simp only [b0u];obtain ⟨b14, hl14, hm1⟩ := b0g hm1;refine b1j hl14 (fun | k_8, t, h => t 1 = .fs 1 (List.map b0t c) /\ t 2 = B inside /\ t 3 = .fp (vM m) 0 /\ t 7 = I i_7 /\ t 8 = I k_8) ?_ ?_
     ·exact ⟨s1, s2, s3, s7, va9⟩
     ·rintro k_8 o t h ⟨s1, s2, s3, s7, s8⟩ hm2 hb14;simp only [b8y] at hm2;rw [g4y];refine b0v ?_;obtain ⟨x16, h_x16, hm2⟩ := b0g hm2;have h_x160 := b05 h_x16;have h_x161 := b06 h_x16;apply b0b;intro K hK;simp only [go_sem, s1, s7, s8, b08 h_x16];apply hK;clear hK K;refine b0i fun K17 hK17 => ?_;simp only [go_sem];refine b0k (fun hc18 => ?_) (fun hc18 => ?_)
      ·rw [b0r hc18] at hm2;simp only [b0s, b0f];refine hK17 _ _ ?_;refine b0i fun K19 hK19 => ?_;simp only [b0u];obtain ⟨x21, h_x21, hm2⟩ := b0g hm2;have h_x210 := b05 h_x21;have h_x211 := b06 h_x21;apply b0b;intro K hK;simp only [go_sem, s1, s7, s8, b08 h_x21, h_x211, b08 h_x16];apply hK;clear hK K;apply b0b;intro K hK;simp only [go_sem];apply hK;clear hK K;refine b0v ?_;apply b0b;intro K hK;simp only [go_sem];apply hK;clear hK K;refine b0i fun K22 hK22 => ?_
       have J23 : ∀ (is_10 : Bool) (t : Slots) (h : Heap), t 1 = .fs 1 (List.map b0t c) -> t 2 = B inside -> t 3 = .fp (vM m) 0 -> t 7 = I i_7 -> t 8 = I k_8 -> t 10 = B is_10 -> b7p k_8 is_10 = some o -> K22 t h := by
        intro is_10 t h s1 s2 s3 s7 s8 s10 hm2;refine hK22 _ _ ?_;unfold b7p at hm2;apply b0b;intro K hK;simp only [go_sem, s10];apply hK;clear hK K;simp only [go_sem];refine b0k (fun hc24 => ?_) (fun hc24 => ?_)
        ·rw [b0r hc24] at hm2;apply b0b;intro K hK;simp only [go_sem];apply hK;clear hK K;simp only [b0x, b1p, b2e, b0y];obtain rfl := sI9 hm2;obtain rfl := hb14 _ rfl
         try dsimp only at hm1
         obtain rfl := sI9 hm1;obtain rfl := hb5 _ rfl
         try dsimp only at hm0
         obtain rfl := sI9 hm0;exact b04 vc9 (b0e _)
        ·rw [b0q hc24] at hm2;simp only [b0s, b02, b0f];refine hK19 _ _ ?_;apply b03;intro K hK;simp only [go_sem, s8];apply hK;clear hK K;simp only [b0f];obtain rfl := sI9 hm2;refine ⟨_, rfl, ?_⟩;exact ⟨s1, s2, s3, s7, va9⟩
       simp only [b0u];apply b0b;intro K hK;simp only [go_sem];apply hK;clear hK K;simp only [go_sem];refine b0k (fun hc25 => ?_) (fun hc25 => ?_)
       ·rw [b0r hc25] at hm2;refine b9y (fun t h => t 1 = .fs 1 (List.map b0t c) /\ t 2 = B inside /\ t 3 = .fp (vM m) 0 /\ t 7 = I i_7 /\ t 8 = I k_8 /\ t 10 = B ((b2b x21.Number 0 (wr ((List.length m.Inputs : Int) - 1))) && (decide (x21.Value = 0)))) (fun K hK => ?_) ?_
        ·simp only [go_sem, s3];refine b01 (b4p x21.Number 0 (wr ((List.length m.Inputs : Int) - 1))) ?_;simp only [go_sem];refine b0k (fun hg26 => ?_) (fun hg26 => ?_)
         ·simp only [go_sem, hg26];exact hK _ _ ⟨s1, s2, s3, s7, s8, (by first | (simp only [go_sem, hg26]; done) | rfl)⟩
         ·simp only [go_sem, hg26];exact hK _ _ ⟨s1, s2, s3, s7, s8, (by first | (simp only [go_sem, hg26]; done) | rfl)⟩
        ·rintro t h ⟨s1, s2, s3, s7, s8, s10⟩;simp only [b02, b0f];exact J23 ((b2b x21.Number 0 (wr ((List.length m.Inputs : Int) - 1))) && (decide (x21.Value = 0))) _ _ s1 s2 s3 s7 s8 s10 hm2
       ·rw [b0q hc25] at hm2;apply b0b;intro K hK;simp only [go_sem];apply hK;clear hK K;simp only [go_sem];refine b0k (fun hc27 => ?_) (fun hc27 => ?_)
        ·rw [b0r hc27] at hm2;obtain ⟨c31, h_c31, hm2⟩ := b0g hm2;refine b9y (fun t h => t 1 = .fs 1 (List.map b0t c) /\ t 2 = B inside /\ t 3 = .fp (vM m) 0 /\ t 7 = I i_7 /\ t 8 = I k_8 /\ t 10 = B c31) (fun K hK => ?_) ?_
         ·simp only [go_sem, s3];refine b01 (b4p x21.Number 0 (wr ((List.length m.Counters : Int) - 1))) ?_;simp only [go_sem];refine b0k (fun hg32 => ?_) (fun hg32 => ?_)
          ·simp only [hg32, eq_self, if_true] at h_c31;obtain ⟨x30, h_x30, h_c31⟩ := b0g h_c31;have h_x300 := b05 h_x30;have h_x301 := b06 h_x30;obtain rfl := sI9 h_c31;simp only [go_sem, s3, b08 h_x30, hg32];refine b01 (b4p x21.Value 0 x30.Max) ?_;simp only [go_sem, hg32];exact hK _ _ ⟨s1, s2, s3, s7, s8, va9⟩
          ·simp only [hg32, if_false, fT9] at h_c31;obtain rfl := sI9 h_c31;simp only [go_sem, hg32];exact hK _ _ ⟨s1, s2, s3, s7, s8, va9⟩
         ·rintro t h ⟨s1, s2, s3, s7, s8, s10⟩;simp only [b02, b0f];exact J23 c31 _ _ s1 s2 s3 s7 s8 s10 hm2
        ·rw [b0q hc27] at hm2;apply b0b;intro K hK;simp only [go_sem];apply hK;clear hK K;simp only [go_sem];refine b0k (fun hc33 => ?_) (fun hc33 => ?_)
         ·rw [b0r hc33] at hm2;refine b9y (fun t h => t 1 = .fs 1 (List.map b0t c) /\ t 2 = B inside /\ t 3 = .fp (vM m) 0 /\ t 7 = I i_7 /\ t 8 = I k_8 /\ t 10 = B ((inside && (b2b x21.Number 0 (wr ((List.length m.States : Int) - 1)))) && (decide (x21.Value = 0)))) (fun K hK => ?_) ?_
          ·simp only [go_sem, s2];refine b0k (fun hg34 => ?_) (fun hg34 => ?_)
           ·simp only [go_sem, s3, hg34];refine b01 (b4p x21.Number 0 (wr ((List.length m.States : Int) - 1))) ?_;simp only [go_sem, hg34];refine b0k (fun hg35 => ?_) (fun hg35 => ?_)
            ·simp only [go_sem, hg34, hg35];exact hK _ _ ⟨s1, s2, s3, s7, s8, (by first | (simp only [go_sem, hg34, hg35]; done) | rfl)⟩
            ·simp only [go_sem, hg34, hg35];exact hK _ _ ⟨s1, s2, s3, s7, s8, (by first | (simp only [go_sem, hg34, hg35]; done) | rfl)⟩
           ·simp only [go_sem, hg34];exact hK _ _ ⟨s1, s2, s3, s7, s8, (by first | (simp only [go_sem, hg34]; done) | rfl)⟩
          ·rintro t h ⟨s1, s2, s3, s7, s8, s10⟩;simp only [b02, b0f];exact J23 ((inside && (b2b x21.Number 0 (wr ((List.length m.States : Int) - 1)))) && (decide (x21.Value = 0))) _ _ s1 s2 s3 s7 s8 s10 hm2
         ·rw [b0q hc33] at hm2;apply b0b;intro K hK;simp only [go_sem];apply hK;clear hK K;simp only [go_sem];refine b0k (fun hc36 => ?_) (fun hc36 => ?_)
          ·rw [b0r hc36] at hm2;refine b9y (fun t h => t 1 = .fs 1 (List.map b0t c) /\ t 2 = B inside /\ t 3 = .fp (vM m) 0 /\ t 7 = I i_7 /\ t 8 = I k_8 /\ t 10 = B ((b2b x21.Number 0 (wr ((List.length m.Outputs : Int) - 1))) && (decide (x21.Value = 0)))) (fun K hK => ?_) ?_
           ·simp only [go_sem, s3];refine b01 (b4p x21.Number 0 (wr ((List.length m.Outputs : Int) - 1))) ?_;simp only [go_sem];refine b0k (fun hg37 => ?_) (fun hg37 => ?_)
            ·simp only [go_sem, hg37];exact hK _ _ ⟨s1, s2, s3, s7, s8, (by first | (simp only [go_sem, hg37]; done) | rfl)⟩
            ·simp only [go_sem, hg37];exact hK _ _ ⟨s1, s2, s3, s7, s8, (by first | (simp only [go_sem, hg37]; done) | rfl)⟩
           ·rintro t h ⟨s1, s2, s3, s7, s8, s10⟩;simp only [b02, b0f];exact J23 ((b2b x21.Number 0 (wr ((List.length m.Outputs : Int) - 1))) && (decide (x21.Value = 0))) _ _ s1 s2 s3 s7 s8 s10 hm2
          ·rw [b0q hc36] at hm2;simp only [b0s, b02, b0f];exact J23 false _ _ s1 s2 s3 s7 s8 va9 hm2
      ·rw [b0q hc18] at hm2;simp only [b09, b1b, b1a, b02, b0f];obtain rfl := sI9 hm2;obtain rfl := hb14 _ rfl
       try dsimp only at hm1
       exact J9  _ _ s1 s2 s3 s7 hm1
   ·rw [b0q hc7] at hm1;simp only [b09, b1b, b1a, b0f];obtain rfl := sI9 hm1;obtain rfl := hb5 _ rfl
    try dsimp only at hm0
    exact J4  _ _  hm0
theorem b4p (hf : Has O "newel/newelref04.from" x_r04_from) : c5r O := by
 intro n low high;generalize hm0 : b2b n low high = r;unfold b2b at hm0;refine b1i hf rfl (b0a (b0e _) (b0a (b0e _) (b0a (b0e _) b0j))) (b0e _) ?_;refine b1c (fun t h => t 0 = I n /\ t 1 = I low /\ t 2 = I high) ⟨rfl, rfl, rfl⟩ fun t h ⟨s0, s1, s2⟩ => ?_;simp only [x_r04_from];apply b0b;intro K hK;simp only [go_sem];apply hK;clear hK K;refine b2p (fun t h => t 6 = B ((decide (low <= n)) && (decide (n <= high)))) (fun K hK => ?_) ?_
 ·simp only [go_sem, s0, s1];refine b0k (fun hg1 => ?_) (fun hg1 => ?_)
  ·simp only [go_sem, s0, s2, hg1];exact hK _ _ (by first | (simp only [go_sem, hg1]; done) | rfl)
  ·simp only [go_sem, hg1];exact hK _ _ (by first | (simp only [go_sem, hg1]; done) | rfl)
 ·rintro t h s6;simp only [b0x, b0y];obtain rfl := hm0;exact b04 (by simp only [go_sem, s6]) (b0e _)
theorem d3f (hf : Has O "newel/newelref04.names" x_r04_names) : d0i O := by
 intro m r hm0;unfold c4l at hm0;refine b1i hf rfl (b0a (fM _) b0j) (b0c fun a _ => b0z a) ?_;refine b1c (fun t h => t 0 = .agg (vM m)) rfl fun t h s0 => ?_;simp only [x_r04_names];apply b0b;intro K hK;simp only [go_sem, s0];apply hK;clear hK K;obtain ⟨l3, h_l3, hm0⟩ := b0g hm0;obtain ⟨l4, h_l4, hm0⟩ := b0g hm0;apply b0b;intro K hK;simp only [go_sem];refine b3a (f := eS) (l := ([])) (m := m.Inputs) ?_ ?_ ?_ ?_ h_l3 ?_
 ·exact (b2v vc9 vc9 vc9)
 ·exact b7j
 ·exact b7i
 ·exact (fun e => by cases e)
 simp only [go_sem];refine b3a (f := eS) (l := l3) (m := m.Outputs) ?_ ?_ ?_ ?_ h_l4 ?_
 ·exact (b2v vc9 vc9 vc9)
 ·exact b7j
 ·exact b7i
 ·exact (fun e => by cases e)
 simp only [go_sem];apply hK;clear hK K;refine b0v ?_;apply b0b;intro K hK;simp only [go_sem];apply hK;clear hK K;refine b0i fun K5 hK5 => ?_
 have J6 : ∀ (l_3 : List ByteArray) (i3 : Nat) (t : Slots) (h : Heap), t 1 = .fp (vM m) 0 -> t 3 = .rs i3 0 (List.length l_3) -> h.ob i3 = some (1, List.map eS l_3) -> i3 < h.nx -> c8u m l_3 = some r -> K5 t h := by
  intro l_3 i3 t h s1 s3 Q1g Q1b hm0;refine hK5 _ _ ?_;unfold c8u at hm0;refine b0v ?_;apply b0b;intro K hK;simp only [go_sem];apply hK;clear hK K;refine b0i fun K7 hK7 => ?_
  have J8 : ∀ (l_3_1 : List ByteArray) (i3_1 : Nat) (t : Slots) (h : Heap), t 3 = .rs i3_1 0 (List.length l_3_1) -> h.ob i3_1 = some (1, List.map eS l_3_1) -> i3_1 < h.nx -> c8v l_3_1 = some r -> K7 t h := by
   intro l_3_1 i3_1 t h s3 Q1g Q1b hm0;refine hK7 _ _ ?_;unfold c8v at hm0;apply b0b;intro K hK;simp only [go_sem, s3];apply hK;clear hK K;simp only [b0x, b0y];obtain rfl := sI9 hm0;exact b8e (v := .rs i3_1 0 (List.length l_3_1)) vc9 (b29 (f := eS) (l := l_3_1) (id := i3_1) (by simp only [go_sem, Q1g]) vh9 b0z c3u)
  simp only [b0u];obtain ⟨b9, hl9, hm0⟩ := b0g hm0;refine b1j hl9 (fun | (l_3_1, i_5), t, h => ∃ i3_1 : Nat, t 1 = .fp (vM m) 0 /\ t 3 = .rs i3_1 0 (List.length l_3_1) /\ t 5 = I i_5 /\ h.ob i3_1 = some (1, List.map eS l_3_1) /\ i3_1 < h.nx) ?_ ?_
  ·exact ⟨i3, s1, (by first | exact s3 | simp only [go_sem, s3, lA9, mA9]), va9, Q1g, Q1b⟩
  ·rintro ⟨l_3_1, i_5⟩ o t h ⟨i3_1, s1, s3, s5, Q1g, Q1b⟩ hm1 hb9;simp only [c8s] at hm1;rw [g43];refine b0v ?_;apply b0b;intro K hK;simp only [go_sem, s1, s5];apply hK;clear hK K;refine b0i fun K10 hK10 => ?_;simp only [go_sem];refine b0k (fun hc11 => ?_) (fun hc11 => ?_)
   ·rw [b0r hc11] at hm1;simp only [b0s, b0f];refine hK10 _ _ ?_;refine b0i fun K12 hK12 => ?_;simp only [b0u];obtain ⟨x15, h_x15, hm1⟩ := b0g hm1;have h_x150 := b05 h_x15;have h_x151 := b06 h_x15;obtain ⟨l16, h_l16, hm1⟩ := b0g hm1;apply b03;intro K hK;simp only [go_sem, s1, s3, s5, b08 h_x15, h_x151];refine b3a (f := eS) (l := l_3_1) (m := ([x15.Name])) ?_ ?_ ?_ ?_ h_l16 ?_
    ·exact (b2v (by simp only [go_sem, Q1g, Q1b]) vc9 (by simp only [go_sem, Q1b]))
    ·exact (b4t vc9 vc9)
    ·exact (b4r vf9)
    ·exact (fun _ => by simp)
    simp only [go_sem];apply hK;clear hK K;simp only [b02, b0f];refine hK12 _ _ ?_;apply b03;intro K hK;simp only [go_sem, s5];apply hK;clear hK K;simp only [b0f];obtain rfl := sI9 hm1;refine ⟨_, rfl, ?_⟩;exact ⟨(nxs h.nx), s1, va9, va9, vc9, vc9⟩
   ·rw [b0q hc11] at hm1;simp only [b09, b1b, b1a, b0f];obtain rfl := sI9 hm1;obtain rfl := hb9 _ rfl
    try dsimp only at hm0
    exact J8 l_3_1 i3_1 _ _ (by first | exact s3 | simp only [go_sem, s3, lA9, mA9]) Q1g Q1b hm0
 simp only [b0u];obtain ⟨b18, hl18, hm0⟩ := b0g hm0;refine b1j hl18 (fun | (l_3, i_4), t, h => ∃ i3 : Nat, t 1 = .fp (vM m) 0 /\ t 3 = .rs i3 0 (List.length l_3) /\ t 4 = I i_4 /\ h.ob i3 = some (1, List.map eS l_3) /\ i3 < h.nx) ?_ ?_
 ·exact ⟨(nxs (nxs h.nx)), va9, va9, va9, vc9, vc9⟩
 ·rintro ⟨l_3, i_4⟩ o t h ⟨i3, s1, s3, s4, Q1g, Q1b⟩ hm1 hb18;simp only [c8t] at hm1;rw [g44];refine b0v ?_;apply b0b;intro K hK;simp only [go_sem, s1, s4];apply hK;clear hK K;refine b0i fun K19 hK19 => ?_;simp only [go_sem];refine b0k (fun hc20 => ?_) (fun hc20 => ?_)
  ·rw [b0r hc20] at hm1;simp only [b0s, b0f];refine hK19 _ _ ?_;refine b0i fun K21 hK21 => ?_;simp only [b0u];obtain ⟨x24, h_x24, hm1⟩ := b0g hm1;have h_x240 := b05 h_x24;have h_x241 := b06 h_x24;obtain ⟨l25, h_l25, hm1⟩ := b0g hm1;apply b03;intro K hK;simp only [go_sem, s1, s3, s4, b08 h_x24, h_x241];refine b3a (f := eS) (l := l_3) (m := ([x24.Name])) ?_ ?_ ?_ ?_ h_l25 ?_
   ·exact (b2v (by simp only [go_sem, Q1g, Q1b]) vc9 (by simp only [go_sem, Q1b]))
   ·exact (b4t vc9 vc9)
   ·exact (b4r vf9)
   ·exact (fun _ => by simp)
   simp only [go_sem];apply hK;clear hK K;simp only [b02, b0f];refine hK21 _ _ ?_;apply b03;intro K hK;simp only [go_sem, s4];apply hK;clear hK K;simp only [b0f];obtain rfl := sI9 hm1;refine ⟨_, rfl, ?_⟩;exact ⟨(nxs h.nx), s1, va9, va9, vc9, vc9⟩
  ·rw [b0q hc20] at hm1;simp only [b09, b1b, b1a, b0f];obtain rfl := sI9 hm1;obtain rfl := hb18 _ rfl
   try dsimp only at hm0
   exact J6 l_3 i3 _ _ s1 (by first | exact s3 | simp only [go_sem, s3, lA9, mA9]) Q1g Q1b hm0
theorem c3p (hf : Has O "newel/situation.Asked" x_situation_Asked) (b8n : c1o O) (d3g : d0j O) : c5t O := by
 intro m c r hm0;unfold c1h at hm0;refine b1i hf rfl (b0a (fM _) (b0a (b0c fun a _ => b2j a) b0j)) (b0e _) ?_;refine b1c (fun t h => t 0 = .agg (vM m) /\ t 1 = .fs 1 (List.map b0t c)) ⟨rfl, rfl⟩ fun t h ⟨s0, s1⟩ => ?_;simp only [x_situation_Asked];apply b0b;intro K hK;simp only [go_sem, s0];apply hK;clear hK K;refine b0v ?_;apply b0b;intro K hK;simp only [go_sem, s1];apply hK;clear hK K;refine b0i fun K1 hK1 => ?_;simp only [go_sem];refine b0k (fun hc2 => ?_) (fun hc2 => ?_)
 ·rw [b0r hc2] at hm0;apply b0b;intro K hK;simp only [go_sem];apply hK;clear hK K;simp only [b0x, b1p, b0y];obtain rfl := sI9 hm0;exact b04 vc9 (b0e _)
 ·rw [b0q hc2] at hm0;simp only [b0s, b0f];refine hK1 _ _ ?_;refine b0v ?_;apply b0b;intro K hK;simp only [go_sem, s1];apply hK;clear hK K;refine b0i fun K3 hK3 => ?_
  have J4 : ∀ (t : Slots) (h : Heap), d46 = some r -> K3 t h := by
   intro t h hm0;refine hK3 _ _ ?_;unfold d46 at hm0;apply b0b;intro K hK;simp only [go_sem];apply hK;clear hK K;simp only [b0x, b0y];obtain rfl := sI9 hm0;exact b04 vc9 (b0e _)
  simp only [b0u];obtain ⟨b5, hl5, hm0⟩ := b0g hm0;refine b1j hl5 (fun | x_12, t, h => t 2 = .fp (vM m) 0 /\ t 10 = .fs 1 (List.map b0t c) /\ t 11 = I (List.length c : Int) /\ t 12 = I x_12) ?_ ?_
  ·exact ⟨va9, va9, va9, va9⟩
  ·rintro x_12 o t h ⟨s2, s10, s11, s12⟩ hm1 hb5;simp only [c4u] at hm1;rw [g45];apply b0b;intro K hK;simp only [go_sem, s11, s12];apply hK;clear hK K;refine b0i fun K6 hK6 => ?_;simp only [go_sem];refine b0k (fun hc7 => ?_) (fun hc7 => ?_)
   ·rw [b0r hc7] at hm1;simp only [b0s, b0f];refine hK6 _ _ ?_;refine b0i fun K8 hK8 => ?_;simp only [b0u];obtain ⟨x10, h_x10, hm1⟩ := b0g hm1;have h_x100 := b05 h_x10;have h_x101 := b06 h_x10;apply b0b;intro K hK;simp only [go_sem, s10, s12, b08 h_x10, h_x101];apply hK;clear hK K;obtain ⟨c16, h_c16, hm1⟩ := b0g hm1;refine b2p (fun t h => t 2 = .fp (vM m) 0 /\ t 10 = .fs 1 (List.map b0t c) /\ t 11 = I (List.length c : Int) /\ t 12 = I x_12 /\ t 23 = B c16) (fun K hK => ?_) ?_
    ·simp only [go_sem];refine b0k (fun hg17 => ?_) (fun hg17 => ?_)
     ·simp only [hg17, eq_self, if_true] at h_c16;obtain rfl := sI9 h_c16;simp only [go_sem, hg17];exact hK _ _ ⟨s2, s10, s11, s12, va9⟩
     ·simp only [hg17, if_false, fT9] at h_c16;obtain ⟨y15, h_y15, h_c16⟩ := b0g h_c16;obtain rfl := sI9 h_c16;simp only [go_sem, s2, hg17];refine b01 (b8n x10 "newel/situation.Asked$1" [] [.fp (vM m) 0] (fun z14 => b82 z14 m) (.fn _ _ _ b0j (b0a (.fp _ _ (b0a (b0c fun a _ => b0z a) (b0a (b0c fun a _ => b0z a) (b0a (b0c fun a _ => b1q a) (b0a (b0c fun a _ => b1s a) (b0a (b0c fun a _ => b1r a) b0j)))))) b0j)) (fun z0 y hz => d3g z0 m y hz) _ h_y15) ?_;simp only [go_sem, s2, hg17];exact hK _ _ ⟨s2, s10, s11, s12, va9⟩
    ·rintro t h ⟨s2, s10, s11, s12, s23⟩;simp only [go_sem, s23];refine b0k (fun hc18 => ?_) (fun hc18 => ?_)
     ·rw [b0r hc18] at hm1;apply b0b;intro K hK;simp only [go_sem];apply hK;clear hK K;simp only [b0x, b1p, b2e, b0y];obtain rfl := sI9 hm1;obtain rfl := hb5 _ rfl
      try dsimp only at hm0
      obtain rfl := sI9 hm0;exact b04 vc9 (b0e _)
     ·rw [b0q hc18] at hm1;simp only [b0s, b02, b0f];refine hK8 _ _ ?_;apply b03;intro K hK;simp only [go_sem, s12];apply hK;clear hK K;simp only [b0f];obtain rfl := sI9 hm1;refine ⟨_, rfl, ?_⟩;exact ⟨s2, s10, s11, va9⟩
   ·rw [b0q hc7] at hm1;simp only [b09, b1b, b1a, b0f];obtain rfl := sI9 hm1;obtain rfl := hb5 _ rfl
    try dsimp only at hm0
    exact J4  _ _  hm0
theorem d3g (hf : Has O "newel/situation.Asked$1" x_situation_AskedD1) (d3l : d0o O) : d0j O := by
 intro x c0 r hm0;unfold b82 at hm0;refine b1i hf rfl (b0a (.agg _ (b0a (b0e _) (b0a (b0e _) (b0a (b0e _) (b0a (b0e _) b0j))))) (b0a (.fp _ _ (b0a (b0c fun a _ => b0z a) (b0a (b0c fun a _ => b0z a) (b0a (b0c fun a _ => b1q a) (b0a (b0c fun a _ => b1s a) (b0a (b0c fun a _ => b1r a) b0j)))))) b0j)) (b0e _) ?_;refine b1c (fun t h => t 0 = .agg [I x.Kind, I x.Number, I x.Value, B x.Not] /\ t 1 = .fp (vM c0) 0) ⟨rfl, rfl⟩ fun t h ⟨s0, s1⟩ => ?_;simp only [x_situation_AskedD1];apply b0b;intro K hK;simp only [go_sem, s0];apply hK;clear hK K;obtain ⟨y2, h_y2, hm0⟩ := b0g hm0;apply b0b;intro K hK;simp only [go_sem, s1];refine b01 (d3l c0 x _ h_y2) ?_;simp only [go_sem];apply hK;clear hK K;simp only [b0x, b0y];obtain rfl := sI9 hm0;exact b04 vc9 (b0e _)
theorem d3h (hf : Has O "newel/situation.Check" x_situation_Check) (b4q : c5u O) (d3m : d0p O) (c3p : c5t O) (b8n : c1o O) (d3i : d0l O) : d0k O := by
 intro m r hm0;unfold c4v at hm0;refine b1i hf rfl (b0a (fM _) b0j) (b0e _) ?_;refine b1c (fun t h => t 0 = .agg (vM m)) rfl fun t h s0 => ?_;simp only [x_situation_Check];apply b0b;intro K hK;simp only [go_sem, s0];apply hK;clear hK K;refine b0v ?_;obtain ⟨c4, h_c4, hm0⟩ := b0g hm0;refine b2p (fun t h => t 1 = .fp (vM m) 0 /\ t 46 = B c4) (fun K hK => ?_) ?_
 ·simp only [go_sem];refine b0k (fun hg5 => ?_) (fun hg5 => ?_)
  ·simp only [hg5, eq_self, if_true, Bool.true_or] at h_c4;obtain rfl := sI9 h_c4;simp only [go_sem, hg5];exact hK _ _ ⟨va9, va9⟩
  ·simp only [go_sem, hg5];refine b0k (fun hg6 => ?_) (fun hg6 => ?_)
   ·simp only [hg5, hg6, eq_self, if_true, Bool.true_or, Bool.or_true] at h_c4;obtain rfl := sI9 h_c4;simp only [go_sem, hg5, hg6];exact hK _ _ ⟨va9, va9⟩
   ·simp only [go_sem, hg5, hg6];refine b0k (fun hg7 => ?_) (fun hg7 => ?_)
    ·simp only [hg5, hg6, hg7, eq_self, if_true, Bool.true_or, Bool.or_true, Bool.or_false] at h_c4;obtain rfl := sI9 h_c4;simp only [go_sem, hg5, hg6, hg7];exact hK _ _ ⟨va9, va9⟩
    ·simp only [go_sem, hg5, hg6, hg7];refine b01 (b4q (List.length m.States : Int) 1 12) ?_;simp only [go_sem, hg5, hg6, hg7];refine b0k (fun hg8 => ?_) (fun hg8 => ?_)
     ·simp only [hg5, hg6, hg7, hg8, eq_self, if_true, Bool.true_or, Bool.or_true, Bool.or_false] at h_c4;obtain rfl := sI9 h_c4;simp only [go_sem, hg5, hg6, hg7, hg8];exact hK _ _ ⟨va9, va9⟩
     ·simp only [go_sem, hg5, hg6, hg7, hg8];refine b0k (fun hg9 => ?_) (fun hg9 => ?_)
      ·simp only [hg5, hg6, hg7, hg8, hg9, eq_self, if_true, Bool.or_true, Bool.or_false] at h_c4;obtain rfl := sI9 h_c4;simp only [go_sem, hg5, hg6, hg7, hg8, hg9];exact hK _ _ ⟨va9, va9⟩
      ·simp only [hg5, hg6, hg7, hg8, hg9, if_false, Bool.or_false, fT9] at h_c4;obtain ⟨y3, h_y3, h_c4⟩ := b0g h_c4;obtain rfl := sI9 h_c4;simp only [go_sem, hg5, hg6, hg7, hg8, hg9];refine b01 (d3m m _ h_y3) ?_;simp only [go_sem, hg5, hg6, hg7, hg8, hg9];exact hK _ _ ⟨va9, va9⟩
 ·rintro t h ⟨s1, s46⟩;refine b0i fun K10 hK10 => ?_;simp only [go_sem, s46];refine b0k (fun hc11 => ?_) (fun hc11 => ?_)
  ·rw [b0r hc11] at hm0;apply b0b;intro K hK;simp only [go_sem];apply hK;clear hK K;simp only [b0x, b1p, b0y];obtain rfl := sI9 hm0;exact b04 vc9 (b0e _)
  ·rw [b0q hc11] at hm0;simp only [b0s, b0f];refine hK10 _ _ ?_;refine b0v ?_;apply b0b;intro K hK;simp only [go_sem, s1];apply hK;clear hK K;refine b0i fun K12 hK12 => ?_
   have J13 : ∀ (t : Slots) (h : Heap), t 1 = .fp (vM m) 0 -> p84 m = some r -> K12 t h := by
    intro t h s1 hm0;refine hK12 _ _ ?_;unfold p84 at hm0;refine b0v ?_;apply b0b;intro K hK;simp only [go_sem, s1];apply hK;clear hK K;refine b0i fun K14 hK14 => ?_
    have J15 : ∀ (t : Slots) (h : Heap), t 1 = .fp (vM m) 0 -> c85 m = some r -> K14 t h := by
     intro t h s1 hm0;refine hK14 _ _ ?_;unfold c85 at hm0;refine b0v ?_;apply b0b;intro K hK;simp only [go_sem, s1];apply hK;clear hK K;refine b0i fun K16 hK16 => ?_
     have J17 : ∀ (t : Slots) (h : Heap), d47 = some r -> K16 t h := by
      intro t h hm0;refine hK16 _ _ ?_;unfold d47 at hm0;apply b0b;intro K hK;simp only [go_sem];apply hK;clear hK K;simp only [b0x, b0y];obtain rfl := sI9 hm0;exact b04 vc9 (b0e _)
     simp only [b0u];obtain ⟨b18, hl18, hm0⟩ := b0g hm0;refine b1j hl18 (fun | x_79, t, h => t 1 = .fp (vM m) 0 /\ t 77 = .fs 4 (List.map b0m m.Rules) /\ t 78 = I (List.length m.Rules : Int) /\ t 79 = I x_79) ?_ ?_
     ·exact ⟨s1, va9, va9, va9⟩
     ·rintro x_79 o t h ⟨s1, s77, s78, s79⟩ hm1 hb18;simp only [b83] at hm1;rw [g49];apply b0b;intro K hK;simp only [go_sem, s78, s79];apply hK;clear hK K;refine b0i fun K19 hK19 => ?_;simp only [go_sem];refine b0k (fun hc20 => ?_) (fun hc20 => ?_)
      ·rw [b0r hc20] at hm1;simp only [b0s, b0f];refine hK19 _ _ ?_;refine b0i fun K21 hK21 => ?_
       have J22 : ∀ (t : Slots) (h : Heap), t 1 = .fp (vM m) 0 -> t 77 = .fs 4 (List.map b0m m.Rules) -> t 78 = I (List.length m.Rules : Int) -> t 79 = I x_79 -> c86 x_79 = some o -> K21 t h := by
        intro t h s1 s77 s78 s79 hm1;refine hK21 _ _ ?_;unfold c86 at hm1;apply b03;intro K hK;simp only [go_sem, s79];apply hK;clear hK K;simp only [b0f];obtain rfl := sI9 hm1;refine ⟨_, rfl, ?_⟩;exact ⟨s1, s77, s78, va9⟩
       simp only [b0u];obtain ⟨x24, h_x24, hm1⟩ := b0g hm1;have h_x240 := b05 h_x24;have h_x241 := b06 h_x24;apply b0b;intro K hK;simp only [go_sem, s77, s79, b08 h_x24, h_x241];apply hK;clear hK K;refine b0v ?_;obtain ⟨c28, h_c28, hm1⟩ := b0g hm1;refine b2p (fun t h => ∃ i8 : Nat, t 1 = .fp (vM m) 0 /\ t 8 = .rp i8 0 0 /\ t 77 = .fs 4 (List.map b0m m.Rules) /\ t 78 = I (List.length m.Rules : Int) /\ t 79 = I x_79 /\ t 113 = B (c28 || (decide (4 < (List.length x24.Sets : Int)))) /\ h.ob i8 = some (4, [[I x24.From, I x24.To, .fs 1 (List.map b0t x24.When), .fs 2 (List.map b2o x24.Sets)]]) /\ i8 < h.nx) (fun K hK => ?_) ?_
       ·simp only [go_sem, s1];refine b01 (b4q x24.From (-1) (wr ((List.length m.States : Int) - 1))) ?_;simp only [go_sem];refine b0k (fun hg29 => ?_) (fun hg29 => ?_)
        ·simp only [hg29, eq_self, if_true, Bool.true_or] at h_c28;obtain rfl := sI9 h_c28;simp only [go_sem, hg29];exact hK _ _ ⟨h.nx, s1, va9, s77, s78, s79, va9, vc9, vc9⟩
        ·simp only [go_sem, s1, hg29];refine b01 (b4q x24.To 0 (wr ((List.length m.States : Int) - 1))) ?_;simp only [go_sem, hg29];refine b0k (fun hg30 => ?_) (fun hg30 => ?_)
         ·simp only [hg29, hg30, eq_self, if_true, Bool.or_true] at h_c28;obtain rfl := sI9 h_c28;simp only [go_sem, hg29, hg30];exact hK _ _ ⟨h.nx, s1, va9, s77, s78, s79, va9, vc9, vc9⟩
         ·simp only [hg29, hg30, if_false, Bool.or_false, fT9] at h_c28;obtain ⟨y27, h_y27, h_c28⟩ := b0g h_c28;obtain rfl := sI9 h_c28;simp only [go_sem, s1, hg29, hg30];refine b01 (c3p m x24.When _ h_y27) ?_;simp only [go_sem, hg29, hg30];refine b0k (fun hg31 => ?_) (fun hg31 => ?_)
          ·simp only [go_sem, hg29, hg30, hg31];exact hK _ _ ⟨h.nx, s1, va9, s77, s78, s79, (by first | (simp only [go_sem, hg31]; done) | rfl), vc9, vc9⟩
          ·simp only [go_sem, hg29, hg30, hg31];exact hK _ _ ⟨h.nx, s1, va9, s77, s78, s79, (by first | (simp only [go_sem, hg31]; done) | rfl), vc9, vc9⟩
       ·rintro t h ⟨i8, s1, s8, s77, s78, s79, s113, Q1, Q0⟩;refine b0i fun K32 hK32 => ?_;simp only [go_sem, s113];refine b0k (fun hc33 => ?_) (fun hc33 => ?_)
        ·rw [b0r hc33] at hm1;apply b0b;intro K hK;simp only [go_sem];apply hK;clear hK K;simp only [b0x, b1p, b2e, b0y];obtain rfl := sI9 hm1;obtain rfl := hb18 _ rfl
         try dsimp only at hm0
         obtain rfl := sI9 hm0;exact b04 vc9 (b0e _)
        ·rw [b0q hc33] at hm1;simp only [b0s, b0f];refine hK32 _ _ ?_;refine b0v ?_;apply b0b;intro K hK;simp only [go_sem, s8, Q1];apply hK;clear hK K;refine b0i fun K34 hK34 => ?_
         have J35 : ∀ (t : Slots) (h : Heap), t 1 = .fp (vM m) 0 -> t 8 = .rp i8 0 0 -> t 77 = .fs 4 (List.map b0m m.Rules) -> t 78 = I (List.length m.Rules : Int) -> t 79 = I x_79 -> h.ob i8 = some (4, [[I x24.From, I x24.To, .fs 1 (List.map b0t x24.When), .fs 2 (List.map b2o x24.Sets)]]) -> i8 < h.nx -> c87 m x_79 x24 = some o -> K34 t h := by
          intro t h s1 s8 s77 s78 s79 Q1 Q0 hm1;refine hK34 _ _ ?_;unfold c87 at hm1;apply b0b;intro K hK;simp only [go_sem, s8, Q1];apply hK;clear hK K;simp only [b0u];obtain ⟨b36, hl36, hm1⟩ := b0g hm1;refine b1j hl36 (fun | x_127, t, h => t 1 = .fp (vM m) 0 /\ t 77 = .fs 4 (List.map b0m m.Rules) /\ t 78 = I (List.length m.Rules : Int) /\ t 79 = I x_79 /\ t 125 = .fs 2 (List.map b2o x24.Sets) /\ t 126 = I (List.length x24.Sets : Int) /\ t 127 = I x_127) ?_ ?_
          ·exact ⟨s1, s77, s78, s79, va9, va9, va9⟩
          ·rintro x_127 o t h ⟨s1, s77, s78, s79, s125, s126, s127⟩ hm2 hb36;simp only [c4y] at hm2;rw [g48];apply b0b;intro K hK;simp only [go_sem, s126, s127];apply hK;clear hK K;refine b0i fun K37 hK37 => ?_;simp only [go_sem];refine b0k (fun hc38 => ?_) (fun hc38 => ?_)
           ·rw [b0r hc38] at hm2;simp only [b0s, b0f];refine hK37 _ _ ?_;refine b0i fun K39 hK39 => ?_;simp only [b0u];obtain ⟨x41, h_x41, hm2⟩ := b0g hm2;have h_x410 := b05 h_x41;have h_x411 := b06 h_x41;apply b0b;intro K hK;simp only [go_sem, s125, s127, b08 h_x41, h_x411];apply hK;clear hK K;refine b2p (fun t h => t 1 = .fp (vM m) 0 /\ t 77 = .fs 4 (List.map b0m m.Rules) /\ t 78 = I (List.length m.Rules : Int) /\ t 79 = I x_79 /\ t 125 = .fs 2 (List.map b2o x24.Sets) /\ t 126 = I (List.length x24.Sets : Int) /\ t 127 = I x_127 /\ t 144 = B ((!(b2q x41.Kind 1 3)) || (!(b2q x41.Counter 0 (wr ((List.length m.Counters : Int) - 1)))))) (fun K hK => ?_) ?_
            ·simp only [go_sem];refine b01 (b4q x41.Kind 1 3) ?_;simp only [go_sem];refine b0k (fun hg42 => ?_) (fun hg42 => ?_)
             ·simp only [go_sem, hg42];exact hK _ _ ⟨s1, s77, s78, s79, s125, s126, s127, (by first | (simp only [go_sem, hg42]; done) | rfl)⟩
             ·simp only [go_sem, s1, hg42];refine b01 (b4q x41.Counter 0 (wr ((List.length m.Counters : Int) - 1))) ?_;simp only [go_sem, hg42];exact hK _ _ ⟨s1, s77, s78, s79, s125, s126, s127, (by first | (simp only [go_sem, hg42]; done) | rfl)⟩
            ·rintro t h ⟨s1, s77, s78, s79, s125, s126, s127, s144⟩;simp only [go_sem, s144];refine b0k (fun hc43 => ?_) (fun hc43 => ?_)
             ·rw [b0r hc43] at hm2;apply b0b;intro K hK;simp only [go_sem];apply hK;clear hK K;simp only [b0x, b1p, b2e, b0y];obtain rfl := sI9 hm2;obtain rfl := hb36 _ rfl
              try dsimp only at hm1
              obtain rfl := sI9 hm1;obtain rfl := hb18 _ rfl
              try dsimp only at hm0
              obtain rfl := sI9 hm0;exact b04 vc9 (b0e _)
             ·rw [b0q hc43] at hm2;simp only [b0s, b02, b0f];refine hK39 _ _ ?_;apply b03;intro K hK;simp only [go_sem, s127];apply hK;clear hK K;simp only [b0f];obtain rfl := sI9 hm2;refine ⟨_, rfl, ?_⟩;exact ⟨s1, s77, s78, s79, s125, s126, va9⟩
           ·rw [b0q hc38] at hm2;simp only [b09, b1b, b1a, b02, b0f];obtain rfl := sI9 hm2;obtain rfl := hb36 _ rfl
            try dsimp only at hm1
            exact J22  _ _ s1 s77 s78 s79 hm1
         simp only [b0u];obtain ⟨b45, hl45, hm1⟩ := b0g hm1;refine b1j hl45 (fun | x_117, t, h => t 1 = .fp (vM m) 0 /\ t 8 = .rp i8 0 0 /\ t 77 = .fs 4 (List.map b0m m.Rules) /\ t 78 = I (List.length m.Rules : Int) /\ t 79 = I x_79 /\ t 115 = .fs 1 (List.map b0t x24.When) /\ t 116 = I (List.length x24.When : Int) /\ t 117 = I x_117 /\ h.ob i8 = some (4, [[I x24.From, I x24.To, .fs 1 (List.map b0t x24.When), .fs 2 (List.map b2o x24.Sets)]]) /\ i8 < h.nx) ?_ ?_
         ·exact ⟨s1, s8, s77, s78, s79, va9, va9, va9, Q1, Q0⟩
         ·rintro x_117 o t h ⟨s1, s8, s77, s78, s79, s115, s116, s117, Q1, Q0⟩ hm2 hb45;simp only [c4x] at hm2;rw [g47];apply b0b;intro K hK;simp only [go_sem, s116, s117];apply hK;clear hK K;refine b0i fun K46 hK46 => ?_;simp only [go_sem];refine b0k (fun hc47 => ?_) (fun hc47 => ?_)
          ·rw [b0r hc47] at hm2;simp only [b0s, b0f];refine hK46 _ _ ?_;refine b0i fun K48 hK48 => ?_;simp only [b0u];obtain ⟨x50, h_x50, hm2⟩ := b0g hm2;have h_x500 := b05 h_x50;have h_x501 := b06 h_x50;apply b0b;intro K hK;simp only [go_sem, s115, s117, b08 h_x50, h_x501];apply hK;clear hK K;obtain ⟨y54, h_y54, hm2⟩ := b0g hm2;apply b0b;intro K hK;simp only [go_sem];refine b01 (b8n x50 "newel/situation.Check$1" [] [] (fun z53 => some (b7s z53)) (.fn _ _ _ b0j b0j) (fun z0 y hz => by cases hz; exact d3i z0) _ h_y54) ?_;simp only [go_sem];apply hK;clear hK K;simp only [go_sem];refine b0k (fun hc55 => ?_) (fun hc55 => ?_)
           ·rw [b0r hc55] at hm2;apply b0b;intro K hK;simp only [go_sem];apply hK;clear hK K;simp only [b0x, b1p, b2e, b0y];obtain rfl := sI9 hm2;obtain rfl := hb45 _ rfl
            try dsimp only at hm1
            obtain rfl := sI9 hm1;obtain rfl := hb18 _ rfl
            try dsimp only at hm0
            obtain rfl := sI9 hm0;exact b04 vc9 (b0e _)
           ·rw [b0q hc55] at hm2;simp only [b0s, b02, b0f];refine hK48 _ _ ?_;apply b03;intro K hK;simp only [go_sem, s117];apply hK;clear hK K;simp only [b0f];obtain rfl := sI9 hm2;refine ⟨_, rfl, ?_⟩;exact ⟨s1, s8, s77, s78, s79, s115, s116, va9, Q1, Q0⟩
          ·rw [b0q hc47] at hm2;simp only [b09, b1b, b1a, b0f];obtain rfl := sI9 hm2;obtain rfl := hb45 _ rfl
           try dsimp only at hm1
           exact J35  _ _ s1 s8 s77 s78 s79 Q1 Q0 hm1
      ·rw [b0q hc20] at hm1;simp only [b09, b1b, b1a, b0f];obtain rfl := sI9 hm1;obtain rfl := hb18 _ rfl
       try dsimp only at hm0
       exact J17  _ _  hm0
    simp only [b0u];obtain ⟨b58, hl58, hm0⟩ := b0g hm0;refine b1j hl58 (fun | x_62, t, h => t 1 = .fp (vM m) 0 /\ t 60 = .fs 2 (List.map b0p m.States) /\ t 61 = I (List.length m.States : Int) /\ t 62 = I x_62) ?_ ?_
    ·exact ⟨s1, va9, va9, va9⟩
    ·rintro x_62 o t h ⟨s1, s60, s61, s62⟩ hm1 hb58;simp only [c4w] at hm1;rw [g46];apply b0b;intro K hK;simp only [go_sem, s61, s62];apply hK;clear hK K;refine b0i fun K59 hK59 => ?_;simp only [go_sem];refine b0k (fun hc60 => ?_) (fun hc60 => ?_)
     ·rw [b0r hc60] at hm1;simp only [b0s, b0f];refine hK59 _ _ ?_;refine b0i fun K61 hK61 => ?_;simp only [b0u];obtain ⟨x63, h_x63, hm1⟩ := b0g hm1;have h_x630 := b05 h_x63;have h_x631 := b06 h_x63;apply b0b;intro K hK;simp only [go_sem, s60, s62, b08 h_x63, h_x631];apply hK;clear hK K;obtain ⟨q65, h_q65, hm1⟩ := b0g hm1;apply b0b;intro K hK;simp only [go_sem, s1, c21 h_q65];refine b01 (b4q x63.Shows 0 (wr (q65 - 1))) ?_;simp only [go_sem];apply hK;clear hK K;simp only [go_sem];refine b0k (fun hc66 => ?_) (fun hc66 => ?_)
      ·rw [b0r hc66] at hm1;apply b0b;intro K hK;simp only [go_sem];apply hK;clear hK K;simp only [b0x, b1p, b2e, b0y];obtain rfl := sI9 hm1;obtain rfl := hb58 _ rfl
       try dsimp only at hm0
       obtain rfl := sI9 hm0;exact b04 vc9 (b0e _)
      ·rw [b0q hc66] at hm1;simp only [b0s, b02, b0f];refine hK61 _ _ ?_;apply b03;intro K hK;simp only [go_sem, s62];apply hK;clear hK K;simp only [b0f];obtain rfl := sI9 hm1;refine ⟨_, rfl, ?_⟩;exact ⟨s1, s60, s61, va9⟩
     ·rw [b0q hc60] at hm1;simp only [b09, b1b, b1a, b0f];obtain rfl := sI9 hm1;obtain rfl := hb58 _ rfl
      try dsimp only at hm0
      exact J15  _ _ s1 hm0
   simp only [b0u];obtain ⟨b68, hl68, hm0⟩ := b0g hm0;refine b1j hl68 (fun | x_50, t, h => t 1 = .fp (vM m) 0 /\ t 48 = .fs 2 (List.map b0o m.Counters) /\ t 49 = I (List.length m.Counters : Int) /\ t 50 = I x_50) ?_ ?_
   ·exact ⟨s1, va9, va9, va9⟩
   ·rintro x_50 o t h ⟨s1, s48, s49, s50⟩ hm1 hb68;simp only [c4z] at hm1;rw [g5a];apply b0b;intro K hK;simp only [go_sem, s49, s50];apply hK;clear hK K;refine b0i fun K69 hK69 => ?_;simp only [go_sem];refine b0k (fun hc70 => ?_) (fun hc70 => ?_)
    ·rw [b0r hc70] at hm1;simp only [b0s, b0f];refine hK69 _ _ ?_;refine b0i fun K71 hK71 => ?_;simp only [b0u];obtain ⟨x73, h_x73, hm1⟩ := b0g hm1;have h_x730 := b05 h_x73;have h_x731 := b06 h_x73;apply b0b;intro K hK;simp only [go_sem, s48, s50, b08 h_x73, h_x731];apply hK;clear hK K;apply b0b;intro K hK;simp only [go_sem];refine b01 (b4q x73.Max 1 7) ?_;simp only [go_sem];apply hK;clear hK K;simp only [go_sem];refine b0k (fun hc74 => ?_) (fun hc74 => ?_)
     ·rw [b0r hc74] at hm1;apply b0b;intro K hK;simp only [go_sem];apply hK;clear hK K;simp only [b0x, b1p, b2e, b0y];obtain rfl := sI9 hm1;obtain rfl := hb68 _ rfl
      try dsimp only at hm0
      obtain rfl := sI9 hm0;exact b04 vc9 (b0e _)
     ·rw [b0q hc74] at hm1;simp only [b0s, b02, b0f];refine hK71 _ _ ?_;apply b03;intro K hK;simp only [go_sem, s50];apply hK;clear hK K;simp only [b0f];obtain rfl := sI9 hm1;refine ⟨_, rfl, ?_⟩;exact ⟨s1, s48, s49, va9⟩
    ·rw [b0q hc70] at hm1;simp only [b09, b1b, b1a, b0f];obtain rfl := sI9 hm1;obtain rfl := hb68 _ rfl
     try dsimp only at hm0
     exact J13  _ _ s1 hm0
theorem d3i (hf : Has O "newel/situation.Check$1" x_situation_CheckD1) : d0l O := by
 intro x;generalize hm0 : b7s x = r;unfold b7s at hm0;refine b1i hf rfl (b0a (.agg _ (b0a (b0e _) (b0a (b0e _) (b0a (b0e _) (b0a (b0e _) b0j))))) b0j) (b0e _) ?_;refine b1c (fun t h => t 0 = .agg [I x.Kind, I x.Number, I x.Value, B x.Not]) rfl fun t h s0 => ?_;simp only [x_situation_CheckD1];apply b0b;intro K hK;simp only [go_sem, s0];apply hK;clear hK K;apply b0b;intro K hK;simp only [go_sem];apply hK;clear hK K;simp only [b0x, b0y];obtain rfl := hm0;exact b04 vc9 (b0e _)
theorem d3j (hf : Has O "newel/situation.Plain" x_situation_Plain) : d0m O := by
 intro word r hm0;unfold r1j at hm0;refine b1i hf rfl (b0a (b0e _) b0j) (b0e _) ?_;refine b1c (fun t h => t 0 = .v (.string word)) rfl fun t h s0 => ?_;simp only [x_situation_Plain];apply b0b;intro K hK;simp only [go_sem];apply hK;clear hK K;refine b0v ?_;apply b0b;intro K hK;simp only [go_sem, s0];refine j5y (O := O) ?_;simp only [go_sem];apply hK;clear hK K;refine b0i fun K1 hK1 => ?_
 have J2 : ∀ (t : Slots) (h : Heap), t 0 = .v (.string word) -> d48 word = some r -> K1 t h := by
  intro t h s0 hm0;refine hK1 _ _ ?_;unfold d48 at hm0;apply b0b;intro K hK;simp only [go_sem, s0];apply hK;clear hK K;simp only [b0x, b0y];obtain rfl := sI9 hm0;exact b04 vc9 (b0e _)
 simp only [b0u];obtain ⟨b3, hl3, hm0⟩ := b0g hm0;refine b1j hl3 (fun | x_8, t, h => t 0 = .v (.string word) /\ t 6 = .fs 1 (List.map c2m (b3q word)) /\ t 7 = I (List.length (b3q word) : Int) /\ t 8 = I x_8) ?_ ?_
 ·exact ⟨s0, va9, va9, va9⟩
 ·rintro x_8 o t h ⟨s0, s6, s7, s8⟩ hm1 hb3;simp only [c42] at hm1;rw [g5b];apply b0b;intro K hK;simp only [go_sem, s7, s8];apply hK;clear hK K;refine b0i fun K4 hK4 => ?_;simp only [go_sem];refine b0k (fun hc5 => ?_) (fun hc5 => ?_)
  ·rw [b0r hc5] at hm1;simp only [b0s, b0f];refine hK4 _ _ ?_;refine b0i fun K6 hK6 => ?_;simp only [b0u];obtain ⟨x8, h_x8, hm1⟩ := b0g hm1;have h_x80 := b05 h_x8;have h_x81 := b06 h_x8;apply b0b;intro K hK;simp only [go_sem, s6, s8, b08 h_x8, h_x81];apply hK;clear hK K;refine b2p (fun t h => t 0 = .v (.string word) /\ t 6 = .fs 1 (List.map c2m (b3q word)) /\ t 7 = I (List.length (b3q word) : Int) /\ t 8 = I x_8 /\ t 17 = B ((decide (x8 < 97)) || (decide (122 < x8)))) (fun K hK => ?_) ?_
   ·simp only [go_sem];refine b0k (fun hg9 => ?_) (fun hg9 => ?_)
    ·simp only [go_sem, hg9];exact hK _ _ ⟨s0, s6, s7, s8, (by first | (simp only [go_sem, hg9]; done) | rfl)⟩
    ·simp only [go_sem, hg9];exact hK _ _ ⟨s0, s6, s7, s8, (by first | (simp only [go_sem, hg9]; done) | rfl)⟩
   ·rintro t h ⟨s0, s6, s7, s8, s17⟩;simp only [go_sem, s17];refine b0k (fun hc10 => ?_) (fun hc10 => ?_)
    ·rw [b0r hc10] at hm1;apply b0b;intro K hK;simp only [go_sem];apply hK;clear hK K;simp only [b0x, b1p, b2e, b0y];obtain rfl := sI9 hm1;obtain rfl := hb3 _ rfl
     try dsimp only at hm0
     obtain rfl := sI9 hm0;exact b04 vc9 (b0e _)
    ·rw [b0q hc10] at hm1;simp only [b0s, b02, b0f];refine hK6 _ _ ?_;apply b03;intro K hK;simp only [go_sem, s8];apply hK;clear hK K;simp only [b0f];obtain rfl := sI9 hm1;refine ⟨_, rfl, ?_⟩;exact ⟨s0, s6, s7, va9⟩
  ·rw [b0q hc5] at hm1;simp only [b09, b1b, b1a, b0f];obtain rfl := sI9 hm1;obtain rfl := hb3 _ rfl
   try dsimp only at hm0
   exact J2  _ _ s0 hm0
theorem d3k (hf : Has O "newel/situation.Reserved" x_situation_Reserved) : d0n O := by
 intro word;generalize hm0 : b84 word = r;unfold b84 at hm0;refine b1i hf rfl (b0a (b0e _) b0j) (b0e _) ?_;refine b1c (fun t h => t 0 = .v (.string word)) rfl fun t h s0 => ?_;simp only [x_situation_Reserved];apply b0b;intro K hK;simp only [go_sem];apply hK;clear hK K;refine b0v ?_;apply b0b;intro K hK;simp only [go_sem, s0];apply hK;clear hK K;refine b0i fun K1 hK1 => ?_;simp only [b0u];refine b0v ?_;apply b0b;intro K hK;simp only [go_sem];apply hK;clear hK K;refine b0i fun K2 hK2 => ?_
 have J3 : ∀ (x_4 : Bool) (t : Slots) (h : Heap), t 4 = B x_4 -> b5w x_4 = r -> K2 t h := by
  intro x_4 t h s4 hm0;refine hK2 _ _ ?_;unfold b5w at hm0;simp only [go_sem, s4];refine b0k (fun hc4 => ?_) (fun hc4 => ?_)
  ·rw [b0r hc4] at hm0;apply b0b;intro K hK;simp only [go_sem];apply hK;clear hK K;simp only [b0x, b1p, b2e, b0y];obtain rfl := hm0;exact b04 vc9 (b0e _)
  ·rw [b0q hc4] at hm0;simp only [b0s, b02, b0f];refine hK1 _ _ ?_;apply b0b;intro K hK;simp only [go_sem];apply hK;clear hK K;simp only [b0x, b0y];obtain rfl := hm0;exact b04 vc9 (b0e _)
 simp only [go_sem];refine b0k (fun hc5 => ?_) (fun hc5 => ?_)
 ·rw [b0r hc5] at hm0;simp only [b0s, b0f];exact J3 (decide (word = (ByteArray.mk #[97, 110, 121]))) _ _ va9 hm0
 ·rw [b0q hc5] at hm0;apply b0b;intro K hK;simp only [go_sem];apply hK;clear hK K;simp only [go_sem];refine b0k (fun hc6 => ?_) (fun hc6 => ?_)
  ·rw [b0r hc6] at hm0;simp only [b0s, b0f];exact J3 (decide (word = (ByteArray.mk #[116, 111]))) _ _ va9 hm0
  ·rw [b0q hc6] at hm0;apply b0b;intro K hK;simp only [go_sem];apply hK;clear hK K;simp only [go_sem];refine b0k (fun hc7 => ?_) (fun hc7 => ?_)
   ·rw [b0r hc7] at hm0;simp only [b0s, b0f];exact J3 (decide (word = (ByteArray.mk #[122, 101, 114, 111]))) _ _ va9 hm0
   ·rw [b0q hc7] at hm0;apply b0b;intro K hK;simp only [go_sem];apply hK;clear hK K;simp only [go_sem];refine b0k (fun hc8 => ?_) (fun hc8 => ?_)
    ·rw [b0r hc8] at hm0;simp only [b0s, b0f];exact J3 (decide (word = (ByteArray.mk #[109, 111, 114, 101]))) _ _ va9 hm0
    ·rw [b0q hc8] at hm0;apply b0b;intro K hK;simp only [go_sem];apply hK;clear hK K;simp only [go_sem];refine b0k (fun hc9 => ?_) (fun hc9 => ?_)
     ·rw [b0r hc9] at hm0;simp only [b0s, b0f];exact J3 (decide (word = (ByteArray.mk #[108, 101, 115, 115]))) _ _ va9 hm0
     ·rw [b0q hc9] at hm0;apply b0b;intro K hK;simp only [go_sem];apply hK;clear hK K;simp only [go_sem];refine b0k (fun hc10 => ?_) (fun hc10 => ?_)
      ·rw [b0r hc10] at hm0;simp only [b0s, b0f];exact J3 (decide (word = (ByteArray.mk #[105, 102]))) _ _ va9 hm0
      ·rw [b0q hc10] at hm0;apply b0b;intro K hK;simp only [go_sem];apply hK;clear hK K;simp only [go_sem];refine b0k (fun hc11 => ?_) (fun hc11 => ?_)
       ·rw [b0r hc11] at hm0;simp only [b0s, b0f];exact J3 (decide (word = (ByteArray.mk #[121, 101, 115]))) _ _ va9 hm0
       ·rw [b0q hc11] at hm0;apply b03;intro K hK;simp only [go_sem];apply hK;clear hK K;simp only [b0f];exact J3 (decide (word = (ByteArray.mk #[110, 111]))) _ _ va9 hm0
theorem d3n (d3o : d0r O) (d3p : d0s O) : d0q O := by
 intro m r hm0;unfold c45 at hm0;split at hm0
 ·exact d3o m r hm0
 ·exact d3p m r hm0
theorem b4q (hf : Has O "newel/situation.within" x_situation_within) : c5u O := by
 intro n low high;generalize hm0 : b2q n low high = r;unfold b2q at hm0;refine b1i hf rfl (b0a (b0e _) (b0a (b0e _) (b0a (b0e _) b0j))) (b0e _) ?_;refine b1c (fun t h => t 0 = I n /\ t 1 = I low /\ t 2 = I high) ⟨rfl, rfl, rfl⟩ fun t h ⟨s0, s1, s2⟩ => ?_;simp only [x_situation_within];apply b0b;intro K hK;simp only [go_sem];apply hK;clear hK K;refine b2p (fun t h => t 6 = B ((decide (low <= n)) && (decide (n <= high)))) (fun K hK => ?_) ?_
 ·simp only [go_sem, s0, s1];refine b0k (fun hg1 => ?_) (fun hg1 => ?_)
  ·simp only [go_sem, s0, s2, hg1];exact hK _ _ (by first | (simp only [go_sem, hg1]; done) | rfl)
  ·simp only [go_sem, hg1];exact hK _ _ (by first | (simp only [go_sem, hg1]; done) | rfl)
 ·rintro t h s6;simp only [b0x, b0y];obtain rfl := hm0;exact b04 (by simp only [go_sem, s6]) (b0e _)
theorem d3t (hf : Has O "slices.ContainsFunc[newel/api.Cond,newel/api.Term]" x_slices_ContainsFunc_api_Cond_api_Term_) (d3v : d0y O) : d0w O := by
 intro s f_n f_a f_b f f_z f_h r hm0;unfold c9k at hm0;refine b1i hf rfl (b0a (b0c fun a _ => b2j a) (b0a f_z b0j)) (b0e _) ?_;refine b1c (fun t h => t 0 = .fs 1 (List.map b0t s) /\ t 1 = .fn f_n f_a f_b) ⟨rfl, rfl⟩ fun t h ⟨s0, s1⟩ => ?_;simp only [x_slices_ContainsFunc_api_Cond_api_Term_];apply b0b;intro K hK;simp only [go_sem];apply hK;clear hK K;obtain ⟨y2, h_y2, hm0⟩ := b0g hm0;apply b0b;intro K hK;simp only [go_sem, s0, s1];refine b01 (d3v s f_n f_a f_b f f_z f_h _ h_y2) ?_;simp only [go_sem];apply hK;clear hK K;simp only [b0x, b0y];obtain rfl := sI9 hm0;exact b04 vc9 (b0e _)
theorem b8n (hf : Has O "slices.ContainsFunc[newel/api.Term,newel/api.Literal]" x_slices_ContainsFunc_api_Term_api_Literal_) (d3w : d0z O) : c1o O := by
 intro s f_n f_a f_b f f_z f_h r hm0;unfold b7t at hm0;refine b1i hf rfl (b0a (b0c fun a _ => c2w a) (b0a f_z b0j)) (b0e _) ?_;refine b1c (fun t h => t 0 = .fs 4 (List.map b3k s) /\ t 1 = .fn f_n f_a f_b) ⟨rfl, rfl⟩ fun t h ⟨s0, s1⟩ => ?_;simp only [x_slices_ContainsFunc_api_Term_api_Literal_];apply b0b;intro K hK;simp only [go_sem];apply hK;clear hK K;obtain ⟨y2, h_y2, hm0⟩ := b0g hm0;apply b0b;intro K hK;simp only [go_sem, s0, s1];refine b01 (d3w s f_n f_a f_b f f_z f_h _ h_y2) ?_;simp only [go_sem];apply hK;clear hK K;simp only [b0x, b0y];obtain rfl := sI9 hm0;exact b04 vc9 (b0e _)
end Go.Nw.KM
