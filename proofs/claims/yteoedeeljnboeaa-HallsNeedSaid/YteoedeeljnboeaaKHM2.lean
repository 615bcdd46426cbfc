/- That the texts make what their models say: printed by a program. -/
import Derived.Test.YteoedeeljnboeaaHM
set_option linter.all false
set_option linter.unusedVariables false
set_option linter.unusedSimpArgs false
set_option linter.unusedSectionVars false
namespace Go.Nw.HM
open Go.Nw.Halls
set_option linter.unusedSimpArgs false
set_option linter.unusedVariables false
set_option maxHeartbeats 4000000
variable {O : Orac}

theorem k_halls_bounds_w (hf : Has O "newel/halls.bounds" x_halls_bounds) (k_halls_brought : C_halls_brought O) (k___halls_bound__passes : C___halls_bound__passes O) : C_halls_bounds_w O := by
  intro h_ open_ v_1 hs_1 h0 rr_p1 r hm0
  unfold halls_bounds at hm0
  refine hasw_cw hf rfl ?_
  refine cw_start (fun t h => t 0 = .agg [.fs 5 (List.map eComb h_.Combs), .fs 3 (List.map eTrain h_.Trains), .fs 3 (List.map eShift h_.Shifts), I h_.Until] ∧ t 1 = v_1 ∧ RR h v_1 hs_1 1 eI open_ ∧ (∀ j, j < h0.nx → h.ob j = h0.ob j) ∧ h0.nx ≤ h.nx) ⟨rfl, rfl, rr_p1, fun _ _ => rfl, Nat.le_refl _⟩ fun t h ⟨s0, s1, rr_p1, fr, fx⟩ => ?_
  simp only [x_halls_bounds]
  refine cw_reg_seq fun K hK => ?_
  simp only [go_sem, s0]
  refine hK _ _ ?_
  clear hK K
  refine cw_reg_seq fun K hK => ?_
  simp only [go_sem]
  refine hK _ _ ?_
  clear hK K
  refine cw_assoc ?_
  refine cw_reg_seq fun K hK => ?_
  simp only [go_sem]
  refine hK _ _ ?_
  clear hK K
  refine cw_seq_k fun K1 hK1 => ?_
  have J2 : ∀ (all_5 : List halls_bound) (v5 : AV) (t : Slots) (h : Heap), t 5 = v5 → OwnS h v5 1 (List.map eP_halls_bound all_5) → (∀ j, j < h0.nx → h.ob j = h0.ob j) → h0.nx ≤ h.nx → (∀ j, ¬NotId v5 j → h0.nx ≤ j) → halls_bounds_j2 all_5 = some r → K1 t h := by
    intro all_5 v5 t h s5 ow_o5 fr fx ge_o5 hm0
    refine hK1 _ _ ?_
    unfold halls_bounds_j2 at hm0
    refine cw_assoc ?_
    refine cw_ghost_own (s := 5) (v := v5) (f := eP_halls_bound) (l := all_5) (by simp only [go_sem, s5, own_late ow_o5, List.length_append, List.map_append]) (own_later ow_o5 (by intro j hj hl; first | rfl | simp only [go_sem, hl]) (by first | omega | exact Nat.le_refl _ | (simp only [go_sem, nxs] <;> omega))) fz_eP_halls_bound ln_eP_halls_bound ?_
    skip
    refine cw_reg_seq fun K hK => ?_
    simp only [go_sem, s5, istr_of v5]
    refine hK _ _ ?_
    clear hK K
    simp only [cw_ret, qseq_ret, qblock_ret, retQ_ret]
    obtain rfl := Option.some.inj hm0
    exact retw_t (Post := fun v h => v = .fs 1 (List.map eP_halls_bound all_5) ∧ (∀ j, j < h0.nx → h.ob j = h0.ob j) ∧ h0.nx ≤ h.nx) (v := .fs 1 (List.map eP_halls_bound all_5)) (by simp only [go_sem, own_late ow_o5, List.length_append, List.map_append]) ⟨rfl, (by intro j hj; first | exact fr j hj | (refine Eq.trans ?_ (fr j hj); first | rfl | simp only [go_sem, Nat.lt_of_lt_of_le hj fx, ge_nid ge_o5 hj, vidb_own ow_o5 (ge_nid ge_o5 hj), frzH_own ow_o5 (ge_nid ge_o5 hj)])), (by first | exact fx | omega | (simp only [go_sem, nxs] <;> omega))⟩
  simp only [cw_block]
  obtain ⟨b3, hl3, hm0⟩ := bind_get hm0
  refine cw_loopM hl3 (fun | (all_5, x_19), t, h => ∃ v1 : AV, ∃ v5 : AV, t 1 = v1 ∧ t 2 = .fp [.fs 5 (List.map eComb h_.Combs), .fs 3 (List.map eTrain h_.Trains), .fs 3 (List.map eShift h_.Shifts), I h_.Until] 0 ∧ t 5 = v5 ∧ t 18 = I (List.length h_.Combs : Int) ∧ t 19 = I x_19 ∧ RR h v1 hs_1 1 eI open_ ∧ OwnS h v5 1 (List.map eP_halls_bound all_5) ∧ (∀ j, ¬NotId v5 j → RNot v1 hs_1 j) ∧ (∀ j, j < h0.nx → h.ob j = h0.ob j) ∧ h0.nx ≤ h.nx ∧ (∀ j, ¬NotId v5 j → h0.nx ≤ j)) ?_ ?_
  · exact ⟨v_1, (.v (.slice none 0 0)), s1, (by first | (simp only [go_sem, List.length_append, List.map_append]; done) | rfl), (by first | (simp only [go_sem, List.length_append, List.map_append]; done) | rfl), (by first | (simp only [go_sem, List.length_append, List.map_append]; done) | rfl), (by first | (simp only [go_sem, List.length_append, List.map_append]; done) | rfl), rr_p1, own_nil', dr_nil, fr, fx, dr_nil⟩
  · rintro ⟨all_5, x_19⟩ o t h ⟨v1, v5, s1, s2, s5, s18, s19, rr_o1, ow_o5, rm_o1_o5, fr, fx, ge_o5⟩ hm1 hb3
    simp only [halls_bounds_L42] at hm1
    rw [x_halls_bounds_L42]
    refine cw_reg_seq fun K hK => ?_
    simp only [go_sem, s18, s19, istr_of v1, istr_of v5]
    refine hK _ _ ?_
    clear hK K
    refine cw_seq_k fun K4 hK4 => ?_
    simp only [go_sem]
    refine ibr_intro (fun hc5 => ?_) (fun hc5 => ?_)
    · rw [if_t hc5] at hm1
      simp only [cw_skip, qblock_normal, qseq_normal]
      refine hK4 _ _ ?_
      refine cw_seq_k fun K6 hK6 => ?_
      have J7 : ∀ (all_5_1 : List halls_bound) (v1_1 : AV) (i5 : Nat) (t : Slots) (h : Heap), t 1 = v1_1 → t 2 = .fp [.fs 5 (List.map eComb h_.Combs), .fs 3 (List.map eTrain h_.Trains), .fs 3 (List.map eShift h_.Shifts), I h_.Until] 0 → t 5 = .rs i5 0 (List.length all_5_1) → t 18 = I (List.length h_.Combs : Int) → t 19 = I x_19 → RR h v1_1 hs_1 1 eI open_ → h.ob i5 = some (1, List.map eP_halls_bound all_5_1) → i5 < h.nx → RNot v1_1 hs_1 i5 → (∀ j, j < h0.nx → h.ob j = h0.ob j) → h0.nx ≤ h.nx → h0.nx ≤ i5 → halls_bounds_j7 x_19 all_5_1 = some o → K6 t h := by
        try clear s1 s2 s5 s18 s19 rr_o1 ow_o5 rm_o1_o5 fr fx ge_o5
        intro all_5_1 v1_1 i5 t h s1 s2 s5 s18 s19 rr_o1 ob_o5 lt_o5 rn_o1_o5 fr fx ge_o5 hm1
        refine hK6 _ _ ?_
        unfold halls_bounds_j7 at hm1
        refine cw_reg_k fun K hK => ?_
        simp only [go_sem, s19, lt_o5, istr_of v1, istr_of v5, istr_of v1_1]
        refine hK _ _ ?_
        clear hK K
        simp only [qblock_normal, qseq_normal]
        obtain rfl := Option.some.inj hm1
        refine ⟨_, rfl, ?_⟩
        exact ⟨v1_1, (.rs i5 0 (List.length all_5_1)), s1, s2, (by first | exact s5 | simp only [go_sem, s5, List.length_append, List.map_append]), s18, (by first | (simp only [go_sem, s19, List.length_append, List.map_append]; done) | rfl), rr_o1, (own_rs (by simp only [go_sem, ob_o5, lt_o5, List.length_append, List.map_append]) (by first | rfl | simp only [go_sem, List.length_append, List.map_append]) (by simp only [go_sem, lt_o5])), (dr_rs rn_o1_o5), fr, fx, (ge_rs ge_o5)⟩
      simp only [cw_block]
      refine cw_reg_seq fun K hK => ?_
      simp only [go_sem, s19, istr_of v1, istr_of v5]
      refine hK _ _ ?_
      clear hK K
      refine cw_reg_seq fun K hK => ?_
      simp only [go_sem, istr_of v1, istr_of v5]
      refine hK _ _ ?_
      clear hK K
      refine cw_assoc ?_
      refine cw_reg_seq fun K hK => ?_
      simp only [go_sem, s2, istr_of v1, istr_of v5]
      refine hK _ _ ?_
      clear hK K
      refine cw_seq_k fun K8 hK8 => ?_
      have J9 : ∀ (b_7_0 : List Int) (b_7_3 : List (List Int)) (v1_1 : AV) (v5_1 : AV) (i7 : Nat) (i7_1 : Nat) (i7_2 : Nat) (v7 : AV) (t : Slots) (h : Heap), t 1 = v1_1 → t 2 = .fp [.fs 5 (List.map eComb h_.Combs), .fs 3 (List.map eTrain h_.Trains), .fs 3 (List.map eShift h_.Shifts), I h_.Until] 0 → t 5 = v5_1 → t 6 = I x_19 → t 7 = .rp i7 0 0 → t 18 = I (List.length h_.Combs : Int) → t 19 = I x_19 → RR h v1_1 hs_1 1 eI open_ → OwnS h v5_1 1 (List.map eP_halls_bound all_5) → h.ob i7 = some (4, [[.rs i7_1 0 (List.length b_7_0), .rs i7_2 0 (List.length ([0])), .v (.slice none 0 0), v7]]) → i7 < h.nx → h.ob i7_1 = some (1, List.map eI b_7_0) → i7_1 < h.nx → h.ob i7_2 = some (1, List.map eI ([0])) → i7_2 < h.nx → OwnS h v7 1 (List.map eL_I b_7_3) → (∀ j, ¬NotId v5_1 j → RNot v1_1 hs_1 j) → RNot v1_1 hs_1 i7 → RNot v1_1 hs_1 i7_1 → RNot v1_1 hs_1 i7_2 → (∀ j, ¬NotId v7 j → RNot v1_1 hs_1 j) → NotId v5_1 i7 → NotId v5_1 i7_1 → NotId v5_1 i7_2 → (∀ j, ¬NotId v5_1 j → NotId v7 j) → ¬i7 = i7_1 → ¬i7 = i7_2 → NotId v7 i7 → ¬i7_1 = i7_2 → NotId v7 i7_1 → NotId v7 i7_2 → (∀ j, j < h0.nx → h.ob j = h0.ob j) → h0.nx ≤ h.nx → (∀ j, ¬NotId v5_1 j → h0.nx ≤ j) → h0.nx ≤ i7 → h0.nx ≤ i7_1 → h0.nx ≤ i7_2 → (∀ j, ¬NotId v7 j → h0.nx ≤ j) → halls_bounds_j9 h_ open_ all_5 x_19 b_7_0 b_7_3 = some o → K8 t h := by
        try clear s1 s2 s5 s18 s19 rr_o1 ow_o5 rm_o1_o5 fr fx ge_o5
        intro b_7_0 b_7_3 v1_1 v5_1 i7 i7_1 i7_2 v7 t h s1 s2 s5 s6 s7 s18 s19 rr_o1 ow_o5 ob_o7 lt_o7 ob_o7x lt_o7x ob_o7xx lt_o7xx ow_o7xxx rm_o1_o5 rn_o1_o7 rn_o1_o7x rn_o1_o7xx rm_o1_o7xxx ni_o5_o7 ni_o5_o7x ni_o5_o7xx di_o5_o7xxx ne_o7_o7x ne_o7_o7xx ni_o7_o7xxx ne_o7x_o7xx ni_o7x_o7xxx ni_o7xx_o7xxx fr fx ge_o5 ge_o7 ge_o7x ge_o7xx ge_o7xxx hm1
        refine hK8 _ _ ?_
        unfold halls_bounds_j9 at hm1
        refine cw_assoc ?_
        refine cw_reg_seq fun K hK => ?_
        simp only [go_sem, s2, lt_o7, lt_o7x, lt_o7xx, istr_of v1, istr_of v5, istr_of v1_1, istr_of v5_1, istr_of v7]
        refine hK _ _ ?_
        clear hK K
        refine cw_seq_k fun K10 hK10 => ?_
        have J11 : ∀ (b_7_1 : List Int) (b_7_2 : List Int) (v1_2 : AV) (i7_3 : Nat) (v7_1 : AV) (v7_2 : AV) (t : Slots) (h : Heap), t 1 = v1_2 → t 2 = .fp [.fs 5 (List.map eComb h_.Combs), .fs 3 (List.map eTrain h_.Trains), .fs 3 (List.map eShift h_.Shifts), I h_.Until] 0 → t 5 = v5_1 → t 7 = .rp i7 0 0 → t 18 = I (List.length h_.Combs : Int) → t 19 = I x_19 → RR h v1_2 hs_1 1 eI open_ → OwnS h v5_1 1 (List.map eP_halls_bound all_5) → h.ob i7 = some (4, [[.rs i7_1 0 (List.length b_7_0), .rs i7_3 0 (List.length b_7_1), v7_1, v7_2]]) → i7 < h.nx → h.ob i7_1 = some (1, List.map eI b_7_0) → i7_1 < h.nx → h.ob i7_3 = some (1, List.map eI b_7_1) → i7_3 < h.nx → OwnS h v7_1 1 (List.map eI b_7_2) → OwnS h v7_2 1 (List.map eL_I b_7_3) → (∀ j, ¬NotId v5_1 j → RNot v1_2 hs_1 j) → RNot v1_2 hs_1 i7 → RNot v1_2 hs_1 i7_1 → RNot v1_2 hs_1 i7_3 → (∀ j, ¬NotId v7_1 j → RNot v1_2 hs_1 j) → (∀ j, ¬NotId v7_2 j → RNot v1_2 hs_1 j) → NotId v5_1 i7 → NotId v5_1 i7_1 → NotId v5_1 i7_3 → (∀ j, ¬NotId v5_1 j → NotId v7_1 j) → (∀ j, ¬NotId v5_1 j → NotId v7_2 j) → ¬i7 = i7_1 → ¬i7 = i7_3 → NotId v7_1 i7 → NotId v7_2 i7 → ¬i7_1 = i7_3 → NotId v7_1 i7_1 → NotId v7_2 i7_1 → NotId v7_1 i7_3 → NotId v7_2 i7_3 → (∀ j, ¬NotId v7_1 j → NotId v7_2 j) → (∀ j, j < h0.nx → h.ob j = h0.ob j) → h0.nx ≤ h.nx → (∀ j, ¬NotId v5_1 j → h0.nx ≤ j) → h0.nx ≤ i7 → h0.nx ≤ i7_1 → h0.nx ≤ i7_3 → (∀ j, ¬NotId v7_1 j → h0.nx ≤ j) → (∀ j, ¬NotId v7_2 j → h0.nx ≤ j) → halls_bounds_j11 all_5 x_19 b_7_0 b_7_3 b_7_1 b_7_2 = some o → K10 t h := by
          try clear s1 s2 s5 s6 s7 s18 s19 rr_o1 ow_o5 ob_o7 lt_o7 ob_o7x lt_o7x ob_o7xx lt_o7xx ow_o7xxx rm_o1_o5 rn_o1_o7 rn_o1_o7x rn_o1_o7xx rm_o1_o7xxx ni_o5_o7 ni_o5_o7x ni_o5_o7xx di_o5_o7xxx ne_o7_o7x ne_o7_o7xx ni_o7_o7xxx ne_o7x_o7xx ni_o7x_o7xxx ni_o7xx_o7xxx fr fx ge_o5 ge_o7 ge_o7x ge_o7xx ge_o7xxx
          intro b_7_1 b_7_2 v1_2 i7_3 v7_1 v7_2 t h s1 s2 s5 s7 s18 s19 rr_o1 ow_o5 ob_o7 lt_o7 ob_o7x lt_o7x ob_o7xx lt_o7xx ow_o7xxx ow_o7xxxx rm_o1_o5 rn_o1_o7 rn_o1_o7x rn_o1_o7xx rm_o1_o7xxx rm_o1_o7xxxx ni_o5_o7 ni_o5_o7x ni_o5_o7xx di_o5_o7xxx di_o5_o7xxxx ne_o7_o7x ne_o7_o7xx ni_o7_o7xxx ni_o7_o7xxxx ne_o7x_o7xx ni_o7x_o7xxx ni_o7x_o7xxxx ni_o7xx_o7xxx ni_o7xx_o7xxxx di_o7xxx_o7xxxx fr fx ge_o5 ge_o7 ge_o7x ge_o7xx ge_o7xxx ge_o7xxxx hm1
          refine hK10 _ _ ?_
          unfold halls_bounds_j11 at hm1
          refine cw_ghost_deep (s := 7) (v := .rp i7 0 0) (y := .fp [.fs 1 (List.map eI b_7_0), .fs 1 (List.map eI b_7_1), .fs 1 (List.map eI b_7_2), .fs 1 (List.map eL_I b_7_3)] 0) (fun j => j == i7 || j == i7_1 || j == i7_3 || vidb v7_1 j || vidb v7_2 j) (by simp only [go_sem, s7, rr_lates rr_o1, own_late ow_o5, ob_o7, lt_o7, ob_o7x, lt_o7x, ob_o7xx, lt_o7xx, own_late ow_o7xxx, own_late ow_o7xxxx, rn_top rn_o1_o7, rn_top rn_o1_o7x, rn_top rn_o1_o7xx, ni_o5_o7, ni_o5_o7x, ni_o5_o7xx, ne_o7_o7x, nsym ne_o7_o7x, ne_o7_o7xx, nsym ne_o7_o7xx, ni_o7_o7xxx, ni_o7_o7xxxx, ne_o7x_o7xx, nsym ne_o7x_o7xx, ni_o7x_o7xxx, ni_o7x_o7xxxx, ni_o7xx_o7xxx, ni_o7xx_o7xxxx, List.length_append, List.map_append]) (fz_rp (id := i7) (sz := 4) (xs := [.rs i7_1 0 (List.length b_7_0), .rs i7_3 0 (List.length b_7_1), v7_1, v7_2]) (by rw [only_ob (by simp)]; simp only [go_sem, rr_lates rr_o1, own_late ow_o5, ob_o7, lt_o7, ob_o7x, lt_o7x, ob_o7xx, lt_o7xx, own_late ow_o7xxx, own_late ow_o7xxxx, rn_top rn_o1_o7, rn_top rn_o1_o7x, rn_top rn_o1_o7xx, ni_o5_o7, ni_o5_o7x, ni_o5_o7xx, ne_o7_o7x, nsym ne_o7_o7x, ne_o7_o7xx, nsym ne_o7_o7xx, ni_o7_o7xxx, ni_o7_o7xxxx, ne_o7x_o7xx, nsym ne_o7x_o7xx, ni_o7x_o7xxx, ni_o7x_o7xxxx, ni_o7xx_o7xxx, ni_o7xx_o7xxxx, List.length_append, List.map_append]) (.cons (fz_rs (f := eI) (l := b_7_0) (id := i7_1) (by rw [only_ob (by simp)]; simp only [go_sem, rr_lates rr_o1, own_late ow_o5, ob_o7, lt_o7, ob_o7x, lt_o7x, ob_o7xx, lt_o7xx, own_late ow_o7xxx, own_late ow_o7xxxx, rn_top rn_o1_o7, rn_top rn_o1_o7x, rn_top rn_o1_o7xx, ni_o5_o7, ni_o5_o7x, ni_o5_o7xx, ne_o7_o7x, nsym ne_o7_o7x, ne_o7_o7xx, nsym ne_o7_o7xx, ni_o7_o7xxx, ni_o7_o7xxxx, ne_o7x_o7xx, nsym ne_o7x_o7xx, ni_o7x_o7xxx, ni_o7x_o7xxxx, ni_o7xx_o7xxx, ni_o7xx_o7xxxx, List.length_append, List.map_append]) (by first | rfl | simp only [go_sem, List.length_append, List.map_append]) fz_eI ln_eI) (.cons (fz_rs (f := eI) (l := b_7_1) (id := i7_3) (by rw [only_ob (by simp)]; simp only [go_sem, rr_lates rr_o1, own_late ow_o5, ob_o7, lt_o7, ob_o7x, lt_o7x, ob_o7xx, lt_o7xx, own_late ow_o7xxx, own_late ow_o7xxxx, rn_top rn_o1_o7, rn_top rn_o1_o7x, rn_top rn_o1_o7xx, ni_o5_o7, ni_o5_o7x, ni_o5_o7xx, ne_o7_o7x, nsym ne_o7_o7x, ne_o7_o7xx, nsym ne_o7_o7xx, ni_o7_o7xxx, ni_o7_o7xxxx, ne_o7x_o7xx, nsym ne_o7x_o7xx, ni_o7x_o7xxx, ni_o7x_o7xxxx, ni_o7xx_o7xxx, ni_o7xx_o7xxxx, List.length_append, List.map_append]) (by first | rfl | simp only [go_sem, List.length_append, List.map_append]) fz_eI ln_eI) (.cons (fz_own (f := eI) (l := b_7_2) (own_only (own_later ow_o7xxx (by intro j hj hl; first | rfl | simp only [go_sem, hl, rn_top (rm_o1_o7xxx j hj), di_sym di_o5_o7xxx j hj, own_ne hj ni_o7_o7xxx, own_ne hj ni_o7x_o7xxx, own_ne hj ni_o7xx_o7xxx, di_o7xxx_o7xxxx j hj]) (by first | omega | exact Nat.le_refl _ | (simp only [go_sem, nxs] <;> omega))) (by intro j hj; simp [vidb_is hj])) fz_eI ln_eI) (.cons (fz_own (f := eL_I) (l := b_7_3) (own_only (own_later ow_o7xxxx (by intro j hj hl; first | rfl | simp only [go_sem, hl, rn_top (rm_o1_o7xxxx j hj), di_sym di_o5_o7xxxx j hj, own_ne hj ni_o7_o7xxxx, own_ne hj ni_o7x_o7xxxx, own_ne hj ni_o7xx_o7xxxx, di_sym di_o7xxx_o7xxxx j hj]) (by first | omega | exact Nat.le_refl _ | (simp only [go_sem, nxs] <;> omega))) (by intro j hj; simp [vidb_is hj])) fz_eL_I ln_eL_I) (.nil)))))) (.fp _ _ (fz_cons (frz_fs fun a _ => fz_eI a) (fz_cons (frz_fs fun a _ => fz_eI a) (fz_cons (frz_fs fun a _ => fz_eI a) (fz_cons (frz_fs fun a _ => fz_eL_I a) fz_nil))))) ?_
          obtain ⟨l13, h_l13, hm1⟩ := bind_get hm1
          refine cw_reg_k fun K hK => ?_
          simp only [go_sem, s5, s7, lt_o7, lt_o7x, lt_o7xx, ni_o5_o7, ni_o5_o7x, ni_o5_o7xx, Bool.or_eq_false_iff, beq_eq_false_iff_ne, ne_eq, not_false_eq_true, and_self, vidb_own ow_o7xxx ni_o7_o7xxx, vidb_own ow_o7xxxx ni_o7_o7xxxx, vidb_own ow_o7xxx ni_o7x_o7xxx, vidb_own ow_o7xxxx ni_o7x_o7xxxx, vidb_own ow_o7xxx ni_o7xx_o7xxx, vidb_own ow_o7xxxx ni_o7xx_o7xxxx, istr_of v1, istr_of v5, istr_of v1_1, istr_of v5_1, istr_of v7, istr_of v1_2, istr_of v7_1, istr_of v7_2]
          refine iapp_own (f := eP_halls_bound) (l := all_5) (m := ([(halls_bound.mk b_7_0 b_7_1 b_7_2 b_7_3)])) ?_ ?_ ?_ ?_ h_l13 ?_
          · exact (own_later ow_o5 (by intro j hj hl; first | rfl | simp only [go_sem, hl, rn_top (rm_o1_o5 j hj), own_ne hj ni_o5_o7, own_ne hj ni_o5_o7x, own_ne hj ni_o5_o7xx, di_o5_o7xxx j hj, vidb_own ow_o7xxx (di_o5_o7xxx j hj), di_o5_o7xxxx j hj, vidb_own ow_o7xxxx (di_o5_o7xxxx j hj), Bool.or_eq_false_iff, beq_eq_false_iff_ne, ne_eq, not_false_eq_true, and_self]) (by first | omega | exact Nat.le_refl _ | (simp only [go_sem, nxs] <;> omega)))
          · exact (ownx_rs (by simp only [go_sem, Bool.or_eq_false_iff, beq_eq_false_iff_ne, ne_eq, not_false_eq_true, and_self, vidb_own ow_o7xxx ni_o7_o7xxx, vidb_own ow_o7xxxx ni_o7_o7xxxx, vidb_own ow_o7xxx ni_o7x_o7xxx, vidb_own ow_o7xxxx ni_o7x_o7xxxx, vidb_own ow_o7xxx ni_o7xx_o7xxx, vidb_own ow_o7xxxx ni_o7xx_o7xxxx, rr_lates rr_o1, own_late ow_o5, ob_o7, lt_o7, ob_o7x, lt_o7x, ob_o7xx, lt_o7xx, own_late ow_o7xxx, own_late ow_o7xxxx, rn_top rn_o1_o7, rn_top rn_o1_o7x, rn_top rn_o1_o7xx, ni_o5_o7, ni_o5_o7x, ni_o5_o7xx, ne_o7_o7x, nsym ne_o7_o7x, ne_o7_o7xx, nsym ne_o7_o7xx, ni_o7_o7xxx, ni_o7_o7xxxx, ne_o7x_o7xx, nsym ne_o7x_o7xx, ni_o7x_o7xxx, ni_o7x_o7xxxx, ni_o7xx_o7xxx, ni_o7xx_o7xxxx, List.length_append, List.map_append]) (by simp only [go_sem, Bool.or_eq_false_iff, beq_eq_false_iff_ne, ne_eq, not_false_eq_true, and_self, vidb_own ow_o7xxx ni_o7_o7xxx, vidb_own ow_o7xxxx ni_o7_o7xxxx, vidb_own ow_o7xxx ni_o7x_o7xxx, vidb_own ow_o7xxxx ni_o7x_o7xxxx, vidb_own ow_o7xxx ni_o7xx_o7xxx, vidb_own ow_o7xxxx ni_o7xx_o7xxxx, rr_lates rr_o1, own_late ow_o5, ob_o7, lt_o7, ob_o7x, lt_o7x, ob_o7xx, lt_o7xx, own_late ow_o7xxx, own_late ow_o7xxxx, rn_top rn_o1_o7, rn_top rn_o1_o7x, rn_top rn_o1_o7xx, ni_o5_o7, ni_o5_o7x, ni_o5_o7xx, ne_o7_o7x, nsym ne_o7_o7x, ne_o7_o7xx, nsym ne_o7_o7xx, ni_o7_o7xxx, ni_o7_o7xxxx, ne_o7x_o7xx, nsym ne_o7x_o7xx, ni_o7x_o7xxx, ni_o7x_o7xxxx, ni_o7xx_o7xxx, ni_o7xx_o7xxxx, List.length_append, List.map_append]))
          · exact (nd_rs (by first | exact notid_nil | exact notid_rs (by first | omega | (simp only [nxs] <;> omega)) | assumption | exact own_notid (by assumption) (by first | omega | (simp only [go_sem, nxs] <;> omega))))
          · exact (fun _ => by simp)
          simp only [go_sem, s5, s7, lt_o7, lt_o7x, lt_o7xx, ni_o5_o7, ni_o5_o7x, ni_o5_o7xx, Bool.or_eq_false_iff, beq_eq_false_iff_ne, ne_eq, not_false_eq_true, and_self, vidb_own ow_o7xxx ni_o7_o7xxx, vidb_own ow_o7xxxx ni_o7_o7xxxx, vidb_own ow_o7xxx ni_o7x_o7xxx, vidb_own ow_o7xxxx ni_o7x_o7xxxx, vidb_own ow_o7xxx ni_o7xx_o7xxx, vidb_own ow_o7xxxx ni_o7xx_o7xxxx, istr_of v1, istr_of v5, istr_of v1_1, istr_of v5_1, istr_of v7, istr_of v1_2, istr_of v7_1, istr_of v7_2]
          refine hK _ _ ?_
          clear hK K
          simp only [qblock_normal, qseq_normal]
          exact J7 l13 v1_2 (nxs h.nx) _ _ s1 s2 (by first | (simp only [go_sem, s5, List.length_append, List.map_append]; done) | rfl) s18 s19 (rr_later rr_o1 (by intro j hj  hl; first | rfl | simp only [go_sem, hl, rm_sym rm_o1_o5 j hj, rr_ne hj rn_o1_o7, rr_ne hj rn_o1_o7x, rr_ne hj rn_o1_o7xx, rm_sym rm_o1_o7xxx j hj, vidb_own ow_o7xxx (rm_sym rm_o1_o7xxx j hj), rm_sym rm_o1_o7xxxx j hj, vidb_own ow_o7xxxx (rm_sym rm_o1_o7xxxx j hj), Bool.or_eq_false_iff, beq_eq_false_iff_ne, ne_eq, not_false_eq_true, and_self, lt_o7, lt_o7x, lt_o7xx]) (by first | omega | exact Nat.le_refl _ | (simp only [go_sem, nxs] <;> omega))) (by simp only [go_sem, Bool.or_eq_false_iff, beq_eq_false_iff_ne, ne_eq, not_false_eq_true, and_self, own_late ow_o5, lt_o7, lt_o7x, lt_o7xx, own_late ow_o7xxx, own_late ow_o7xxxx, List.length_append, List.map_append]) (by simp only [go_sem]) (by first | assumption | exact rr_late rr_o1 (by first | assumption | omega | (simp only [nxs] <;> omega))) (by intro j hj; first | exact fr j hj | (refine Eq.trans ?_ (fr j hj); first | rfl | simp only [go_sem, Nat.lt_of_lt_of_le hj fx, ge_nid ge_o5 hj, ge_ne ge_o7 hj, ge_ne ge_o7x hj, ge_ne ge_o7xx hj, ge_nid ge_o7xxx hj, vidb_own ow_o7xxx (ge_nid ge_o7xxx hj), frzH_own ow_o7xxx (ge_nid ge_o7xxx hj), ge_nid ge_o7xxxx hj, vidb_own ow_o7xxxx (ge_nid ge_o7xxxx hj), frzH_own ow_o7xxxx (ge_nid ge_o7xxxx hj), Bool.or_eq_false_iff, beq_eq_false_iff_ne, ne_eq, not_false_eq_true, and_self])) (by first | exact fx | omega | (simp only [go_sem, nxs] <;> omega)) (by first | assumption | omega | (simp only [nxs] <;> omega)) hm1
        simp only [cw_block]
        obtain ⟨b14, hl14, hm1⟩ := bind_get hm1
        refine cw_loopM hl14 (fun | (b_7_1, b_7_2, x_122), t, h => ∃ v1_2 : AV, ∃ i7_3 : Nat, ∃ v7_1 : AV, ∃ v7_2 : AV, t 1 = v1_2 ∧ t 2 = .fp [.fs 5 (List.map eComb h_.Combs), .fs 3 (List.map eTrain h_.Trains), .fs 3 (List.map eShift h_.Shifts), I h_.Until] 0 ∧ t 5 = v5_1 ∧ t 6 = I x_19 ∧ t 7 = .rp i7 0 0 ∧ t 18 = I (List.length h_.Combs : Int) ∧ t 19 = I x_19 ∧ t 121 = I h_.Until ∧ t 122 = I x_122 ∧ RR h v1_2 hs_1 1 eI open_ ∧ OwnS h v5_1 1 (List.map eP_halls_bound all_5) ∧ h.ob i7 = some (4, [[.rs i7_1 0 (List.length b_7_0), .rs i7_3 0 (List.length b_7_1), v7_1, v7_2]]) ∧ i7 < h.nx ∧ h.ob i7_1 = some (1, List.map eI b_7_0) ∧ i7_1 < h.nx ∧ h.ob i7_3 = some (1, List.map eI b_7_1) ∧ i7_3 < h.nx ∧ OwnS h v7_1 1 (List.map eI b_7_2) ∧ OwnS h v7_2 1 (List.map eL_I b_7_3) ∧ (∀ j, ¬NotId v5_1 j → RNot v1_2 hs_1 j) ∧ RNot v1_2 hs_1 i7 ∧ RNot v1_2 hs_1 i7_1 ∧ RNot v1_2 hs_1 i7_3 ∧ (∀ j, ¬NotId v7_1 j → RNot v1_2 hs_1 j) ∧ (∀ j, ¬NotId v7_2 j → RNot v1_2 hs_1 j) ∧ NotId v5_1 i7 ∧ NotId v5_1 i7_1 ∧ NotId v5_1 i7_3 ∧ (∀ j, ¬NotId v5_1 j → NotId v7_1 j) ∧ (∀ j, ¬NotId v5_1 j → NotId v7_2 j) ∧ ¬i7 = i7_1 ∧ ¬i7 = i7_3 ∧ NotId v7_1 i7 ∧ NotId v7_2 i7 ∧ ¬i7_1 = i7_3 ∧ NotId v7_1 i7_1 ∧ NotId v7_2 i7_1 ∧ NotId v7_1 i7_3 ∧ NotId v7_2 i7_3 ∧ (∀ j, ¬NotId v7_1 j → NotId v7_2 j) ∧ (∀ j, j < h0.nx → h.ob j = h0.ob j) ∧ h0.nx ≤ h.nx ∧ (∀ j, ¬NotId v5_1 j → h0.nx ≤ j) ∧ h0.nx ≤ i7 ∧ h0.nx ≤ i7_1 ∧ h0.nx ≤ i7_3 ∧ (∀ j, ¬NotId v7_1 j → h0.nx ≤ j) ∧ (∀ j, ¬NotId v7_2 j → h0.nx ≤ j)) ?_ ?_
        · exact ⟨v1_1, i7_2, (.v (.slice none 0 0)), v7, s1, s2, s5, s6, s7, s18, s19, (by first | (simp only [go_sem, List.length_append, List.map_append]; done) | rfl), (by first | (simp only [go_sem, List.length_append, List.map_append]; done) | rfl), rr_o1, ow_o5, ob_o7, lt_o7, ob_o7x, lt_o7x, ob_o7xx, lt_o7xx, own_nil', ow_o7xxx, rm_o1_o5, rn_o1_o7, rn_o1_o7x, rn_o1_o7xx, dr_nil, rm_o1_o7xxx, ni_o5_o7, ni_o5_o7x, ni_o5_o7xx, (by first | exact dis_nil_l | exact dis_nil_r | assumption | (refine dis_rs_l ?_; first | assumption | exact own_notid (by assumption) (by first | assumption | omega | (simp only [nxs] <;> omega))) | (refine nd_rs ?_; first | assumption | exact own_notid (by assumption) (by first | assumption | omega | (simp only [nxs] <;> omega)))), di_o5_o7xxx, ne_o7_o7x, ne_o7_o7xx, (by first | exact notid_nil | exact notid_rs (by first | assumption | omega | (simp only [nxs] <;> omega)) | assumption | exact own_notid (by assumption) (by first | assumption | omega | (simp only [nxs] <;> omega))), ni_o7_o7xxx, ne_o7x_o7xx, (by first | exact notid_nil | exact notid_rs (by first | assumption | omega | (simp only [nxs] <;> omega)) | assumption | exact own_notid (by assumption) (by first | assumption | omega | (simp only [nxs] <;> omega))), ni_o7x_o7xxx, (by first | exact notid_nil | exact notid_rs (by first | assumption | omega | (simp only [nxs] <;> omega)) | assumption | exact own_notid (by assumption) (by first | assumption | omega | (simp only [nxs] <;> omega))), ni_o7xx_o7xxx, (by first | exact dis_nil_l | exact dis_nil_r | assumption | (refine dis_rs_l ?_; first | assumption | exact own_notid (by assumption) (by first | assumption | omega | (simp only [nxs] <;> omega))) | (refine nd_rs ?_; first | assumption | exact own_notid (by assumption) (by first | assumption | omega | (simp only [nxs] <;> omega)))), fr, fx, ge_o5, ge_o7, ge_o7x, ge_o7xx, dr_nil, ge_o7xxx⟩
        · try clear s1 s2 s5 s6 s7 s18 s19 rr_o1 ow_o5 ob_o7 lt_o7 ob_o7x lt_o7x ob_o7xx lt_o7xx ow_o7xxx rm_o1_o5 rn_o1_o7 rn_o1_o7x rn_o1_o7xx rm_o1_o7xxx ni_o5_o7 ni_o5_o7x ni_o5_o7xx di_o5_o7xxx ne_o7_o7x ne_o7_o7xx ni_o7_o7xxx ne_o7x_o7xx ni_o7x_o7xxx ni_o7xx_o7xxx fr fx ge_o5 ge_o7 ge_o7x ge_o7xx ge_o7xxx
          rintro ⟨b_7_1, b_7_2, x_122⟩ o t h ⟨v1_2, i7_3, v7_1, v7_2, s1, s2, s5, s6, s7, s18, s19, s121, s122, rr_o1, ow_o5, ob_o7, lt_o7, ob_o7x, lt_o7x, ob_o7xx, lt_o7xx, ow_o7xxx, ow_o7xxxx, rm_o1_o5, rn_o1_o7, rn_o1_o7x, rn_o1_o7xx, rm_o1_o7xxx, rm_o1_o7xxxx, ni_o5_o7, ni_o5_o7x, ni_o5_o7xx, di_o5_o7xxx, di_o5_o7xxxx, ne_o7_o7x, ne_o7_o7xx, ni_o7_o7xxx, ni_o7_o7xxxx, ne_o7x_o7xx, ni_o7x_o7xxx, ni_o7x_o7xxxx, ni_o7xx_o7xxx, ni_o7xx_o7xxxx, di_o7xxx_o7xxxx, fr, fx, ge_o5, ge_o7, ge_o7x, ge_o7xx, ge_o7xxx, ge_o7xxxx⟩ hm2 hb14
          simp only [halls_bounds_L39] at hm2
          rw [x_halls_bounds_L39]
          refine cw_reg_seq fun K hK => ?_
          simp only [go_sem, s121, s122, lt_o7, lt_o7x, lt_o7xx, istr_of v1, istr_of v5, istr_of v1_1, istr_of v5_1, istr_of v7, istr_of v1_2, istr_of v7_1, istr_of v7_2]
          refine hK _ _ ?_
          clear hK K
          refine cw_seq_k fun K15 hK15 => ?_
          simp only [go_sem]
          refine ibr_intro (fun hc16 => ?_) (fun hc16 => ?_)
          · rw [if_t hc16] at hm2
            simp only [cw_skip, qblock_normal, qseq_normal]
            refine hK15 _ _ ?_
            refine cw_seq_k fun K17 hK17 => ?_
            have J18 : ∀ (b_7_1_1 : List Int) (b_7_2_1 : List Int) (v1_3 : AV) (i7_4 : Nat) (i7_5 : Nat) (v7_3 : AV) (t : Slots) (h : Heap), t 1 = v1_3 → t 2 = .fp [.fs 5 (List.map eComb h_.Combs), .fs 3 (List.map eTrain h_.Trains), .fs 3 (List.map eShift h_.Shifts), I h_.Until] 0 → t 5 = v5_1 → t 6 = I x_19 → t 7 = .rp i7 0 0 → t 18 = I (List.length h_.Combs : Int) → t 19 = I x_19 → t 121 = I h_.Until → t 122 = I x_122 → RR h v1_3 hs_1 1 eI open_ → OwnS h v5_1 1 (List.map eP_halls_bound all_5) → h.ob i7 = some (4, [[.rs i7_1 0 (List.length b_7_0), .rs i7_4 0 (List.length b_7_1_1), .rs i7_5 0 (List.length b_7_2_1), v7_3]]) → i7 < h.nx → h.ob i7_1 = some (1, List.map eI b_7_0) → i7_1 < h.nx → h.ob i7_4 = some (1, List.map eI b_7_1_1) → i7_4 < h.nx → h.ob i7_5 = some (1, List.map eI b_7_2_1) → i7_5 < h.nx → OwnS h v7_3 1 (List.map eL_I b_7_3) → (∀ j, ¬NotId v5_1 j → RNot v1_3 hs_1 j) → RNot v1_3 hs_1 i7 → RNot v1_3 hs_1 i7_1 → RNot v1_3 hs_1 i7_4 → RNot v1_3 hs_1 i7_5 → (∀ j, ¬NotId v7_3 j → RNot v1_3 hs_1 j) → NotId v5_1 i7 → NotId v5_1 i7_1 → NotId v5_1 i7_4 → NotId v5_1 i7_5 → (∀ j, ¬NotId v5_1 j → NotId v7_3 j) → ¬i7 = i7_1 → ¬i7 = i7_4 → ¬i7 = i7_5 → NotId v7_3 i7 → ¬i7_1 = i7_4 → ¬i7_1 = i7_5 → NotId v7_3 i7_1 → ¬i7_4 = i7_5 → NotId v7_3 i7_4 → NotId v7_3 i7_5 → (∀ j, j < h0.nx → h.ob j = h0.ob j) → h0.nx ≤ h.nx → (∀ j, ¬NotId v5_1 j → h0.nx ≤ j) → h0.nx ≤ i7 → h0.nx ≤ i7_1 → h0.nx ≤ i7_4 → h0.nx ≤ i7_5 → (∀ j, ¬NotId v7_3 j → h0.nx ≤ j) → halls_bounds_j18 x_122 b_7_1_1 b_7_2_1 = some o → K17 t h := by
              try clear s1 s2 s5 s6 s7 s18 s19 s121 s122 rr_o1 ow_o5 ob_o7 lt_o7 ob_o7x lt_o7x ob_o7xx lt_o7xx ow_o7xxx ow_o7xxxx rm_o1_o5 rn_o1_o7 rn_o1_o7x rn_o1_o7xx rm_o1_o7xxx rm_o1_o7xxxx ni_o5_o7 ni_o5_o7x ni_o5_o7xx di_o5_o7xxx di_o5_o7xxxx ne_o7_o7x ne_o7_o7xx ni_o7_o7xxx ni_o7_o7xxxx ne_o7x_o7xx ni_o7x_o7xxx ni_o7x_o7xxxx ni_o7xx_o7xxx ni_o7xx_o7xxxx di_o7xxx_o7xxxx fr fx ge_o5 ge_o7 ge_o7x ge_o7xx ge_o7xxx ge_o7xxxx
              intro b_7_1_1 b_7_2_1 v1_3 i7_4 i7_5 v7_3 t h s1 s2 s5 s6 s7 s18 s19 s121 s122 rr_o1 ow_o5 ob_o7 lt_o7 ob_o7x lt_o7x ob_o7xx lt_o7xx ob_o7xxx lt_o7xxx ow_o7xxxx rm_o1_o5 rn_o1_o7 rn_o1_o7x rn_o1_o7xx rn_o1_o7xxx rm_o1_o7xxxx ni_o5_o7 ni_o5_o7x ni_o5_o7xx ni_o5_o7xxx di_o5_o7xxxx ne_o7_o7x ne_o7_o7xx ne_o7_o7xxx ni_o7_o7xxxx ne_o7x_o7xx ne_o7x_o7xxx ni_o7x_o7xxxx ne_o7xx_o7xxx ni_o7xx_o7xxxx ni_o7xxx_o7xxxx fr fx ge_o5 ge_o7 ge_o7x ge_o7xx ge_o7xxx ge_o7xxxx hm2
              refine hK17 _ _ ?_
              unfold halls_bounds_j18 at hm2
              refine cw_reg_k fun K hK => ?_
              simp only [go_sem, s122, lt_o7, lt_o7x, lt_o7xx, lt_o7xxx, istr_of v1, istr_of v5, istr_of v1_1, istr_of v5_1, istr_of v7, istr_of v1_2, istr_of v7_1, istr_of v7_2, istr_of v1_3, istr_of v7_3]
              refine hK _ _ ?_
              clear hK K
              simp only [qblock_normal, qseq_normal]
              obtain rfl := Option.some.inj hm2
              refine ⟨_, rfl, ?_⟩
              exact ⟨v1_3, i7_4, (.rs i7_5 0 (List.length b_7_2_1)), v7_3, s1, s2, s5, s6, s7, s18, s19, s121, (by first | (simp only [go_sem, s122, List.length_append, List.map_append]; done) | rfl), rr_o1, ow_o5, ob_o7, lt_o7, ob_o7x, lt_o7x, ob_o7xx, lt_o7xx, (own_rs (by simp only [go_sem, ob_o7xxx, lt_o7xxx, List.length_append, List.map_append]) (by first | rfl | simp only [go_sem, List.length_append, List.map_append]) (by simp only [go_sem, lt_o7xxx])), ow_o7xxxx, rm_o1_o5, rn_o1_o7, rn_o1_o7x, rn_o1_o7xx, (dr_rs rn_o1_o7xxx), rm_o1_o7xxxx, ni_o5_o7, ni_o5_o7x, ni_o5_o7xx, (by first | exact dis_nil_l | exact dis_nil_r | assumption | (refine dis_rs_l ?_; first | assumption | exact own_notid (by assumption) (by first | assumption | omega | (simp only [nxs] <;> omega))) | (refine nd_rs ?_; first | assumption | exact own_notid (by assumption) (by first | assumption | omega | (simp only [nxs] <;> omega)))), di_o5_o7xxxx, ne_o7_o7x, ne_o7_o7xx, (by first | exact notid_nil | exact notid_rs (by first | assumption | omega | (simp only [nxs] <;> omega)) | assumption | exact own_notid (by assumption) (by first | assumption | omega | (simp only [nxs] <;> omega))), ni_o7_o7xxxx, ne_o7x_o7xx, (by first | exact notid_nil | exact notid_rs (by first | assumption | omega | (simp only [nxs] <;> omega)) | assumption | exact own_notid (by assumption) (by first | assumption | omega | (simp only [nxs] <;> omega))), ni_o7x_o7xxxx, (by first | exact notid_nil | exact notid_rs (by first | assumption | omega | (simp only [nxs] <;> omega)) | assumption | exact own_notid (by assumption) (by first | assumption | omega | (simp only [nxs] <;> omega))), ni_o7xx_o7xxxx, (by first | exact dis_nil_l | exact dis_nil_r | assumption | (refine dis_rs_l ?_; first | assumption | exact own_notid (by assumption) (by first | assumption | omega | (simp only [nxs] <;> omega))) | (refine nd_rs ?_; first | assumption | exact own_notid (by assumption) (by first | assumption | omega | (simp only [nxs] <;> omega)))), fr, fx, ge_o5, ge_o7, ge_o7x, ge_o7xx, (ge_rs ge_o7xxx), ge_o7xxxx⟩
            simp only [cw_block]
            refine cw_reg_seq fun K hK => ?_
            simp only [go_sem, s122, lt_o7, lt_o7x, lt_o7xx, istr_of v1, istr_of v5, istr_of v1_1, istr_of v5_1, istr_of v7, istr_of v1_2, istr_of v7_1, istr_of v7_2]
            refine hK _ _ ?_
            clear hK K
            refine cw_reg_seq fun K hK => ?_
            simp only [go_sem, lt_o7, lt_o7x, lt_o7xx, istr_of v1, istr_of v5, istr_of v1_1, istr_of v5_1, istr_of v7, istr_of v1_2, istr_of v7_1, istr_of v7_2]
            refine hK _ _ ?_
            clear hK K
            refine cw_assoc ?_
            refine cw_reg_seq fun K hK => ?_
            simp only [go_sem, lt_o7, lt_o7x, lt_o7xx, istr_of v1, istr_of v5, istr_of v1_1, istr_of v5_1, istr_of v7, istr_of v1_2, istr_of v7_1, istr_of v7_2]
            refine hK _ _ ?_
            clear hK K
            refine cw_seq_k fun K19 hK19 => ?_
            have J20 : ∀ (most_14 : Int) (v7_3 : AV) (t : Slots) (h : Heap), t 1 = v1_2 → t 2 = .fp [.fs 5 (List.map eComb h_.Combs), .fs 3 (List.map eTrain h_.Trains), .fs 3 (List.map eShift h_.Shifts), I h_.Until] 0 → t 5 = v5_1 → t 6 = I x_19 → t 7 = .rp i7 0 0 → t 13 = I x_122 → t 14 = I most_14 → t 18 = I (List.length h_.Combs : Int) → t 19 = I x_19 → t 121 = I h_.Until → t 122 = I x_122 → RR h v1_2 hs_1 1 eI open_ → OwnS h v5_1 1 (List.map eP_halls_bound all_5) → h.ob i7 = some (4, [[.rs i7_1 0 (List.length b_7_0), .rs i7_3 0 (List.length b_7_1), v7_1, v7_3]]) → i7 < h.nx → h.ob i7_1 = some (1, List.map eI b_7_0) → i7_1 < h.nx → h.ob i7_3 = some (1, List.map eI b_7_1) → i7_3 < h.nx → OwnS h v7_1 1 (List.map eI b_7_2) → OwnS h v7_3 1 (List.map eL_I b_7_3) → (∀ j, ¬NotId v5_1 j → RNot v1_2 hs_1 j) → RNot v1_2 hs_1 i7 → RNot v1_2 hs_1 i7_1 → RNot v1_2 hs_1 i7_3 → (∀ j, ¬NotId v7_1 j → RNot v1_2 hs_1 j) → (∀ j, ¬NotId v7_3 j → RNot v1_2 hs_1 j) → NotId v5_1 i7 → NotId v5_1 i7_1 → NotId v5_1 i7_3 → (∀ j, ¬NotId v5_1 j → NotId v7_1 j) → (∀ j, ¬NotId v5_1 j → NotId v7_3 j) → ¬i7 = i7_1 → ¬i7 = i7_3 → NotId v7_1 i7 → NotId v7_3 i7 → ¬i7_1 = i7_3 → NotId v7_1 i7_1 → NotId v7_3 i7_1 → NotId v7_1 i7_3 → NotId v7_3 i7_3 → (∀ j, ¬NotId v7_1 j → NotId v7_3 j) → (∀ j, j < h0.nx → h.ob j = h0.ob j) → h0.nx ≤ h.nx → (∀ j, ¬NotId v5_1 j → h0.nx ≤ j) → h0.nx ≤ i7 → h0.nx ≤ i7_1 → h0.nx ≤ i7_3 → (∀ j, ¬NotId v7_1 j → h0.nx ≤ j) → (∀ j, ¬NotId v7_3 j → h0.nx ≤ j) → halls_bounds_j20 open_ x_19 b_7_1 b_7_2 x_122 most_14 = some o → K19 t h := by
              try clear s1 s2 s5 s6 s7 s18 s19 s121 s122 rr_o1 ow_o5 ob_o7 lt_o7 ob_o7x lt_o7x ob_o7xx lt_o7xx ow_o7xxx ow_o7xxxx rm_o1_o5 rn_o1_o7 rn_o1_o7x rn_o1_o7xx rm_o1_o7xxx rm_o1_o7xxxx ni_o5_o7 ni_o5_o7x ni_o5_o7xx di_o5_o7xxx di_o5_o7xxxx ne_o7_o7x ne_o7_o7xx ni_o7_o7xxx ni_o7_o7xxxx ne_o7x_o7xx ni_o7x_o7xxx ni_o7x_o7xxxx ni_o7xx_o7xxx ni_o7xx_o7xxxx di_o7xxx_o7xxxx fr fx ge_o5 ge_o7 ge_o7x ge_o7xx ge_o7xxx ge_o7xxxx
              intro most_14 v7_3 t h s1 s2 s5 s6 s7 s13 s14 s18 s19 s121 s122 rr_o1 ow_o5 ob_o7 lt_o7 ob_o7x lt_o7x ob_o7xx lt_o7xx ow_o7xxx ow_o7xxxx rm_o1_o5 rn_o1_o7 rn_o1_o7x rn_o1_o7xx rm_o1_o7xxx rm_o1_o7xxxx ni_o5_o7 ni_o5_o7x ni_o5_o7xx di_o5_o7xxx di_o5_o7xxxx ne_o7_o7x ne_o7_o7xx ni_o7_o7xxx ni_o7_o7xxxx ne_o7x_o7xx ni_o7x_o7xxx ni_o7x_o7xxxx ni_o7xx_o7xxx ni_o7xx_o7xxxx di_o7xxx_o7xxxx fr fx ge_o5 ge_o7 ge_o7x ge_o7xx ge_o7xxx ge_o7xxxx hm2
              refine hK19 _ _ ?_
              unfold halls_bounds_j20 at hm2
              obtain ⟨l22, h_l22, hm2⟩ := bind_get hm2
              refine cw_reg_seq fun K hK => ?_
              simp only [go_sem, s7, s14, ob_o7, lt_o7, ob_o7x, lt_o7x, ob_o7xx, lt_o7xx, ni_o5_o7, ni_o5_o7x, ni_o5_o7xx, ne_o7_o7x, nsym ne_o7_o7x, ne_o7_o7xx, nsym ne_o7_o7xx, ni_o7_o7xxx, ni_o7_o7xxxx, ne_o7x_o7xx, nsym ne_o7x_o7xx, ni_o7x_o7xxx, ni_o7x_o7xxxx, ni_o7xx_o7xxx, ni_o7xx_o7xxxx, istr_of v1, istr_of v5, istr_of v1_1, istr_of v5_1, istr_of v7, istr_of v1_2, istr_of v7_1, istr_of v7_2, istr_of v7_3]
              refine iapp_own (f := eI) (l := b_7_2) (m := ([most_14])) ?_ ?_ ?_ ?_ h_l22 ?_
              · exact (own_later ow_o7xxx (by intro j hj hl; first | rfl | simp only [go_sem, hl, rn_top (rm_o1_o7xxx j hj), di_sym di_o5_o7xxx j hj, own_ne hj ni_o7_o7xxx, own_ne hj ni_o7x_o7xxx, own_ne hj ni_o7xx_o7xxx, di_o7xxx_o7xxxx j hj]) (by first | omega | exact Nat.le_refl _ | (simp only [go_sem, nxs] <;> omega)))
              · exact (ownx_rs (by simp only [go_sem, rr_lates rr_o1, own_late ow_o5, ob_o7, lt_o7, ob_o7x, lt_o7x, ob_o7xx, lt_o7xx, own_late ow_o7xxx, own_late ow_o7xxxx, rn_top rn_o1_o7, rn_top rn_o1_o7x, rn_top rn_o1_o7xx, ni_o5_o7, ni_o5_o7x, ni_o5_o7xx, ne_o7_o7x, nsym ne_o7_o7x, ne_o7_o7xx, nsym ne_o7_o7xx, ni_o7_o7xxx, ni_o7_o7xxxx, ne_o7x_o7xx, nsym ne_o7x_o7xx, ni_o7x_o7xxx, ni_o7x_o7xxxx, ni_o7xx_o7xxx, ni_o7xx_o7xxxx, List.length_append, List.map_append]) (by simp only [go_sem, rr_lates rr_o1, own_late ow_o5, ob_o7, lt_o7, ob_o7x, lt_o7x, ob_o7xx, lt_o7xx, own_late ow_o7xxx, own_late ow_o7xxxx, rn_top rn_o1_o7, rn_top rn_o1_o7x, rn_top rn_o1_o7xx, ni_o5_o7, ni_o5_o7x, ni_o5_o7xx, ne_o7_o7x, nsym ne_o7_o7x, ne_o7_o7xx, nsym ne_o7_o7xx, ni_o7_o7xxx, ni_o7_o7xxxx, ne_o7x_o7xx, nsym ne_o7x_o7xx, ni_o7x_o7xxx, ni_o7x_o7xxxx, ni_o7xx_o7xxx, ni_o7xx_o7xxxx, List.length_append, List.map_append]))
              · exact (nd_rs (by first | exact notid_nil | exact notid_rs (by first | omega | (simp only [nxs] <;> omega)) | assumption | exact own_notid (by assumption) (by first | omega | (simp only [go_sem, nxs] <;> omega))))
              · exact (fun _ => by simp)
              simp only [go_sem, s7, s14, ob_o7, lt_o7, ob_o7x, lt_o7x, ob_o7xx, lt_o7xx, ni_o5_o7, ni_o5_o7x, ni_o5_o7xx, ne_o7_o7x, nsym ne_o7_o7x, ne_o7_o7xx, nsym ne_o7_o7xx, ni_o7_o7xxx, ni_o7_o7xxxx, ne_o7x_o7xx, nsym ne_o7x_o7xx, ni_o7x_o7xxx, ni_o7x_o7xxxx, ni_o7xx_o7xxx, ni_o7xx_o7xxxx, istr_of v1, istr_of v5, istr_of v1_1, istr_of v5_1, istr_of v7, istr_of v1_2, istr_of v7_1, istr_of v7_2, istr_of v7_3]
              refine hK _ _ ?_
              clear hK K
              obtain ⟨x27, h_x27, hm2⟩ := bind_get hm2
              have h_x270 := get_nn h_x27
              have h_x271 := get_lt h_x27
              obtain ⟨x28, h_x28, hm2⟩ := bind_get hm2
              have h_x280 := get_nn h_x28
              have h_x281 := get_lt h_x28
              obtain ⟨iqp946, rfl, ob_o1, lt_o1⟩ := rr_top rr_o1 h_x28
              obtain ⟨wp947, hw_wp947, os_wp947⟩ := rr_row rr_o1 h_x28
              obtain ⟨x29, h_x29, hm2⟩ := bind_get hm2
              have h_x290 := get_nn h_x29
              have h_x291 := get_lt h_x29
              obtain ⟨irp948, rfl, obr_irp948, ltr_irp948⟩ := own_get os_wp947 h_x29
              obtain ⟨l30, h_l30, hm2⟩ := bind_get hm2
              refine cw_reg_postK1 (fun t h => ∃ v1_3 : AV, ∃ i7_4 : Nat, ∃ i7_5 : Nat, t 1 = v1_3 ∧ t 2 = .fp [.fs 5 (List.map eComb h_.Combs), .fs 3 (List.map eTrain h_.Trains), .fs 3 (List.map eShift h_.Shifts), I h_.Until] 0 ∧ t 5 = v5_1 ∧ t 6 = I x_19 ∧ t 7 = .rp i7 0 0 ∧ t 18 = I (List.length h_.Combs : Int) ∧ t 19 = I x_19 ∧ t 121 = I h_.Until ∧ t 122 = I x_122 ∧ RR h v1_3 hs_1 1 eI open_ ∧ OwnS h v5_1 1 (List.map eP_halls_bound all_5) ∧ h.ob i7 = some (4, [[.rs i7_1 0 (List.length b_7_0), .rs i7_4 0 (List.length l30), .rs i7_5 0 (List.length l22), v7_3]]) ∧ i7 < h.nx ∧ h.ob i7_1 = some (1, List.map eI b_7_0) ∧ i7_1 < h.nx ∧ h.ob i7_4 = some (1, List.map eI l30) ∧ i7_4 < h.nx ∧ h.ob i7_5 = some (1, List.map eI l22) ∧ i7_5 < h.nx ∧ OwnS h v7_3 1 (List.map eL_I b_7_3) ∧ (∀ j, ¬NotId v5_1 j → RNot v1_3 hs_1 j) ∧ RNot v1_3 hs_1 i7 ∧ RNot v1_3 hs_1 i7_1 ∧ RNot v1_3 hs_1 i7_4 ∧ RNot v1_3 hs_1 i7_5 ∧ (∀ j, ¬NotId v7_3 j → RNot v1_3 hs_1 j) ∧ NotId v5_1 i7 ∧ NotId v5_1 i7_1 ∧ NotId v5_1 i7_4 ∧ NotId v5_1 i7_5 ∧ (∀ j, ¬NotId v5_1 j → NotId v7_3 j) ∧ ¬i7 = i7_1 ∧ ¬i7 = i7_4 ∧ ¬i7 = i7_5 ∧ NotId v7_3 i7 ∧ ¬i7_1 = i7_4 ∧ ¬i7_1 = i7_5 ∧ NotId v7_3 i7_1 ∧ ¬i7_4 = i7_5 ∧ NotId v7_3 i7_4 ∧ NotId v7_3 i7_5 ∧ (∀ j, j < h0.nx → h.ob j = h0.ob j) ∧ h0.nx ≤ h.nx ∧ (∀ j, ¬NotId v5_1 j → h0.nx ≤ j) ∧ h0.nx ≤ i7 ∧ h0.nx ≤ i7_1 ∧ h0.nx ≤ i7_4 ∧ h0.nx ≤ i7_5 ∧ (∀ j, ¬NotId v7_3 j → h0.nx ≤ j)) (fun K hK => ?_) ?_
              · simp only [go_sem, s1, rr_len rr_o1, s6, s7, s13, s14, ob_o1, lt_o1, ob_o7, lt_o7, ob_o7x, lt_o7x, ob_o7xx, lt_o7xx, rm_top rm_o1_o5, rm_row rm_o1_o5 hw_wp947, rn_ne0 (rn_o1_o7), nsym (rn_ne0 (rn_o1_o7)), rn_ne (rn_o1_o7) hw_wp947, nsym (rn_ne (rn_o1_o7) hw_wp947), rn_ne0 (rn_o1_o7x), nsym (rn_ne0 (rn_o1_o7x)), rn_ne (rn_o1_o7x) hw_wp947, nsym (rn_ne (rn_o1_o7x) hw_wp947), rn_ne0 (rn_o1_o7xx), nsym (rn_ne0 (rn_o1_o7xx)), rn_ne (rn_o1_o7xx) hw_wp947, nsym (rn_ne (rn_o1_o7xx) hw_wp947), rm_top rm_o1_o7xxx, rm_row rm_o1_o7xxx hw_wp947, rm_top rm_o1_o7xxxx, rm_row rm_o1_o7xxxx hw_wp947, ni_o5_o7, ni_o5_o7x, ni_o5_o7xx, ne_o7_o7x, nsym ne_o7_o7x, ne_o7_o7xx, nsym ne_o7_o7xx, ni_o7_o7xxx, ni_o7_o7xxxx, ne_o7x_o7xx, nsym ne_o7x_o7xx, ni_o7x_o7xxx, ni_o7x_o7xxxx, ni_o7xx_o7xxx, ni_o7xx_o7xxxx, ielem_get h_x27, irow_get h_x27, h_x270, h_x271, ielem_get h_x28, irow_get h_x28, h_x280, h_x281, ielem_get hw_wp947, irow_get hw_wp947, own_len os_wp947, ielem_get h_x29, irow_get h_x29, h_x290, h_x291, obr_irp948, ltr_irp948, istr_of v1, istr_of v5, istr_of v1_1, istr_of v5_1, istr_of v7, istr_of v7_1, istr_of v7_2, istr_of v7_3]
                refine iapp_own (f := eI) (l := b_7_1) (m := ([wr (x27 + (mn most_14 x29))])) ?_ ?_ ?_ ?_ h_l30 ?_
                · exact (own_rs (by simp only [go_sem, rr_lates rr_o1, own_late ow_o5, ob_o7, lt_o7, ob_o7x, lt_o7x, ob_o7xx, lt_o7xx, own_late ow_o7xxx, own_late ow_o7xxxx, rm_top rm_o1_o5, rm_row rm_o1_o5 hw_wp947, rn_top rn_o1_o7, rn_ne0 (rn_o1_o7), nsym (rn_ne0 (rn_o1_o7)), rn_ne (rn_o1_o7) hw_wp947, nsym (rn_ne (rn_o1_o7) hw_wp947), rn_top rn_o1_o7x, rn_ne0 (rn_o1_o7x), nsym (rn_ne0 (rn_o1_o7x)), rn_ne (rn_o1_o7x) hw_wp947, nsym (rn_ne (rn_o1_o7x) hw_wp947), rn_top rn_o1_o7xx, rn_ne0 (rn_o1_o7xx), nsym (rn_ne0 (rn_o1_o7xx)), rn_ne (rn_o1_o7xx) hw_wp947, nsym (rn_ne (rn_o1_o7xx) hw_wp947), rm_top rm_o1_o7xxx, rm_row rm_o1_o7xxx hw_wp947, rm_top rm_o1_o7xxxx, rm_row rm_o1_o7xxxx hw_wp947, ni_o5_o7, ni_o5_o7x, ni_o5_o7xx, ne_o7_o7x, nsym ne_o7_o7x, ne_o7_o7xx, nsym ne_o7_o7xx, ni_o7_o7xxx, ni_o7_o7xxxx, ne_o7x_o7xx, nsym ne_o7x_o7xx, ni_o7x_o7xxx, ni_o7x_o7xxxx, ni_o7xx_o7xxx, ni_o7xx_o7xxxx, ob_o1, lt_o1, rr_top_ne rr_o1 hw_wp947, nsym (rr_top_ne rr_o1 hw_wp947), List.length_append, List.map_append]) (by simp only [go_sem, rr_lates rr_o1, own_late ow_o5, ob_o7, lt_o7, ob_o7x, lt_o7x, ob_o7xx, lt_o7xx, own_late ow_o7xxx, own_late ow_o7xxxx, rm_top rm_o1_o5, rm_row rm_o1_o5 hw_wp947, rn_top rn_o1_o7, rn_ne0 (rn_o1_o7), nsym (rn_ne0 (rn_o1_o7)), rn_ne (rn_o1_o7) hw_wp947, nsym (rn_ne (rn_o1_o7) hw_wp947), rn_top rn_o1_o7x, rn_ne0 (rn_o1_o7x), nsym (rn_ne0 (rn_o1_o7x)), rn_ne (rn_o1_o7x) hw_wp947, nsym (rn_ne (rn_o1_o7x) hw_wp947), rn_top rn_o1_o7xx, rn_ne0 (rn_o1_o7xx), nsym (rn_ne0 (rn_o1_o7xx)), rn_ne (rn_o1_o7xx) hw_wp947, nsym (rn_ne (rn_o1_o7xx) hw_wp947), rm_top rm_o1_o7xxx, rm_row rm_o1_o7xxx hw_wp947, rm_top rm_o1_o7xxxx, rm_row rm_o1_o7xxxx hw_wp947, ni_o5_o7, ni_o5_o7x, ni_o5_o7xx, ne_o7_o7x, nsym ne_o7_o7x, ne_o7_o7xx, nsym ne_o7_o7xx, ni_o7_o7xxx, ni_o7_o7xxxx, ne_o7x_o7xx, nsym ne_o7x_o7xx, ni_o7x_o7xxx, ni_o7x_o7xxxx, ni_o7xx_o7xxx, ni_o7xx_o7xxxx, ob_o1, lt_o1, rr_top_ne rr_o1 hw_wp947, nsym (rr_top_ne rr_o1 hw_wp947), List.length_append, List.map_append]) (by simp only [go_sem, lt_o7, lt_o7x, lt_o7xx, lt_o1]))
                · exact (ownx_rs (by simp only [go_sem, rr_lates rr_o1, own_late ow_o5, ob_o7, lt_o7, ob_o7x, lt_o7x, ob_o7xx, lt_o7xx, own_late ow_o7xxx, own_late ow_o7xxxx, rm_top rm_o1_o5, rm_row rm_o1_o5 hw_wp947, rn_top rn_o1_o7, rn_ne0 (rn_o1_o7), nsym (rn_ne0 (rn_o1_o7)), rn_ne (rn_o1_o7) hw_wp947, nsym (rn_ne (rn_o1_o7) hw_wp947), rn_top rn_o1_o7x, rn_ne0 (rn_o1_o7x), nsym (rn_ne0 (rn_o1_o7x)), rn_ne (rn_o1_o7x) hw_wp947, nsym (rn_ne (rn_o1_o7x) hw_wp947), rn_top rn_o1_o7xx, rn_ne0 (rn_o1_o7xx), nsym (rn_ne0 (rn_o1_o7xx)), rn_ne (rn_o1_o7xx) hw_wp947, nsym (rn_ne (rn_o1_o7xx) hw_wp947), rm_top rm_o1_o7xxx, rm_row rm_o1_o7xxx hw_wp947, rm_top rm_o1_o7xxxx, rm_row rm_o1_o7xxxx hw_wp947, ni_o5_o7, ni_o5_o7x, ni_o5_o7xx, ne_o7_o7x, nsym ne_o7_o7x, ne_o7_o7xx, nsym ne_o7_o7xx, ni_o7_o7xxx, ni_o7_o7xxxx, ne_o7x_o7xx, nsym ne_o7x_o7xx, ni_o7x_o7xxx, ni_o7x_o7xxxx, ni_o7xx_o7xxx, ni_o7xx_o7xxxx, ob_o1, lt_o1, rr_top_ne rr_o1 hw_wp947, nsym (rr_top_ne rr_o1 hw_wp947), List.length_append, List.map_append]) (by simp only [go_sem, rr_lates rr_o1, own_late ow_o5, ob_o7, lt_o7, ob_o7x, lt_o7x, ob_o7xx, lt_o7xx, own_late ow_o7xxx, own_late ow_o7xxxx, rm_top rm_o1_o5, rm_row rm_o1_o5 hw_wp947, rn_top rn_o1_o7, rn_ne0 (rn_o1_o7), nsym (rn_ne0 (rn_o1_o7)), rn_ne (rn_o1_o7) hw_wp947, nsym (rn_ne (rn_o1_o7) hw_wp947), rn_top rn_o1_o7x, rn_ne0 (rn_o1_o7x), nsym (rn_ne0 (rn_o1_o7x)), rn_ne (rn_o1_o7x) hw_wp947, nsym (rn_ne (rn_o1_o7x) hw_wp947), rn_top rn_o1_o7xx, rn_ne0 (rn_o1_o7xx), nsym (rn_ne0 (rn_o1_o7xx)), rn_ne (rn_o1_o7xx) hw_wp947, nsym (rn_ne (rn_o1_o7xx) hw_wp947), rm_top rm_o1_o7xxx, rm_row rm_o1_o7xxx hw_wp947, rm_top rm_o1_o7xxxx, rm_row rm_o1_o7xxxx hw_wp947, ni_o5_o7, ni_o5_o7x, ni_o5_o7xx, ne_o7_o7x, nsym ne_o7_o7x, ne_o7_o7xx, nsym ne_o7_o7xx, ni_o7_o7xxx, ni_o7_o7xxxx, ne_o7x_o7xx, nsym ne_o7x_o7xx, ni_o7x_o7xxx, ni_o7x_o7xxxx, ni_o7xx_o7xxx, ni_o7xx_o7xxxx, ob_o1, lt_o1, rr_top_ne rr_o1 hw_wp947, nsym (rr_top_ne rr_o1 hw_wp947), List.length_append, List.map_append]))
                · exact (nd_rs (by first | exact notid_nil | exact notid_rs (by first | omega | (simp only [nxs] <;> omega)) | assumption | exact own_notid (by assumption) (by first | omega | (simp only [go_sem, nxs] <;> omega))))
                · exact (fun _ => by simp)
                simp only [go_sem, s1, rr_len rr_o1, s6, s7, s13, s14, ob_o1, lt_o1, ob_o7, lt_o7, ob_o7x, lt_o7x, ob_o7xx, lt_o7xx, rm_top rm_o1_o5, rm_row rm_o1_o5 hw_wp947, rn_ne0 (rn_o1_o7), nsym (rn_ne0 (rn_o1_o7)), rn_ne (rn_o1_o7) hw_wp947, nsym (rn_ne (rn_o1_o7) hw_wp947), rn_ne0 (rn_o1_o7x), nsym (rn_ne0 (rn_o1_o7x)), rn_ne (rn_o1_o7x) hw_wp947, nsym (rn_ne (rn_o1_o7x) hw_wp947), rn_ne0 (rn_o1_o7xx), nsym (rn_ne0 (rn_o1_o7xx)), rn_ne (rn_o1_o7xx) hw_wp947, nsym (rn_ne (rn_o1_o7xx) hw_wp947), rm_top rm_o1_o7xxx, rm_row rm_o1_o7xxx hw_wp947, rm_top rm_o1_o7xxxx, rm_row rm_o1_o7xxxx hw_wp947, ni_o5_o7, ni_o5_o7x, ni_o5_o7xx, ne_o7_o7x, nsym ne_o7_o7x, ne_o7_o7xx, nsym ne_o7_o7xx, ni_o7_o7xxx, ni_o7_o7xxxx, ne_o7x_o7xx, nsym ne_o7x_o7xx, ni_o7x_o7xxx, ni_o7x_o7xxxx, ni_o7xx_o7xxx, ni_o7xx_o7xxxx, ielem_get h_x27, irow_get h_x27, h_x270, h_x271, ielem_get h_x28, irow_get h_x28, h_x280, h_x281, ielem_get hw_wp947, irow_get hw_wp947, own_len os_wp947, ielem_get h_x29, irow_get h_x29, h_x290, h_x291, obr_irp948, ltr_irp948, istr_of v1, istr_of v5, istr_of v1_1, istr_of v5_1, istr_of v7, istr_of v7_1, istr_of v7_2, istr_of v7_3]
                exact hK _ _ ⟨(.rs iqp946 0 (List.length open_)), (nxs (nxs (nxs h.nx))), (nxs h.nx), (by first | (simp only [go_sem, s1, List.length_append, List.map_append]; done) | rfl), s2, s5, s6, s7, s18, s19, s121, s122, (rr_later rr_o1 (by intro j hj  hl; first | rfl | simp only [go_sem, hl, rr_ne hj rn_o1_o7, rr_ne hj rn_o1_o7xx, rm_sym rm_o1_o7xxx j hj, lt_o7, lt_o7xx]) (by first | omega | exact Nat.le_refl _ | (simp only [go_sem, nxs] <;> omega))), (own_later ow_o5 (by intro j hj hl; first | rfl | simp only [go_sem, hl, lt_o7, lt_o7xx, own_ne hj ni_o5_o7, own_ne hj ni_o5_o7xx, di_o5_o7xxx j hj]) (by first | omega | exact Nat.le_refl _ | (simp only [go_sem, nxs] <;> omega))), (by simp only [go_sem, ob_o7, lt_o7, lt_o7xx, own_late ow_o7xxx, ne_o7_o7xx, nsym ne_o7_o7xx, ni_o7_o7xxx, List.length_append, List.map_append]), (by simp only [go_sem, lt_o7]), (by simp only [go_sem, lt_o7, ob_o7x, lt_o7x, lt_o7xx, own_late ow_o7xxx, ne_o7_o7x, nsym ne_o7_o7x, ne_o7x_o7xx, nsym ne_o7x_o7xx, ni_o7x_o7xxx, List.length_append, List.map_append]), (by simp only [go_sem, lt_o7x]), (by simp only [go_sem, lt_o7, lt_o7xx, own_late ow_o7xxx, List.length_append, List.map_append]), (by simp only [go_sem]), (by simp only [go_sem, lt_o7, lt_o7xx, own_late ow_o7xxx, List.length_append, List.map_append]), (by simp only [go_sem]), (own_later ow_o7xxxx (by intro j hj hl; first | rfl | simp only [go_sem, hl, lt_o7, lt_o7xx, own_ne hj ni_o7_o7xxxx, own_ne hj ni_o7xx_o7xxxx, di_sym di_o7xxx_o7xxxx j hj]) (by first | omega | exact Nat.le_refl _ | (simp only [go_sem, nxs] <;> omega))), rm_o1_o5, rn_o1_o7, rn_o1_o7x, (by first | assumption | exact rr_late rr_o1 (by first | assumption | omega | (simp only [nxs] <;> omega))), (by first | assumption | exact rr_late rr_o1 (by first | assumption | omega | (simp only [nxs] <;> omega))), rm_o1_o7xxxx, ni_o5_o7, ni_o5_o7x, (by first | exact notid_nil | exact notid_rs (by first | assumption | omega | (simp only [nxs] <;> omega)) | assumption | exact own_notid (by assumption) (by first | assumption | omega | (simp only [nxs] <;> omega))), (by first | exact notid_nil | exact notid_rs (by first | assumption | omega | (simp only [nxs] <;> omega)) | assumption | exact own_notid (by assumption) (by first | assumption | omega | (simp only [nxs] <;> omega))), di_o5_o7xxxx, ne_o7_o7x, (by first | first | assumption | omega | (simp only [nxs] <;> omega)), (by first | first | assumption | omega | (simp only [nxs] <;> omega)), ni_o7_o7xxxx, (by first | first | assumption | omega | (simp only [nxs] <;> omega)), (by first | first | assumption | omega | (simp only [nxs] <;> omega)), ni_o7x_o7xxxx, (by first | first | assumption | omega | (simp only [nxs] <;> omega)), (by first | exact notid_nil | exact notid_rs (by first | assumption | omega | (simp only [nxs] <;> omega)) | assumption | exact own_notid (by assumption) (by first | assumption | omega | (simp only [nxs] <;> omega))), (by first | exact notid_nil | exact notid_rs (by first | assumption | omega | (simp only [nxs] <;> omega)) | assumption | exact own_notid (by assumption) (by first | assumption | omega | (simp only [nxs] <;> omega))), (by intro j hj; first | exact fr j hj | (refine Eq.trans ?_ (fr j hj); first | rfl | simp only [go_sem, Nat.lt_of_lt_of_le hj fx, ge_ne ge_o7 hj, ge_ne ge_o7xx hj, ge_nid ge_o7xxx hj])), (by first | exact fx | omega | (simp only [go_sem, nxs] <;> omega)), ge_o5, ge_o7, ge_o7x, (by first | assumption | omega | (simp only [nxs] <;> omega)), (by first | assumption | omega | (simp only [nxs] <;> omega)), ge_o7xxxx⟩
              · try clear s1 s2 s5 s6 s7 s13 s14 s18 s19 s121 s122 rr_o1 ow_o5 ob_o7 lt_o7 ob_o7x lt_o7x ob_o7xx lt_o7xx ow_o7xxx ow_o7xxxx rm_o1_o5 rn_o1_o7 rn_o1_o7x rn_o1_o7xx rm_o1_o7xxx rm_o1_o7xxxx ni_o5_o7 ni_o5_o7x ni_o5_o7xx di_o5_o7xxx di_o5_o7xxxx ne_o7_o7x ne_o7_o7xx ni_o7_o7xxx ni_o7_o7xxxx ne_o7x_o7xx ni_o7x_o7xxx ni_o7x_o7xxxx ni_o7xx_o7xxx ni_o7xx_o7xxxx di_o7xxx_o7xxxx fr fx ge_o5 ge_o7 ge_o7x ge_o7xx ge_o7xxx ge_o7xxxx ob_o1 lt_o1
                rintro t h ⟨v1_3, i7_4, i7_5, s1, s2, s5, s6, s7, s18, s19, s121, s122, rr_o1, ow_o5, ob_o7, lt_o7, ob_o7x, lt_o7x, ob_o7xx, lt_o7xx, ob_o7xxx, lt_o7xxx, ow_o7xxxx, rm_o1_o5, rn_o1_o7, rn_o1_o7x, rn_o1_o7xx, rn_o1_o7xxx, rm_o1_o7xxxx, ni_o5_o7, ni_o5_o7x, ni_o5_o7xx, ni_o5_o7xxx, di_o5_o7xxxx, ne_o7_o7x, ne_o7_o7xx, ne_o7_o7xxx, ni_o7_o7xxxx, ne_o7x_o7xx, ne_o7x_o7xxx, ni_o7x_o7xxxx, ne_o7xx_o7xxx, ni_o7xx_o7xxxx, ni_o7xxx_o7xxxx, fr, fx, ge_o5, ge_o7, ge_o7x, ge_o7xx, ge_o7xxx, ge_o7xxxx⟩
                simp only [qblock_normal, qseq_normal]
                exact J18 l30 l22 v1_3 i7_4 i7_5 v7_3 _ _ s1 s2 s5 s6 s7 s18 s19 s121 s122 rr_o1 ow_o5 ob_o7 lt_o7 ob_o7x lt_o7x ob_o7xx lt_o7xx ob_o7xxx lt_o7xxx ow_o7xxxx rm_o1_o5 rn_o1_o7 rn_o1_o7x rn_o1_o7xx rn_o1_o7xxx rm_o1_o7xxxx ni_o5_o7 ni_o5_o7x ni_o5_o7xx ni_o5_o7xxx di_o5_o7xxxx ne_o7_o7x ne_o7_o7xx ne_o7_o7xxx ni_o7_o7xxxx ne_o7x_o7xx ne_o7x_o7xxx ni_o7x_o7xxxx ne_o7xx_o7xxx ni_o7xx_o7xxxx ni_o7xxx_o7xxxx fr fx ge_o5 ge_o7 ge_o7x ge_o7xx ge_o7xxx ge_o7xxxx hm2
            simp only [cw_block]
            obtain ⟨b31, hl31, hm2⟩ := bind_get hm2
            refine cw_loopM hl31 (fun | (most_14, x_127), t, h => ∃ v7_3 : AV, t 1 = v1_2 ∧ t 2 = .fp [.fs 5 (List.map eComb h_.Combs), .fs 3 (List.map eTrain h_.Trains), .fs 3 (List.map eShift h_.Shifts), I h_.Until] 0 ∧ t 5 = v5_1 ∧ t 6 = I x_19 ∧ t 7 = .rp i7 0 0 ∧ t 13 = I x_122 ∧ t 14 = I most_14 ∧ t 18 = I (List.length h_.Combs : Int) ∧ t 19 = I x_19 ∧ t 121 = I h_.Until ∧ t 122 = I x_122 ∧ t 126 = I (wr (x_122 + 1)) ∧ t 127 = I x_127 ∧ RR h v1_2 hs_1 1 eI open_ ∧ OwnS h v5_1 1 (List.map eP_halls_bound all_5) ∧ h.ob i7 = some (4, [[.rs i7_1 0 (List.length b_7_0), .rs i7_3 0 (List.length b_7_1), v7_1, v7_3]]) ∧ i7 < h.nx ∧ h.ob i7_1 = some (1, List.map eI b_7_0) ∧ i7_1 < h.nx ∧ h.ob i7_3 = some (1, List.map eI b_7_1) ∧ i7_3 < h.nx ∧ OwnS h v7_1 1 (List.map eI b_7_2) ∧ OwnS h v7_3 1 (List.map eL_I b_7_3) ∧ (∀ j, ¬NotId v5_1 j → RNot v1_2 hs_1 j) ∧ RNot v1_2 hs_1 i7 ∧ RNot v1_2 hs_1 i7_1 ∧ RNot v1_2 hs_1 i7_3 ∧ (∀ j, ¬NotId v7_1 j → RNot v1_2 hs_1 j) ∧ (∀ j, ¬NotId v7_3 j → RNot v1_2 hs_1 j) ∧ NotId v5_1 i7 ∧ NotId v5_1 i7_1 ∧ NotId v5_1 i7_3 ∧ (∀ j, ¬NotId v5_1 j → NotId v7_1 j) ∧ (∀ j, ¬NotId v5_1 j → NotId v7_3 j) ∧ ¬i7 = i7_1 ∧ ¬i7 = i7_3 ∧ NotId v7_1 i7 ∧ NotId v7_3 i7 ∧ ¬i7_1 = i7_3 ∧ NotId v7_1 i7_1 ∧ NotId v7_3 i7_1 ∧ NotId v7_1 i7_3 ∧ NotId v7_3 i7_3 ∧ (∀ j, ¬NotId v7_1 j → NotId v7_3 j) ∧ (∀ j, j < h0.nx → h.ob j = h0.ob j) ∧ h0.nx ≤ h.nx ∧ (∀ j, ¬NotId v5_1 j → h0.nx ≤ j) ∧ h0.nx ≤ i7 ∧ h0.nx ≤ i7_1 ∧ h0.nx ≤ i7_3 ∧ (∀ j, ¬NotId v7_1 j → h0.nx ≤ j) ∧ (∀ j, ¬NotId v7_3 j → h0.nx ≤ j)) ?_ ?_
            · exact ⟨v7_2, s1, s2, s5, s6, s7, (by first | (simp only [go_sem, List.length_append, List.map_append]; done) | rfl), (by first | (simp only [go_sem, List.length_append, List.map_append]; done) | rfl), s18, s19, s121, s122, (by first | (simp only [go_sem, List.length_append, List.map_append]; done) | rfl), (by first | (simp only [go_sem, List.length_append, List.map_append]; done) | rfl), rr_o1, ow_o5, ob_o7, lt_o7, ob_o7x, lt_o7x, ob_o7xx, lt_o7xx, ow_o7xxx, ow_o7xxxx, rm_o1_o5, rn_o1_o7, rn_o1_o7x, rn_o1_o7xx, rm_o1_o7xxx, rm_o1_o7xxxx, ni_o5_o7, ni_o5_o7x, ni_o5_o7xx, di_o5_o7xxx, di_o5_o7xxxx, ne_o7_o7x, ne_o7_o7xx, ni_o7_o7xxx, ni_o7_o7xxxx, ne_o7x_o7xx, ni_o7x_o7xxx, ni_o7x_o7xxxx, ni_o7xx_o7xxx, ni_o7xx_o7xxxx, di_o7xxx_o7xxxx, fr, fx, ge_o5, ge_o7, ge_o7x, ge_o7xx, ge_o7xxx, ge_o7xxxx⟩
            · try clear s1 s2 s5 s6 s7 s18 s19 s121 s122 rr_o1 ow_o5 ob_o7 lt_o7 ob_o7x lt_o7x ob_o7xx lt_o7xx ow_o7xxx ow_o7xxxx rm_o1_o5 rn_o1_o7 rn_o1_o7x rn_o1_o7xx rm_o1_o7xxx rm_o1_o7xxxx ni_o5_o7 ni_o5_o7x ni_o5_o7xx di_o5_o7xxx di_o5_o7xxxx ne_o7_o7x ne_o7_o7xx ni_o7_o7xxx ni_o7_o7xxxx ne_o7x_o7xx ni_o7x_o7xxx ni_o7x_o7xxxx ni_o7xx_o7xxx ni_o7xx_o7xxxx di_o7xxx_o7xxxx fr fx ge_o5 ge_o7 ge_o7x ge_o7xx ge_o7xxx ge_o7xxxx
              rintro ⟨most_14, x_127⟩ o t h ⟨v7_3, s1, s2, s5, s6, s7, s13, s14, s18, s19, s121, s122, s126, s127, rr_o1, ow_o5, ob_o7, lt_o7, ob_o7x, lt_o7x, ob_o7xx, lt_o7xx, ow_o7xxx, ow_o7xxxx, rm_o1_o5, rn_o1_o7, rn_o1_o7x, rn_o1_o7xx, rm_o1_o7xxx, rm_o1_o7xxxx, ni_o5_o7, ni_o5_o7x, ni_o5_o7xx, di_o5_o7xxx, di_o5_o7xxxx, ne_o7_o7x, ne_o7_o7xx, ni_o7_o7xxx, ni_o7_o7xxxx, ne_o7x_o7xx, ni_o7x_o7xxx, ni_o7x_o7xxxx, ni_o7xx_o7xxx, ni_o7xx_o7xxxx, di_o7xxx_o7xxxx, fr, fx, ge_o5, ge_o7, ge_o7x, ge_o7xx, ge_o7xxx, ge_o7xxxx⟩ hm3 hb31
              simp only [halls_bounds_L35] at hm3
              rw [x_halls_bounds_L35]
              refine cw_reg_seq fun K hK => ?_
              simp only [go_sem, s126, s127, lt_o7, lt_o7x, lt_o7xx, istr_of v1, istr_of v5, istr_of v1_1, istr_of v5_1, istr_of v7, istr_of v1_2, istr_of v7_1, istr_of v7_2, istr_of v7_3]
              refine hK _ _ ?_
              clear hK K
              refine cw_seq_k fun K32 hK32 => ?_
              simp only [go_sem]
              refine ibr_intro (fun hc33 => ?_) (fun hc33 => ?_)
              · rw [if_t hc33] at hm3
                simp only [cw_skip, qblock_normal, qseq_normal]
                refine hK32 _ _ ?_
                refine cw_seq_k fun K34 hK34 => ?_
                simp only [cw_block]
                refine cw_reg_seq fun K hK => ?_
                simp only [go_sem, s127, lt_o7, lt_o7x, lt_o7xx, istr_of v1, istr_of v5, istr_of v1_1, istr_of v5_1, istr_of v7, istr_of v1_2, istr_of v7_1, istr_of v7_2, istr_of v7_3]
                refine hK _ _ ?_
                clear hK K
                obtain ⟨x40, h_x40, hm3⟩ := bind_get hm3
                have h_x400 := get_nn h_x40
                have h_x401 := get_lt h_x40
                obtain ⟨iq41, rfl, ob_o7xxxx, lt_o7xxxx⟩ := own_get ow_o7xxxx h_x40
                obtain ⟨x42, h_x42, hm3⟩ := bind_get hm3
                have h_x420 := get_nn h_x42
                have h_x421 := get_lt h_x42
                obtain ⟨x43, h_x43, hm3⟩ := bind_get hm3
                have h_x430 := get_nn h_x43
                have h_x431 := get_lt h_x43
                obtain ⟨x44, h_x44, hm3⟩ := bind_get hm3
                have h_x440 := get_nn h_x44
                have h_x441 := get_lt h_x44
                refine cw_reg_k fun K hK => ?_
                simp only [go_sem, s7, s13, s14, ob_o7, lt_o7, ob_o7x, lt_o7x, ob_o7xx, lt_o7xx, ob_o7xxxx, lt_o7xxxx, ni_o5_o7, ni_o5_o7x, ni_o5_o7xx, ne_o7_o7x, nsym ne_o7_o7x, ne_o7_o7xx, nsym ne_o7_o7xx, ni_o7_o7xxx, ni_o7_o7xxxx, ne_o7x_o7xx, nsym ne_o7x_o7xx, ni_o7x_o7xxx, ni_o7x_o7xxxx, ni_o7xx_o7xxx, ni_o7xx_o7xxxx, ielem_get h_x40, irow_get h_x40, h_x400, h_x401, ielem_get h_x42, irow_get h_x42, h_x420, h_x421, ielem_get h_x43, irow_get h_x43, h_x430, h_x431, ielem_get h_x44, irow_get h_x44, h_x440, h_x441, istr_of v1, istr_of v5, istr_of v1_1, istr_of v5_1, istr_of v7, istr_of v1_2, istr_of v7_1, istr_of v7_2]
                refine hK _ _ ?_
                clear hK K
                simp only [qblock_normal, qseq_normal]
                refine hK34 _ _ ?_
                refine cw_reg_k fun K hK => ?_
                simp only [go_sem, s127, lt_o7, lt_o7x, lt_o7xx, lt_o7xxxx, istr_of v1, istr_of v5, istr_of v1_1, istr_of v5_1, istr_of v7, istr_of v1_2, istr_of v7_1, istr_of v7_2]
                refine hK _ _ ?_
                clear hK K
                simp only [qblock_normal, qseq_normal]
                obtain rfl := Option.some.inj hm3
                refine ⟨_, rfl, ?_⟩
                exact ⟨(.rs iq41 0 (List.length b_7_3)), s1, s2, s5, s6, s7, s13, (by first | (simp only [go_sem, s14, List.length_append, List.map_append]; done) | rfl), s18, s19, s121, s122, s126, (by first | (simp only [go_sem, s127, List.length_append, List.map_append]; done) | rfl), rr_o1, ow_o5, (by simp only [go_sem, ob_o7, lt_o7, List.length_append, List.map_append]), (by simp only [go_sem, lt_o7]), ob_o7x, lt_o7x, ob_o7xx, lt_o7xx, ow_o7xxx, (own_rs (by simp only [go_sem, ob_o7xxxx, lt_o7xxxx, List.length_append, List.map_append]) (by first | rfl | simp only [go_sem, List.length_append, List.map_append]) (by simp only [go_sem, lt_o7xxxx])), rm_o1_o5, rn_o1_o7, rn_o1_o7x, rn_o1_o7xx, rm_o1_o7xxx, rm_o1_o7xxxx, ni_o5_o7, ni_o5_o7x, ni_o5_o7xx, di_o5_o7xxx, di_o5_o7xxxx, ne_o7_o7x, ne_o7_o7xx, ni_o7_o7xxx, ni_o7_o7xxxx, ne_o7x_o7xx, ni_o7x_o7xxx, ni_o7x_o7xxxx, ni_o7xx_o7xxx, ni_o7xx_o7xxxx, di_o7xxx_o7xxxx, fr, fx, ge_o5, ge_o7, ge_o7x, ge_o7xx, ge_o7xxx, ge_o7xxxx⟩
              · rw [if_f hc33] at hm3
                simp only [cw_exit, qseq_exit, qblock_same, qblock_ne, qblock_normal, qseq_normal, Nat.reduceEqDiff, not_false_eq_true]
                obtain rfl := Option.some.inj hm3
                obtain rfl := hb31 _ rfl
                try dsimp only at hm2
                exact J20 most_14 v7_3 _ _ s1 s2 s5 s6 s7 s13 s14 s18 s19 s121 s122 rr_o1 ow_o5 ob_o7 lt_o7 ob_o7x lt_o7x ob_o7xx lt_o7xx ow_o7xxx ow_o7xxxx rm_o1_o5 rn_o1_o7 rn_o1_o7x rn_o1_o7xx rm_o1_o7xxx rm_o1_o7xxxx ni_o5_o7 ni_o5_o7x ni_o5_o7xx di_o5_o7xxx di_o5_o7xxxx ne_o7_o7x ne_o7_o7xx ni_o7_o7xxx ni_o7_o7xxxx ne_o7x_o7xx ni_o7x_o7xxx ni_o7x_o7xxxx ni_o7xx_o7xxx ni_o7xx_o7xxxx di_o7xxx_o7xxxx fr fx ge_o5 ge_o7 ge_o7x ge_o7xx ge_o7xxx ge_o7xxxx hm2
          · rw [if_f hc16] at hm2
            simp only [cw_exit, qseq_exit, qblock_same, qblock_ne, qblock_normal, qseq_normal, Nat.reduceEqDiff, not_false_eq_true]
            obtain rfl := Option.some.inj hm2
            obtain rfl := hb14 _ rfl
            try dsimp only at hm1
            exact J11 b_7_1 b_7_2 v1_2 i7_3 v7_1 v7_2 _ _ s1 s2 s5 s7 s18 s19 rr_o1 ow_o5 ob_o7 lt_o7 ob_o7x lt_o7x ob_o7xx lt_o7xx ow_o7xxx ow_o7xxxx rm_o1_o5 rn_o1_o7 rn_o1_o7x rn_o1_o7xx rm_o1_o7xxx rm_o1_o7xxxx ni_o5_o7 ni_o5_o7x ni_o5_o7xx di_o5_o7xxx di_o5_o7xxxx ne_o7_o7x ne_o7_o7xx ni_o7_o7xxx ni_o7_o7xxxx ne_o7x_o7xx ni_o7x_o7xxx ni_o7x_o7xxxx ni_o7xx_o7xxx ni_o7xx_o7xxxx di_o7xxx_o7xxxx fr fx ge_o5 ge_o7 ge_o7x ge_o7xx ge_o7xxx ge_o7xxxx hm1
      simp only [cw_block]
      obtain ⟨b47, hl47, hm1⟩ := bind_get hm1
      refine cw_loopM hl47 (fun | (b_7_0, b_7_3, x_28), t, h => ∃ v1_1 : AV, ∃ v5_1 : AV, ∃ i7 : Nat, ∃ i7_1 : Nat, ∃ i7_2 : Nat, ∃ v7 : AV, t 1 = v1_1 ∧ t 2 = .fp [.fs 5 (List.map eComb h_.Combs), .fs 3 (List.map eTrain h_.Trains), .fs 3 (List.map eShift h_.Shifts), I h_.Until] 0 ∧ t 5 = v5_1 ∧ t 6 = I x_19 ∧ t 7 = .rp i7 0 0 ∧ t 18 = I (List.length h_.Combs : Int) ∧ t 19 = I x_19 ∧ t 27 = I h_.Until ∧ t 28 = I x_28 ∧ RR h v1_1 hs_1 1 eI open_ ∧ OwnS h v5_1 1 (List.map eP_halls_bound all_5) ∧ h.ob i7 = some (4, [[.rs i7_1 0 (List.length b_7_0), .rs i7_2 0 (List.length ([0])), .v (.slice none 0 0), v7]]) ∧ i7 < h.nx ∧ h.ob i7_1 = some (1, List.map eI b_7_0) ∧ i7_1 < h.nx ∧ h.ob i7_2 = some (1, List.map eI ([0])) ∧ i7_2 < h.nx ∧ OwnS h v7 1 (List.map eL_I b_7_3) ∧ (∀ j, ¬NotId v5_1 j → RNot v1_1 hs_1 j) ∧ RNot v1_1 hs_1 i7 ∧ RNot v1_1 hs_1 i7_1 ∧ RNot v1_1 hs_1 i7_2 ∧ (∀ j, ¬NotId v7 j → RNot v1_1 hs_1 j) ∧ NotId v5_1 i7 ∧ NotId v5_1 i7_1 ∧ NotId v5_1 i7_2 ∧ (∀ j, ¬NotId v5_1 j → NotId v7 j) ∧ ¬i7 = i7_1 ∧ ¬i7 = i7_2 ∧ NotId v7 i7 ∧ ¬i7_1 = i7_2 ∧ NotId v7 i7_1 ∧ NotId v7 i7_2 ∧ (∀ j, j < h0.nx → h.ob j = h0.ob j) ∧ h0.nx ≤ h.nx ∧ (∀ j, ¬NotId v5_1 j → h0.nx ≤ j) ∧ h0.nx ≤ i7 ∧ h0.nx ≤ i7_1 ∧ h0.nx ≤ i7_2 ∧ (∀ j, ¬NotId v7 j → h0.nx ≤ j)) ?_ ?_
      · exact ⟨v1, v5, (nxs (nxs h.nx)), h.nx, (nxs h.nx), (.v (.slice none 0 0)), s1, s2, s5, (by first | (simp only [go_sem, List.length_append, List.map_append]; done) | rfl), (by first | (simp only [go_sem, List.length_append, List.map_append]; done) | rfl), s18, s19, (by first | (simp only [go_sem, List.length_append, List.map_append]; done) | rfl), (by first | (simp only [go_sem, List.length_append, List.map_append]; done) | rfl), (rr_later rr_o1 (by intro j hj  hl; first | rfl | simp only [go_sem, hl]) (by first | omega | exact Nat.le_refl _ | (simp only [go_sem, nxs] <;> omega))), (own_later ow_o5 (by intro j hj hl; first | rfl | simp only [go_sem, hl]) (by first | omega | exact Nat.le_refl _ | (simp only [go_sem, nxs] <;> omega))), (by simp only [go_sem, List.length_append, List.map_append]), (by simp only [go_sem]), (by simp only [go_sem, List.length_append, List.map_append]), (by simp only [go_sem]), (by simp only [go_sem, List.length_append, List.map_append]), (by simp only [go_sem]), own_nil', rm_o1_o5, (by first | assumption | exact rr_late rr_o1 (by first | assumption | omega | (simp only [nxs] <;> omega))), (by first | assumption | exact rr_late rr_o1 (by first | assumption | omega | (simp only [nxs] <;> omega))), (by first | assumption | exact rr_late rr_o1 (by first | assumption | omega | (simp only [nxs] <;> omega))), dr_nil, (by first | exact notid_nil | exact notid_rs (by first | assumption | omega | (simp only [nxs] <;> omega)) | assumption | exact own_notid (by assumption) (by first | assumption | omega | (simp only [nxs] <;> omega))), (by first | exact notid_nil | exact notid_rs (by first | assumption | omega | (simp only [nxs] <;> omega)) | assumption | exact own_notid (by assumption) (by first | assumption | omega | (simp only [nxs] <;> omega))), (by first | exact notid_nil | exact notid_rs (by first | assumption | omega | (simp only [nxs] <;> omega)) | assumption | exact own_notid (by assumption) (by first | assumption | omega | (simp only [nxs] <;> omega))), (by first | exact dis_nil_l | exact dis_nil_r | assumption | (refine dis_rs_l ?_; first | assumption | exact own_notid (by assumption) (by first | assumption | omega | (simp only [nxs] <;> omega))) | (refine nd_rs ?_; first | assumption | exact own_notid (by assumption) (by first | assumption | omega | (simp only [nxs] <;> omega)))), (by first | first | assumption | omega | (simp only [nxs] <;> omega)), (by first | first | assumption | omega | (simp only [nxs] <;> omega)), (by first | exact notid_nil | exact notid_rs (by first | assumption | omega | (simp only [nxs] <;> omega)) | assumption | exact own_notid (by assumption) (by first | assumption | omega | (simp only [nxs] <;> omega))), (by first | first | assumption | omega | (simp only [nxs] <;> omega)), (by first | exact notid_nil | exact notid_rs (by first | assumption | omega | (simp only [nxs] <;> omega)) | assumption | exact own_notid (by assumption) (by first | assumption | omega | (simp only [nxs] <;> omega))), (by first | exact notid_nil | exact notid_rs (by first | assumption | omega | (simp only [nxs] <;> omega)) | assumption | exact own_notid (by assumption) (by first | assumption | omega | (simp only [nxs] <;> omega))), (by intro j hj; first | exact fr j hj | (refine Eq.trans ?_ (fr j hj); first | rfl | simp only [go_sem, Nat.lt_of_lt_of_le hj fx])), (by first | exact fx | omega | (simp only [go_sem, nxs] <;> omega)), ge_o5, (by first | assumption | omega | (simp only [nxs] <;> omega)), (by first | assumption | omega | (simp only [nxs] <;> omega)), (by first | assumption | omega | (simp only [nxs] <;> omega)), dr_nil⟩
      · try clear s1 s2 s5 s18 s19 rr_o1 ow_o5 rm_o1_o5 fr fx ge_o5
        rintro ⟨b_7_0, b_7_3, x_28⟩ o t h ⟨v1_1, v5_1, i7, i7_1, i7_2, v7, s1, s2, s5, s6, s7, s18, s19, s27, s28, rr_o1, ow_o5, ob_o7, lt_o7, ob_o7x, lt_o7x, ob_o7xx, lt_o7xx, ow_o7xxx, rm_o1_o5, rn_o1_o7, rn_o1_o7x, rn_o1_o7xx, rm_o1_o7xxx, ni_o5_o7, ni_o5_o7x, ni_o5_o7xx, di_o5_o7xxx, ne_o7_o7x, ne_o7_o7xx, ni_o7_o7xxx, ne_o7x_o7xx, ni_o7x_o7xxx, ni_o7xx_o7xxx, fr, fx, ge_o5, ge_o7, ge_o7x, ge_o7xx, ge_o7xxx⟩ hm2 hb47
        simp only [halls_bounds_L25] at hm2
        rw [x_halls_bounds_L25]
        refine cw_reg_seq fun K hK => ?_
        simp only [go_sem, s27, s28, lt_o7, lt_o7x, lt_o7xx, istr_of v1, istr_of v5, istr_of v1_1, istr_of v5_1, istr_of v7]
        refine hK _ _ ?_
        clear hK K
        refine cw_seq_k fun K48 hK48 => ?_
        simp only [go_sem]
        refine ibr_intro (fun hc49 => ?_) (fun hc49 => ?_)
        · rw [if_t hc49] at hm2
          simp only [cw_skip, qblock_normal, qseq_normal]
          refine hK48 _ _ ?_
          refine cw_seq_k fun K50 hK50 => ?_
          have J51 : ∀ (b_7_0_1 : List Int) (b_7_3_1 : List (List Int)) (v1_2 : AV) (v5_2 : AV) (i7_3 : Nat) (i7_4 : Nat) (t : Slots) (h : Heap), t 1 = v1_2 → t 2 = .fp [.fs 5 (List.map eComb h_.Combs), .fs 3 (List.map eTrain h_.Trains), .fs 3 (List.map eShift h_.Shifts), I h_.Until] 0 → t 5 = v5_2 → t 6 = I x_19 → t 7 = .rp i7 0 0 → t 18 = I (List.length h_.Combs : Int) → t 19 = I x_19 → t 27 = I h_.Until → t 28 = I x_28 → RR h v1_2 hs_1 1 eI open_ → OwnS h v5_2 1 (List.map eP_halls_bound all_5) → h.ob i7 = some (4, [[.rs i7_3 0 (List.length b_7_0_1), .rs i7_2 0 (List.length ([0])), .v (.slice none 0 0), .rs i7_4 0 (List.length b_7_3_1)]]) → i7 < h.nx → h.ob i7_3 = some (1, List.map eI b_7_0_1) → i7_3 < h.nx → h.ob i7_2 = some (1, List.map eI ([0])) → i7_2 < h.nx → h.ob i7_4 = some (1, List.map eL_I b_7_3_1) → i7_4 < h.nx → (∀ j, ¬NotId v5_2 j → RNot v1_2 hs_1 j) → RNot v1_2 hs_1 i7 → RNot v1_2 hs_1 i7_3 → RNot v1_2 hs_1 i7_2 → RNot v1_2 hs_1 i7_4 → NotId v5_2 i7 → NotId v5_2 i7_3 → NotId v5_2 i7_2 → NotId v5_2 i7_4 → ¬i7 = i7_3 → ¬i7 = i7_2 → ¬i7 = i7_4 → ¬i7_3 = i7_2 → ¬i7_3 = i7_4 → ¬i7_2 = i7_4 → (∀ j, j < h0.nx → h.ob j = h0.ob j) → h0.nx ≤ h.nx → (∀ j, ¬NotId v5_2 j → h0.nx ≤ j) → h0.nx ≤ i7 → h0.nx ≤ i7_3 → h0.nx ≤ i7_2 → h0.nx ≤ i7_4 → halls_bounds_j51 x_28 b_7_0_1 b_7_3_1 = some o → K50 t h := by
            try clear s1 s2 s5 s6 s7 s18 s19 s27 s28 rr_o1 ow_o5 ob_o7 lt_o7 ob_o7x lt_o7x ob_o7xx lt_o7xx ow_o7xxx rm_o1_o5 rn_o1_o7 rn_o1_o7x rn_o1_o7xx rm_o1_o7xxx ni_o5_o7 ni_o5_o7x ni_o5_o7xx di_o5_o7xxx ne_o7_o7x ne_o7_o7xx ni_o7_o7xxx ne_o7x_o7xx ni_o7x_o7xxx ni_o7xx_o7xxx fr fx ge_o5 ge_o7 ge_o7x ge_o7xx ge_o7xxx
            intro b_7_0_1 b_7_3_1 v1_2 v5_2 i7_3 i7_4 t h s1 s2 s5 s6 s7 s18 s19 s27 s28 rr_o1 ow_o5 ob_o7 lt_o7 ob_o7x lt_o7x ob_o7xx lt_o7xx ob_o7xxx lt_o7xxx rm_o1_o5 rn_o1_o7 rn_o1_o7x rn_o1_o7xx rn_o1_o7xxx ni_o5_o7 ni_o5_o7x ni_o5_o7xx ni_o5_o7xxx ne_o7_o7x ne_o7_o7xx ne_o7_o7xxx ne_o7x_o7xx ne_o7x_o7xxx ne_o7xx_o7xxx fr fx ge_o5 ge_o7 ge_o7x ge_o7xx ge_o7xxx hm2
            refine hK50 _ _ ?_
            unfold halls_bounds_j51 at hm2
            refine cw_reg_k fun K hK => ?_
            simp only [go_sem, s28, lt_o7, lt_o7x, lt_o7xx, lt_o7xxx, istr_of v1, istr_of v5, istr_of v1_1, istr_of v5_1, istr_of v7, istr_of v1_2, istr_of v5_2]
            refine hK _ _ ?_
            clear hK K
            simp only [qblock_normal, qseq_normal]
            obtain rfl := Option.some.inj hm2
            refine ⟨_, rfl, ?_⟩
            exact ⟨v1_2, v5_2, i7, i7_3, i7_2, (.rs i7_4 0 (List.length b_7_3_1)), s1, s2, s5, s6, s7, s18, s19, s27, (by first | (simp only [go_sem, s28, List.length_append, List.map_append]; done) | rfl), rr_o1, ow_o5, ob_o7, lt_o7, ob_o7x, lt_o7x, ob_o7xx, lt_o7xx, (own_rs (by simp only [go_sem, ob_o7xxx, lt_o7xxx, List.length_append, List.map_append]) (by first | rfl | simp only [go_sem, List.length_append, List.map_append]) (by simp only [go_sem, lt_o7xxx])), rm_o1_o5, rn_o1_o7, rn_o1_o7x, rn_o1_o7xx, (dr_rs rn_o1_o7xxx), ni_o5_o7, ni_o5_o7x, ni_o5_o7xx, (by first | exact dis_nil_l | exact dis_nil_r | assumption | (refine dis_rs_l ?_; first | assumption | exact own_notid (by assumption) (by first | assumption | omega | (simp only [nxs] <;> omega))) | (refine nd_rs ?_; first | assumption | exact own_notid (by assumption) (by first | assumption | omega | (simp only [nxs] <;> omega)))), ne_o7_o7x, ne_o7_o7xx, (by first | exact notid_nil | exact notid_rs (by first | assumption | omega | (simp only [nxs] <;> omega)) | assumption | exact own_notid (by assumption) (by first | assumption | omega | (simp only [nxs] <;> omega))), ne_o7x_o7xx, (by first | exact notid_nil | exact notid_rs (by first | assumption | omega | (simp only [nxs] <;> omega)) | assumption | exact own_notid (by assumption) (by first | assumption | omega | (simp only [nxs] <;> omega))), (by first | exact notid_nil | exact notid_rs (by first | assumption | omega | (simp only [nxs] <;> omega)) | assumption | exact own_notid (by assumption) (by first | assumption | omega | (simp only [nxs] <;> omega))), fr, fx, ge_o5, ge_o7, ge_o7x, ge_o7xx, (ge_rs ge_o7xxx)⟩
          simp only [cw_block]
          refine cw_reg_seq fun K hK => ?_
          simp only [go_sem, s28, lt_o7, lt_o7x, lt_o7xx, istr_of v1, istr_of v5, istr_of v1_1, istr_of v5_1, istr_of v7]
          refine hK _ _ ?_
          clear hK K
          obtain ⟨l53, h_l53, hm2⟩ := bind_get hm2
          refine cw_reg_seq fun K hK => ?_
          simp only [go_sem, s2, lt_o7, lt_o7x, lt_o7xx, istr_of v1, istr_of v5, istr_of v1_1, istr_of v5_1, istr_of v7]
          refine imksl_ok (f := eI) (z := 0) rfl h_l53 ?_
          simp only [go_sem, s2, lt_o7, lt_o7x, lt_o7xx, istr_of v1, istr_of v5, istr_of v1_1, istr_of v5_1, istr_of v7]
          refine hK _ _ ?_
          clear hK K
          refine cw_assoc ?_
          refine cw_reg_seq fun K hK => ?_
          simp only [go_sem, lt_o7, lt_o7x, lt_o7xx, istr_of v1, istr_of v5, istr_of v1_1, istr_of v5_1, istr_of v7]
          refine hK _ _ ?_
          clear hK K
          refine cw_seq_k fun K54 hK54 => ?_
          have J55 : ∀ (row_9 : List Int) (v5_2 : AV) (i9 : Nat) (t : Slots) (h : Heap), t 1 = v1_1 → t 2 = .fp [.fs 5 (List.map eComb h_.Combs), .fs 3 (List.map eTrain h_.Trains), .fs 3 (List.map eShift h_.Shifts), I h_.Until] 0 → t 5 = v5_2 → t 6 = I x_19 → t 7 = .rp i7 0 0 → t 8 = I x_28 → t 9 = .rs i9 0 (List.length row_9) → t 18 = I (List.length h_.Combs : Int) → t 19 = I x_19 → t 27 = I h_.Until → t 28 = I x_28 → RR h v1_1 hs_1 1 eI open_ → OwnS h v5_2 1 (List.map eP_halls_bound all_5) → h.ob i7 = some (4, [[.rs i7_1 0 (List.length b_7_0), .rs i7_2 0 (List.length ([0])), .v (.slice none 0 0), v7]]) → i7 < h.nx → h.ob i7_1 = some (1, List.map eI b_7_0) → i7_1 < h.nx → h.ob i7_2 = some (1, List.map eI ([0])) → i7_2 < h.nx → OwnS h v7 1 (List.map eL_I b_7_3) → h.ob i9 = some (1, List.map eI row_9) → i9 < h.nx → (∀ j, ¬NotId v5_2 j → RNot v1_1 hs_1 j) → RNot v1_1 hs_1 i7 → RNot v1_1 hs_1 i7_1 → RNot v1_1 hs_1 i7_2 → (∀ j, ¬NotId v7 j → RNot v1_1 hs_1 j) → RNot v1_1 hs_1 i9 → NotId v5_2 i7 → NotId v5_2 i7_1 → NotId v5_2 i7_2 → (∀ j, ¬NotId v5_2 j → NotId v7 j) → NotId v5_2 i9 → ¬i7 = i7_1 → ¬i7 = i7_2 → NotId v7 i7 → ¬i7 = i9 → ¬i7_1 = i7_2 → NotId v7 i7_1 → ¬i7_1 = i9 → NotId v7 i7_2 → ¬i7_2 = i9 → NotId v7 i9 → (∀ j, j < h0.nx → h.ob j = h0.ob j) → h0.nx ≤ h.nx → (∀ j, ¬NotId v5_2 j → h0.nx ≤ j) → h0.nx ≤ i7 → h0.nx ≤ i7_1 → h0.nx ≤ i7_2 → (∀ j, ¬NotId v7 j → h0.nx ≤ j) → h0.nx ≤ i9 → halls_bounds_j55 open_ x_19 b_7_0 b_7_3 x_28 row_9 = some o → K54 t h := by
            try clear s1 s2 s5 s6 s7 s18 s19 s27 s28 rr_o1 ow_o5 ob_o7 lt_o7 ob_o7x lt_o7x ob_o7xx lt_o7xx ow_o7xxx rm_o1_o5 rn_o1_o7 rn_o1_o7x rn_o1_o7xx rm_o1_o7xxx ni_o5_o7 ni_o5_o7x ni_o5_o7xx di_o5_o7xxx ne_o7_o7x ne_o7_o7xx ni_o7_o7xxx ne_o7x_o7xx ni_o7x_o7xxx ni_o7xx_o7xxx fr fx ge_o5 ge_o7 ge_o7x ge_o7xx ge_o7xxx
            intro row_9 v5_2 i9 t h s1 s2 s5 s6 s7 s8 s9 s18 s19 s27 s28 rr_o1 ow_o5 ob_o7 lt_o7 ob_o7x lt_o7x ob_o7xx lt_o7xx ow_o7xxx ob_o9 lt_o9 rm_o1_o5 rn_o1_o7 rn_o1_o7x rn_o1_o7xx rm_o1_o7xxx rn_o1_o9 ni_o5_o7 ni_o5_o7x ni_o5_o7xx di_o5_o7xxx ni_o5_o9 ne_o7_o7x ne_o7_o7xx ni_o7_o7xxx ne_o7_o9 ne_o7x_o7xx ni_o7x_o7xxx ne_o7x_o9 ni_o7xx_o7xxx ne_o7xx_o9 ni_o7xxx_o9 fr fx ge_o5 ge_o7 ge_o7x ge_o7xx ge_o7xxx ge_o9 hm2
            refine hK54 _ _ ?_
            unfold halls_bounds_j55 at hm2
            refine cw_assoc ?_
            refine cw_ghost_own (s := 9) (v := .rs i9 0 (List.length row_9)) (f := eI) (l := row_9) (by simp only [go_sem, s9, rr_lates rr_o1, own_late ow_o5, ob_o7, lt_o7, ob_o7x, lt_o7x, ob_o7xx, lt_o7xx, own_late ow_o7xxx, ob_o9, lt_o9, rn_top rn_o1_o7, rn_top rn_o1_o7x, rn_top rn_o1_o7xx, rn_top rn_o1_o9, ni_o5_o7, ni_o5_o7x, ni_o5_o7xx, ni_o5_o9, ne_o7_o7x, nsym ne_o7_o7x, ne_o7_o7xx, nsym ne_o7_o7xx, ni_o7_o7xxx, ne_o7_o9, nsym ne_o7_o9, ne_o7x_o7xx, nsym ne_o7x_o7xx, ni_o7x_o7xxx, ne_o7x_o9, nsym ne_o7x_o9, ni_o7xx_o7xxx, ne_o7xx_o9, nsym ne_o7xx_o9, ni_o7xxx_o9, List.length_append, List.map_append]) (own_rs (by simp only [go_sem, s9, rr_lates rr_o1, own_late ow_o5, ob_o7, lt_o7, ob_o7x, lt_o7x, ob_o7xx, lt_o7xx, own_late ow_o7xxx, ob_o9, lt_o9, rn_top rn_o1_o7, rn_top rn_o1_o7x, rn_top rn_o1_o7xx, rn_top rn_o1_o9, ni_o5_o7, ni_o5_o7x, ni_o5_o7xx, ni_o5_o9, ne_o7_o7x, nsym ne_o7_o7x, ne_o7_o7xx, nsym ne_o7_o7xx, ni_o7_o7xxx, ne_o7_o9, nsym ne_o7_o9, ne_o7x_o7xx, nsym ne_o7x_o7xx, ni_o7x_o7xxx, ne_o7x_o9, nsym ne_o7x_o9, ni_o7xx_o7xxx, ne_o7xx_o9, nsym ne_o7xx_o9, ni_o7xxx_o9, List.length_append, List.map_append]) (by simp only [go_sem, s9, rr_lates rr_o1, own_late ow_o5, ob_o7, lt_o7, ob_o7x, lt_o7x, ob_o7xx, lt_o7xx, own_late ow_o7xxx, ob_o9, lt_o9, rn_top rn_o1_o7, rn_top rn_o1_o7x, rn_top rn_o1_o7xx, rn_top rn_o1_o9, ni_o5_o7, ni_o5_o7x, ni_o5_o7xx, ni_o5_o9, ne_o7_o7x, nsym ne_o7_o7x, ne_o7_o7xx, nsym ne_o7_o7xx, ni_o7_o7xxx, ne_o7_o9, nsym ne_o7_o9, ne_o7x_o7xx, nsym ne_o7x_o7xx, ni_o7x_o7xxx, ne_o7x_o9, nsym ne_o7x_o9, ni_o7xx_o7xxx, ne_o7xx_o9, nsym ne_o7xx_o9, ni_o7xxx_o9, List.length_append, List.map_append]) (by simp only [go_sem, lt_o7, lt_o7x, lt_o7xx, lt_o9])) fz_eI ln_eI ?_
            simp only [frzH_nil, frzH_rs]
            obtain ⟨l57, h_l57, hm2⟩ := bind_get hm2
            refine cw_reg_seq fun K hK => ?_
            simp only [go_sem, s7, s9, ob_o7, lt_o7, ob_o7x, lt_o7x, ob_o7xx, lt_o7xx, lt_o9, ni_o5_o7, ni_o5_o7x, ni_o5_o7xx, ne_o7_o7x, nsym ne_o7_o7x, ne_o7_o7xx, nsym ne_o7_o7xx, ni_o7_o7xxx, ne_o7_o9, nsym ne_o7_o9, ne_o7x_o7xx, nsym ne_o7x_o7xx, ni_o7x_o7xxx, ne_o7x_o9, nsym ne_o7x_o9, ni_o7xx_o7xxx, ne_o7xx_o9, nsym ne_o7xx_o9, ni_o7xxx_o9, istr_of v1, istr_of v5, istr_of v1_1, istr_of v5_1, istr_of v7, istr_of v5_2]
            refine iapp_own (f := eL_I) (l := b_7_3) (m := ([row_9])) ?_ ?_ ?_ ?_ h_l57 ?_
            · exact (own_later ow_o7xxx (by intro j hj hl; first | rfl | simp only [go_sem, hl, rn_top (rm_o1_o7xxx j hj), di_sym di_o5_o7xxx j hj, own_ne hj ni_o7_o7xxx, own_ne hj ni_o7x_o7xxx, own_ne hj ni_o7xx_o7xxx, own_ne hj ni_o7xxx_o9]) (by first | omega | exact Nat.le_refl _ | (simp only [go_sem, nxs] <;> omega)))
            · exact (ownx_rs (by simp only [go_sem, rr_lates rr_o1, own_late ow_o5, ob_o7, lt_o7, ob_o7x, lt_o7x, ob_o7xx, lt_o7xx, own_late ow_o7xxx, ob_o9, lt_o9, rn_top rn_o1_o7, rn_top rn_o1_o7x, rn_top rn_o1_o7xx, rn_top rn_o1_o9, ni_o5_o7, ni_o5_o7x, ni_o5_o7xx, ni_o5_o9, ne_o7_o7x, nsym ne_o7_o7x, ne_o7_o7xx, nsym ne_o7_o7xx, ni_o7_o7xxx, ne_o7_o9, nsym ne_o7_o9, ne_o7x_o7xx, nsym ne_o7x_o7xx, ni_o7x_o7xxx, ne_o7x_o9, nsym ne_o7x_o9, ni_o7xx_o7xxx, ne_o7xx_o9, nsym ne_o7xx_o9, ni_o7xxx_o9, List.length_append, List.map_append]) (by simp only [go_sem, rr_lates rr_o1, own_late ow_o5, ob_o7, lt_o7, ob_o7x, lt_o7x, ob_o7xx, lt_o7xx, own_late ow_o7xxx, ob_o9, lt_o9, rn_top rn_o1_o7, rn_top rn_o1_o7x, rn_top rn_o1_o7xx, rn_top rn_o1_o9, ni_o5_o7, ni_o5_o7x, ni_o5_o7xx, ni_o5_o9, ne_o7_o7x, nsym ne_o7_o7x, ne_o7_o7xx, nsym ne_o7_o7xx, ni_o7_o7xxx, ne_o7_o9, nsym ne_o7_o9, ne_o7x_o7xx, nsym ne_o7x_o7xx, ni_o7x_o7xxx, ne_o7x_o9, nsym ne_o7x_o9, ni_o7xx_o7xxx, ne_o7xx_o9, nsym ne_o7xx_o9, ni_o7xxx_o9, List.length_append, List.map_append]))
            · exact (nd_rs (by first | exact notid_nil | exact notid_rs (by first | omega | (simp only [nxs] <;> omega)) | assumption | exact own_notid (by assumption) (by first | omega | (simp only [go_sem, nxs] <;> omega))))
            · exact (fun _ => by simp)
            simp only [go_sem, s7, s9, ob_o7, lt_o7, ob_o7x, lt_o7x, ob_o7xx, lt_o7xx, lt_o9, ni_o5_o7, ni_o5_o7x, ni_o5_o7xx, ne_o7_o7x, nsym ne_o7_o7x, ne_o7_o7xx, nsym ne_o7_o7xx, ni_o7_o7xxx, ne_o7_o9, nsym ne_o7_o9, ne_o7x_o7xx, nsym ne_o7x_o7xx, ni_o7x_o7xxx, ne_o7x_o9, nsym ne_o7x_o9, ni_o7xx_o7xxx, ne_o7xx_o9, nsym ne_o7xx_o9, ni_o7xxx_o9, istr_of v1, istr_of v5, istr_of v1_1, istr_of v5_1, istr_of v7, istr_of v5_2]
            refine hK _ _ ?_
            clear hK K
            obtain ⟨x62, h_x62, hm2⟩ := bind_get hm2
            have h_x620 := get_nn h_x62
            have h_x621 := get_lt h_x62
            obtain ⟨x63, h_x63, hm2⟩ := bind_get hm2
            have h_x630 := get_nn h_x63
            have h_x631 := get_lt h_x63
            obtain ⟨iqp982, rfl, ob_o1, lt_o1⟩ := rr_top rr_o1 h_x63
            obtain ⟨wp983, hw_wp983, os_wp983⟩ := rr_row rr_o1 h_x63
            obtain ⟨x64, h_x64, hm2⟩ := bind_get hm2
            have h_x640 := get_nn h_x64
            have h_x641 := get_lt h_x64
            obtain ⟨irp984, rfl, obr_irp984, ltr_irp984⟩ := own_get os_wp983 h_x64
            obtain ⟨l65, h_l65, hm2⟩ := bind_get hm2
            refine cw_reg_postK1 (fun t h => ∃ v1_2 : AV, ∃ i7_3 : Nat, ∃ i7_4 : Nat, t 1 = v1_2 ∧ t 2 = .fp [.fs 5 (List.map eComb h_.Combs), .fs 3 (List.map eTrain h_.Trains), .fs 3 (List.map eShift h_.Shifts), I h_.Until] 0 ∧ t 5 = v5_2 ∧ t 6 = I x_19 ∧ t 7 = .rp i7 0 0 ∧ t 18 = I (List.length h_.Combs : Int) ∧ t 19 = I x_19 ∧ t 27 = I h_.Until ∧ t 28 = I x_28 ∧ RR h v1_2 hs_1 1 eI open_ ∧ OwnS h v5_2 1 (List.map eP_halls_bound all_5) ∧ h.ob i7 = some (4, [[.rs i7_3 0 (List.length l65), .rs i7_2 0 (List.length ([0])), .v (.slice none 0 0), .rs i7_4 0 (List.length l57)]]) ∧ i7 < h.nx ∧ h.ob i7_3 = some (1, List.map eI l65) ∧ i7_3 < h.nx ∧ h.ob i7_2 = some (1, List.map eI ([0])) ∧ i7_2 < h.nx ∧ h.ob i7_4 = some (1, List.map eL_I l57) ∧ i7_4 < h.nx ∧ (∀ j, ¬NotId v5_2 j → RNot v1_2 hs_1 j) ∧ RNot v1_2 hs_1 i7 ∧ RNot v1_2 hs_1 i7_3 ∧ RNot v1_2 hs_1 i7_2 ∧ RNot v1_2 hs_1 i7_4 ∧ NotId v5_2 i7 ∧ NotId v5_2 i7_3 ∧ NotId v5_2 i7_2 ∧ NotId v5_2 i7_4 ∧ ¬i7 = i7_3 ∧ ¬i7 = i7_2 ∧ ¬i7 = i7_4 ∧ ¬i7_3 = i7_2 ∧ ¬i7_3 = i7_4 ∧ ¬i7_2 = i7_4 ∧ (∀ j, j < h0.nx → h.ob j = h0.ob j) ∧ h0.nx ≤ h.nx ∧ (∀ j, ¬NotId v5_2 j → h0.nx ≤ j) ∧ h0.nx ≤ i7 ∧ h0.nx ≤ i7_3 ∧ h0.nx ≤ i7_2 ∧ h0.nx ≤ i7_4) (fun K hK => ?_) ?_
            · simp only [go_sem, s1, rr_len rr_o1, s6, s7, s8, ob_o1, lt_o1, ob_o7, lt_o7, ob_o7x, lt_o7x, ob_o7xx, lt_o7xx, lt_o9, rm_top rm_o1_o5, rm_row rm_o1_o5 hw_wp983, rn_ne0 (rn_o1_o7), nsym (rn_ne0 (rn_o1_o7)), rn_ne (rn_o1_o7) hw_wp983, nsym (rn_ne (rn_o1_o7) hw_wp983), rn_ne0 (rn_o1_o7x), nsym (rn_ne0 (rn_o1_o7x)), rn_ne (rn_o1_o7x) hw_wp983, nsym (rn_ne (rn_o1_o7x) hw_wp983), rn_ne0 (rn_o1_o7xx), nsym (rn_ne0 (rn_o1_o7xx)), rn_ne (rn_o1_o7xx) hw_wp983, nsym (rn_ne (rn_o1_o7xx) hw_wp983), rm_top rm_o1_o7xxx, rm_row rm_o1_o7xxx hw_wp983, rn_ne0 (rn_o1_o9), nsym (rn_ne0 (rn_o1_o9)), rn_ne (rn_o1_o9) hw_wp983, nsym (rn_ne (rn_o1_o9) hw_wp983), ni_o5_o7, ni_o5_o7x, ni_o5_o7xx, ne_o7_o7x, nsym ne_o7_o7x, ne_o7_o7xx, nsym ne_o7_o7xx, ni_o7_o7xxx, ne_o7_o9, nsym ne_o7_o9, ne_o7x_o7xx, nsym ne_o7x_o7xx, ni_o7x_o7xxx, ne_o7x_o9, nsym ne_o7x_o9, ni_o7xx_o7xxx, ne_o7xx_o9, nsym ne_o7xx_o9, ielem_get h_x62, irow_get h_x62, h_x620, h_x621, ielem_get h_x63, irow_get h_x63, h_x630, h_x631, ielem_get hw_wp983, irow_get hw_wp983, own_len os_wp983, ielem_get h_x64, irow_get h_x64, h_x640, h_x641, obr_irp984, ltr_irp984, istr_of v1, istr_of v5, istr_of v5_1, istr_of v7, istr_of v5_2]
              refine iapp_own (f := eI) (l := b_7_0) (m := ([wr (x62 + x64)])) ?_ ?_ ?_ ?_ h_l65 ?_
              · exact (own_rs (by simp only [go_sem, rr_lates rr_o1, own_late ow_o5, ob_o7, lt_o7, ob_o7x, lt_o7x, ob_o7xx, lt_o7xx, own_late ow_o7xxx, ob_o9, lt_o9, rm_top rm_o1_o5, rm_row rm_o1_o5 hw_wp983, rn_top rn_o1_o7, rn_ne0 (rn_o1_o7), nsym (rn_ne0 (rn_o1_o7)), rn_ne (rn_o1_o7) hw_wp983, nsym (rn_ne (rn_o1_o7) hw_wp983), rn_top rn_o1_o7x, rn_ne0 (rn_o1_o7x), nsym (rn_ne0 (rn_o1_o7x)), rn_ne (rn_o1_o7x) hw_wp983, nsym (rn_ne (rn_o1_o7x) hw_wp983), rn_top rn_o1_o7xx, rn_ne0 (rn_o1_o7xx), nsym (rn_ne0 (rn_o1_o7xx)), rn_ne (rn_o1_o7xx) hw_wp983, nsym (rn_ne (rn_o1_o7xx) hw_wp983), rm_top rm_o1_o7xxx, rm_row rm_o1_o7xxx hw_wp983, rn_top rn_o1_o9, rn_ne0 (rn_o1_o9), nsym (rn_ne0 (rn_o1_o9)), rn_ne (rn_o1_o9) hw_wp983, nsym (rn_ne (rn_o1_o9) hw_wp983), ni_o5_o7, ni_o5_o7x, ni_o5_o7xx, ni_o5_o9, ne_o7_o7x, nsym ne_o7_o7x, ne_o7_o7xx, nsym ne_o7_o7xx, ni_o7_o7xxx, ne_o7_o9, nsym ne_o7_o9, ne_o7x_o7xx, nsym ne_o7x_o7xx, ni_o7x_o7xxx, ne_o7x_o9, nsym ne_o7x_o9, ni_o7xx_o7xxx, ne_o7xx_o9, nsym ne_o7xx_o9, ni_o7xxx_o9, ob_o1, lt_o1, rr_top_ne rr_o1 hw_wp983, nsym (rr_top_ne rr_o1 hw_wp983), List.length_append, List.map_append]) (by simp only [go_sem, rr_lates rr_o1, own_late ow_o5, ob_o7, lt_o7, ob_o7x, lt_o7x, ob_o7xx, lt_o7xx, own_late ow_o7xxx, ob_o9, lt_o9, rm_top rm_o1_o5, rm_row rm_o1_o5 hw_wp983, rn_top rn_o1_o7, rn_ne0 (rn_o1_o7), nsym (rn_ne0 (rn_o1_o7)), rn_ne (rn_o1_o7) hw_wp983, nsym (rn_ne (rn_o1_o7) hw_wp983), rn_top rn_o1_o7x, rn_ne0 (rn_o1_o7x), nsym (rn_ne0 (rn_o1_o7x)), rn_ne (rn_o1_o7x) hw_wp983, nsym (rn_ne (rn_o1_o7x) hw_wp983), rn_top rn_o1_o7xx, rn_ne0 (rn_o1_o7xx), nsym (rn_ne0 (rn_o1_o7xx)), rn_ne (rn_o1_o7xx) hw_wp983, nsym (rn_ne (rn_o1_o7xx) hw_wp983), rm_top rm_o1_o7xxx, rm_row rm_o1_o7xxx hw_wp983, rn_top rn_o1_o9, rn_ne0 (rn_o1_o9), nsym (rn_ne0 (rn_o1_o9)), rn_ne (rn_o1_o9) hw_wp983, nsym (rn_ne (rn_o1_o9) hw_wp983), ni_o5_o7, ni_o5_o7x, ni_o5_o7xx, ni_o5_o9, ne_o7_o7x, nsym ne_o7_o7x, ne_o7_o7xx, nsym ne_o7_o7xx, ni_o7_o7xxx, ne_o7_o9, nsym ne_o7_o9, ne_o7x_o7xx, nsym ne_o7x_o7xx, ni_o7x_o7xxx, ne_o7x_o9, nsym ne_o7x_o9, ni_o7xx_o7xxx, ne_o7xx_o9, nsym ne_o7xx_o9, ni_o7xxx_o9, ob_o1, lt_o1, rr_top_ne rr_o1 hw_wp983, nsym (rr_top_ne rr_o1 hw_wp983), List.length_append, List.map_append]) (by simp only [go_sem, lt_o7, lt_o7x, lt_o7xx, lt_o9, lt_o1]))
              · exact (ownx_rs (by simp only [go_sem, rr_lates rr_o1, own_late ow_o5, ob_o7, lt_o7, ob_o7x, lt_o7x, ob_o7xx, lt_o7xx, own_late ow_o7xxx, ob_o9, lt_o9, rm_top rm_o1_o5, rm_row rm_o1_o5 hw_wp983, rn_top rn_o1_o7, rn_ne0 (rn_o1_o7), nsym (rn_ne0 (rn_o1_o7)), rn_ne (rn_o1_o7) hw_wp983, nsym (rn_ne (rn_o1_o7) hw_wp983), rn_top rn_o1_o7x, rn_ne0 (rn_o1_o7x), nsym (rn_ne0 (rn_o1_o7x)), rn_ne (rn_o1_o7x) hw_wp983, nsym (rn_ne (rn_o1_o7x) hw_wp983), rn_top rn_o1_o7xx, rn_ne0 (rn_o1_o7xx), nsym (rn_ne0 (rn_o1_o7xx)), rn_ne (rn_o1_o7xx) hw_wp983, nsym (rn_ne (rn_o1_o7xx) hw_wp983), rm_top rm_o1_o7xxx, rm_row rm_o1_o7xxx hw_wp983, rn_top rn_o1_o9, rn_ne0 (rn_o1_o9), nsym (rn_ne0 (rn_o1_o9)), rn_ne (rn_o1_o9) hw_wp983, nsym (rn_ne (rn_o1_o9) hw_wp983), ni_o5_o7, ni_o5_o7x, ni_o5_o7xx, ni_o5_o9, ne_o7_o7x, nsym ne_o7_o7x, ne_o7_o7xx, nsym ne_o7_o7xx, ni_o7_o7xxx, ne_o7_o9, nsym ne_o7_o9, ne_o7x_o7xx, nsym ne_o7x_o7xx, ni_o7x_o7xxx, ne_o7x_o9, nsym ne_o7x_o9, ni_o7xx_o7xxx, ne_o7xx_o9, nsym ne_o7xx_o9, ni_o7xxx_o9, ob_o1, lt_o1, rr_top_ne rr_o1 hw_wp983, nsym (rr_top_ne rr_o1 hw_wp983), List.length_append, List.map_append]) (by simp only [go_sem, rr_lates rr_o1, own_late ow_o5, ob_o7, lt_o7, ob_o7x, lt_o7x, ob_o7xx, lt_o7xx, own_late ow_o7xxx, ob_o9, lt_o9, rm_top rm_o1_o5, rm_row rm_o1_o5 hw_wp983, rn_top rn_o1_o7, rn_ne0 (rn_o1_o7), nsym (rn_ne0 (rn_o1_o7)), rn_ne (rn_o1_o7) hw_wp983, nsym (rn_ne (rn_o1_o7) hw_wp983), rn_top rn_o1_o7x, rn_ne0 (rn_o1_o7x), nsym (rn_ne0 (rn_o1_o7x)), rn_ne (rn_o1_o7x) hw_wp983, nsym (rn_ne (rn_o1_o7x) hw_wp983), rn_top rn_o1_o7xx, rn_ne0 (rn_o1_o7xx), nsym (rn_ne0 (rn_o1_o7xx)), rn_ne (rn_o1_o7xx) hw_wp983, nsym (rn_ne (rn_o1_o7xx) hw_wp983), rm_top rm_o1_o7xxx, rm_row rm_o1_o7xxx hw_wp983, rn_top rn_o1_o9, rn_ne0 (rn_o1_o9), nsym (rn_ne0 (rn_o1_o9)), rn_ne (rn_o1_o9) hw_wp983, nsym (rn_ne (rn_o1_o9) hw_wp983), ni_o5_o7, ni_o5_o7x, ni_o5_o7xx, ni_o5_o9, ne_o7_o7x, nsym ne_o7_o7x, ne_o7_o7xx, nsym ne_o7_o7xx, ni_o7_o7xxx, ne_o7_o9, nsym ne_o7_o9, ne_o7x_o7xx, nsym ne_o7x_o7xx, ni_o7x_o7xxx, ne_o7x_o9, nsym ne_o7x_o9, ni_o7xx_o7xxx, ne_o7xx_o9, nsym ne_o7xx_o9, ni_o7xxx_o9, ob_o1, lt_o1, rr_top_ne rr_o1 hw_wp983, nsym (rr_top_ne rr_o1 hw_wp983), List.length_append, List.map_append]))
              · exact (nd_rs (by first | exact notid_nil | exact notid_rs (by first | omega | (simp only [nxs] <;> omega)) | assumption | exact own_notid (by assumption) (by first | omega | (simp only [go_sem, nxs] <;> omega))))
              · exact (fun _ => by simp)
              simp only [go_sem, s1, rr_len rr_o1, s6, s7, s8, ob_o1, lt_o1, ob_o7, lt_o7, ob_o7x, lt_o7x, ob_o7xx, lt_o7xx, lt_o9, rm_top rm_o1_o5, rm_row rm_o1_o5 hw_wp983, rn_ne0 (rn_o1_o7), nsym (rn_ne0 (rn_o1_o7)), rn_ne (rn_o1_o7) hw_wp983, nsym (rn_ne (rn_o1_o7) hw_wp983), rn_ne0 (rn_o1_o7x), nsym (rn_ne0 (rn_o1_o7x)), rn_ne (rn_o1_o7x) hw_wp983, nsym (rn_ne (rn_o1_o7x) hw_wp983), rn_ne0 (rn_o1_o7xx), nsym (rn_ne0 (rn_o1_o7xx)), rn_ne (rn_o1_o7xx) hw_wp983, nsym (rn_ne (rn_o1_o7xx) hw_wp983), rm_top rm_o1_o7xxx, rm_row rm_o1_o7xxx hw_wp983, rn_ne0 (rn_o1_o9), nsym (rn_ne0 (rn_o1_o9)), rn_ne (rn_o1_o9) hw_wp983, nsym (rn_ne (rn_o1_o9) hw_wp983), ni_o5_o7, ni_o5_o7x, ni_o5_o7xx, ne_o7_o7x, nsym ne_o7_o7x, ne_o7_o7xx, nsym ne_o7_o7xx, ni_o7_o7xxx, ne_o7_o9, nsym ne_o7_o9, ne_o7x_o7xx, nsym ne_o7x_o7xx, ni_o7x_o7xxx, ne_o7x_o9, nsym ne_o7x_o9, ni_o7xx_o7xxx, ne_o7xx_o9, nsym ne_o7xx_o9, ielem_get h_x62, irow_get h_x62, h_x620, h_x621, ielem_get h_x63, irow_get h_x63, h_x630, h_x631, ielem_get hw_wp983, irow_get hw_wp983, own_len os_wp983, ielem_get h_x64, irow_get h_x64, h_x640, h_x641, obr_irp984, ltr_irp984, istr_of v1, istr_of v5, istr_of v5_1, istr_of v7, istr_of v5_2]
              exact hK _ _ ⟨(.rs iqp982 0 (List.length open_)), (nxs (nxs (nxs h.nx))), (nxs h.nx), (by first | (simp only [go_sem, s1, List.length_append, List.map_append]; done) | rfl), s2, s5, s6, s7, s18, s19, s27, s28, (rr_later rr_o1 (by intro j hj  hl; first | rfl | simp only [go_sem, hl, rr_ne hj rn_o1_o7, rr_ne hj rn_o1_o7x, rm_sym rm_o1_o7xxx j hj, rr_ne hj rn_o1_o9, lt_o7, lt_o7x, lt_o9]) (by first | omega | exact Nat.le_refl _ | (simp only [go_sem, nxs] <;> omega))), (own_later ow_o5 (by intro j hj hl; first | rfl | simp only [go_sem, hl, lt_o7, lt_o7x, lt_o9, own_ne hj ni_o5_o7, own_ne hj ni_o5_o7x, di_o5_o7xxx j hj, own_ne hj ni_o5_o9]) (by first | omega | exact Nat.le_refl _ | (simp only [go_sem, nxs] <;> omega))), (by simp only [go_sem, ob_o7, lt_o7, lt_o7x, own_late ow_o7xxx, lt_o9, ne_o7_o7x, nsym ne_o7_o7x, ni_o7_o7xxx, ne_o7_o9, nsym ne_o7_o9, List.length_append, List.map_append]), (by simp only [go_sem, lt_o7]), (by simp only [go_sem, lt_o7, lt_o7x, own_late ow_o7xxx, lt_o9, List.length_append, List.map_append]), (by simp only [go_sem]), (by simp only [go_sem, lt_o7, lt_o7x, ob_o7xx, lt_o7xx, own_late ow_o7xxx, lt_o9, ne_o7_o7xx, nsym ne_o7_o7xx, ne_o7x_o7xx, nsym ne_o7x_o7xx, ni_o7xx_o7xxx, ne_o7xx_o9, nsym ne_o7xx_o9, List.length_append, List.map_append]), (by simp only [go_sem, lt_o7xx]), (by simp only [go_sem, lt_o7, lt_o7x, own_late ow_o7xxx, lt_o9, List.length_append, List.map_append]), (by simp only [go_sem]), rm_o1_o5, rn_o1_o7, (by first | assumption | exact rr_late rr_o1 (by first | assumption | omega | (simp only [nxs] <;> omega))), rn_o1_o7xx, (by first | assumption | exact rr_late rr_o1 (by first | assumption | omega | (simp only [nxs] <;> omega))), ni_o5_o7, (by first | exact notid_nil | exact notid_rs (by first | assumption | omega | (simp only [nxs] <;> omega)) | assumption | exact own_notid (by assumption) (by first | assumption | omega | (simp only [nxs] <;> omega))), ni_o5_o7xx, (by first | exact notid_nil | exact notid_rs (by first | assumption | omega | (simp only [nxs] <;> omega)) | assumption | exact own_notid (by assumption) (by first | assumption | omega | (simp only [nxs] <;> omega))), (by first | first | assumption | omega | (simp only [nxs] <;> omega)), ne_o7_o7xx, (by first | first | assumption | omega | (simp only [nxs] <;> omega)), (by first | first | assumption | omega | (simp only [nxs] <;> omega)), (by first | first | assumption | omega | (simp only [nxs] <;> omega)), (by first | first | assumption | omega | (simp only [nxs] <;> omega)), (by intro j hj; first | exact fr j hj | (refine Eq.trans ?_ (fr j hj); first | rfl | simp only [go_sem, Nat.lt_of_lt_of_le hj fx, ge_ne ge_o7 hj, ge_ne ge_o7x hj, ge_nid ge_o7xxx hj, ge_ne ge_o9 hj])), (by first | exact fx | omega | (simp only [go_sem, nxs] <;> omega)), ge_o5, ge_o7, (by first | assumption | omega | (simp only [nxs] <;> omega)), ge_o7xx, (by first | assumption | omega | (simp only [nxs] <;> omega))⟩
            · try clear s1 s2 s5 s6 s7 s8 s9 s18 s19 s27 s28 rr_o1 ow_o5 ob_o7 lt_o7 ob_o7x lt_o7x ob_o7xx lt_o7xx ow_o7xxx ob_o9 lt_o9 rm_o1_o5 rn_o1_o7 rn_o1_o7x rn_o1_o7xx rm_o1_o7xxx rn_o1_o9 ni_o5_o7 ni_o5_o7x ni_o5_o7xx di_o5_o7xxx ni_o5_o9 ne_o7_o7x ne_o7_o7xx ni_o7_o7xxx ne_o7_o9 ne_o7x_o7xx ni_o7x_o7xxx ne_o7x_o9 ni_o7xx_o7xxx ne_o7xx_o9 ni_o7xxx_o9 fr fx ge_o5 ge_o7 ge_o7x ge_o7xx ge_o7xxx ge_o9 ob_o1 lt_o1
              rintro t h ⟨v1_2, i7_3, i7_4, s1, s2, s5, s6, s7, s18, s19, s27, s28, rr_o1, ow_o5, ob_o7, lt_o7, ob_o7x, lt_o7x, ob_o7xx, lt_o7xx, ob_o7xxx, lt_o7xxx, rm_o1_o5, rn_o1_o7, rn_o1_o7x, rn_o1_o7xx, rn_o1_o7xxx, ni_o5_o7, ni_o5_o7x, ni_o5_o7xx, ni_o5_o7xxx, ne_o7_o7x, ne_o7_o7xx, ne_o7_o7xxx, ne_o7x_o7xx, ne_o7x_o7xxx, ne_o7xx_o7xxx, fr, fx, ge_o5, ge_o7, ge_o7x, ge_o7xx, ge_o7xxx⟩
              simp only [qblock_normal, qseq_normal]
              exact J51 l65 l57 v1_2 v5_2 i7_3 i7_4 _ _ s1 s2 s5 s6 s7 s18 s19 s27 s28 rr_o1 ow_o5 ob_o7 lt_o7 ob_o7x lt_o7x ob_o7xx lt_o7xx ob_o7xxx lt_o7xxx rm_o1_o5 rn_o1_o7 rn_o1_o7x rn_o1_o7xx rn_o1_o7xxx ni_o5_o7 ni_o5_o7x ni_o5_o7xx ni_o5_o7xxx ne_o7_o7x ne_o7_o7xx ne_o7_o7xxx ne_o7x_o7xx ne_o7x_o7xxx ne_o7xx_o7xxx fr fx ge_o5 ge_o7 ge_o7x ge_o7xx ge_o7xxx hm2
          simp only [cw_block]
          obtain ⟨b66, hl66, hm2⟩ := bind_get hm2
          refine cw_loopM hl66 (fun | (row_9, t_10), t, h => ∃ v5_2 : AV, ∃ i9 : Nat, t 1 = v1_1 ∧ t 2 = .fp [.fs 5 (List.map eComb h_.Combs), .fs 3 (List.map eTrain h_.Trains), .fs 3 (List.map eShift h_.Shifts), I h_.Until] 0 ∧ t 5 = v5_2 ∧ t 6 = I x_19 ∧ t 7 = .rp i7 0 0 ∧ t 8 = I x_28 ∧ t 9 = .rs i9 0 (List.length row_9) ∧ t 10 = I t_10 ∧ t 18 = I (List.length h_.Combs : Int) ∧ t 19 = I x_19 ∧ t 27 = I h_.Until ∧ t 28 = I x_28 ∧ RR h v1_1 hs_1 1 eI open_ ∧ OwnS h v5_2 1 (List.map eP_halls_bound all_5) ∧ h.ob i7 = some (4, [[.rs i7_1 0 (List.length b_7_0), .rs i7_2 0 (List.length ([0])), .v (.slice none 0 0), v7]]) ∧ i7 < h.nx ∧ h.ob i7_1 = some (1, List.map eI b_7_0) ∧ i7_1 < h.nx ∧ h.ob i7_2 = some (1, List.map eI ([0])) ∧ i7_2 < h.nx ∧ OwnS h v7 1 (List.map eL_I b_7_3) ∧ h.ob i9 = some (1, List.map eI row_9) ∧ i9 < h.nx ∧ (∀ j, ¬NotId v5_2 j → RNot v1_1 hs_1 j) ∧ RNot v1_1 hs_1 i7 ∧ RNot v1_1 hs_1 i7_1 ∧ RNot v1_1 hs_1 i7_2 ∧ (∀ j, ¬NotId v7 j → RNot v1_1 hs_1 j) ∧ RNot v1_1 hs_1 i9 ∧ NotId v5_2 i7 ∧ NotId v5_2 i7_1 ∧ NotId v5_2 i7_2 ∧ (∀ j, ¬NotId v5_2 j → NotId v7 j) ∧ NotId v5_2 i9 ∧ ¬i7 = i7_1 ∧ ¬i7 = i7_2 ∧ NotId v7 i7 ∧ ¬i7 = i9 ∧ ¬i7_1 = i7_2 ∧ NotId v7 i7_1 ∧ ¬i7_1 = i9 ∧ NotId v7 i7_2 ∧ ¬i7_2 = i9 ∧ NotId v7 i9 ∧ (∀ j, j < h0.nx → h.ob j = h0.ob j) ∧ h0.nx ≤ h.nx ∧ (∀ j, ¬NotId v5_2 j → h0.nx ≤ j) ∧ h0.nx ≤ i7 ∧ h0.nx ≤ i7_1 ∧ h0.nx ≤ i7_2 ∧ (∀ j, ¬NotId v7 j → h0.nx ≤ j) ∧ h0.nx ≤ i9) ?_ ?_
          · exact ⟨v5_1, h.nx, s1, s2, s5, s6, s7, (by first | (simp only [go_sem, List.length_append, List.map_append]; done) | rfl), (by first | (simp only [go_sem, List.length_append, List.map_append]; done) | rfl), (by first | (simp only [go_sem, List.length_append, List.map_append]; done) | rfl), s18, s19, s27, s28, (rr_later rr_o1 (by intro j hj  hl; first | rfl | simp only [go_sem, hl]) (by first | omega | exact Nat.le_refl _ | (simp only [go_sem, nxs] <;> omega))), (own_later ow_o5 (by intro j hj hl; first | rfl | simp only [go_sem, hl]) (by first | omega | exact Nat.le_refl _ | (simp only [go_sem, nxs] <;> omega))), (by simp only [go_sem, ob_o7, lt_o7, List.length_append, List.map_append]), (by simp only [go_sem, lt_o7]), (by simp only [go_sem, ob_o7x, lt_o7x, List.length_append, List.map_append]), (by simp only [go_sem, lt_o7x]), (by simp only [go_sem, ob_o7xx, lt_o7xx, List.length_append, List.map_append]), (by simp only [go_sem, lt_o7xx]), (own_later ow_o7xxx (by intro j hj hl; first | rfl | simp only [go_sem, hl]) (by first | omega | exact Nat.le_refl _ | (simp only [go_sem, nxs] <;> omega))), (by simp only [go_sem, List.length_append, List.map_append]), (by simp only [go_sem]), rm_o1_o5, rn_o1_o7, rn_o1_o7x, rn_o1_o7xx, rm_o1_o7xxx, (by first | assumption | exact rr_late rr_o1 (by first | assumption | omega | (simp only [nxs] <;> omega))), ni_o5_o7, ni_o5_o7x, ni_o5_o7xx, di_o5_o7xxx, (by first | exact notid_nil | exact notid_rs (by first | assumption | omega | (simp only [nxs] <;> omega)) | assumption | exact own_notid (by assumption) (by first | assumption | omega | (simp only [nxs] <;> omega))), ne_o7_o7x, ne_o7_o7xx, ni_o7_o7xxx, (by first | first | assumption | omega | (simp only [nxs] <;> omega)), ne_o7x_o7xx, ni_o7x_o7xxx, (by first | first | assumption | omega | (simp only [nxs] <;> omega)), ni_o7xx_o7xxx, (by first | first | assumption | omega | (simp only [nxs] <;> omega)), (by first | exact notid_nil | exact notid_rs (by first | assumption | omega | (simp only [nxs] <;> omega)) | assumption | exact own_notid (by assumption) (by first | assumption | omega | (simp only [nxs] <;> omega))), (by intro j hj; first | exact fr j hj | (refine Eq.trans ?_ (fr j hj); first | rfl | simp only [go_sem, Nat.lt_of_lt_of_le hj fx])), (by first | exact fx | omega | (simp only [go_sem, nxs] <;> omega)), ge_o5, ge_o7, ge_o7x, ge_o7xx, ge_o7xxx, (by first | assumption | omega | (simp only [nxs] <;> omega))⟩
          · try clear s1 s2 s5 s6 s7 s18 s19 s27 s28 rr_o1 ow_o5 ob_o7 lt_o7 ob_o7x lt_o7x ob_o7xx lt_o7xx ow_o7xxx rm_o1_o5 rn_o1_o7 rn_o1_o7x rn_o1_o7xx rm_o1_o7xxx ni_o5_o7 ni_o5_o7x ni_o5_o7xx di_o5_o7xxx ne_o7_o7x ne_o7_o7xx ni_o7_o7xxx ne_o7x_o7xx ni_o7x_o7xxx ni_o7xx_o7xxx fr fx ge_o5 ge_o7 ge_o7x ge_o7xx ge_o7xxx
            rintro ⟨row_9, t_10⟩ o t h ⟨v5_2, i9, s1, s2, s5, s6, s7, s8, s9, s10, s18, s19, s27, s28, rr_o1, ow_o5, ob_o7, lt_o7, ob_o7x, lt_o7x, ob_o7xx, lt_o7xx, ow_o7xxx, ob_o9, lt_o9, rm_o1_o5, rn_o1_o7, rn_o1_o7x, rn_o1_o7xx, rm_o1_o7xxx, rn_o1_o9, ni_o5_o7, ni_o5_o7x, ni_o5_o7xx, di_o5_o7xxx, ni_o5_o9, ne_o7_o7x, ne_o7_o7xx, ni_o7_o7xxx, ne_o7_o9, ne_o7x_o7xx, ni_o7x_o7xxx, ne_o7x_o9, ni_o7xx_o7xxx, ne_o7xx_o9, ni_o7xxx_o9, fr, fx, ge_o5, ge_o7, ge_o7x, ge_o7xx, ge_o7xxx, ge_o9⟩ hm3 hb66
            simp only [halls_bounds_L21] at hm3
            rw [x_halls_bounds_L21]
            refine cw_assoc ?_
            refine cw_reg_seq fun K hK => ?_
            simp only [go_sem, s2, s10, lt_o7, lt_o7x, lt_o7xx, lt_o9, istr_of v1, istr_of v5, istr_of v1_1, istr_of v5_1, istr_of v7, istr_of v5_2]
            refine hK _ _ ?_
            clear hK K
            refine cw_seq_k fun K67 hK67 => ?_
            simp only [go_sem]
            refine ibr_intro (fun hc68 => ?_) (fun hc68 => ?_)
            · rw [if_t hc68] at hm3
              simp only [cw_skip, qblock_normal, qseq_normal]
              refine hK67 _ _ ?_
              refine cw_seq_k fun K69 hK69 => ?_
              have J70 : ∀ (row_9_1 : List Int) (v5_3 : AV) (t : Slots) (h : Heap), t 1 = v1_1 → t 2 = .fp [.fs 5 (List.map eComb h_.Combs), .fs 3 (List.map eTrain h_.Trains), .fs 3 (List.map eShift h_.Shifts), I h_.Until] 0 → t 5 = v5_3 → t 6 = I x_19 → t 7 = .rp i7 0 0 → t 8 = I x_28 → t 9 = .rs i9 0 (List.length row_9_1) → t 10 = I t_10 → t 18 = I (List.length h_.Combs : Int) → t 19 = I x_19 → t 27 = I h_.Until → t 28 = I x_28 → RR h v1_1 hs_1 1 eI open_ → OwnS h v5_3 1 (List.map eP_halls_bound all_5) → h.ob i7 = some (4, [[.rs i7_1 0 (List.length b_7_0), .rs i7_2 0 (List.length ([0])), .v (.slice none 0 0), v7]]) → i7 < h.nx → h.ob i7_1 = some (1, List.map eI b_7_0) → i7_1 < h.nx → h.ob i7_2 = some (1, List.map eI ([0])) → i7_2 < h.nx → OwnS h v7 1 (List.map eL_I b_7_3) → h.ob i9 = some (1, List.map eI row_9_1) → i9 < h.nx → (∀ j, ¬NotId v5_3 j → RNot v1_1 hs_1 j) → RNot v1_1 hs_1 i7 → RNot v1_1 hs_1 i7_1 → RNot v1_1 hs_1 i7_2 → (∀ j, ¬NotId v7 j → RNot v1_1 hs_1 j) → RNot v1_1 hs_1 i9 → NotId v5_3 i7 → NotId v5_3 i7_1 → NotId v5_3 i7_2 → (∀ j, ¬NotId v5_3 j → NotId v7 j) → NotId v5_3 i9 → ¬i7 = i7_1 → ¬i7 = i7_2 → NotId v7 i7 → ¬i7 = i9 → ¬i7_1 = i7_2 → NotId v7 i7_1 → ¬i7_1 = i9 → NotId v7 i7_2 → ¬i7_2 = i9 → NotId v7 i9 → (∀ j, j < h0.nx → h.ob j = h0.ob j) → h0.nx ≤ h.nx → (∀ j, ¬NotId v5_3 j → h0.nx ≤ j) → h0.nx ≤ i7 → h0.nx ≤ i7_1 → h0.nx ≤ i7_2 → (∀ j, ¬NotId v7 j → h0.nx ≤ j) → h0.nx ≤ i9 → halls_bounds_j70 t_10 row_9_1 = some o → K69 t h := by
                try clear s1 s2 s5 s6 s7 s8 s9 s10 s18 s19 s27 s28 rr_o1 ow_o5 ob_o7 lt_o7 ob_o7x lt_o7x ob_o7xx lt_o7xx ow_o7xxx ob_o9 lt_o9 rm_o1_o5 rn_o1_o7 rn_o1_o7x rn_o1_o7xx rm_o1_o7xxx rn_o1_o9 ni_o5_o7 ni_o5_o7x ni_o5_o7xx di_o5_o7xxx ni_o5_o9 ne_o7_o7x ne_o7_o7xx ni_o7_o7xxx ne_o7_o9 ne_o7x_o7xx ni_o7x_o7xxx ne_o7x_o9 ni_o7xx_o7xxx ne_o7xx_o9 ni_o7xxx_o9 fr fx ge_o5 ge_o7 ge_o7x ge_o7xx ge_o7xxx ge_o9
                intro row_9_1 v5_3 t h s1 s2 s5 s6 s7 s8 s9 s10 s18 s19 s27 s28 rr_o1 ow_o5 ob_o7 lt_o7 ob_o7x lt_o7x ob_o7xx lt_o7xx ow_o7xxx ob_o9 lt_o9 rm_o1_o5 rn_o1_o7 rn_o1_o7x rn_o1_o7xx rm_o1_o7xxx rn_o1_o9 ni_o5_o7 ni_o5_o7x ni_o5_o7xx di_o5_o7xxx ni_o5_o9 ne_o7_o7x ne_o7_o7xx ni_o7_o7xxx ne_o7_o9 ne_o7x_o7xx ni_o7x_o7xxx ne_o7x_o9 ni_o7xx_o7xxx ne_o7xx_o9 ni_o7xxx_o9 fr fx ge_o5 ge_o7 ge_o7x ge_o7xx ge_o7xxx ge_o9 hm3
                refine hK69 _ _ ?_
                unfold halls_bounds_j70 at hm3
                refine cw_reg_k fun K hK => ?_
                simp only [go_sem, s10, lt_o7, lt_o7x, lt_o7xx, lt_o9, istr_of v1, istr_of v5, istr_of v1_1, istr_of v5_1, istr_of v7, istr_of v5_2, istr_of v5_3]
                refine hK _ _ ?_
                clear hK K
                simp only [qblock_normal, qseq_normal]
                obtain rfl := Option.some.inj hm3
                refine ⟨_, rfl, ?_⟩
                exact ⟨v5_3, i9, s1, s2, s5, s6, s7, s8, (by first | exact s9 | simp only [go_sem, s9, List.length_append, List.map_append]), (by first | (simp only [go_sem, s10, List.length_append, List.map_append]; done) | rfl), s18, s19, s27, s28, rr_o1, ow_o5, ob_o7, lt_o7, ob_o7x, lt_o7x, ob_o7xx, lt_o7xx, ow_o7xxx, ob_o9, lt_o9, rm_o1_o5, rn_o1_o7, rn_o1_o7x, rn_o1_o7xx, rm_o1_o7xxx, rn_o1_o9, ni_o5_o7, ni_o5_o7x, ni_o5_o7xx, di_o5_o7xxx, ni_o5_o9, ne_o7_o7x, ne_o7_o7xx, ni_o7_o7xxx, ne_o7_o9, ne_o7x_o7xx, ni_o7x_o7xxx, ne_o7x_o9, ni_o7xx_o7xxx, ne_o7xx_o9, ni_o7xxx_o9, fr, fx, ge_o5, ge_o7, ge_o7x, ge_o7xx, ge_o7xxx, ge_o9⟩
              simp only [cw_block]
              obtain ⟨y73, h_y73, hm3⟩ := bind_get hm3
              obtain ⟨x74, h_x74, hm3⟩ := bind_get hm3
              have h_x740 := get_nn h_x74
              have h_x741 := get_lt h_x74
              refine cw_reg_seq fun K hK => ?_
              simp only [go_sem, s2, s6, s8, s9, s10, ob_o9, lt_o9, lt_o7, lt_o7x, lt_o7xx, ni_o5_o9, ne_o7_o9, nsym ne_o7_o9, ne_o7x_o9, nsym ne_o7x_o9, ne_o7xx_o9, nsym ne_o7xx_o9, ni_o7xxx_o9, ielem_get h_x74, irow_get h_x74, h_x740, h_x741, istr_of v1, istr_of v5, istr_of v1_1, istr_of v5_1, istr_of v7, istr_of v5_2]
              refine icall_fn (k_halls_brought h_ x_19 x_28 t_10 _ h_y73) ?_
              simp only [go_sem, s2, s6, s8, s9, s10, ob_o9, lt_o9, lt_o7, lt_o7x, lt_o7xx, ni_o5_o9, ne_o7_o9, nsym ne_o7_o9, ne_o7x_o9, nsym ne_o7x_o9, ne_o7xx_o9, nsym ne_o7xx_o9, ni_o7xxx_o9, ielem_get h_x74, irow_get h_x74, h_x740, h_x741, istr_of v1, istr_of v5, istr_of v1_1, istr_of v5_1, istr_of v7, istr_of v5_2]
              refine hK _ _ ?_
              clear hK K
              obtain ⟨l76, h_l76, hm3⟩ := bind_get hm3
              refine cw_reg_seq fun K hK => ?_
              simp only [go_sem, s2, s6, lt_o7, lt_o7x, lt_o7xx, lt_o9, istr_of v1, istr_of v5, istr_of v1_1, istr_of v5_1, istr_of v7, istr_of v5_2]
              refine islc_fs (f := eComb) (l := h_.Combs) (lo := none) (hi := some x_19) h_l76 ?_
              simp only [go_sem, s2, s6, lt_o7, lt_o7x, lt_o7xx, lt_o9, istr_of v1, istr_of v5, istr_of v1_1, istr_of v5_1, istr_of v7, istr_of v5_2]
              refine hK _ _ ?_
              clear hK K
              simp only [cw_block]
              obtain ⟨b77, hl77, hm3⟩ := bind_get hm3
              refine cw_loopM hl77 (fun | (row_9_1, x_54), t, h => ∃ v5_3 : AV, t 1 = v1_1 ∧ t 2 = .fp [.fs 5 (List.map eComb h_.Combs), .fs 3 (List.map eTrain h_.Trains), .fs 3 (List.map eShift h_.Shifts), I h_.Until] 0 ∧ t 5 = v5_3 ∧ t 6 = I x_19 ∧ t 7 = .rp i7 0 0 ∧ t 8 = I x_28 ∧ t 9 = .rs i9 0 (List.length row_9_1) ∧ t 10 = I t_10 ∧ t 18 = I (List.length h_.Combs : Int) ∧ t 19 = I x_19 ∧ t 27 = I h_.Until ∧ t 28 = I x_28 ∧ t 52 = .fs 5 (List.map eComb l76) ∧ t 53 = I (List.length l76 : Int) ∧ t 54 = I x_54 ∧ RR h v1_1 hs_1 1 eI open_ ∧ OwnS h v5_3 1 (List.map eP_halls_bound all_5) ∧ h.ob i7 = some (4, [[.rs i7_1 0 (List.length b_7_0), .rs i7_2 0 (List.length ([0])), .v (.slice none 0 0), v7]]) ∧ i7 < h.nx ∧ h.ob i7_1 = some (1, List.map eI b_7_0) ∧ i7_1 < h.nx ∧ h.ob i7_2 = some (1, List.map eI ([0])) ∧ i7_2 < h.nx ∧ OwnS h v7 1 (List.map eL_I b_7_3) ∧ h.ob i9 = some (1, List.map eI row_9_1) ∧ i9 < h.nx ∧ (∀ j, ¬NotId v5_3 j → RNot v1_1 hs_1 j) ∧ RNot v1_1 hs_1 i7 ∧ RNot v1_1 hs_1 i7_1 ∧ RNot v1_1 hs_1 i7_2 ∧ (∀ j, ¬NotId v7 j → RNot v1_1 hs_1 j) ∧ RNot v1_1 hs_1 i9 ∧ NotId v5_3 i7 ∧ NotId v5_3 i7_1 ∧ NotId v5_3 i7_2 ∧ (∀ j, ¬NotId v5_3 j → NotId v7 j) ∧ NotId v5_3 i9 ∧ ¬i7 = i7_1 ∧ ¬i7 = i7_2 ∧ NotId v7 i7 ∧ ¬i7 = i9 ∧ ¬i7_1 = i7_2 ∧ NotId v7 i7_1 ∧ ¬i7_1 = i9 ∧ NotId v7 i7_2 ∧ ¬i7_2 = i9 ∧ NotId v7 i9 ∧ (∀ j, j < h0.nx → h.ob j = h0.ob j) ∧ h0.nx ≤ h.nx ∧ (∀ j, ¬NotId v5_3 j → h0.nx ≤ j) ∧ h0.nx ≤ i7 ∧ h0.nx ≤ i7_1 ∧ h0.nx ≤ i7_2 ∧ (∀ j, ¬NotId v7 j → h0.nx ≤ j) ∧ h0.nx ≤ i9) ?_ ?_
              · exact ⟨v5_2, s1, s2, s5, s6, s7, s8, (by first | exact s9 | simp only [go_sem, s9, List.length_append, List.map_append]), s10, s18, s19, s27, s28, (by first | (simp only [go_sem, List.length_append, List.map_append]; done) | rfl), (by first | (simp only [go_sem, List.length_append, List.map_append]; done) | rfl), (by first | (simp only [go_sem, List.length_append, List.map_append]; done) | rfl), (rr_later rr_o1 (by intro j hj  hl; first | rfl | simp only [go_sem, hl, rr_ne hj rn_o1_o9, lt_o9]) (by first | omega | exact Nat.le_refl _ | (simp only [go_sem, nxs] <;> omega))), (own_later ow_o5 (by intro j hj hl; first | rfl | simp only [go_sem, hl, lt_o9, own_ne hj ni_o5_o9]) (by first | omega | exact Nat.le_refl _ | (simp only [go_sem, nxs] <;> omega))), (by simp only [go_sem, ob_o7, lt_o7, lt_o9, ne_o7_o9, nsym ne_o7_o9, List.length_append, List.map_append]), (by simp only [go_sem, lt_o7]), (by simp only [go_sem, ob_o7x, lt_o7x, lt_o9, ne_o7x_o9, nsym ne_o7x_o9, List.length_append, List.map_append]), (by simp only [go_sem, lt_o7x]), (by simp only [go_sem, ob_o7xx, lt_o7xx, lt_o9, ne_o7xx_o9, nsym ne_o7xx_o9, List.length_append, List.map_append]), (by simp only [go_sem, lt_o7xx]), (own_later ow_o7xxx (by intro j hj hl; first | rfl | simp only [go_sem, hl, lt_o9, own_ne hj ni_o7xxx_o9]) (by first | omega | exact Nat.le_refl _ | (simp only [go_sem, nxs] <;> omega))), (by simp only [go_sem, ob_o9, lt_o9, List.length_append, List.map_append]), (by simp only [go_sem, lt_o9]), rm_o1_o5, rn_o1_o7, rn_o1_o7x, rn_o1_o7xx, rm_o1_o7xxx, rn_o1_o9, ni_o5_o7, ni_o5_o7x, ni_o5_o7xx, di_o5_o7xxx, ni_o5_o9, ne_o7_o7x, ne_o7_o7xx, ni_o7_o7xxx, ne_o7_o9, ne_o7x_o7xx, ni_o7x_o7xxx, ne_o7x_o9, ni_o7xx_o7xxx, ne_o7xx_o9, ni_o7xxx_o9, (by intro j hj; first | exact fr j hj | (refine Eq.trans ?_ (fr j hj); first | rfl | simp only [go_sem, Nat.lt_of_lt_of_le hj fx, ge_ne ge_o9 hj])), (by first | exact fx | omega | (simp only [go_sem, nxs] <;> omega)), ge_o5, ge_o7, ge_o7x, ge_o7xx, ge_o7xxx, ge_o9⟩
              · try clear s1 s2 s5 s6 s7 s8 s9 s10 s18 s19 s27 s28 rr_o1 ow_o5 ob_o7 lt_o7 ob_o7x lt_o7x ob_o7xx lt_o7xx ow_o7xxx ob_o9 lt_o9 rm_o1_o5 rn_o1_o7 rn_o1_o7x rn_o1_o7xx rm_o1_o7xxx rn_o1_o9 ni_o5_o7 ni_o5_o7x ni_o5_o7xx di_o5_o7xxx ni_o5_o9 ne_o7_o7x ne_o7_o7xx ni_o7_o7xxx ne_o7_o9 ne_o7x_o7xx ni_o7x_o7xxx ne_o7x_o9 ni_o7xx_o7xxx ne_o7xx_o9 ni_o7xxx_o9 fr fx ge_o5 ge_o7 ge_o7x ge_o7xx ge_o7xxx ge_o9
                rintro ⟨row_9_1, x_54⟩ o t h ⟨v5_3, s1, s2, s5, s6, s7, s8, s9, s10, s18, s19, s27, s28, s52, s53, s54, rr_o1, ow_o5, ob_o7, lt_o7, ob_o7x, lt_o7x, ob_o7xx, lt_o7xx, ow_o7xxx, ob_o9, lt_o9, rm_o1_o5, rn_o1_o7, rn_o1_o7x, rn_o1_o7xx, rm_o1_o7xxx, rn_o1_o9, ni_o5_o7, ni_o5_o7x, ni_o5_o7xx, di_o5_o7xxx, ni_o5_o9, ne_o7_o7x, ne_o7_o7xx, ni_o7_o7xxx, ne_o7_o9, ne_o7x_o7xx, ni_o7x_o7xxx, ne_o7x_o9, ni_o7xx_o7xxx, ne_o7xx_o9, ni_o7xxx_o9, fr, fx, ge_o5, ge_o7, ge_o7x, ge_o7xx, ge_o7xxx, ge_o9⟩ hm4 hb77
                simp only [halls_bounds_L19] at hm4
                rw [x_halls_bounds_L19]
                refine cw_reg_seq fun K hK => ?_
                simp only [go_sem, s53, s54, lt_o7, lt_o7x, lt_o7xx, lt_o9, istr_of v1, istr_of v5, istr_of v1_1, istr_of v5_1, istr_of v7, istr_of v5_2, istr_of v5_3]
                refine hK _ _ ?_
                clear hK K
                refine cw_seq_k fun K78 hK78 => ?_
                simp only [go_sem]
                refine ibr_intro (fun hc79 => ?_) (fun hc79 => ?_)
                · rw [if_t hc79] at hm4
                  simp only [cw_skip, qblock_normal, qseq_normal]
                  refine hK78 _ _ ?_
                  refine cw_seq_k fun K80 hK80 => ?_
                  have J81 : ∀ (row_9_2 : List Int) (v5_4 : AV) (t : Slots) (h : Heap), t 1 = v1_1 → t 2 = .fp [.fs 5 (List.map eComb h_.Combs), .fs 3 (List.map eTrain h_.Trains), .fs 3 (List.map eShift h_.Shifts), I h_.Until] 0 → t 5 = v5_4 → t 6 = I x_19 → t 7 = .rp i7 0 0 → t 8 = I x_28 → t 9 = .rs i9 0 (List.length row_9_2) → t 10 = I t_10 → t 18 = I (List.length h_.Combs : Int) → t 19 = I x_19 → t 27 = I h_.Until → t 28 = I x_28 → t 52 = .fs 5 (List.map eComb l76) → t 53 = I (List.length l76 : Int) → t 54 = I x_54 → RR h v1_1 hs_1 1 eI open_ → OwnS h v5_4 1 (List.map eP_halls_bound all_5) → h.ob i7 = some (4, [[.rs i7_1 0 (List.length b_7_0), .rs i7_2 0 (List.length ([0])), .v (.slice none 0 0), v7]]) → i7 < h.nx → h.ob i7_1 = some (1, List.map eI b_7_0) → i7_1 < h.nx → h.ob i7_2 = some (1, List.map eI ([0])) → i7_2 < h.nx → OwnS h v7 1 (List.map eL_I b_7_3) → h.ob i9 = some (1, List.map eI row_9_2) → i9 < h.nx → (∀ j, ¬NotId v5_4 j → RNot v1_1 hs_1 j) → RNot v1_1 hs_1 i7 → RNot v1_1 hs_1 i7_1 → RNot v1_1 hs_1 i7_2 → (∀ j, ¬NotId v7 j → RNot v1_1 hs_1 j) → RNot v1_1 hs_1 i9 → NotId v5_4 i7 → NotId v5_4 i7_1 → NotId v5_4 i7_2 → (∀ j, ¬NotId v5_4 j → NotId v7 j) → NotId v5_4 i9 → ¬i7 = i7_1 → ¬i7 = i7_2 → NotId v7 i7 → ¬i7 = i9 → ¬i7_1 = i7_2 → NotId v7 i7_1 → ¬i7_1 = i9 → NotId v7 i7_2 → ¬i7_2 = i9 → NotId v7 i9 → (∀ j, j < h0.nx → h.ob j = h0.ob j) → h0.nx ≤ h.nx → (∀ j, ¬NotId v5_4 j → h0.nx ≤ j) → h0.nx ≤ i7 → h0.nx ≤ i7_1 → h0.nx ≤ i7_2 → (∀ j, ¬NotId v7 j → h0.nx ≤ j) → h0.nx ≤ i9 → halls_bounds_j81 x_54 row_9_2 = some o → K80 t h := by
                    try clear s1 s2 s5 s6 s7 s8 s9 s10 s18 s19 s27 s28 s52 s53 s54 rr_o1 ow_o5 ob_o7 lt_o7 ob_o7x lt_o7x ob_o7xx lt_o7xx ow_o7xxx ob_o9 lt_o9 rm_o1_o5 rn_o1_o7 rn_o1_o7x rn_o1_o7xx rm_o1_o7xxx rn_o1_o9 ni_o5_o7 ni_o5_o7x ni_o5_o7xx di_o5_o7xxx ni_o5_o9 ne_o7_o7x ne_o7_o7xx ni_o7_o7xxx ne_o7_o9 ne_o7x_o7xx ni_o7x_o7xxx ne_o7x_o9 ni_o7xx_o7xxx ne_o7xx_o9 ni_o7xxx_o9 fr fx ge_o5 ge_o7 ge_o7x ge_o7xx ge_o7xxx ge_o9
                    intro row_9_2 v5_4 t h s1 s2 s5 s6 s7 s8 s9 s10 s18 s19 s27 s28 s52 s53 s54 rr_o1 ow_o5 ob_o7 lt_o7 ob_o7x lt_o7x ob_o7xx lt_o7xx ow_o7xxx ob_o9 lt_o9 rm_o1_o5 rn_o1_o7 rn_o1_o7x rn_o1_o7xx rm_o1_o7xxx rn_o1_o9 ni_o5_o7 ni_o5_o7x ni_o5_o7xx di_o5_o7xxx ni_o5_o9 ne_o7_o7x ne_o7_o7xx ni_o7_o7xxx ne_o7_o9 ne_o7x_o7xx ni_o7x_o7xxx ne_o7x_o9 ni_o7xx_o7xxx ne_o7xx_o9 ni_o7xxx_o9 fr fx ge_o5 ge_o7 ge_o7x ge_o7xx ge_o7xxx ge_o9 hm4
                    refine hK80 _ _ ?_
                    unfold halls_bounds_j81 at hm4
                    refine cw_reg_k fun K hK => ?_
                    simp only [go_sem, s54, lt_o7, lt_o7x, lt_o7xx, lt_o9, istr_of v1, istr_of v5, istr_of v1_1, istr_of v5_1, istr_of v7, istr_of v5_2, istr_of v5_3, istr_of v5_4]
                    refine hK _ _ ?_
                    clear hK K
                    simp only [qblock_normal, qseq_normal]
                    obtain rfl := Option.some.inj hm4
                    refine ⟨_, rfl, ?_⟩
                    exact ⟨v5_4, s1, s2, s5, s6, s7, s8, (by first | exact s9 | simp only [go_sem, s9, List.length_append, List.map_append]), s10, s18, s19, s27, s28, s52, s53, (by first | (simp only [go_sem, s54, List.length_append, List.map_append]; done) | rfl), rr_o1, ow_o5, ob_o7, lt_o7, ob_o7x, lt_o7x, ob_o7xx, lt_o7xx, ow_o7xxx, ob_o9, lt_o9, rm_o1_o5, rn_o1_o7, rn_o1_o7x, rn_o1_o7xx, rm_o1_o7xxx, rn_o1_o9, ni_o5_o7, ni_o5_o7x, ni_o5_o7xx, di_o5_o7xxx, ni_o5_o9, ne_o7_o7x, ne_o7_o7xx, ni_o7_o7xxx, ne_o7_o9, ne_o7x_o7xx, ni_o7x_o7xxx, ne_o7x_o9, ni_o7xx_o7xxx, ne_o7xx_o9, ni_o7xxx_o9, fr, fx, ge_o5, ge_o7, ge_o7x, ge_o7xx, ge_o7xxx, ge_o9⟩
                  simp only [cw_block]
                  obtain ⟨x83, h_x83, hm4⟩ := bind_get hm4
                  have h_x830 := get_nn h_x83
                  have h_x831 := get_lt h_x83
                  refine cw_reg_seq fun K hK => ?_
                  simp only [go_sem, s52, s54, lt_o7, lt_o7x, lt_o7xx, lt_o9, ielem_get h_x83, irow_get h_x83, h_x830, h_x831, istr_of v1, istr_of v5, istr_of v1_1, istr_of v5_1, istr_of v7, istr_of v5_2, istr_of v5_3]
                  refine hK _ _ ?_
                  clear hK K
                  refine cw_reg_seq fun K hK => ?_
                  simp only [go_sem, s6, lt_o7, lt_o7x, lt_o7xx, lt_o9, istr_of v1, istr_of v5, istr_of v1_1, istr_of v5_1, istr_of v7, istr_of v5_2, istr_of v5_3]
                  refine hK _ _ ?_
                  clear hK K
                  simp only [go_sem]
                  refine ibr_intro (fun hc84 => ?_) (fun hc84 => ?_)
                  · rw [if_t hc84] at hm4
                    obtain ⟨x89, h_x89, hm4⟩ := bind_get hm4
                    have h_x890 := get_nn h_x89
                    have h_x891 := get_lt h_x89
                    obtain ⟨x90, h_x90, hm4⟩ := bind_get hm4
                    have h_x900 := get_nn h_x90
                    have h_x901 := get_lt h_x90
                    obtain ⟨iq91, rfl, ob_o5, lt_o5⟩ := own_get ow_o5 h_x90
                    obtain ⟨y92, h_y92, hm4⟩ := bind_get hm4
                    refine cw_reg_k fun K hK => ?_
                    simp only [go_sem, s5, s8, s9, s10, ob_o5, lt_o5, ob_o9, lt_o9, lt_o7, lt_o7x, lt_o7xx, ni_o5_o7, ni_o5_o7x, ni_o5_o7xx, ni_o5_o9, ne_o7_o9, nsym ne_o7_o9, ne_o7x_o9, nsym ne_o7x_o9, ne_o7xx_o9, nsym ne_o7xx_o9, ni_o7xxx_o9, ielem_get h_x89, irow_get h_x89, h_x890, h_x891, ielem_get h_x90, irow_get h_x90, h_x900, h_x901, istr_of v1, istr_of v5, istr_of v1_1, istr_of v5_1, istr_of v7, istr_of v5_2]
                    refine icall_fn (k___halls_bound__passes x90 (wr (x_28 - x83.Walk.High)) (wr (t_10 - x83.Walk.Low)) _ h_y92) ?_
                    simp only [go_sem, s5, s8, s9, s10, ob_o5, lt_o5, ob_o9, lt_o9, lt_o7, lt_o7x, lt_o7xx, ni_o5_o7, ni_o5_o7x, ni_o5_o7xx, ni_o5_o9, ne_o7_o9, nsym ne_o7_o9, ne_o7x_o9, nsym ne_o7x_o9, ne_o7xx_o9, nsym ne_o7xx_o9, ni_o7xxx_o9, ielem_get h_x89, irow_get h_x89, h_x890, h_x891, ielem_get h_x90, irow_get h_x90, h_x900, h_x901, istr_of v1, istr_of v5, istr_of v1_1, istr_of v5_1, istr_of v7, istr_of v5_2]
                    refine hK _ _ ?_
                    clear hK K
                    simp only [qblock_normal, qseq_normal]
                    exact J81 (List.set row_9_1 (Int.toNat t_10) (wr (x89 + y92))) (.rs iq91 0 (List.length all_5)) _ _ s1 s2 (by first | (simp only [go_sem, s5, List.length_append, List.map_append]; done) | rfl) s6 s7 s8 (by first | exact s9 | simp only [go_sem, s9, List.length_append, List.map_append]) s10 s18 s19 s27 s28 s52 s53 s54 (rr_later rr_o1 (by intro j hj  hl; first | rfl | simp only [go_sem, hl, rr_ne hj rn_o1_o9, lt_o9]) (by first | omega | exact Nat.le_refl _ | (simp only [go_sem, nxs] <;> omega))) (own_rs (by simp only [go_sem, lt_o9, ni_o5_o9, notid_ne ni_o5_o9, nsym (notid_ne ni_o5_o9), ob_o5, lt_o5, List.length_append, List.map_append]) (by first | rfl | simp only [go_sem, List.length_append, List.map_append]) (by simp only [go_sem, lt_o5])) (by simp only [go_sem, ob_o7, lt_o7, lt_o9, ne_o7_o9, nsym ne_o7_o9, List.length_append, List.map_append]) (by simp only [go_sem, lt_o7]) (by simp only [go_sem, ob_o7x, lt_o7x, lt_o9, ne_o7x_o9, nsym ne_o7x_o9, List.length_append, List.map_append]) (by simp only [go_sem, lt_o7x]) (by simp only [go_sem, ob_o7xx, lt_o7xx, lt_o9, ne_o7xx_o9, nsym ne_o7xx_o9, List.length_append, List.map_append]) (by simp only [go_sem, lt_o7xx]) (own_later ow_o7xxx (by intro j hj hl; first | rfl | simp only [go_sem, hl, lt_o9, own_ne hj ni_o7xxx_o9]) (by first | omega | exact Nat.le_refl _ | (simp only [go_sem, nxs] <;> omega))) (by simp only [go_sem, ob_o9, lt_o9, List.length_append, List.map_append]) (by simp only [go_sem, lt_o9]) rm_o1_o5 rn_o1_o7 rn_o1_o7x rn_o1_o7xx rm_o1_o7xxx rn_o1_o9 ni_o5_o7 ni_o5_o7x ni_o5_o7xx di_o5_o7xxx ni_o5_o9 ne_o7_o7x ne_o7_o7xx ni_o7_o7xxx ne_o7_o9 ne_o7x_o7xx ni_o7x_o7xxx ne_o7x_o9 ni_o7xx_o7xxx ne_o7xx_o9 ni_o7xxx_o9 (by intro j hj; first | exact fr j hj | (refine Eq.trans ?_ (fr j hj); first | rfl | simp only [go_sem, Nat.lt_of_lt_of_le hj fx, ge_ne ge_o9 hj])) (by first | exact fx | omega | (simp only [go_sem, nxs] <;> omega)) ge_o5 ge_o7 ge_o7x ge_o7xx ge_o7xxx ge_o9 hm4
                  · rw [if_f hc84] at hm4
                    simp only [cw_skip, qblock_normal, qseq_normal]
                    exact J81 row_9_1 v5_3 _ _ s1 s2 s5 s6 s7 s8 (by first | exact s9 | simp only [go_sem, s9, List.length_append, List.map_append]) s10 s18 s19 s27 s28 s52 s53 s54 (rr_later rr_o1 (by intro j hj  hl; first | rfl | simp only [go_sem, hl]) (by first | omega | exact Nat.le_refl _ | (simp only [go_sem, nxs] <;> omega))) (own_later ow_o5 (by intro j hj hl; first | rfl | simp only [go_sem, hl]) (by first | omega | exact Nat.le_refl _ | (simp only [go_sem, nxs] <;> omega))) (by simp only [go_sem, ob_o7, lt_o7, List.length_append, List.map_append]) (by simp only [go_sem, lt_o7]) (by simp only [go_sem, ob_o7x, lt_o7x, List.length_append, List.map_append]) (by simp only [go_sem, lt_o7x]) (by simp only [go_sem, ob_o7xx, lt_o7xx, List.length_append, List.map_append]) (by simp only [go_sem, lt_o7xx]) (own_later ow_o7xxx (by intro j hj hl; first | rfl | simp only [go_sem, hl]) (by first | omega | exact Nat.le_refl _ | (simp only [go_sem, nxs] <;> omega))) (by simp only [go_sem, ob_o9, lt_o9, List.length_append, List.map_append]) (by simp only [go_sem, lt_o9]) rm_o1_o5 rn_o1_o7 rn_o1_o7x rn_o1_o7xx rm_o1_o7xxx rn_o1_o9 ni_o5_o7 ni_o5_o7x ni_o5_o7xx di_o5_o7xxx ni_o5_o9 ne_o7_o7x ne_o7_o7xx ni_o7_o7xxx ne_o7_o9 ne_o7x_o7xx ni_o7x_o7xxx ne_o7x_o9 ni_o7xx_o7xxx ne_o7xx_o9 ni_o7xxx_o9 (by intro j hj; first | exact fr j hj | (refine Eq.trans ?_ (fr j hj); first | rfl | simp only [go_sem, Nat.lt_of_lt_of_le hj fx])) (by first | exact fx | omega | (simp only [go_sem, nxs] <;> omega)) ge_o5 ge_o7 ge_o7x ge_o7xx ge_o7xxx ge_o9 hm4
                · rw [if_f hc79] at hm4
                  simp only [cw_exit, qseq_exit, qblock_same, qblock_ne, qblock_normal, qseq_normal, Nat.reduceEqDiff, not_false_eq_true]
                  obtain rfl := Option.some.inj hm4
                  obtain rfl := hb77 _ rfl
                  try dsimp only at hm3
                  exact J70 row_9_1 v5_3 _ _ s1 s2 s5 s6 s7 s8 (by first | exact s9 | simp only [go_sem, s9, List.length_append, List.map_append]) s10 s18 s19 s27 s28 rr_o1 ow_o5 ob_o7 lt_o7 ob_o7x lt_o7x ob_o7xx lt_o7xx ow_o7xxx ob_o9 lt_o9 rm_o1_o5 rn_o1_o7 rn_o1_o7x rn_o1_o7xx rm_o1_o7xxx rn_o1_o9 ni_o5_o7 ni_o5_o7x ni_o5_o7xx di_o5_o7xxx ni_o5_o9 ne_o7_o7x ne_o7_o7xx ni_o7_o7xxx ne_o7_o9 ne_o7x_o7xx ni_o7x_o7xxx ne_o7x_o9 ni_o7xx_o7xxx ne_o7xx_o9 ni_o7xxx_o9 fr fx ge_o5 ge_o7 ge_o7x ge_o7xx ge_o7xxx ge_o9 hm3
            · rw [if_f hc68] at hm3
              simp only [cw_exit, qseq_exit, qblock_same, qblock_ne, qblock_normal, qseq_normal, Nat.reduceEqDiff, not_false_eq_true]
              obtain rfl := Option.some.inj hm3
              obtain rfl := hb66 _ rfl
              try dsimp only at hm2
              exact J55 row_9 v5_2 i9 _ _ s1 s2 s5 s6 s7 s8 (by first | exact s9 | simp only [go_sem, s9, List.length_append, List.map_append]) s18 s19 s27 s28 rr_o1 ow_o5 ob_o7 lt_o7 ob_o7x lt_o7x ob_o7xx lt_o7xx ow_o7xxx ob_o9 lt_o9 rm_o1_o5 rn_o1_o7 rn_o1_o7x rn_o1_o7xx rm_o1_o7xxx rn_o1_o9 ni_o5_o7 ni_o5_o7x ni_o5_o7xx di_o5_o7xxx ni_o5_o9 ne_o7_o7x ne_o7_o7xx ni_o7_o7xxx ne_o7_o9 ne_o7x_o7xx ni_o7x_o7xxx ne_o7x_o9 ni_o7xx_o7xxx ne_o7xx_o9 ni_o7xxx_o9 fr fx ge_o5 ge_o7 ge_o7x ge_o7xx ge_o7xxx ge_o9 hm2
        · rw [if_f hc49] at hm2
          simp only [cw_exit, qseq_exit, qblock_same, qblock_ne, qblock_normal, qseq_normal, Nat.reduceEqDiff, not_false_eq_true]
          obtain rfl := Option.some.inj hm2
          obtain rfl := hb47 _ rfl
          try dsimp only at hm1
          exact J9 b_7_0 b_7_3 v1_1 v5_1 i7 i7_1 i7_2 v7 _ _ s1 s2 s5 s6 s7 s18 s19 rr_o1 ow_o5 ob_o7 lt_o7 ob_o7x lt_o7x ob_o7xx lt_o7xx ow_o7xxx rm_o1_o5 rn_o1_o7 rn_o1_o7x rn_o1_o7xx rm_o1_o7xxx ni_o5_o7 ni_o5_o7x ni_o5_o7xx di_o5_o7xxx ne_o7_o7x ne_o7_o7xx ni_o7_o7xxx ne_o7x_o7xx ni_o7x_o7xxx ni_o7xx_o7xxx fr fx ge_o5 ge_o7 ge_o7x ge_o7xx ge_o7xxx hm1
    · rw [if_f hc5] at hm1
      simp only [cw_exit, qseq_exit, qblock_same, qblock_ne, qblock_normal, qseq_normal, Nat.reduceEqDiff, not_false_eq_true]
      obtain rfl := Option.some.inj hm1
      obtain rfl := hb3 _ rfl
      try dsimp only at hm0
      exact J2 all_5 v5 _ _ s5 ow_o5 fr fx ge_o5 hm0

end Go.Nw.HM

namespace Go.Nw.HM
open Go.Nw.Halls
set_option linter.unusedSimpArgs false
set_option linter.unusedVariables false
set_option maxHeartbeats 4000000
variable {O : Orac}

theorem k_r06_At (hf : Has O "newel/newelref06.At" x_r06_At) : C_r06_At O := by
  intro h_ c rate r hm0
  unfold r06_At at hm0
  refine fn_cw hf rfl (fz_cons (.agg _ (fz_cons (frz_fs fun a _ => fz_eComb a) (fz_cons (frz_fs fun a _ => fz_eTrain a) (fz_cons (frz_fs fun a _ => fz_eShift a) (fz_cons (frz_v _) fz_nil))))) (fz_cons (frz_v _) (fz_cons (frz_v _) fz_nil))) (.agg _ (fz_cons (frz_fs fun a _ => fz_eComb a) (fz_cons (frz_fs fun a _ => fz_eTrain a) (fz_cons (frz_fs fun a _ => fz_eShift a) (fz_cons (frz_v _) fz_nil))))) ?_
  refine cw_start (fun t h => t 0 = .agg [.fs 5 (List.map eComb h_.Combs), .fs 3 (List.map eTrain h_.Trains), .fs 3 (List.map eShift h_.Shifts), I h_.Until] ∧ t 1 = I c ∧ t 2 = I rate) ⟨rfl, rfl, rfl⟩ fun t h ⟨s0, s1, s2⟩ => ?_
  simp only [x_r06_At]
  refine cw_reg_seq fun K hK => ?_
  simp only [go_sem, s0]
  refine hK _ _ ?_
  clear hK K
  refine cw_reg_seq fun K hK => ?_
  simp only [go_sem]
  refine hK _ _ ?_
  clear hK K
  obtain ⟨l2, h_l2, hm0⟩ := bind_get hm0
  refine cw_reg_seq fun K hK => ?_
  simp only [go_sem]
  refine iapp_own (f := eComb) (l := ([])) (m := h_.Combs) ?_ ?_ ?_ ?_ h_l2 ?_
  · exact (own_rs (by simp only [go_sem, List.length_append, List.map_append]) (by simp only [go_sem, List.length_append, List.map_append]) (by simp only [go_sem]))
  · exact ownx_fs
  · exact nd_fs
  · exact (fun e => by cases e)
  simp only [go_sem]
  refine hK _ _ ?_
  clear hK K
  obtain ⟨x4, h_x4, hm0⟩ := bind_get hm0
  have h_x40 := get_nn h_x4
  have h_x41 := get_lt h_x4
  refine cw_reg_seq fun K hK => ?_
  simp only [go_sem, s1, s2, ielem_get h_x4, irow_get h_x4, h_x40, h_x41]
  refine hK _ _ ?_
  clear hK K
  refine cw_reg_seq fun K hK => ?_
  simp only [go_sem]
  refine hK _ _ ?_
  clear hK K
  refine cw_assoc ?_
  refine cw_reg_seq fun K hK => ?_
  simp only [go_sem]
  refine hK _ _ ?_
  clear hK K
  refine cw_seq_k fun K5 hK5 => ?_
  have J6 : ∀ (q_7_2 : List Shift) (i6 : Nat) (i7 : Nat) (i7_1 : Nat) (v7 : AV) (t : Slots) (h : Heap), t 6 = .rp i6 0 0 → t 7 = .rp i7 0 0 → h.ob i6 = some (4, [[.v (.slice none 0 0), .v (.slice none 0 0), .v (.slice none 0 0), I 0]]) → i6 < h.nx → h.ob i7 = some (4, [[.rs i7_1 0 (List.length (List.set l2 (Int.toNat c) (Comb.mk rate x4.Limit x4.Next x4.Walk))), .fs 3 (List.map eTrain h_.Trains), v7, I h_.Until]]) → i7 < h.nx → h.ob i7_1 = some (5, List.map eComb (List.set l2 (Int.toNat c) (Comb.mk rate x4.Limit x4.Next x4.Walk))) → i7_1 < h.nx → OwnS h v7 3 (List.map eShift q_7_2) → ¬i6 = i7 → ¬i6 = i7_1 → NotId v7 i6 → ¬i7 = i7_1 → NotId v7 i7 → NotId v7 i7_1 → r06_At_j6 h_ c rate l2 x4 q_7_2 = some r → K5 t h := by
    intro q_7_2 i6 i7 i7_1 v7 t h s6 s7 ob_o6 lt_o6 ob_o7 lt_o7 ob_o7x lt_o7x ow_o7xx ne_o6_o7 ne_o6_o7x ni_o6_o7xx ne_o7_o7x ni_o7_o7xx ni_o7x_o7xx hm0
    refine hK5 _ _ ?_
    unfold r06_At_j6 at hm0
    refine cw_reg_seq fun K hK => ?_
    simp only [go_sem, s6, s7, ob_o6, lt_o6, ob_o7, lt_o7, ob_o7x, lt_o7x, ne_o6_o7, nsym ne_o6_o7, ne_o6_o7x, nsym ne_o6_o7x, ni_o6_o7xx, ne_o7_o7x, nsym ne_o7_o7x, ni_o7_o7xx, ni_o7x_o7xx, istr_of v7]
    refine hK _ _ ?_
    clear hK K
    simp only [cw_ret, qseq_ret, qblock_ret, retQ_ret]
    obtain rfl := Option.some.inj hm0
    exact done_cell (id := i6) (m := 4) (cs := [.rs i7_1 0 (List.length (List.set l2 (Int.toNat c) (Comb.mk rate x4.Limit x4.Next x4.Walk))), .fs 3 (List.map eTrain h_.Trains), v7, I h_.Until]) (by simp only [go_sem, s6, ob_o6, lt_o6, ob_o7, lt_o7, ob_o7x, lt_o7x, own_late ow_o7xx, ne_o6_o7, nsym ne_o6_o7, ne_o6_o7x, nsym ne_o6_o7x, ni_o6_o7xx, ne_o7_o7x, nsym ne_o7_o7x, ni_o7_o7xx, ni_o7x_o7xx, List.length_append, List.map_append]) (by simp only [go_sem, s6, ob_o6, lt_o6, ob_o7, lt_o7, ob_o7x, lt_o7x, own_late ow_o7xx, ne_o6_o7, nsym ne_o6_o7, ne_o6_o7x, nsym ne_o6_o7x, ni_o6_o7xx, ne_o7_o7x, nsym ne_o7_o7x, ni_o7_o7xx, ni_o7x_o7xx, List.length_append, List.map_append]) rfl (fz_agg (.cons (fz_rs (f := eComb) (l := (List.set l2 (Int.toNat c) (Comb.mk rate x4.Limit x4.Next x4.Walk))) (id := i7_1) (by simp only [go_sem, ob_o6, lt_o6, ob_o7, lt_o7, ob_o7x, lt_o7x, own_late ow_o7xx, ne_o6_o7, nsym ne_o6_o7, ne_o6_o7x, nsym ne_o6_o7x, ni_o6_o7xx, ne_o7_o7x, nsym ne_o7_o7x, ni_o7_o7xx, ni_o7x_o7xx, List.length_append, List.map_append]) (by first | rfl | simp only [go_sem, List.length_append, List.map_append]) fz_eComb ln_eComb) (.cons (.refl _ (frz_fs fun a _ => fz_eTrain a)) (.cons (fz_own (f := eShift) (l := q_7_2) (own_later ow_o7xx (by intro j hj hl; first | rfl | simp only [go_sem, hl, own_ne hj ni_o6_o7xx, own_ne hj ni_o7_o7xx, own_ne hj ni_o7x_o7xx]) (by first | omega | exact Nat.le_refl _ | (simp only [go_sem, nxs] <;> omega))) fz_eShift ln_eShift) (.cons (.refl _ (frz_v _)) (.nil))))))
  simp only [cw_block]
  obtain ⟨b7, hl7, hm0⟩ := bind_get hm0
  refine cw_loopM hl7 (fun | (q_7_2, i_8), t, h => ∃ i6 : Nat, ∃ i7 : Nat, ∃ i7_1 : Nat, ∃ v7 : AV, t 1 = I c ∧ t 3 = .fp [.fs 5 (List.map eComb h_.Combs), .fs 3 (List.map eTrain h_.Trains), .fs 3 (List.map eShift h_.Shifts), I h_.Until] 0 ∧ t 6 = .rp i6 0 0 ∧ t 7 = .rp i7 0 0 ∧ t 8 = I i_8 ∧ h.ob i6 = some (4, [[.v (.slice none 0 0), .v (.slice none 0 0), .v (.slice none 0 0), I 0]]) ∧ i6 < h.nx ∧ h.ob i7 = some (4, [[.rs i7_1 0 (List.length (List.set l2 (Int.toNat c) (Comb.mk rate x4.Limit x4.Next x4.Walk))), .fs 3 (List.map eTrain h_.Trains), v7, I h_.Until]]) ∧ i7 < h.nx ∧ h.ob i7_1 = some (5, List.map eComb (List.set l2 (Int.toNat c) (Comb.mk rate x4.Limit x4.Next x4.Walk))) ∧ i7_1 < h.nx ∧ OwnS h v7 3 (List.map eShift q_7_2) ∧ ¬i6 = i7 ∧ ¬i6 = i7_1 ∧ NotId v7 i6 ∧ ¬i7 = i7_1 ∧ NotId v7 i7 ∧ NotId v7 i7_1) ?_ ?_
  · exact ⟨h.nx, (nxs h.nx), (nxs (nxs (nxs h.nx))), (.v (.slice none 0 0)), s1, (by first | (simp only [go_sem, List.length_append, List.map_append]; done) | rfl), (by first | (simp only [go_sem, List.length_append, List.map_append]; done) | rfl), (by first | (simp only [go_sem, List.length_append, List.map_append]; done) | rfl), (by first | (simp only [go_sem, List.length_append, List.map_append]; done) | rfl), (by simp only [go_sem, List.length_append, List.map_append]), (by simp only [go_sem]), (by simp only [go_sem, List.length_append, List.map_append]), (by simp only [go_sem]), (by simp only [go_sem, List.length_append, List.map_append]), (by simp only [go_sem]), own_nil', (by first | first | assumption | omega | (simp only [nxs] <;> omega)), (by first | first | assumption | omega | (simp only [nxs] <;> omega)), (by first | exact notid_nil | exact notid_rs (by first | assumption | omega | (simp only [nxs] <;> omega)) | assumption | exact own_notid (by assumption) (by first | assumption | omega | (simp only [nxs] <;> omega))), (by first | first | assumption | omega | (simp only [nxs] <;> omega)), (by first | exact notid_nil | exact notid_rs (by first | assumption | omega | (simp only [nxs] <;> omega)) | assumption | exact own_notid (by assumption) (by first | assumption | omega | (simp only [nxs] <;> omega))), (by first | exact notid_nil | exact notid_rs (by first | assumption | omega | (simp only [nxs] <;> omega)) | assumption | exact own_notid (by assumption) (by first | assumption | omega | (simp only [nxs] <;> omega)))⟩
  · rintro ⟨q_7_2, i_8⟩ o t h ⟨i6, i7, i7_1, v7, s1, s3, s6, s7, s8, ob_o6, lt_o6, ob_o7, lt_o7, ob_o7x, lt_o7x, ow_o7xx, ne_o6_o7, ne_o6_o7x, ni_o6_o7xx, ne_o7_o7x, ni_o7_o7xx, ni_o7x_o7xx⟩ hm1 hb7
    simp only [r06_At_L10] at hm1
    rw [x_r06_At_L10]
    refine cw_assoc ?_
    refine cw_reg_seq fun K hK => ?_
    simp only [go_sem, s3, s8, lt_o6, lt_o7, lt_o7x, istr_of v7]
    refine hK _ _ ?_
    clear hK K
    refine cw_seq_k fun K8 hK8 => ?_
    simp only [go_sem]
    refine ibr_intro (fun hc9 => ?_) (fun hc9 => ?_)
    · rw [if_t hc9] at hm1
      simp only [cw_skip, qblock_normal, qseq_normal]
      refine hK8 _ _ ?_
      refine cw_seq_k fun K10 hK10 => ?_
      have J11 : ∀ (q_7_2_1 : List Shift) (v7_1 : AV) (t : Slots) (h : Heap), t 1 = I c → t 3 = .fp [.fs 5 (List.map eComb h_.Combs), .fs 3 (List.map eTrain h_.Trains), .fs 3 (List.map eShift h_.Shifts), I h_.Until] 0 → t 6 = .rp i6 0 0 → t 7 = .rp i7 0 0 → t 8 = I i_8 → h.ob i6 = some (4, [[.v (.slice none 0 0), .v (.slice none 0 0), .v (.slice none 0 0), I 0]]) → i6 < h.nx → h.ob i7 = some (4, [[.rs i7_1 0 (List.length (List.set l2 (Int.toNat c) (Comb.mk rate x4.Limit x4.Next x4.Walk))), .fs 3 (List.map eTrain h_.Trains), v7_1, I h_.Until]]) → i7 < h.nx → h.ob i7_1 = some (5, List.map eComb (List.set l2 (Int.toNat c) (Comb.mk rate x4.Limit x4.Next x4.Walk))) → i7_1 < h.nx → OwnS h v7_1 3 (List.map eShift q_7_2_1) → ¬i6 = i7 → ¬i6 = i7_1 → NotId v7_1 i6 → ¬i7 = i7_1 → NotId v7_1 i7 → NotId v7_1 i7_1 → r06_At_j11 i_8 q_7_2_1 = some o → K10 t h := by
        try clear s1 s3 s6 s7 s8 ob_o6 lt_o6 ob_o7 lt_o7 ob_o7x lt_o7x ow_o7xx ne_o6_o7 ne_o6_o7x ni_o6_o7xx ne_o7_o7x ni_o7_o7xx ni_o7x_o7xx
        intro q_7_2_1 v7_1 t h s1 s3 s6 s7 s8 ob_o6 lt_o6 ob_o7 lt_o7 ob_o7x lt_o7x ow_o7xx ne_o6_o7 ne_o6_o7x ni_o6_o7xx ne_o7_o7x ni_o7_o7xx ni_o7x_o7xx hm1
        refine hK10 _ _ ?_
        unfold r06_At_j11 at hm1
        refine cw_reg_k fun K hK => ?_
        simp only [go_sem, s8, lt_o6, lt_o7, lt_o7x, istr_of v7, istr_of v7_1]
        refine hK _ _ ?_
        clear hK K
        simp only [qblock_normal, qseq_normal]
        obtain rfl := Option.some.inj hm1
        refine ⟨_, rfl, ?_⟩
        exact ⟨i6, i7, i7_1, v7_1, s1, s3, s6, s7, (by first | (simp only [go_sem, s8, List.length_append, List.map_append]; done) | rfl), ob_o6, lt_o6, ob_o7, lt_o7, ob_o7x, lt_o7x, ow_o7xx, ne_o6_o7, ne_o6_o7x, ni_o6_o7xx, ne_o7_o7x, ni_o7_o7xx, ni_o7x_o7xx⟩
      simp only [cw_block]
      obtain ⟨x13, h_x13, hm1⟩ := bind_get hm1
      have h_x130 := get_nn h_x13
      have h_x131 := get_lt h_x13
      refine cw_reg_seq fun K hK => ?_
      simp only [go_sem, s1, s3, s8, lt_o6, lt_o7, lt_o7x, ielem_get h_x13, irow_get h_x13, h_x130, h_x131, istr_of v7]
      refine hK _ _ ?_
      clear hK K
      simp only [go_sem]
      refine ibr_intro (fun hc14 => ?_) (fun hc14 => ?_)
      · rw [if_t hc14] at hm1
        obtain ⟨l16, h_l16, hm1⟩ := bind_get hm1
        refine cw_reg_k fun K hK => ?_
        simp only [go_sem, s3, s7, s8, ob_o7, lt_o7, ob_o7x, lt_o7x, lt_o6, ne_o6_o7, nsym ne_o6_o7, ne_o6_o7x, nsym ne_o6_o7x, ni_o6_o7xx, ne_o7_o7x, nsym ne_o7_o7x, ni_o7_o7xx, ni_o7x_o7xx, ielem_get h_x13, irow_get h_x13, h_x130, h_x131, istr_of v7]
        refine iapp_own (f := eShift) (l := q_7_2) (m := ([x13])) ?_ ?_ ?_ ?_ h_l16 ?_
        · exact (own_later ow_o7xx (by intro j hj hl; first | rfl | simp only [go_sem, hl, own_ne hj ni_o6_o7xx, own_ne hj ni_o7_o7xx, own_ne hj ni_o7x_o7xx]) (by first | omega | exact Nat.le_refl _ | (simp only [go_sem, nxs] <;> omega)))
        · exact (ownx_rs (by simp only [go_sem, ob_o6, lt_o6, ob_o7, lt_o7, ob_o7x, lt_o7x, own_late ow_o7xx, ne_o6_o7, nsym ne_o6_o7, ne_o6_o7x, nsym ne_o6_o7x, ni_o6_o7xx, ne_o7_o7x, nsym ne_o7_o7x, ni_o7_o7xx, ni_o7x_o7xx, List.length_append, List.map_append]) (by simp only [go_sem, ob_o6, lt_o6, ob_o7, lt_o7, ob_o7x, lt_o7x, own_late ow_o7xx, ne_o6_o7, nsym ne_o6_o7, ne_o6_o7x, nsym ne_o6_o7x, ni_o6_o7xx, ne_o7_o7x, nsym ne_o7_o7x, ni_o7_o7xx, ni_o7x_o7xx, List.length_append, List.map_append]))
        · exact (nd_rs (by first | exact notid_nil | exact notid_rs (by first | omega | (simp only [nxs] <;> omega)) | assumption | exact own_notid (by assumption) (by first | omega | (simp only [go_sem, nxs] <;> omega))))
        · exact (fun _ => by simp)
        simp only [go_sem, s3, s7, s8, ob_o7, lt_o7, ob_o7x, lt_o7x, lt_o6, ne_o6_o7, nsym ne_o6_o7, ne_o6_o7x, nsym ne_o6_o7x, ni_o6_o7xx, ne_o7_o7x, nsym ne_o7_o7x, ni_o7_o7xx, ni_o7x_o7xx, ielem_get h_x13, irow_get h_x13, h_x130, h_x131, istr_of v7]
        refine hK _ _ ?_
        clear hK K
        simp only [qblock_normal, qseq_normal]
        exact J11 l16 (.rs (nxs h.nx) 0 (List.length l16)) _ _ s1 s3 s6 s7 s8 (by simp only [go_sem, ob_o6, lt_o6, lt_o7, own_late ow_o7xx, ne_o6_o7, nsym ne_o6_o7, ni_o6_o7xx, List.length_append, List.map_append]) (by simp only [go_sem, lt_o6]) (by simp only [go_sem, ob_o7, lt_o7, own_late ow_o7xx, ni_o7_o7xx, List.length_append, List.map_append]) (by simp only [go_sem, lt_o7]) (by simp only [go_sem, lt_o7, ob_o7x, lt_o7x, own_late ow_o7xx, ne_o7_o7x, nsym ne_o7_o7x, ni_o7x_o7xx, List.length_append, List.map_append]) (by simp only [go_sem, lt_o7x]) (own_rs (by simp only [go_sem, lt_o7, own_late ow_o7xx, List.length_append, List.map_append]) (by first | rfl | simp only [go_sem, List.length_append, List.map_append]) (by simp only [go_sem])) ne_o6_o7 ne_o6_o7x (by first | exact notid_nil | exact notid_rs (by first | assumption | omega | (simp only [nxs] <;> omega)) | assumption | exact own_notid (by assumption) (by first | assumption | omega | (simp only [nxs] <;> omega))) ne_o7_o7x (by first | exact notid_nil | exact notid_rs (by first | assumption | omega | (simp only [nxs] <;> omega)) | assumption | exact own_notid (by assumption) (by first | assumption | omega | (simp only [nxs] <;> omega))) (by first | exact notid_nil | exact notid_rs (by first | assumption | omega | (simp only [nxs] <;> omega)) | assumption | exact own_notid (by assumption) (by first | assumption | omega | (simp only [nxs] <;> omega))) hm1
      · rw [if_f hc14] at hm1
        simp only [cw_skip, qblock_normal, qseq_normal]
        exact J11 q_7_2 v7 _ _ s1 s3 s6 s7 s8 ob_o6 lt_o6 ob_o7 lt_o7 ob_o7x lt_o7x ow_o7xx ne_o6_o7 ne_o6_o7x ni_o6_o7xx ne_o7_o7x ni_o7_o7xx ni_o7x_o7xx hm1
    · rw [if_f hc9] at hm1
      simp only [cw_exit, qseq_exit, qblock_same, qblock_ne, qblock_normal, qseq_normal, Nat.reduceEqDiff, not_false_eq_true]
      obtain rfl := Option.some.inj hm1
      obtain rfl := hb7 _ rfl
      try dsimp only at hm0
      exact J6 q_7_2 i6 i7 i7_1 v7 _ _ s6 s7 ob_o6 lt_o6 ob_o7 lt_o7 ob_o7x lt_o7x ow_o7xx ne_o6_o7 ne_o6_o7x ni_o6_o7xx ne_o7_o7x ni_o7_o7xx ni_o7x_o7xx hm0

end Go.Nw.HM

namespace Go.Nw.HM
open Go.Nw.Halls
set_option linter.unusedSimpArgs false
set_option linter.unusedVariables false
set_option maxHeartbeats 4000000
variable {O : Orac}

theorem k_r06_Check (hf : Has O "newel/newelref06.Check" x_r06_Check) (k_r06_within : C_r06_within O) (k_r06_spanned : C_r06_spanned O) : C_r06_Check O := by
  intro h_ r hm0
  unfold r06_Check at hm0
  refine fn_cw hf rfl (fz_cons (.agg _ (fz_cons (frz_fs fun a _ => fz_eComb a) (fz_cons (frz_fs fun a _ => fz_eTrain a) (fz_cons (frz_fs fun a _ => fz_eShift a) (fz_cons (frz_v _) fz_nil))))) fz_nil) (frz_v _) ?_
  refine cw_start (fun t h => t 0 = .agg [.fs 5 (List.map eComb h_.Combs), .fs 3 (List.map eTrain h_.Trains), .fs 3 (List.map eShift h_.Shifts), I h_.Until]) rfl fun t h s0 => ?_
  simp only [x_r06_Check]
  refine cw_reg_seq fun K hK => ?_
  simp only [go_sem, s0]
  refine hK _ _ ?_
  clear hK K
  refine cw_assoc ?_
  refine cw_reg_postK (fun t h => t 1 = .fp [.fs 5 (List.map eComb h_.Combs), .fs 3 (List.map eTrain h_.Trains), .fs 3 (List.map eShift h_.Shifts), I h_.Until] 0 ∧ t 34 = B ((((!(r06_within h_.Until 1 100)) || (!(r06_within (List.length h_.Combs : Int) 1 8))) || (decide (12 < (List.length h_.Trains : Int)))) || (decide (20 < (List.length h_.Shifts : Int))))) (fun K hK => ?_) ?_
  · simp only [go_sem]
    refine icall_fn (k_r06_within h_.Until 1 100) ?_
    simp only [go_sem]
    refine ibr_intro (fun hg1 => ?_) (fun hg1 => ?_)
    · simp only [go_sem, hg1]
      exact hK _ _ ⟨(by first | (simp only [go_sem, hg1, List.length_append, List.map_append]; done) | rfl), (by first | (simp only [go_sem, hg1, List.length_append, List.map_append]; done) | rfl)⟩
    · simp only [go_sem, hg1]
      refine icall_fn (k_r06_within (List.length h_.Combs : Int) 1 8) ?_
      simp only [go_sem, hg1]
      refine ibr_intro (fun hg2 => ?_) (fun hg2 => ?_)
      · simp only [go_sem, hg1, hg2]
        exact hK _ _ ⟨(by first | (simp only [go_sem, hg1, hg2, List.length_append, List.map_append]; done) | rfl), (by first | (simp only [go_sem, hg1, hg2, List.length_append, List.map_append]; done) | rfl)⟩
      · simp only [go_sem, hg1, hg2]
        refine ibr_intro (fun hg3 => ?_) (fun hg3 => ?_)
        · simp only [go_sem, hg1, hg2, hg3]
          exact hK _ _ ⟨(by first | (simp only [go_sem, hg1, hg2, hg3, List.length_append, List.map_append]; done) | rfl), (by first | (simp only [go_sem, hg1, hg2, hg3, List.length_append, List.map_append]; done) | rfl)⟩
        · simp only [go_sem, hg1, hg2, hg3]
          exact hK _ _ ⟨(by first | (simp only [go_sem, hg1, hg2, hg3, List.length_append, List.map_append]; done) | rfl), (by first | (simp only [go_sem, hg1, hg2, hg3, List.length_append, List.map_append]; done) | rfl)⟩
  · rintro t h ⟨s1, s34⟩
    refine cw_seq_k fun K4 hK4 => ?_
    simp only [go_sem, s34]
    refine ibr_intro (fun hc5 => ?_) (fun hc5 => ?_)
    · rw [if_t hc5] at hm0
      refine cw_reg_seq fun K hK => ?_
      simp only [go_sem]
      refine hK _ _ ?_
      clear hK K
      simp only [cw_ret, qseq_ret, qblock_ret, retQ_ret]
      obtain rfl := Option.some.inj hm0
      exact done_t (by simp only [go_sem, List.length_append, List.map_append]) (frz_v _)
    · rw [if_f hc5] at hm0
      simp only [cw_skip, qblock_normal, qseq_normal]
      refine hK4 _ _ ?_
      refine cw_reg_seq fun K hK => ?_
      simp only [go_sem, s1]
      refine hK _ _ ?_
      clear hK K
      refine cw_assoc ?_
      refine cw_reg_seq fun K hK => ?_
      simp only [go_sem]
      refine hK _ _ ?_
      clear hK K
      refine cw_seq_k fun K6 hK6 => ?_
      have J7 : ∀ (t : Slots) (h : Heap), t 1 = .fp [.fs 5 (List.map eComb h_.Combs), .fs 3 (List.map eTrain h_.Trains), .fs 3 (List.map eShift h_.Shifts), I h_.Until] 0 → t 3 = I (List.length h_.Combs : Int) → r06_Check_j7 h_ = some r → K6 t h := by
        intro t h s1 s3 hm0
        refine hK6 _ _ ?_
        unfold r06_Check_j7 at hm0
        refine cw_assoc ?_
        refine cw_reg_seq fun K hK => ?_
        simp only [go_sem]
        refine hK _ _ ?_
        clear hK K
        refine cw_seq_k fun K8 hK8 => ?_
        have J9 : ∀ (t : Slots) (h : Heap), t 1 = .fp [.fs 5 (List.map eComb h_.Combs), .fs 3 (List.map eTrain h_.Trains), .fs 3 (List.map eShift h_.Shifts), I h_.Until] 0 → t 3 = I (List.length h_.Combs : Int) → r06_Check_j9 h_ = some r → K8 t h := by
          intro t h s1 s3 hm0
          refine hK8 _ _ ?_
          unfold r06_Check_j9 at hm0
          refine cw_assoc ?_
          refine cw_reg_seq fun K hK => ?_
          simp only [go_sem]
          refine hK _ _ ?_
          clear hK K
          refine cw_seq_k fun K10 hK10 => ?_
          have J11 : ∀ (t : Slots) (h : Heap), r06_Check_j11 = some r → K10 t h := by
            intro t h hm0
            refine hK10 _ _ ?_
            unfold r06_Check_j11 at hm0
            refine cw_reg_seq fun K hK => ?_
            simp only [go_sem]
            refine hK _ _ ?_
            clear hK K
            simp only [cw_ret, qseq_ret, qblock_ret, retQ_ret]
            obtain rfl := Option.some.inj hm0
            exact done_t (by simp only [go_sem, List.length_append, List.map_append]) (frz_v _)
          simp only [cw_block]
          obtain ⟨b12, hl12, hm0⟩ := bind_get hm0
          refine cw_loopM hl12 (fun | i_10, t, h => t 1 = .fp [.fs 5 (List.map eComb h_.Combs), .fs 3 (List.map eTrain h_.Trains), .fs 3 (List.map eShift h_.Shifts), I h_.Until] 0 ∧ t 3 = I (List.length h_.Combs : Int) ∧ t 10 = I i_10) ?_ ?_
          · exact ⟨s1, s3, (by first | (simp only [go_sem, List.length_append, List.map_append]; done) | rfl)⟩
          · rintro i_10 o t h ⟨s1, s3, s10⟩ hm1 hb12
            simp only [r06_Check_L32] at hm1
            rw [x_r06_Check_L32]
            refine cw_assoc ?_
            refine cw_reg_seq fun K hK => ?_
            simp only [go_sem, s1, s10]
            refine hK _ _ ?_
            clear hK K
            refine cw_seq_k fun K13 hK13 => ?_
            simp only [go_sem]
            refine ibr_intro (fun hc14 => ?_) (fun hc14 => ?_)
            · rw [if_t hc14] at hm1
              simp only [cw_skip, qblock_normal, qseq_normal]
              refine hK13 _ _ ?_
              refine cw_seq_k fun K15 hK15 => ?_
              simp only [cw_block]
              obtain ⟨x17, h_x17, hm1⟩ := bind_get hm1
              have h_x170 := get_nn h_x17
              have h_x171 := get_lt h_x17
              refine cw_reg_seq fun K hK => ?_
              simp only [go_sem, s1, s10, ielem_get h_x17, irow_get h_x17, h_x170, h_x171]
              refine hK _ _ ?_
              clear hK K
              obtain ⟨c23, h_c23, hm1⟩ := bind_get hm1
              refine cw_reg_postK (fun t h => t 1 = .fp [.fs 5 (List.map eComb h_.Combs), .fs 3 (List.map eTrain h_.Trains), .fs 3 (List.map eShift h_.Shifts), I h_.Until] 0 ∧ t 3 = I (List.length h_.Combs : Int) ∧ t 10 = I i_10 ∧ t 187 = B c23) (fun K hK => ?_) ?_
              · simp only [go_sem, s1, s3, s10]
                refine icall_fn (k_r06_within x17.At 0 (wr (h_.Until - 1))) ?_
                simp only [go_sem, s1, s3, s10]
                refine ibr_intro (fun hg24 => ?_) (fun hg24 => ?_)
                · simp only [hg24, Bool.not_true, Bool.not_false, eq_self, if_true, if_false, Bool.true_or, Bool.or_true, Bool.false_or, Bool.or_false, Bool.true_and, Bool.and_true, Bool.false_and, Bool.and_false, Bool.false_eq_true] at h_c23
                  obtain rfl := Option.some.inj h_c23
                  simp only [go_sem, s1, s3, s10, hg24]
                  exact hK _ _ ⟨s1, s3, s10, (by first | (simp only [go_sem, hg24, List.length_append, List.map_append]; done) | rfl)⟩
                · simp only [go_sem, s1, s3, s10, hg24]
                  refine icall_fn (k_r06_within x17.Comb 0 (wr ((List.length h_.Combs : Int) - 1))) ?_
                  simp only [go_sem, s1, s3, s10, hg24]
                  refine ibr_intro (fun hg25 => ?_) (fun hg25 => ?_)
                  · simp only [hg24, hg25, Bool.not_true, Bool.not_false, eq_self, if_true, if_false, Bool.true_or, Bool.or_true, Bool.false_or, Bool.or_false, Bool.true_and, Bool.and_true, Bool.false_and, Bool.and_false, Bool.false_eq_true] at h_c23
                    obtain rfl := Option.some.inj h_c23
                    simp only [go_sem, s1, s3, s10, hg24, hg25]
                    exact hK _ _ ⟨s1, s3, s10, (by first | (simp only [go_sem, hg24, hg25, List.length_append, List.map_append]; done) | rfl)⟩
                  · simp only [go_sem, s1, s3, s10, hg24, hg25]
                    refine icall_fn (k_r06_within x17.Rate 0 1000) ?_
                    simp only [go_sem, s1, s3, s10, hg24, hg25]
                    refine ibr_intro (fun hg26 => ?_) (fun hg26 => ?_)
                    · simp only [hg24, hg25, hg26, Bool.not_true, Bool.not_false, eq_self, if_true, if_false, Bool.true_or, Bool.or_true, Bool.false_or, Bool.or_false, Bool.true_and, Bool.and_true, Bool.false_and, Bool.and_false, Bool.false_eq_true] at h_c23
                      obtain rfl := Option.some.inj h_c23
                      simp only [go_sem, s1, s3, s10, hg24, hg25, hg26]
                      exact hK _ _ ⟨s1, s3, s10, (by first | (simp only [go_sem, hg24, hg25, hg26, List.length_append, List.map_append]; done) | rfl)⟩
                    · simp only [hg24, hg25, hg26, Bool.not_true, Bool.not_false, eq_self, if_true, if_false, Bool.true_or, Bool.or_true, Bool.false_or, Bool.or_false, Bool.true_and, Bool.and_true, Bool.false_and, Bool.and_false, Bool.false_eq_true] at h_c23
                      obtain ⟨c22, h_c22, h_c23⟩ := bind_get h_c23
                      obtain rfl := Option.some.inj h_c23
                      simp only [go_sem, s1, s3, s10, hg24, hg25, hg26]
                      refine ibr_intro (fun hg27 => ?_) (fun hg27 => ?_)
                      · simp only [hg24, hg25, hg26, hg27, Bool.not_true, Bool.not_false, eq_self, if_true, if_false, Bool.true_or, Bool.or_true, Bool.false_or, Bool.or_false, Bool.true_and, Bool.and_true, Bool.false_and, Bool.and_false, Bool.false_eq_true] at h_c22
                        obtain ⟨x21, h_x21, h_c22⟩ := bind_get h_c22
                        have h_x210 := get_nn h_x21
                        have h_x211 := get_lt h_x21
                        obtain rfl := Option.some.inj h_c22
                        simp only [go_sem, s1, s3, s10, ielem_get h_x21, irow_get h_x21, h_x210, h_x211, hg24, hg25, hg26, hg27]
                        exact hK _ _ ⟨s1, s3, s10, (by first | (simp only [go_sem, hg24, hg25, hg26, hg27, List.length_append, List.map_append]; done) | rfl)⟩
                      · simp only [hg24, hg25, hg26, hg27, Bool.not_true, Bool.not_false, eq_self, if_true, if_false, Bool.true_or, Bool.or_true, Bool.false_or, Bool.or_false, Bool.true_and, Bool.and_true, Bool.false_and, Bool.and_false, Bool.false_eq_true] at h_c22
                        obtain rfl := Option.some.inj h_c22
                        simp only [go_sem, s1, s3, s10, hg24, hg25, hg26, hg27]
                        exact hK _ _ ⟨s1, s3, s10, (by first | (simp only [go_sem, hg24, hg25, hg26, hg27, List.length_append, List.map_append]; done) | rfl)⟩
              · rintro t h ⟨s1, s3, s10, s187⟩
                simp only [go_sem, s187]
                refine ibr_intro (fun hc28 => ?_) (fun hc28 => ?_)
                · rw [if_t hc28] at hm1
                  refine cw_reg_seq fun K hK => ?_
                  simp only [go_sem]
                  refine hK _ _ ?_
                  clear hK K
                  simp only [cw_ret, qseq_ret, qblock_ret, retQ_ret]
                  obtain rfl := Option.some.inj hm1
                  obtain rfl := hb12 _ rfl
                  try dsimp only at hm0
                  obtain rfl := Option.some.inj hm0
                  exact done_t (by simp only [go_sem, List.length_append, List.map_append]) (frz_v _)
                · rw [if_f hc28] at hm1
                  simp only [cw_skip, qblock_normal, qseq_normal]
                  refine hK15 _ _ ?_
                  refine cw_reg_k fun K hK => ?_
                  simp only [go_sem, s10]
                  refine hK _ _ ?_
                  clear hK K
                  simp only [qblock_normal, qseq_normal]
                  obtain rfl := Option.some.inj hm1
                  refine ⟨_, rfl, ?_⟩
                  exact ⟨s1, s3, (by first | (simp only [go_sem, s10, List.length_append, List.map_append]; done) | rfl)⟩
            · rw [if_f hc14] at hm1
              simp only [cw_exit, qseq_exit, qblock_same, qblock_ne, qblock_normal, qseq_normal, Nat.reduceEqDiff, not_false_eq_true]
              obtain rfl := Option.some.inj hm1
              obtain rfl := hb12 _ rfl
              try dsimp only at hm0
              exact J11  _ _  hm0
        simp only [cw_block]
        obtain ⟨b30, hl30, hm0⟩ := bind_get hm0
        refine cw_loopM hl30 (fun | i_6, t, h => t 1 = .fp [.fs 5 (List.map eComb h_.Combs), .fs 3 (List.map eTrain h_.Trains), .fs 3 (List.map eShift h_.Shifts), I h_.Until] 0 ∧ t 3 = I (List.length h_.Combs : Int) ∧ t 6 = I i_6) ?_ ?_
        · exact ⟨s1, s3, (by first | (simp only [go_sem, List.length_append, List.map_append]; done) | rfl)⟩
        · rintro i_6 o t h ⟨s1, s3, s6⟩ hm1 hb30
          simp only [r06_Check_L25] at hm1
          rw [x_r06_Check_L25]
          refine cw_assoc ?_
          refine cw_reg_seq fun K hK => ?_
          simp only [go_sem, s1, s6]
          refine hK _ _ ?_
          clear hK K
          refine cw_seq_k fun K31 hK31 => ?_
          simp only [go_sem]
          refine ibr_intro (fun hc32 => ?_) (fun hc32 => ?_)
          · rw [if_t hc32] at hm1
            simp only [cw_skip, qblock_normal, qseq_normal]
            refine hK31 _ _ ?_
            refine cw_seq_k fun K33 hK33 => ?_
            have J34 : ∀ (t : Slots) (h : Heap), t 1 = .fp [.fs 5 (List.map eComb h_.Combs), .fs 3 (List.map eTrain h_.Trains), .fs 3 (List.map eShift h_.Shifts), I h_.Until] 0 → t 3 = I (List.length h_.Combs : Int) → t 6 = I i_6 → r06_Check_j34 i_6 = some o → K33 t h := by
              intro t h s1 s3 s6 hm1
              refine hK33 _ _ ?_
              unfold r06_Check_j34 at hm1
              refine cw_reg_k fun K hK => ?_
              simp only [go_sem, s6]
              refine hK _ _ ?_
              clear hK K
              simp only [qblock_normal, qseq_normal]
              obtain rfl := Option.some.inj hm1
              refine ⟨_, rfl, ?_⟩
              exact ⟨s1, s3, (by first | (simp only [go_sem, s6, List.length_append, List.map_append]; done) | rfl)⟩
            simp only [cw_block]
            obtain ⟨x36, h_x36, hm1⟩ := bind_get hm1
            have h_x360 := get_nn h_x36
            have h_x361 := get_lt h_x36
            refine cw_reg_seq fun K hK => ?_
            simp only [go_sem, s1, s6, ielem_get h_x36, irow_get h_x36, h_x360, h_x361]
            refine hK _ _ ?_
            clear hK K
            refine cw_assoc ?_
            refine cw_reg_postK (fun t h => ∃ i7 : Nat, t 1 = .fp [.fs 5 (List.map eComb h_.Combs), .fs 3 (List.map eTrain h_.Trains), .fs 3 (List.map eShift h_.Shifts), I h_.Until] 0 ∧ t 3 = I (List.length h_.Combs : Int) ∧ t 6 = I i_6 ∧ t 7 = .rp i7 0 0 ∧ t 103 = B ((!(r06_spanned x36.At 0 (wr (h_.Until - 1)))) || (decide (4 < (List.length x36.Crowds : Int)))) ∧ h.ob i7 = some (3, [[I x36.At.Low, I x36.At.High, .fs 3 (List.map eCrowd x36.Crowds)]]) ∧ i7 < h.nx) (fun K hK => ?_) ?_
            · simp only [go_sem, s1]
              refine icall_fn (k_r06_spanned x36.At 0 (wr (h_.Until - 1))) ?_
              simp only [go_sem, s1]
              refine ibr_intro (fun hg37 => ?_) (fun hg37 => ?_)
              · simp only [go_sem, s1, hg37]
                exact hK _ _ ⟨h.nx, s1, s3, s6, (by first | (simp only [go_sem, hg37, List.length_append, List.map_append]; done) | rfl), (by first | (simp only [go_sem, hg37, List.length_append, List.map_append]; done) | rfl), (by simp only [go_sem, hg37, List.length_append, List.map_append]), (by simp only [go_sem])⟩
              · simp only [go_sem, s1, hg37]
                exact hK _ _ ⟨h.nx, s1, s3, s6, (by first | (simp only [go_sem, hg37, List.length_append, List.map_append]; done) | rfl), (by first | (simp only [go_sem, hg37, List.length_append, List.map_append]; done) | rfl), (by simp only [go_sem, hg37, List.length_append, List.map_append]), (by simp only [go_sem])⟩
            · rintro t h ⟨i7, s1, s3, s6, s7, s103, ob_o7, lt_o7⟩
              refine cw_seq_k fun K38 hK38 => ?_
              simp only [go_sem, s103]
              refine ibr_intro (fun hc39 => ?_) (fun hc39 => ?_)
              · rw [if_t hc39] at hm1
                refine cw_reg_seq fun K hK => ?_
                simp only [go_sem, lt_o7]
                refine hK _ _ ?_
                clear hK K
                simp only [cw_ret, qseq_ret, qblock_ret, retQ_ret]
                obtain rfl := Option.some.inj hm1
                obtain rfl := hb30 _ rfl
                try dsimp only at hm0
                obtain rfl := Option.some.inj hm0
                exact done_t (by simp only [go_sem, ob_o7, lt_o7, List.length_append, List.map_append]) (frz_v _)
              · rw [if_f hc39] at hm1
                simp only [cw_skip, qblock_normal, qseq_normal]
                refine hK38 _ _ ?_
                refine cw_reg_seq fun K hK => ?_
                simp only [go_sem, lt_o7]
                refine hK _ _ ?_
                clear hK K
                refine cw_reg_seq fun K hK => ?_
                simp only [go_sem, lt_o7]
                refine hK _ _ ?_
                clear hK K
                simp only [cw_block]
                obtain ⟨b40, hl40, hm1⟩ := bind_get hm1
                refine cw_loopM hl40 (fun | (last_8, k_9), t, h => t 1 = .fp [.fs 5 (List.map eComb h_.Combs), .fs 3 (List.map eTrain h_.Trains), .fs 3 (List.map eShift h_.Shifts), I h_.Until] 0 ∧ t 3 = I (List.length h_.Combs : Int) ∧ t 6 = I i_6 ∧ t 7 = .rp i7 0 0 ∧ t 8 = I last_8 ∧ t 9 = I k_9 ∧ h.ob i7 = some (3, [[I x36.At.Low, I x36.At.High, .fs 3 (List.map eCrowd x36.Crowds)]]) ∧ i7 < h.nx) ?_ ?_
                · exact ⟨s1, s3, s6, s7, (by first | (simp only [go_sem, List.length_append, List.map_append]; done) | rfl), (by first | (simp only [go_sem, List.length_append, List.map_append]; done) | rfl), ob_o7, lt_o7⟩
                · rintro ⟨last_8, k_9⟩ o t h ⟨s1, s3, s6, s7, s8, s9, ob_o7, lt_o7⟩ hm2 hb40
                  simp only [r06_Check_L23] at hm2
                  rw [x_r06_Check_L23]
                  refine cw_assoc ?_
                  refine cw_reg_seq fun K hK => ?_
                  simp only [go_sem, s7, s9, ob_o7, lt_o7]
                  refine hK _ _ ?_
                  clear hK K
                  refine cw_seq_k fun K41 hK41 => ?_
                  simp only [go_sem]
                  refine ibr_intro (fun hc42 => ?_) (fun hc42 => ?_)
                  · rw [if_t hc42] at hm2
                    simp only [cw_skip, qblock_normal, qseq_normal]
                    refine hK41 _ _ ?_
                    refine cw_seq_k fun K43 hK43 => ?_
                    simp only [cw_block]
                    refine cw_assoc ?_
                    obtain ⟨x45, h_x45, hm2⟩ := bind_get hm2
                    have h_x450 := get_nn h_x45
                    have h_x451 := get_lt h_x45
                    refine cw_reg_postK (fun t h => t 1 = .fp [.fs 5 (List.map eComb h_.Combs), .fs 3 (List.map eTrain h_.Trains), .fs 3 (List.map eShift h_.Shifts), I h_.Until] 0 ∧ t 3 = I (List.length h_.Combs : Int) ∧ t 6 = I i_6 ∧ t 7 = .rp i7 0 0 ∧ t 9 = I k_9 ∧ t 132 = B ((!(r06_within x45.Comb (wr (last_8 + 1)) (wr ((List.length h_.Combs : Int) - 1)))) || (!(r06_spanned x45.People 0 1000))) ∧ h.ob i7 = some (3, [[I x36.At.Low, I x36.At.High, .fs 3 (List.map eCrowd x36.Crowds)]]) ∧ i7 < h.nx) (fun K hK => ?_) ?_
                    · simp only [go_sem, s3, s7, s8, s9, ob_o7, lt_o7, ielem_get h_x45, irow_get h_x45, h_x450, h_x451]
                      refine icall_fn (k_r06_within x45.Comb (wr (last_8 + 1)) (wr ((List.length h_.Combs : Int) - 1))) ?_
                      simp only [go_sem, s3, s7, s8, s9, ob_o7, lt_o7, ielem_get h_x45, irow_get h_x45, h_x450, h_x451]
                      refine ibr_intro (fun hg46 => ?_) (fun hg46 => ?_)
                      · simp only [go_sem, s3, s7, s8, s9, ob_o7, lt_o7, ielem_get h_x45, irow_get h_x45, h_x450, h_x451, hg46]
                        exact hK _ _ ⟨s1, s3, s6, s7, s9, (by first | (simp only [go_sem, hg46, List.length_append, List.map_append]; done) | rfl), ob_o7, lt_o7⟩
                      · simp only [go_sem, s3, s7, s8, s9, ob_o7, lt_o7, ielem_get h_x45, irow_get h_x45, h_x450, h_x451, hg46]
                        refine icall_fn (k_r06_spanned x45.People 0 1000) ?_
                        simp only [go_sem, s3, s7, s8, s9, ob_o7, lt_o7, ielem_get h_x45, irow_get h_x45, h_x450, h_x451, hg46]
                        exact hK _ _ ⟨s1, s3, s6, s7, s9, (by first | (simp only [go_sem, hg46, List.length_append, List.map_append]; done) | rfl), ob_o7, lt_o7⟩
                    · rintro t h ⟨s1, s3, s6, s7, s9, s132, ob_o7, lt_o7⟩
                      refine cw_seq_k fun K47 hK47 => ?_
                      simp only [go_sem, s132]
                      refine ibr_intro (fun hc48 => ?_) (fun hc48 => ?_)
                      · rw [if_t hc48] at hm2
                        refine cw_reg_seq fun K hK => ?_
                        simp only [go_sem, lt_o7]
                        refine hK _ _ ?_
                        clear hK K
                        simp only [cw_ret, qseq_ret, qblock_ret, retQ_ret]
                        obtain rfl := Option.some.inj hm2
                        obtain rfl := hb40 _ rfl
                        try dsimp only at hm1
                        obtain rfl := Option.some.inj hm1
                        obtain rfl := hb30 _ rfl
                        try dsimp only at hm0
                        obtain rfl := Option.some.inj hm0
                        exact done_t (by simp only [go_sem, ob_o7, lt_o7, List.length_append, List.map_append]) (frz_v _)
                      · rw [if_f hc48] at hm2
                        simp only [cw_skip, qblock_normal, qseq_normal]
                        refine hK47 _ _ ?_
                        refine cw_reg_k fun K hK => ?_
                        simp only [go_sem, s7, s9, ob_o7, lt_o7, ielem_get h_x45, irow_get h_x45, h_x450, h_x451]
                        refine hK _ _ ?_
                        clear hK K
                        simp only [qblock_normal, qseq_normal]
                        refine hK43 _ _ ?_
                        refine cw_reg_k fun K hK => ?_
                        simp only [go_sem, s9, lt_o7]
                        refine hK _ _ ?_
                        clear hK K
                        simp only [qblock_normal, qseq_normal]
                        obtain rfl := Option.some.inj hm2
                        refine ⟨_, rfl, ?_⟩
                        exact ⟨s1, s3, s6, s7, (by first | (simp only [go_sem, List.length_append, List.map_append]; done) | rfl), (by first | (simp only [go_sem, s9, List.length_append, List.map_append]; done) | rfl), ob_o7, lt_o7⟩
                  · rw [if_f hc42] at hm2
                    simp only [cw_exit, qseq_exit, qblock_same, qblock_ne, qblock_normal, qseq_normal, Nat.reduceEqDiff, not_false_eq_true]
                    obtain rfl := Option.some.inj hm2
                    obtain rfl := hb40 _ rfl
                    try dsimp only at hm1
                    exact J34  _ _ s1 s3 s6 hm1
          · rw [if_f hc32] at hm1
            simp only [cw_exit, qseq_exit, qblock_same, qblock_ne, qblock_normal, qseq_normal, Nat.reduceEqDiff, not_false_eq_true]
            obtain rfl := Option.some.inj hm1
            obtain rfl := hb30 _ rfl
            try dsimp only at hm0
            exact J9  _ _ s1 s3 hm0
      simp only [cw_block]
      obtain ⟨b51, hl51, hm0⟩ := bind_get hm0
      refine cw_loopM hl51 (fun | i_4, t, h => t 1 = .fp [.fs 5 (List.map eComb h_.Combs), .fs 3 (List.map eTrain h_.Trains), .fs 3 (List.map eShift h_.Shifts), I h_.Until] 0 ∧ t 3 = I (List.length h_.Combs : Int) ∧ t 4 = I i_4) ?_ ?_
      · exact ⟨s1, (by first | (simp only [go_sem, List.length_append, List.map_append]; done) | rfl), (by first | (simp only [go_sem, List.length_append, List.map_append]; done) | rfl)⟩
      · rintro i_4 o t h ⟨s1, s3, s4⟩ hm1 hb51
        simp only [r06_Check_L10] at hm1
        rw [x_r06_Check_L10]
        refine cw_assoc ?_
        refine cw_reg_seq fun K hK => ?_
        simp only [go_sem, s3, s4]
        refine hK _ _ ?_
        clear hK K
        refine cw_seq_k fun K52 hK52 => ?_
        simp only [go_sem]
        refine ibr_intro (fun hc53 => ?_) (fun hc53 => ?_)
        · rw [if_t hc53] at hm1
          simp only [cw_skip, qblock_normal, qseq_normal]
          refine hK52 _ _ ?_
          refine cw_seq_k fun K54 hK54 => ?_
          simp only [cw_block]
          obtain ⟨x56, h_x56, hm1⟩ := bind_get hm1
          have h_x560 := get_nn h_x56
          have h_x561 := get_lt h_x56
          refine cw_reg_seq fun K hK => ?_
          simp only [go_sem, s1, s4, ielem_get h_x56, irow_get h_x56, h_x560, h_x561]
          refine hK _ _ ?_
          clear hK K
          refine cw_reg_postK (fun t h => t 1 = .fp [.fs 5 (List.map eComb h_.Combs), .fs 3 (List.map eTrain h_.Trains), .fs 3 (List.map eShift h_.Shifts), I h_.Until] 0 ∧ t 3 = I (List.length h_.Combs : Int) ∧ t 4 = I i_4 ∧ t 78 = B ((((!(r06_within x56.Rate 0 1000)) || (!(r06_within x56.Limit 0 100000))) || ((decide (¬x56.Next = (-1))) && (!(r06_within x56.Next (wr (i_4 + 1)) (wr ((List.length h_.Combs : Int) - 1)))))) || (!(r06_spanned x56.Walk 1 20)))) (fun K hK => ?_) ?_
          · simp only [go_sem, s3, s4]
            refine icall_fn (k_r06_within x56.Rate 0 1000) ?_
            simp only [go_sem, s3, s4]
            refine ibr_intro (fun hg57 => ?_) (fun hg57 => ?_)
            · simp only [go_sem, s3, s4, hg57]
              exact hK _ _ ⟨s1, s3, s4, (by first | (simp only [go_sem, hg57, List.length_append, List.map_append]; done) | rfl)⟩
            · simp only [go_sem, s3, s4, hg57]
              refine icall_fn (k_r06_within x56.Limit 0 100000) ?_
              simp only [go_sem, s3, s4, hg57]
              refine ibr_intro (fun hg58 => ?_) (fun hg58 => ?_)
              · simp only [go_sem, s3, s4, hg57, hg58]
                exact hK _ _ ⟨s1, s3, s4, (by first | (simp only [go_sem, hg57, hg58, List.length_append, List.map_append]; done) | rfl)⟩
              · simp only [go_sem, s3, s4, hg57, hg58]
                refine ibr_intro (fun hg59 => ?_) (fun hg59 => ?_)
                · simp only [go_sem, s3, s4, hg57, hg58, hg59]
                  refine icall_fn (k_r06_within x56.Next (wr (i_4 + 1)) (wr ((List.length h_.Combs : Int) - 1))) ?_
                  simp only [go_sem, s3, s4, hg57, hg58, hg59]
                  refine ibr_intro (fun hg60 => ?_) (fun hg60 => ?_)
                  · simp only [go_sem, s3, s4, hg57, hg58, hg59, hg60]
                    exact hK _ _ ⟨s1, s3, s4, (by first | (simp only [go_sem, hg57, hg58, hg59, hg60, List.length_append, List.map_append]; done) | rfl)⟩
                  · simp only [go_sem, s3, s4, hg57, hg58, hg59, hg60]
                    refine icall_fn (k_r06_spanned x56.Walk 1 20) ?_
                    simp only [go_sem, s3, s4, hg57, hg58, hg59, hg60]
                    exact hK _ _ ⟨s1, s3, s4, (by first | (simp only [go_sem, hg57, hg58, hg59, hg60, List.length_append, List.map_append]; done) | rfl)⟩
                · simp only [go_sem, s3, s4, hg57, hg58, hg59]
                  refine icall_fn (k_r06_spanned x56.Walk 1 20) ?_
                  simp only [go_sem, s3, s4, hg57, hg58, hg59]
                  exact hK _ _ ⟨s1, s3, s4, (by first | (simp only [go_sem, hg57, hg58, hg59, List.length_append, List.map_append]; done) | rfl)⟩
          · rintro t h ⟨s1, s3, s4, s78⟩
            simp only [go_sem, s78]
            refine ibr_intro (fun hc61 => ?_) (fun hc61 => ?_)
            · rw [if_t hc61] at hm1
              refine cw_reg_seq fun K hK => ?_
              simp only [go_sem]
              refine hK _ _ ?_
              clear hK K
              simp only [cw_ret, qseq_ret, qblock_ret, retQ_ret]
              obtain rfl := Option.some.inj hm1
              obtain rfl := hb51 _ rfl
              try dsimp only at hm0
              obtain rfl := Option.some.inj hm0
              exact done_t (by simp only [go_sem, List.length_append, List.map_append]) (frz_v _)
            · rw [if_f hc61] at hm1
              simp only [cw_skip, qblock_normal, qseq_normal]
              refine hK54 _ _ ?_
              refine cw_reg_k fun K hK => ?_
              simp only [go_sem, s4]
              refine hK _ _ ?_
              clear hK K
              simp only [qblock_normal, qseq_normal]
              obtain rfl := Option.some.inj hm1
              refine ⟨_, rfl, ?_⟩
              exact ⟨s1, s3, (by first | (simp only [go_sem, s4, List.length_append, List.map_append]; done) | rfl)⟩
        · rw [if_f hc53] at hm1
          simp only [cw_exit, qseq_exit, qblock_same, qblock_ne, qblock_normal, qseq_normal, Nat.reduceEqDiff, not_false_eq_true]
          obtain rfl := Option.some.inj hm1
          obtain rfl := hb51 _ rfl
          try dsimp only at hm0
          exact J7  _ _ s1 s3 hm0

end Go.Nw.HM

namespace Go.Nw.HM
open Go.Nw.Halls
set_option linter.unusedSimpArgs false
set_option linter.unusedVariables false
set_option maxHeartbeats 4000000
variable {O : Orac}

theorem k_r06_spanned (hf : Has O "newel/newelref06.spanned" x_r06_spanned) : C_r06_spanned O := by
  intro s low high
  generalize hm0 : r06_spanned s low high = r
  unfold r06_spanned at hm0
  refine fn_cw hf rfl (fz_cons (.agg _ (fz_cons (frz_v _) (fz_cons (frz_v _) fz_nil))) (fz_cons (frz_v _) (fz_cons (frz_v _) fz_nil))) (frz_v _) ?_
  refine cw_start (fun t h => t 0 = .agg [I s.Low, I s.High] ∧ t 1 = I low ∧ t 2 = I high) ⟨rfl, rfl, rfl⟩ fun t h ⟨s0, s1, s2⟩ => ?_
  simp only [x_r06_spanned]
  refine cw_reg_seq fun K hK => ?_
  simp only [go_sem, s0]
  refine hK _ _ ?_
  clear hK K
  refine cw_reg_postK (fun t h => t 6 = B (((decide (low ≤ s.Low)) && (decide (s.Low ≤ s.High))) && (decide (s.High ≤ high)))) (fun K hK => ?_) ?_
  · simp only [go_sem, s1, s2]
    refine ibr_intro (fun hg1 => ?_) (fun hg1 => ?_)
    · simp only [go_sem, s1, s2, hg1]
      refine ibr_intro (fun hg2 => ?_) (fun hg2 => ?_)
      · simp only [go_sem, s1, s2, hg1, hg2]
        exact hK _ _ (by first | (simp only [go_sem, hg1, hg2, List.length_append, List.map_append]; done) | rfl)
      · simp only [go_sem, s1, s2, hg1, hg2]
        exact hK _ _ (by first | (simp only [go_sem, hg1, hg2, List.length_append, List.map_append]; done) | rfl)
    · simp only [go_sem, s1, s2, hg1]
      exact hK _ _ (by first | (simp only [go_sem, hg1, List.length_append, List.map_append]; done) | rfl)
  · rintro t h s6
    simp only [cw_ret, qseq_ret, qblock_ret, retQ_ret]
    obtain rfl := hm0
    exact done_t (by simp only [go_sem, s6, List.length_append, List.map_append]) (frz_v _)

end Go.Nw.HM

namespace Go.Nw.HM
open Go.Nw.Halls
set_option linter.unusedSimpArgs false
set_option linter.unusedVariables false
set_option maxHeartbeats 4000000
variable {O : Orac}

theorem k_slices_ContainsFunc___api_Train_api_Train_ (hf : Has O "slices.ContainsFunc[[]newel/api.Train,newel/api.Train]" x_slices_ContainsFunc___api_Train_api_Train_) (k_slices_IndexFunc___api_Train_api_Train_ : C_slices_IndexFunc___api_Train_api_Train_ O) : C_slices_ContainsFunc___api_Train_api_Train_ O := by
  intro s f_n f_a f_b f f_z f_h r hm0
  unfold slices_ContainsFunc___api_Train_api_Train_ at hm0
  refine fn_cw hf rfl (fz_cons (frz_fs fun a _ => fz_eTrain a) (fz_cons f_z fz_nil)) (frz_v _) ?_
  refine cw_start (fun t h => t 0 = .fs 3 (List.map eTrain s) ∧ t 1 = .fn f_n f_a f_b) ⟨rfl, rfl⟩ fun t h ⟨s0, s1⟩ => ?_
  simp only [x_slices_ContainsFunc___api_Train_api_Train_]
  refine cw_reg_seq fun K hK => ?_
  simp only [go_sem]
  refine hK _ _ ?_
  clear hK K
  obtain ⟨y2, h_y2, hm0⟩ := bind_get hm0
  refine cw_reg_seq fun K hK => ?_
  simp only [go_sem, s0, s1]
  refine icall_fn (k_slices_IndexFunc___api_Train_api_Train_ s f_n f_a f_b f f_z f_h _ h_y2) ?_
  simp only [go_sem, s0, s1]
  refine hK _ _ ?_
  clear hK K
  simp only [cw_ret, qseq_ret, qblock_ret, retQ_ret]
  obtain rfl := Option.some.inj hm0
  exact done_t (by simp only [go_sem, List.length_append, List.map_append]) (frz_v _)

end Go.Nw.HM

namespace Go.Nw.HM
open Go.Nw.Halls
set_option linter.unusedSimpArgs false
set_option linter.unusedVariables false
set_option maxHeartbeats 4000000
variable {O : Orac}

theorem k_slices_ContainsFunc___int_int_ (hf : Has O "slices.ContainsFunc[[]int,int]" x_slices_ContainsFunc___int_int_) (k_slices_IndexFunc___int_int_ : C_slices_IndexFunc___int_int_ O) : C_slices_ContainsFunc___int_int_ O := by
  intro s f_n f_a f_b f f_z f_h r hm0
  unfold slices_ContainsFunc___int_int_ at hm0
  refine fn_cw hf rfl (fz_cons (frz_fs fun a _ => fz_eI a) (fz_cons f_z fz_nil)) (frz_v _) ?_
  refine cw_start (fun t h => t 0 = .fs 1 (List.map eI s) ∧ t 1 = .fn f_n f_a f_b) ⟨rfl, rfl⟩ fun t h ⟨s0, s1⟩ => ?_
  simp only [x_slices_ContainsFunc___int_int_]
  refine cw_reg_seq fun K hK => ?_
  simp only [go_sem]
  refine hK _ _ ?_
  clear hK K
  obtain ⟨y2, h_y2, hm0⟩ := bind_get hm0
  refine cw_reg_seq fun K hK => ?_
  simp only [go_sem, s0, s1]
  refine icall_fn (k_slices_IndexFunc___int_int_ s f_n f_a f_b f f_z f_h _ h_y2) ?_
  simp only [go_sem, s0, s1]
  refine hK _ _ ?_
  clear hK K
  simp only [cw_ret, qseq_ret, qblock_ret, retQ_ret]
  obtain rfl := Option.some.inj hm0
  exact done_t (by simp only [go_sem, List.length_append, List.map_append]) (frz_v _)

end Go.Nw.HM

namespace Go.Nw.HM
open Go.Nw.Halls
set_option linter.unusedSimpArgs false
set_option linter.unusedVariables false
set_option maxHeartbeats 4000000
variable {O : Orac}

theorem k_slices_IndexFunc___api_Train_api_Train_ (hf : Has O "slices.IndexFunc[[]newel/api.Train,newel/api.Train]" x_slices_IndexFunc___api_Train_api_Train_) : C_slices_IndexFunc___api_Train_api_Train_ O := by
  intro s f_n f_a f_b f f_z f_h r hm0
  unfold slices_IndexFunc___api_Train_api_Train_ at hm0
  refine fn_cw hf rfl (fz_cons (frz_fs fun a _ => fz_eTrain a) (fz_cons f_z fz_nil)) (frz_v _) ?_
  refine cw_start (fun t h => t 0 = .fs 3 (List.map eTrain s) ∧ t 1 = .fn f_n f_a f_b) ⟨rfl, rfl⟩ fun t h ⟨s0, s1⟩ => ?_
  simp only [x_slices_IndexFunc___api_Train_api_Train_]
  refine cw_reg_seq fun K hK => ?_
  simp only [go_sem]
  refine hK _ _ ?_
  clear hK K
  refine cw_assoc ?_
  refine cw_reg_seq fun K hK => ?_
  simp only [go_sem, s0]
  refine hK _ _ ?_
  clear hK K
  refine cw_seq_k fun K1 hK1 => ?_
  have J2 : ∀ (t : Slots) (h : Heap), slices_IndexFunc___api_Train_api_Train__j2 = some r → K1 t h := by
    intro t h hm0
    refine hK1 _ _ ?_
    unfold slices_IndexFunc___api_Train_api_Train__j2 at hm0
    refine cw_reg_seq fun K hK => ?_
    simp only [go_sem]
    refine hK _ _ ?_
    clear hK K
    simp only [cw_ret, qseq_ret, qblock_ret, retQ_ret]
    obtain rfl := Option.some.inj hm0
    exact done_t (by simp only [go_sem, List.length_append, List.map_append]) (frz_v _)
  simp only [cw_block]
  obtain ⟨b3, hl3, hm0⟩ := bind_get hm0
  refine cw_loopM hl3 (fun | x_8, t, h => t 0 = .fs 3 (List.map eTrain s) ∧ t 1 = .fn f_n f_a f_b ∧ t 7 = I (List.length s : Int) ∧ t 8 = I x_8) ?_ ?_
  · exact ⟨s0, s1, (by first | (simp only [go_sem, List.length_append, List.map_append]; done) | rfl), (by first | (simp only [go_sem, List.length_append, List.map_append]; done) | rfl)⟩
  · rintro x_8 o t h ⟨s0, s1, s7, s8⟩ hm1 hb3
    simp only [slices_IndexFunc___api_Train_api_Train__L7] at hm1
    rw [x_slices_IndexFunc___api_Train_api_Train__L7]
    refine cw_reg_seq fun K hK => ?_
    simp only [go_sem, s7, s8]
    refine hK _ _ ?_
    clear hK K
    refine cw_seq_k fun K4 hK4 => ?_
    simp only [go_sem]
    refine ibr_intro (fun hc5 => ?_) (fun hc5 => ?_)
    · rw [if_t hc5] at hm1
      simp only [cw_skip, qblock_normal, qseq_normal]
      refine hK4 _ _ ?_
      refine cw_seq_k fun K6 hK6 => ?_
      simp only [cw_block]
      refine cw_reg_seq fun K hK => ?_
      simp only [go_sem, s8]
      refine hK _ _ ?_
      clear hK K
      obtain ⟨x9, h_x9, hm1⟩ := bind_get hm1
      have h_x90 := get_nn h_x9
      have h_x91 := get_lt h_x9
      obtain ⟨y10, h_y10, hm1⟩ := bind_get hm1
      refine cw_reg_seq fun K hK => ?_
      simp only [go_sem, s0, s1, ielem_get h_x9, irow_get h_x9, h_x90, h_x91]
      refine icallv_fn (f_h x9 _ h_y10) ?_
      simp only [go_sem, s0, s1, ielem_get h_x9, irow_get h_x9, h_x90, h_x91]
      refine hK _ _ ?_
      clear hK K
      simp only [go_sem]
      refine ibr_intro (fun hc11 => ?_) (fun hc11 => ?_)
      · rw [if_t hc11] at hm1
        refine cw_reg_seq fun K hK => ?_
        simp only [go_sem]
        refine hK _ _ ?_
        clear hK K
        simp only [cw_ret, qseq_ret, qblock_ret, retQ_ret]
        obtain rfl := Option.some.inj hm1
        obtain rfl := hb3 _ rfl
        try dsimp only at hm0
        obtain rfl := Option.some.inj hm0
        exact done_t (by simp only [go_sem, List.length_append, List.map_append]) (frz_v _)
      · rw [if_f hc11] at hm1
        simp only [cw_skip, qblock_normal, qseq_normal]
        refine hK6 _ _ ?_
        refine cw_reg_k fun K hK => ?_
        simp only [go_sem, s8]
        refine hK _ _ ?_
        clear hK K
        simp only [qblock_normal, qseq_normal]
        obtain rfl := Option.some.inj hm1
        refine ⟨_, rfl, ?_⟩
        exact ⟨s0, s1, s7, (by first | (simp only [go_sem, s8, List.length_append, List.map_append]; done) | rfl)⟩
    · rw [if_f hc5] at hm1
      simp only [cw_exit, qseq_exit, qblock_same, qblock_ne, qblock_normal, qseq_normal, Nat.reduceEqDiff, not_false_eq_true]
      obtain rfl := Option.some.inj hm1
      obtain rfl := hb3 _ rfl
      try dsimp only at hm0
      exact J2  _ _  hm0

end Go.Nw.HM

namespace Go.Nw.HM
open Go.Nw.Halls
set_option linter.unusedSimpArgs false
set_option linter.unusedVariables false
set_option maxHeartbeats 4000000
variable {O : Orac}

theorem k_slices_IndexFunc___int_int_ (hf : Has O "slices.IndexFunc[[]int,int]" x_slices_IndexFunc___int_int_) : C_slices_IndexFunc___int_int_ O := by
  intro s f_n f_a f_b f f_z f_h r hm0
  unfold slices_IndexFunc___int_int_ at hm0
  refine fn_cw hf rfl (fz_cons (frz_fs fun a _ => fz_eI a) (fz_cons f_z fz_nil)) (frz_v _) ?_
  refine cw_start (fun t h => t 0 = .fs 1 (List.map eI s) ∧ t 1 = .fn f_n f_a f_b) ⟨rfl, rfl⟩ fun t h ⟨s0, s1⟩ => ?_
  simp only [x_slices_IndexFunc___int_int_]
  refine cw_reg_seq fun K hK => ?_
  simp only [go_sem]
  refine hK _ _ ?_
  clear hK K
  refine cw_assoc ?_
  refine cw_reg_seq fun K hK => ?_
  simp only [go_sem, s0]
  refine hK _ _ ?_
  clear hK K
  refine cw_seq_k fun K1 hK1 => ?_
  have J2 : ∀ (t : Slots) (h : Heap), slices_IndexFunc___int_int__j2 = some r → K1 t h := by
    intro t h hm0
    refine hK1 _ _ ?_
    unfold slices_IndexFunc___int_int__j2 at hm0
    refine cw_reg_seq fun K hK => ?_
    simp only [go_sem]
    refine hK _ _ ?_
    clear hK K
    simp only [cw_ret, qseq_ret, qblock_ret, retQ_ret]
    obtain rfl := Option.some.inj hm0
    exact done_t (by simp only [go_sem, List.length_append, List.map_append]) (frz_v _)
  simp only [cw_block]
  obtain ⟨b3, hl3, hm0⟩ := bind_get hm0
  refine cw_loopM hl3 (fun | x_8, t, h => t 0 = .fs 1 (List.map eI s) ∧ t 1 = .fn f_n f_a f_b ∧ t 7 = I (List.length s : Int) ∧ t 8 = I x_8) ?_ ?_
  · exact ⟨s0, s1, (by first | (simp only [go_sem, List.length_append, List.map_append]; done) | rfl), (by first | (simp only [go_sem, List.length_append, List.map_append]; done) | rfl)⟩
  · rintro x_8 o t h ⟨s0, s1, s7, s8⟩ hm1 hb3
    simp only [slices_IndexFunc___int_int__L7] at hm1
    rw [x_slices_IndexFunc___int_int__L7]
    refine cw_reg_seq fun K hK => ?_
    simp only [go_sem, s7, s8]
    refine hK _ _ ?_
    clear hK K
    refine cw_seq_k fun K4 hK4 => ?_
    simp only [go_sem]
    refine ibr_intro (fun hc5 => ?_) (fun hc5 => ?_)
    · rw [if_t hc5] at hm1
      simp only [cw_skip, qblock_normal, qseq_normal]
      refine hK4 _ _ ?_
      refine cw_seq_k fun K6 hK6 => ?_
      simp only [cw_block]
      refine cw_reg_seq fun K hK => ?_
      simp only [go_sem, s8]
      refine hK _ _ ?_
      clear hK K
      obtain ⟨x9, h_x9, hm1⟩ := bind_get hm1
      have h_x90 := get_nn h_x9
      have h_x91 := get_lt h_x9
      obtain ⟨y10, h_y10, hm1⟩ := bind_get hm1
      refine cw_reg_seq fun K hK => ?_
      simp only [go_sem, s0, s1, ielem_get h_x9, irow_get h_x9, h_x90, h_x91]
      refine icallv_fn (f_h x9 _ h_y10) ?_
      simp only [go_sem, s0, s1, ielem_get h_x9, irow_get h_x9, h_x90, h_x91]
      refine hK _ _ ?_
      clear hK K
      simp only [go_sem]
      refine ibr_intro (fun hc11 => ?_) (fun hc11 => ?_)
      · rw [if_t hc11] at hm1
        refine cw_reg_seq fun K hK => ?_
        simp only [go_sem]
        refine hK _ _ ?_
        clear hK K
        simp only [cw_ret, qseq_ret, qblock_ret, retQ_ret]
        obtain rfl := Option.some.inj hm1
        obtain rfl := hb3 _ rfl
        try dsimp only at hm0
        obtain rfl := Option.some.inj hm0
        exact done_t (by simp only [go_sem, List.length_append, List.map_append]) (frz_v _)
      · rw [if_f hc11] at hm1
        simp only [cw_skip, qblock_normal, qseq_normal]
        refine hK6 _ _ ?_
        refine cw_reg_k fun K hK => ?_
        simp only [go_sem, s8]
        refine hK _ _ ?_
        clear hK K
        simp only [qblock_normal, qseq_normal]
        obtain rfl := Option.some.inj hm1
        refine ⟨_, rfl, ?_⟩
        exact ⟨s0, s1, s7, (by first | (simp only [go_sem, s8, List.length_append, List.map_append]; done) | rfl)⟩
    · rw [if_f hc5] at hm1
      simp only [cw_exit, qseq_exit, qblock_same, qblock_ne, qblock_normal, qseq_normal, Nat.reduceEqDiff, not_false_eq_true]
      obtain rfl := Option.some.inj hm1
      obtain rfl := hb3 _ rfl
      try dsimp only at hm0
      exact J2  _ _  hm0

end Go.Nw.HM
