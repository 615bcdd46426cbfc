/- That the texts make what their models say: printed by a program. -/
import Derived.Test.YteoedeeljnboeaaHM
set_option linter.all false
set_option linter.unusedVariables false
set_option linter.unusedSimpArgs false
set_option linter.unusedSectionVars false
namespace Go.Nw.HM
open Go.Nw.Halls
set_option linter.unusedSimpArgs false
set_option linter.unusedVariables false
set_option maxHeartbeats 4000000
variable {O : Orac}

theorem k_halls_bounds_w (hf : Has O "newel/halls.bounds" x_halls_bounds) (k_halls_brought : C_halls_brought O) (k___halls_bound__passes : C___halls_bound__passes O) : C_halls_bounds_w O := by
  intro h_ open_ v_1 hs_1 h0 rr_p1 r hm0
  unfold halls_bounds at hm0
  refine hasw_cw hf rfl ?_
  refine cw_start (fun t h => t 0 = .agg [.fs 5 (List.map eComb h_.Combs), .fs 3 (List.map eTrain h_.Trains), .fs 3 (List.map eShift h_.Shifts), I h_.Until] ∧ t 1 = v_1 ∧ RR h v_1 hs_1 1 eI open_ ∧ (∀ j, j < h0.nx → h.ob j = h0.ob j) ∧ h0.nx ≤ h.nx) ⟨rfl, rfl, rr_p1, fun _ _ => rfl, Nat.le_refl _⟩ fun t h ⟨s0, s1, rr_p1, fr, fx⟩ => ?_
  simp only [x_halls_bounds]
  refine cw_reg_seq fun K hK => ?_
  simp only [go_sem, s0]
  refine hK _ _ ?_
  clear hK K
  refine cw_reg_seq fun K hK => ?_
  simp only [go_sem]
  refine hK _ _ ?_
  clear hK K
  refine cw_assoc ?_
  refine cw_reg_seq fun K hK => ?_
  simp only [go_sem]
  refine hK _ _ ?_
  clear hK K
  refine cw_seq_k fun K1 hK1 => ?_
  have J2 : ∀ (all_5 : List halls_bound) (v5 : AV) (t : Slots) (h : Heap), t 5 = v5 → OwnS h v5 1 (List.map eP_halls_bound all_5) → (∀ j, j < h0.nx → h.ob j = h0.ob j) → h0.nx ≤ h.nx → (∀ j, ¬NotId v5 j → h0.nx ≤ j) → halls_bounds_j2 all_5 = some r → K1 t h := by
    intro all_5 v5 t h s5 qd fr fx qo hm0
    refine hK1 _ _ ?_
    unfold halls_bounds_j2 at hm0
    refine cw_assoc ?_
    refine cw_ghost_own (s := 5) (v := v5) (f := eP_halls_bound) (l := all_5) (by simp only [go_sem, s5, own_late qd, List.length_append, List.map_append]) (own_later qd (by intro j hj hl; first | rfl | simp only [go_sem, hl]) (by first | omega | exact Nat.le_refl _ | (simp only [go_sem, nxs] <;> omega))) fz_eP_halls_bound ln_eP_halls_bound ?_
    skip
    refine cw_reg_seq fun K hK => ?_
    simp only [go_sem, s5, istr_of v5]
    refine hK _ _ ?_
    clear hK K
    simp only [cw_ret, qseq_ret, qblock_ret, retQ_ret]
    obtain rfl := Option.some.inj hm0
    exact retw_t (Post := fun v h => v = .fs 1 (List.map eP_halls_bound all_5) ∧ (∀ j, j < h0.nx → h.ob j = h0.ob j) ∧ h0.nx ≤ h.nx) (v := .fs 1 (List.map eP_halls_bound all_5)) (by simp only [go_sem, own_late qd, List.length_append, List.map_append]) ⟨rfl, (by intro j hj; first | exact fr j hj | (refine Eq.trans ?_ (fr j hj); first | rfl | simp only [go_sem, Nat.lt_of_lt_of_le hj fx, ge_nid qo hj, vidb_own qd (ge_nid qo hj), frzH_own qd (ge_nid qo hj)])), (by first | exact fx | omega | (simp only [go_sem, nxs] <;> omega))⟩
  simp only [cw_block]
  obtain ⟨b3, hl3, hm0⟩ := bind_get hm0
  refine cw_loopM hl3 (fun | (all_5, x_19), t, h => ∃ v1 : AV, ∃ v5 : AV, t 1 = v1 ∧ t 2 = .fp [.fs 5 (List.map eComb h_.Combs), .fs 3 (List.map eTrain h_.Trains), .fs 3 (List.map eShift h_.Shifts), I h_.Until] 0 ∧ t 5 = v5 ∧ t 18 = I (List.length h_.Combs : Int) ∧ t 19 = I x_19 ∧ RR h v1 hs_1 1 eI open_ ∧ OwnS h v5 1 (List.map eP_halls_bound all_5) ∧ (∀ j, ¬NotId v5 j → RNot v1 hs_1 j) ∧ (∀ j, j < h0.nx → h.ob j = h0.ob j) ∧ h0.nx ≤ h.nx ∧ (∀ j, ¬NotId v5 j → h0.nx ≤ j)) ?_ ?_
  · exact ⟨v_1, (.v (.slice none 0 0)), s1, (by first | (simp only [go_sem, List.length_append, List.map_append]; done) | rfl), (by first | (simp only [go_sem, List.length_append, List.map_append]; done) | rfl), (by first | (simp only [go_sem, List.length_append, List.map_append]; done) | rfl), (by first | (simp only [go_sem, List.length_append, List.map_append]; done) | rfl), rr_p1, own_nil', dr_nil, fr, fx, dr_nil⟩
  · rintro ⟨all_5, x_19⟩ o t h ⟨v1, v5, s1, s2, s5, s18, s19, q8, qd, qg, fr, fx, qo⟩ hm1 hb3
    simp only [halls_bounds_L42] at hm1
    rw [x_halls_bounds_L42]
    refine cw_reg_seq fun K hK => ?_
    simp only [go_sem, s18, s19, istr_of v1, istr_of v5]
    refine hK _ _ ?_
    clear hK K
    refine cw_seq_k fun K4 hK4 => ?_
    simp only [go_sem]
    refine ibr_intro (fun hc5 => ?_) (fun hc5 => ?_)
    · rw [if_t hc5] at hm1
      simp only [cw_skip, qblock_normal, qseq_normal]
      refine hK4 _ _ ?_
      refine cw_seq_k fun K6 hK6 => ?_
      have J7 : ∀ (all_5_1 : List halls_bound) (v1_1 : AV) (i5 : Nat) (t : Slots) (h : Heap), t 1 = v1_1 → t 2 = .fp [.fs 5 (List.map eComb h_.Combs), .fs 3 (List.map eTrain h_.Trains), .fs 3 (List.map eShift h_.Shifts), I h_.Until] 0 → t 5 = .rs i5 0 (List.length all_5_1) → t 18 = I (List.length h_.Combs : Int) → t 19 = I x_19 → RR h v1_1 hs_1 1 eI open_ → h.ob i5 = some (1, List.map eP_halls_bound all_5_1) → i5 < h.nx → RNot v1_1 hs_1 i5 → (∀ j, j < h0.nx → h.ob j = h0.ob j) → h0.nx ≤ h.nx → h0.nx ≤ i5 → halls_bounds_j7 x_19 all_5_1 = some o → K6 t h := by
        try clear s1 s2 s5 s18 s19 q8 qd qg fr fx qo
        intro all_5_1 v1_1 i5 t h s1 s2 s5 s18 s19 q8 q16 qz q1s fr fx qo hm1
        refine hK6 _ _ ?_
        unfold halls_bounds_j7 at hm1
        refine cw_reg_k fun K hK => ?_
        simp only [go_sem, s19, qz, istr_of v1, istr_of v5, istr_of v1_1]
        refine hK _ _ ?_
        clear hK K
        simp only [qblock_normal, qseq_normal]
        obtain rfl := Option.some.inj hm1
        refine ⟨_, rfl, ?_⟩
        exact ⟨v1_1, (.rs i5 0 (List.length all_5_1)), s1, s2, (by first | exact s5 | simp only [go_sem, s5, List.length_append, List.map_append]), s18, (by first | (simp only [go_sem, s19, List.length_append, List.map_append]; done) | rfl), q8, (own_rs (by simp only [go_sem, q16, qz, List.length_append, List.map_append]) (by first | rfl | simp only [go_sem, List.length_append, List.map_append]) (by simp only [go_sem, qz])), (dr_rs q1s), fr, fx, (ge_rs qo)⟩
      simp only [cw_block]
      refine cw_reg_seq fun K hK => ?_
      simp only [go_sem, s19, istr_of v1, istr_of v5]
      refine hK _ _ ?_
      clear hK K
      refine cw_reg_seq fun K hK => ?_
      simp only [go_sem, istr_of v1, istr_of v5]
      refine hK _ _ ?_
      clear hK K
      refine cw_assoc ?_
      refine cw_reg_seq fun K hK => ?_
      simp only [go_sem, s2, istr_of v1, istr_of v5]
      refine hK _ _ ?_
      clear hK K
      refine cw_seq_k fun K8 hK8 => ?_
      have J9 : ∀ (b_7_0 : List Int) (b_7_3 : List (List Int)) (v1_1 : AV) (v5_1 : AV) (i7 : Nat) (i7_1 : Nat) (i7_2 : Nat) (v7 : AV) (t : Slots) (h : Heap), t 1 = v1_1 → t 2 = .fp [.fs 5 (List.map eComb h_.Combs), .fs 3 (List.map eTrain h_.Trains), .fs 3 (List.map eShift h_.Shifts), I h_.Until] 0 → t 5 = v5_1 → t 6 = I x_19 → t 7 = .rp i7 0 0 → t 18 = I (List.length h_.Combs : Int) → t 19 = I x_19 → RR h v1_1 hs_1 1 eI open_ → OwnS h v5_1 1 (List.map eP_halls_bound all_5) → h.ob i7 = some (4, [[.rs i7_1 0 (List.length b_7_0), .rs i7_2 0 (List.length ([0])), .v (.slice none 0 0), v7]]) → i7 < h.nx → h.ob i7_1 = some (1, List.map eI b_7_0) → i7_1 < h.nx → h.ob i7_2 = some (1, List.map eI ([0])) → i7_2 < h.nx → OwnS h v7 1 (List.map eL_I b_7_3) → (∀ j, ¬NotId v5_1 j → RNot v1_1 hs_1 j) → RNot v1_1 hs_1 i7 → RNot v1_1 hs_1 i7_1 → RNot v1_1 hs_1 i7_2 → (∀ j, ¬NotId v7 j → RNot v1_1 hs_1 j) → NotId v5_1 i7 → NotId v5_1 i7_1 → NotId v5_1 i7_2 → (∀ j, ¬NotId v5_1 j → NotId v7 j) → ¬i7 = i7_1 → ¬i7 = i7_2 → NotId v7 i7 → ¬i7_1 = i7_2 → NotId v7 i7_1 → NotId v7 i7_2 → (∀ j, j < h0.nx → h.ob j = h0.ob j) → h0.nx ≤ h.nx → (∀ j, ¬NotId v5_1 j → h0.nx ≤ j) → h0.nx ≤ i7 → h0.nx ≤ i7_1 → h0.nx ≤ i7_2 → (∀ j, ¬NotId v7 j → h0.nx ≤ j) → halls_bounds_j9 h_ open_ all_5 x_19 b_7_0 b_7_3 = some o → K8 t h := by
        try clear s1 s2 s5 s18 s19 q8 qd qg fr fx qo
        intro b_7_0 b_7_3 v1_1 v5_1 i7 i7_1 i7_2 v7 t h s1 s2 s5 s6 s7 s18 s19 q8 qd qa q0 qh q2 qi q1 qb qg q3 q4 q5 qm qc qe qf qy q6 q7 qj q9 qk ql fr fx qo qt qv qw qu hm1
        refine hK8 _ _ ?_
        unfold halls_bounds_j9 at hm1
        refine cw_assoc ?_
        refine cw_reg_seq fun K hK => ?_
        simp only [go_sem, s2, q0, q2, q1, istr_of v1, istr_of v5, istr_of v1_1, istr_of v5_1, istr_of v7]
        refine hK _ _ ?_
        clear hK K
        refine cw_seq_k fun K10 hK10 => ?_
        have J11 : ∀ (b_7_1 : List Int) (b_7_2 : List Int) (v1_2 : AV) (i7_3 : Nat) (v7_1 : AV) (v7_2 : AV) (t : Slots) (h : Heap), t 1 = v1_2 → t 2 = .fp [.fs 5 (List.map eComb h_.Combs), .fs 3 (List.map eTrain h_.Trains), .fs 3 (List.map eShift h_.Shifts), I h_.Until] 0 → t 5 = v5_1 → t 7 = .rp i7 0 0 → t 18 = I (List.length h_.Combs : Int) → t 19 = I x_19 → RR h v1_2 hs_1 1 eI open_ → OwnS h v5_1 1 (List.map eP_halls_bound all_5) → h.ob i7 = some (4, [[.rs i7_1 0 (List.length b_7_0), .rs i7_3 0 (List.length b_7_1), v7_1, v7_2]]) → i7 < h.nx → h.ob i7_1 = some (1, List.map eI b_7_0) → i7_1 < h.nx → h.ob i7_3 = some (1, List.map eI b_7_1) → i7_3 < h.nx → OwnS h v7_1 1 (List.map eI b_7_2) → OwnS h v7_2 1 (List.map eL_I b_7_3) → (∀ j, ¬NotId v5_1 j → RNot v1_2 hs_1 j) → RNot v1_2 hs_1 i7 → RNot v1_2 hs_1 i7_1 → RNot v1_2 hs_1 i7_3 → (∀ j, ¬NotId v7_1 j → RNot v1_2 hs_1 j) → (∀ j, ¬NotId v7_2 j → RNot v1_2 hs_1 j) → NotId v5_1 i7 → NotId v5_1 i7_1 → NotId v5_1 i7_3 → (∀ j, ¬NotId v5_1 j → NotId v7_1 j) → (∀ j, ¬NotId v5_1 j → NotId v7_2 j) → ¬i7 = i7_1 → ¬i7 = i7_3 → NotId v7_1 i7 → NotId v7_2 i7 → ¬i7_1 = i7_3 → NotId v7_1 i7_1 → NotId v7_2 i7_1 → NotId v7_1 i7_3 → NotId v7_2 i7_3 → (∀ j, ¬NotId v7_1 j → NotId v7_2 j) → (∀ j, j < h0.nx → h.ob j = h0.ob j) → h0.nx ≤ h.nx → (∀ j, ¬NotId v5_1 j → h0.nx ≤ j) → h0.nx ≤ i7 → h0.nx ≤ i7_1 → h0.nx ≤ i7_3 → (∀ j, ¬NotId v7_1 j → h0.nx ≤ j) → (∀ j, ¬NotId v7_2 j → h0.nx ≤ j) → halls_bounds_j11 all_5 x_19 b_7_0 b_7_3 b_7_1 b_7_2 = some o → K10 t h := by
          try clear s1 s2 s5 s6 s7 s18 s19 q8 qd qa q0 qh q2 qi q1 qb qg q3 q4 q5 qm qc qe qf qy q6 q7 qj q9 qk ql fr fx qo qt qv qw qu
          intro b_7_1 b_7_2 v1_2 i7_3 v7_1 v7_2 t h s1 s2 s5 s7 s18 s19 q8 qd qa q0 qh q2 qi q1 qb qx qg q3 q4 q5 qm q15 qc qe qf qy q18 q6 q7 qj q10 q9 qk q11 ql q12 q1d fr fx qo qt qv qw qu q19 hm1
          refine hK10 _ _ ?_
          unfold halls_bounds_j11 at hm1
          refine cw_ghost_deep (s := 7) (v := .rp i7 0 0) (y := .fp [.fs 1 (List.map eI b_7_0), .fs 1 (List.map eI b_7_1), .fs 1 (List.map eI b_7_2), .fs 1 (List.map eL_I b_7_3)] 0) (fun j => j == i7 || j == i7_1 || j == i7_3 || vidb v7_1 j || vidb v7_2 j) (by simp only [go_sem, s7, rr_lates q8, own_late qd, qa, q0, qh, q2, qi, q1, own_late qb, own_late qx, rn_top q3, rn_top q4, rn_top q5, qc, qe, qf, q6, nsym q6, q7, nsym q7, qj, q10, q9, nsym q9, qk, q11, ql, q12, List.length_append, List.map_append]) (fz_rp (id := i7) (sz := 4) (xs := [.rs i7_1 0 (List.length b_7_0), .rs i7_3 0 (List.length b_7_1), v7_1, v7_2]) (by rw [only_ob (by simp)]; simp only [go_sem, rr_lates q8, own_late qd, qa, q0, qh, q2, qi, q1, own_late qb, own_late qx, rn_top q3, rn_top q4, rn_top q5, qc, qe, qf, q6, nsym q6, q7, nsym q7, qj, q10, q9, nsym q9, qk, q11, ql, q12, List.length_append, List.map_append]) (.cons (fz_rs (f := eI) (l := b_7_0) (id := i7_1) (by rw [only_ob (by simp)]; simp only [go_sem, rr_lates q8, own_late qd, qa, q0, qh, q2, qi, q1, own_late qb, own_late qx, rn_top q3, rn_top q4, rn_top q5, qc, qe, qf, q6, nsym q6, q7, nsym q7, qj, q10, q9, nsym q9, qk, q11, ql, q12, List.length_append, List.map_append]) (by first | rfl | simp only [go_sem, List.length_append, List.map_append]) fz_eI ln_eI) (.cons (fz_rs (f := eI) (l := b_7_1) (id := i7_3) (by rw [only_ob (by simp)]; simp only [go_sem, rr_lates q8, own_late qd, qa, q0, qh, q2, qi, q1, own_late qb, own_late qx, rn_top q3, rn_top q4, rn_top q5, qc, qe, qf, q6, nsym q6, q7, nsym q7, qj, q10, q9, nsym q9, qk, q11, ql, q12, List.length_append, List.map_append]) (by first | rfl | simp only [go_sem, List.length_append, List.map_append]) fz_eI ln_eI) (.cons (fz_own (f := eI) (l := b_7_2) (own_only (own_later qb (by intro j hj hl; first | rfl | simp only [go_sem, hl, rn_top (qm j hj), di_sym qy j hj, own_ne hj qj, own_ne hj qk, own_ne hj ql, q1d j hj]) (by first | omega | exact Nat.le_refl _ | (simp only [go_sem, nxs] <;> omega))) (by intro j hj; simp [vidb_is hj])) fz_eI ln_eI) (.cons (fz_own (f := eL_I) (l := b_7_3) (own_only (own_later qx (by intro j hj hl; first | rfl | simp only [go_sem, hl, rn_top (q15 j hj), di_sym q18 j hj, own_ne hj q10, own_ne hj q11, own_ne hj q12, di_sym q1d j hj]) (by first | omega | exact Nat.le_refl _ | (simp only [go_sem, nxs] <;> omega))) (by intro j hj; simp [vidb_is hj])) fz_eL_I ln_eL_I) (.nil)))))) (.fp _ _ (fz_cons (frz_fs fun a _ => fz_eI a) (fz_cons (frz_fs fun a _ => fz_eI a) (fz_cons (frz_fs fun a _ => fz_eI a) (fz_cons (frz_fs fun a _ => fz_eL_I a) fz_nil))))) ?_
          obtain ⟨l13, h_l13, hm1⟩ := bind_get hm1
          refine cw_reg_k fun K hK => ?_
          simp only [go_sem, s5, s7, q0, q2, q1, qc, qe, qf, Bool.or_eq_false_iff, beq_eq_false_iff_ne, ne_eq, not_false_eq_true, and_self, vidb_own qb qj, vidb_own qx q10, vidb_own qb qk, vidb_own qx q11, vidb_own qb ql, vidb_own qx q12, istr_of v1, istr_of v5, istr_of v1_1, istr_of v5_1, istr_of v7, istr_of v1_2, istr_of v7_1, istr_of v7_2]
          refine iapp_own (f := eP_halls_bound) (l := all_5) (m := ([(halls_bound.mk b_7_0 b_7_1 b_7_2 b_7_3)])) ?_ ?_ ?_ ?_ h_l13 ?_
          · exact (own_later qd (by intro j hj hl; first | rfl | simp only [go_sem, hl, rn_top (qg j hj), own_ne hj qc, own_ne hj qe, own_ne hj qf, qy j hj, vidb_own qb (qy j hj), q18 j hj, vidb_own qx (q18 j hj), Bool.or_eq_false_iff, beq_eq_false_iff_ne, ne_eq, not_false_eq_true, and_self]) (by first | omega | exact Nat.le_refl _ | (simp only [go_sem, nxs] <;> omega)))
          · exact (ownx_rs (by simp only [go_sem, Bool.or_eq_false_iff, beq_eq_false_iff_ne, ne_eq, not_false_eq_true, and_self, vidb_own qb qj, vidb_own qx q10, vidb_own qb qk, vidb_own qx q11, vidb_own qb ql, vidb_own qx q12, rr_lates q8, own_late qd, qa, q0, qh, q2, qi, q1, own_late qb, own_late qx, rn_top q3, rn_top q4, rn_top q5, qc, qe, qf, q6, nsym q6, q7, nsym q7, qj, q10, q9, nsym q9, qk, q11, ql, q12, List.length_append, List.map_append]) (by simp only [go_sem, Bool.or_eq_false_iff, beq_eq_false_iff_ne, ne_eq, not_false_eq_true, and_self, vidb_own qb qj, vidb_own qx q10, vidb_own qb qk, vidb_own qx q11, vidb_own qb ql, vidb_own qx q12, rr_lates q8, own_late qd, qa, q0, qh, q2, qi, q1, own_late qb, own_late qx, rn_top q3, rn_top q4, rn_top q5, qc, qe, qf, q6, nsym q6, q7, nsym q7, qj, q10, q9, nsym q9, qk, q11, ql, q12, List.length_append, List.map_append]))
          · exact (nd_rs (by first | exact notid_nil | exact notid_rs (by first | omega | (simp only [nxs] <;> omega)) | assumption | exact own_notid (by assumption) (by first | omega | (simp only [go_sem, nxs] <;> omega))))
          · exact (fun _ => by simp)
          simp only [go_sem, s5, s7, q0, q2, q1, qc, qe, qf, Bool.or_eq_false_iff, beq_eq_false_iff_ne, ne_eq, not_false_eq_true, and_self, vidb_own qb qj, vidb_own qx q10, vidb_own qb qk, vidb_own qx q11, vidb_own qb ql, vidb_own qx q12, istr_of v1, istr_of v5, istr_of v1_1, istr_of v5_1, istr_of v7, istr_of v1_2, istr_of v7_1, istr_of v7_2]
          refine hK _ _ ?_
          clear hK K
          simp only [qblock_normal, qseq_normal]
          exact J7 l13 v1_2 (nxs h.nx) _ _ s1 s2 (by first | (simp only [go_sem, s5, List.length_append, List.map_append]; done) | rfl) s18 s19 (rr_later q8 (by intro j hj  hl; first | rfl | simp only [go_sem, hl, rm_sym qg j hj, rr_ne hj q3, rr_ne hj q4, rr_ne hj q5, rm_sym qm j hj, vidb_own qb (rm_sym qm j hj), rm_sym q15 j hj, vidb_own qx (rm_sym q15 j hj), Bool.or_eq_false_iff, beq_eq_false_iff_ne, ne_eq, not_false_eq_true, and_self, q0, q2, q1]) (by first | omega | exact Nat.le_refl _ | (simp only [go_sem, nxs] <;> omega))) (by simp only [go_sem, Bool.or_eq_false_iff, beq_eq_false_iff_ne, ne_eq, not_false_eq_true, and_self, own_late qd, q0, q2, q1, own_late qb, own_late qx, List.length_append, List.map_append]) (by simp only [go_sem]) (by first | assumption | exact rr_late q8 (by first | assumption | omega | (simp only [nxs] <;> omega))) (by intro j hj; first | exact fr j hj | (refine Eq.trans ?_ (fr j hj); first | rfl | simp only [go_sem, Nat.lt_of_lt_of_le hj fx, ge_nid qo hj, ge_ne qt hj, ge_ne qv hj, ge_ne qw hj, ge_nid qu hj, vidb_own qb (ge_nid qu hj), frzH_own qb (ge_nid qu hj), ge_nid q19 hj, vidb_own qx (ge_nid q19 hj), frzH_own qx (ge_nid q19 hj), Bool.or_eq_false_iff, beq_eq_false_iff_ne, ne_eq, not_false_eq_true, and_self])) (by first | exact fx | omega | (simp only [go_sem, nxs] <;> omega)) (by first | assumption | omega | (simp only [nxs] <;> omega)) hm1
        simp only [cw_block]
        obtain ⟨b14, hl14, hm1⟩ := bind_get hm1
        refine cw_loopM hl14 (fun | (b_7_1, b_7_2, x_122), t, h => ∃ v1_2 : AV, ∃ i7_3 : Nat, ∃ v7_1 : AV, ∃ v7_2 : AV, t 1 = v1_2 ∧ t 2 = .fp [.fs 5 (List.map eComb h_.Combs), .fs 3 (List.map eTrain h_.Trains), .fs 3 (List.map eShift h_.Shifts), I h_.Until] 0 ∧ t 5 = v5_1 ∧ t 6 = I x_19 ∧ t 7 = .rp i7 0 0 ∧ t 18 = I (List.length h_.Combs : Int) ∧ t 19 = I x_19 ∧ t 121 = I h_.Until ∧ t 122 = I x_122 ∧ RR h v1_2 hs_1 1 eI open_ ∧ OwnS h v5_1 1 (List.map eP_halls_bound all_5) ∧ h.ob i7 = some (4, [[.rs i7_1 0 (List.length b_7_0), .rs i7_3 0 (List.length b_7_1), v7_1, v7_2]]) ∧ i7 < h.nx ∧ h.ob i7_1 = some (1, List.map eI b_7_0) ∧ i7_1 < h.nx ∧ h.ob i7_3 = some (1, List.map eI b_7_1) ∧ i7_3 < h.nx ∧ OwnS h v7_1 1 (List.map eI b_7_2) ∧ OwnS h v7_2 1 (List.map eL_I b_7_3) ∧ (∀ j, ¬NotId v5_1 j → RNot v1_2 hs_1 j) ∧ RNot v1_2 hs_1 i7 ∧ RNot v1_2 hs_1 i7_1 ∧ RNot v1_2 hs_1 i7_3 ∧ (∀ j, ¬NotId v7_1 j → RNot v1_2 hs_1 j) ∧ (∀ j, ¬NotId v7_2 j → RNot v1_2 hs_1 j) ∧ NotId v5_1 i7 ∧ NotId v5_1 i7_1 ∧ NotId v5_1 i7_3 ∧ (∀ j, ¬NotId v5_1 j → NotId v7_1 j) ∧ (∀ j, ¬NotId v5_1 j → NotId v7_2 j) ∧ ¬i7 = i7_1 ∧ ¬i7 = i7_3 ∧ NotId v7_1 i7 ∧ NotId v7_2 i7 ∧ ¬i7_1 = i7_3 ∧ NotId v7_1 i7_1 ∧ NotId v7_2 i7_1 ∧ NotId v7_1 i7_3 ∧ NotId v7_2 i7_3 ∧ (∀ j, ¬NotId v7_1 j → NotId v7_2 j) ∧ (∀ j, j < h0.nx → h.ob j = h0.ob j) ∧ h0.nx ≤ h.nx ∧ (∀ j, ¬NotId v5_1 j → h0.nx ≤ j) ∧ h0.nx ≤ i7 ∧ h0.nx ≤ i7_1 ∧ h0.nx ≤ i7_3 ∧ (∀ j, ¬NotId v7_1 j → h0.nx ≤ j) ∧ (∀ j, ¬NotId v7_2 j → h0.nx ≤ j)) ?_ ?_
        · exact ⟨v1_1, i7_2, (.v (.slice none 0 0)), v7, s1, s2, s5, s6, s7, s18, s19, (by first | (simp only [go_sem, List.length_append, List.map_append]; done) | rfl), (by first | (simp only [go_sem, List.length_append, List.map_append]; done) | rfl), q8, qd, qa, q0, qh, q2, qi, q1, own_nil', qb, qg, q3, q4, q5, dr_nil, qm, qc, qe, qf, (by first | exact dis_nil_l | exact dis_nil_r | assumption | (refine dis_rs_l ?_; first | assumption | exact own_notid (by assumption) (by first | assumption | omega | (simp only [nxs] <;> omega))) | (refine nd_rs ?_; first | assumption | exact own_notid (by assumption) (by first | assumption | omega | (simp only [nxs] <;> omega)))), qy, q6, q7, (by first | exact notid_nil | exact notid_rs (by first | assumption | omega | (simp only [nxs] <;> omega)) | assumption | exact own_notid (by assumption) (by first | assumption | omega | (simp only [nxs] <;> omega))), qj, q9, (by first | exact notid_nil | exact notid_rs (by first | assumption | omega | (simp only [nxs] <;> omega)) | assumption | exact own_notid (by assumption) (by first | assumption | omega | (simp only [nxs] <;> omega))), qk, (by first | exact notid_nil | exact notid_rs (by first | assumption | omega | (simp only [nxs] <;> omega)) | assumption | exact own_notid (by assumption) (by first | assumption | omega | (simp only [nxs] <;> omega))), ql, (by first | exact dis_nil_l | exact dis_nil_r | assumption | (refine dis_rs_l ?_; first | assumption | exact own_notid (by assumption) (by first | assumption | omega | (simp only [nxs] <;> omega))) | (refine nd_rs ?_; first | assumption | exact own_notid (by assumption) (by first | assumption | omega | (simp only [nxs] <;> omega)))), fr, fx, qo, qt, qv, qw, dr_nil, qu⟩
        · try clear s1 s2 s5 s6 s7 s18 s19 q8 qd qa q0 qh q2 qi q1 qb qg q3 q4 q5 qm qc qe qf qy q6 q7 qj q9 qk ql fr fx qo qt qv qw qu
          rintro ⟨b_7_1, b_7_2, x_122⟩ o t h ⟨v1_2, i7_3, v7_1, v7_2, s1, s2, s5, s6, s7, s18, s19, s121, s122, q8, qd, qa, q0, qh, q2, qi, q1, qb, qx, qg, q3, q4, q5, qm, q15, qc, qe, qf, qy, q18, q6, q7, qj, q10, q9, qk, q11, ql, q12, q1d, fr, fx, qo, qt, qv, qw, qu, q19⟩ hm2 hb14
          simp only [halls_bounds_L39] at hm2
          rw [x_halls_bounds_L39]
          refine cw_reg_seq fun K hK => ?_
          simp only [go_sem, s121, s122, q0, q2, q1, istr_of v1, istr_of v5, istr_of v1_1, istr_of v5_1, istr_of v7, istr_of v1_2, istr_of v7_1, istr_of v7_2]
          refine hK _ _ ?_
          clear hK K
          refine cw_seq_k fun K15 hK15 => ?_
          simp only [go_sem]
          refine ibr_intro (fun hc16 => ?_) (fun hc16 => ?_)
          · rw [if_t hc16] at hm2
            simp only [cw_skip, qblock_normal, qseq_normal]
            refine hK15 _ _ ?_
            refine cw_seq_k fun K17 hK17 => ?_
            have J18 : ∀ (b_7_1_1 : List Int) (b_7_2_1 : List Int) (v1_3 : AV) (i7_4 : Nat) (i7_5 : Nat) (v7_3 : AV) (t : Slots) (h : Heap), t 1 = v1_3 → t 2 = .fp [.fs 5 (List.map eComb h_.Combs), .fs 3 (List.map eTrain h_.Trains), .fs 3 (List.map eShift h_.Shifts), I h_.Until] 0 → t 5 = v5_1 → t 6 = I x_19 → t 7 = .rp i7 0 0 → t 18 = I (List.length h_.Combs : Int) → t 19 = I x_19 → t 121 = I h_.Until → t 122 = I x_122 → RR h v1_3 hs_1 1 eI open_ → OwnS h v5_1 1 (List.map eP_halls_bound all_5) → h.ob i7 = some (4, [[.rs i7_1 0 (List.length b_7_0), .rs i7_4 0 (List.length b_7_1_1), .rs i7_5 0 (List.length b_7_2_1), v7_3]]) → i7 < h.nx → h.ob i7_1 = some (1, List.map eI b_7_0) → i7_1 < h.nx → h.ob i7_4 = some (1, List.map eI b_7_1_1) → i7_4 < h.nx → h.ob i7_5 = some (1, List.map eI b_7_2_1) → i7_5 < h.nx → OwnS h v7_3 1 (List.map eL_I b_7_3) → (∀ j, ¬NotId v5_1 j → RNot v1_3 hs_1 j) → RNot v1_3 hs_1 i7 → RNot v1_3 hs_1 i7_1 → RNot v1_3 hs_1 i7_4 → RNot v1_3 hs_1 i7_5 → (∀ j, ¬NotId v7_3 j → RNot v1_3 hs_1 j) → NotId v5_1 i7 → NotId v5_1 i7_1 → NotId v5_1 i7_4 → NotId v5_1 i7_5 → (∀ j, ¬NotId v5_1 j → NotId v7_3 j) → ¬i7 = i7_1 → ¬i7 = i7_4 → ¬i7 = i7_5 → NotId v7_3 i7 → ¬i7_1 = i7_4 → ¬i7_1 = i7_5 → NotId v7_3 i7_1 → ¬i7_4 = i7_5 → NotId v7_3 i7_4 → NotId v7_3 i7_5 → (∀ j, j < h0.nx → h.ob j = h0.ob j) → h0.nx ≤ h.nx → (∀ j, ¬NotId v5_1 j → h0.nx ≤ j) → h0.nx ≤ i7 → h0.nx ≤ i7_1 → h0.nx ≤ i7_4 → h0.nx ≤ i7_5 → (∀ j, ¬NotId v7_3 j → h0.nx ≤ j) → halls_bounds_j18 x_122 b_7_1_1 b_7_2_1 = some o → K17 t h := by
              try clear s1 s2 s5 s6 s7 s18 s19 s121 s122 q8 qd qa q0 qh q2 qi q1 qb qx qg q3 q4 q5 qm q15 qc qe qf qy q18 q6 q7 qj q10 q9 qk q11 ql q12 q1d fr fx qo qt qv qw qu q19
              intro b_7_1_1 b_7_2_1 v1_3 i7_4 i7_5 v7_3 t h s1 s2 s5 s6 s7 s18 s19 s121 s122 q8 qd qa q0 qh q2 qi q1 q1i q1g qx qg q3 q4 q5 q1j q15 qc qe qf q1l q18 q6 q7 q1m q10 q9 q1n q11 q1o q12 q1q fr fx qo qt qv qw qu q19 hm2
              refine hK17 _ _ ?_
              unfold halls_bounds_j18 at hm2
              refine cw_reg_k fun K hK => ?_
              simp only [go_sem, s122, q0, q2, q1, q1g, istr_of v1, istr_of v5, istr_of v1_1, istr_of v5_1, istr_of v7, istr_of v1_2, istr_of v7_1, istr_of v7_2, istr_of v1_3, istr_of v7_3]
              refine hK _ _ ?_
              clear hK K
              simp only [qblock_normal, qseq_normal]
              obtain rfl := Option.some.inj hm2
              refine ⟨_, rfl, ?_⟩
              exact ⟨v1_3, i7_4, (.rs i7_5 0 (List.length b_7_2_1)), v7_3, s1, s2, s5, s6, s7, s18, s19, s121, (by first | (simp only [go_sem, s122, List.length_append, List.map_append]; done) | rfl), q8, qd, qa, q0, qh, q2, qi, q1, (own_rs (by simp only [go_sem, q1i, q1g, List.length_append, List.map_append]) (by first | rfl | simp only [go_sem, List.length_append, List.map_append]) (by simp only [go_sem, q1g])), qx, qg, q3, q4, q5, (dr_rs q1j), q15, qc, qe, qf, (by first | exact dis_nil_l | exact dis_nil_r | assumption | (refine dis_rs_l ?_; first | assumption | exact own_notid (by assumption) (by first | assumption | omega | (simp only [nxs] <;> omega))) | (refine nd_rs ?_; first | assumption | exact own_notid (by assumption) (by first | assumption | omega | (simp only [nxs] <;> omega)))), q18, q6, q7, (by first | exact notid_nil | exact notid_rs (by first | assumption | omega | (simp only [nxs] <;> omega)) | assumption | exact own_notid (by assumption) (by first | assumption | omega | (simp only [nxs] <;> omega))), q10, q9, (by first | exact notid_nil | exact notid_rs (by first | assumption | omega | (simp only [nxs] <;> omega)) | assumption | exact own_notid (by assumption) (by first | assumption | omega | (simp only [nxs] <;> omega))), q11, (by first | exact notid_nil | exact notid_rs (by first | assumption | omega | (simp only [nxs] <;> omega)) | assumption | exact own_notid (by assumption) (by first | assumption | omega | (simp only [nxs] <;> omega))), q12, (by first | exact dis_nil_l | exact dis_nil_r | assumption | (refine dis_rs_l ?_; first | assumption | exact own_notid (by assumption) (by first | assumption | omega | (simp only [nxs] <;> omega))) | (refine nd_rs ?_; first | assumption | exact own_notid (by assumption) (by first | assumption | omega | (simp only [nxs] <;> omega)))), fr, fx, qo, qt, qv, qw, (ge_rs qu), q19⟩
            simp only [cw_block]
            refine cw_reg_seq fun K hK => ?_
            simp only [go_sem, s122, q0, q2, q1, istr_of v1, istr_of v5, istr_of v1_1, istr_of v5_1, istr_of v7, istr_of v1_2, istr_of v7_1, istr_of v7_2]
            refine hK _ _ ?_
            clear hK K
            refine cw_reg_seq fun K hK => ?_
            simp only [go_sem, q0, q2, q1, istr_of v1, istr_of v5, istr_of v1_1, istr_of v5_1, istr_of v7, istr_of v1_2, istr_of v7_1, istr_of v7_2]
            refine hK _ _ ?_
            clear hK K
            refine cw_assoc ?_
            refine cw_reg_seq fun K hK => ?_
            simp only [go_sem, q0, q2, q1, istr_of v1, istr_of v5, istr_of v1_1, istr_of v5_1, istr_of v7, istr_of v1_2, istr_of v7_1, istr_of v7_2]
            refine hK _ _ ?_
            clear hK K
            refine cw_seq_k fun K19 hK19 => ?_
            have J20 : ∀ (most_14 : Int) (v7_3 : AV) (t : Slots) (h : Heap), t 1 = v1_2 → t 2 = .fp [.fs 5 (List.map eComb h_.Combs), .fs 3 (List.map eTrain h_.Trains), .fs 3 (List.map eShift h_.Shifts), I h_.Until] 0 → t 5 = v5_1 → t 6 = I x_19 → t 7 = .rp i7 0 0 → t 13 = I x_122 → t 14 = I most_14 → t 18 = I (List.length h_.Combs : Int) → t 19 = I x_19 → t 121 = I h_.Until → t 122 = I x_122 → RR h v1_2 hs_1 1 eI open_ → OwnS h v5_1 1 (List.map eP_halls_bound all_5) → h.ob i7 = some (4, [[.rs i7_1 0 (List.length b_7_0), .rs i7_3 0 (List.length b_7_1), v7_1, v7_3]]) → i7 < h.nx → h.ob i7_1 = some (1, List.map eI b_7_0) → i7_1 < h.nx → h.ob i7_3 = some (1, List.map eI b_7_1) → i7_3 < h.nx → OwnS h v7_1 1 (List.map eI b_7_2) → OwnS h v7_3 1 (List.map eL_I b_7_3) → (∀ j, ¬NotId v5_1 j → RNot v1_2 hs_1 j) → RNot v1_2 hs_1 i7 → RNot v1_2 hs_1 i7_1 → RNot v1_2 hs_1 i7_3 → (∀ j, ¬NotId v7_1 j → RNot v1_2 hs_1 j) → (∀ j, ¬NotId v7_3 j → RNot v1_2 hs_1 j) → NotId v5_1 i7 → NotId v5_1 i7_1 → NotId v5_1 i7_3 → (∀ j, ¬NotId v5_1 j → NotId v7_1 j) → (∀ j, ¬NotId v5_1 j → NotId v7_3 j) → ¬i7 = i7_1 → ¬i7 = i7_3 → NotId v7_1 i7 → NotId v7_3 i7 → ¬i7_1 = i7_3 → NotId v7_1 i7_1 → NotId v7_3 i7_1 → NotId v7_1 i7_3 → NotId v7_3 i7_3 → (∀ j, ¬NotId v7_1 j → NotId v7_3 j) → (∀ j, j < h0.nx → h.ob j = h0.ob j) → h0.nx ≤ h.nx → (∀ j, ¬NotId v5_1 j → h0.nx ≤ j) → h0.nx ≤ i7 → h0.nx ≤ i7_1 → h0.nx ≤ i7_3 → (∀ j, ¬NotId v7_1 j → h0.nx ≤ j) → (∀ j, ¬NotId v7_3 j → h0.nx ≤ j) → halls_bounds_j20 open_ x_19 b_7_1 b_7_2 x_122 most_14 = some o → K19 t h := by
              try clear s1 s2 s5 s6 s7 s18 s19 s121 s122 q8 qd qa q0 qh q2 qi q1 qb qx qg q3 q4 q5 qm q15 qc qe qf qy q18 q6 q7 qj q10 q9 qk q11 ql q12 q1d fr fx qo qt qv qw qu q19
              intro most_14 v7_3 t h s1 s2 s5 s6 s7 s13 s14 s18 s19 s121 s122 q8 qd qa q0 qh q2 qi q1 qb qx qg q3 q4 q5 qm q15 qc qe qf qy q18 q6 q7 qj q10 q9 qk q11 ql q12 q1d fr fx qo qt qv qw qu q19 hm2
              refine hK19 _ _ ?_
              unfold halls_bounds_j20 at hm2
              obtain ⟨l22, h_l22, hm2⟩ := bind_get hm2
              refine cw_reg_seq fun K hK => ?_
              simp only [go_sem, s7, s14, qa, q0, qh, q2, qi, q1, qc, qe, qf, q6, nsym q6, q7, nsym q7, qj, q10, q9, nsym q9, qk, q11, ql, q12, istr_of v1, istr_of v5, istr_of v1_1, istr_of v5_1, istr_of v7, istr_of v1_2, istr_of v7_1, istr_of v7_2, istr_of v7_3]
              refine iapp_own (f := eI) (l := b_7_2) (m := ([most_14])) ?_ ?_ ?_ ?_ h_l22 ?_
              · exact (own_later qb (by intro j hj hl; first | rfl | simp only [go_sem, hl, rn_top (qm j hj), di_sym qy j hj, own_ne hj qj, own_ne hj qk, own_ne hj ql, q1d j hj]) (by first | omega | exact Nat.le_refl _ | (simp only [go_sem, nxs] <;> omega)))
              · exact (ownx_rs (by simp only [go_sem, rr_lates q8, own_late qd, qa, q0, qh, q2, qi, q1, own_late qb, own_late qx, rn_top q3, rn_top q4, rn_top q5, qc, qe, qf, q6, nsym q6, q7, nsym q7, qj, q10, q9, nsym q9, qk, q11, ql, q12, List.length_append, List.map_append]) (by simp only [go_sem, rr_lates q8, own_late qd, qa, q0, qh, q2, qi, q1, own_late qb, own_late qx, rn_top q3, rn_top q4, rn_top q5, qc, qe, qf, q6, nsym q6, q7, nsym q7, qj, q10, q9, nsym q9, qk, q11, ql, q12, List.length_append, List.map_append]))
              · exact (nd_rs (by first | exact notid_nil | exact notid_rs (by first | omega | (simp only [nxs] <;> omega)) | assumption | exact own_notid (by assumption) (by first | omega | (simp only [go_sem, nxs] <;> omega))))
              · exact (fun _ => by simp)
              simp only [go_sem, s7, s14, qa, q0, qh, q2, qi, q1, qc, qe, qf, q6, nsym q6, q7, nsym q7, qj, q10, q9, nsym q9, qk, q11, ql, q12, istr_of v1, istr_of v5, istr_of v1_1, istr_of v5_1, istr_of v7, istr_of v1_2, istr_of v7_1, istr_of v7_2, istr_of v7_3]
              refine hK _ _ ?_
              clear hK K
              obtain ⟨x27, h_x27, hm2⟩ := bind_get hm2
              have h_x270 := get_nn h_x27
              have h_x271 := get_lt h_x27
              obtain ⟨x28, h_x28, hm2⟩ := bind_get hm2
              have h_x280 := get_nn h_x28
              have h_x281 := get_lt h_x28
              obtain ⟨iqp946, rfl, q1e, q1c⟩ := rr_top q8 h_x28
              obtain ⟨wp947, hw_wp947, os_wp947⟩ := rr_row q8 h_x28
              obtain ⟨x29, h_x29, hm2⟩ := bind_get hm2
              have h_x290 := get_nn h_x29
              have h_x291 := get_lt h_x29
              obtain ⟨irp948, rfl, obr_irp948, ltr_irp948⟩ := own_get os_wp947 h_x29
              obtain ⟨l30, h_l30, hm2⟩ := bind_get hm2
              refine cw_reg_postK1 (fun t h => ∃ v1_3 : AV, ∃ i7_4 : Nat, ∃ i7_5 : Nat, t 1 = v1_3 ∧ t 2 = .fp [.fs 5 (List.map eComb h_.Combs), .fs 3 (List.map eTrain h_.Trains), .fs 3 (List.map eShift h_.Shifts), I h_.Until] 0 ∧ t 5 = v5_1 ∧ t 6 = I x_19 ∧ t 7 = .rp i7 0 0 ∧ t 18 = I (List.length h_.Combs : Int) ∧ t 19 = I x_19 ∧ t 121 = I h_.Until ∧ t 122 = I x_122 ∧ RR h v1_3 hs_1 1 eI open_ ∧ OwnS h v5_1 1 (List.map eP_halls_bound all_5) ∧ h.ob i7 = some (4, [[.rs i7_1 0 (List.length b_7_0), .rs i7_4 0 (List.length l30), .rs i7_5 0 (List.length l22), v7_3]]) ∧ i7 < h.nx ∧ h.ob i7_1 = some (1, List.map eI b_7_0) ∧ i7_1 < h.nx ∧ h.ob i7_4 = some (1, List.map eI l30) ∧ i7_4 < h.nx ∧ h.ob i7_5 = some (1, List.map eI l22) ∧ i7_5 < h.nx ∧ OwnS h v7_3 1 (List.map eL_I b_7_3) ∧ (∀ j, ¬NotId v5_1 j → RNot v1_3 hs_1 j) ∧ RNot v1_3 hs_1 i7 ∧ RNot v1_3 hs_1 i7_1 ∧ RNot v1_3 hs_1 i7_4 ∧ RNot v1_3 hs_1 i7_5 ∧ (∀ j, ¬NotId v7_3 j → RNot v1_3 hs_1 j) ∧ NotId v5_1 i7 ∧ NotId v5_1 i7_1 ∧ NotId v5_1 i7_4 ∧ NotId v5_1 i7_5 ∧ (∀ j, ¬NotId v5_1 j → NotId v7_3 j) ∧ ¬i7 = i7_1 ∧ ¬i7 = i7_4 ∧ ¬i7 = i7_5 ∧ NotId v7_3 i7 ∧ ¬i7_1 = i7_4 ∧ ¬i7_1 = i7_5 ∧ NotId v7_3 i7_1 ∧ ¬i7_4 = i7_5 ∧ NotId v7_3 i7_4 ∧ NotId v7_3 i7_5 ∧ (∀ j, j < h0.nx → h.ob j = h0.ob j) ∧ h0.nx ≤ h.nx ∧ (∀ j, ¬NotId v5_1 j → h0.nx ≤ j) ∧ h0.nx ≤ i7 ∧ h0.nx ≤ i7_1 ∧ h0.nx ≤ i7_4 ∧ h0.nx ≤ i7_5 ∧ (∀ j, ¬NotId v7_3 j → h0.nx ≤ j)) (fun K hK => ?_) ?_
              · simp only [go_sem, s1, rr_len q8, s6, s7, s13, s14, q1e, q1c, qa, q0, qh, q2, qi, q1, rm_top qg, rm_row qg hw_wp947, rn_ne0 (q3), nsym (rn_ne0 (q3)), rn_ne (q3) hw_wp947, nsym (rn_ne (q3) hw_wp947), rn_ne0 (q4), nsym (rn_ne0 (q4)), rn_ne (q4) hw_wp947, nsym (rn_ne (q4) hw_wp947), rn_ne0 (q5), nsym (rn_ne0 (q5)), rn_ne (q5) hw_wp947, nsym (rn_ne (q5) hw_wp947), rm_top qm, rm_row qm hw_wp947, rm_top q15, rm_row q15 hw_wp947, qc, qe, qf, q6, nsym q6, q7, nsym q7, qj, q10, q9, nsym q9, qk, q11, ql, q12, ielem_get h_x27, irow_get h_x27, h_x270, h_x271, ielem_get h_x28, irow_get h_x28, h_x280, h_x281, ielem_get hw_wp947, irow_get hw_wp947, own_len os_wp947, ielem_get h_x29, irow_get h_x29, h_x290, h_x291, obr_irp948, ltr_irp948, istr_of v1, istr_of v5, istr_of v1_1, istr_of v5_1, istr_of v7, istr_of v7_1, istr_of v7_2, istr_of v7_3]
                refine iapp_own (f := eI) (l := b_7_1) (m := ([wr (x27 + (mn most_14 x29))])) ?_ ?_ ?_ ?_ h_l30 ?_
                · exact (own_rs (by simp only [go_sem, rr_lates q8, own_late qd, qa, q0, qh, q2, qi, q1, own_late qb, own_late qx, rm_top qg, rm_row qg hw_wp947, rn_top q3, rn_ne0 (q3), nsym (rn_ne0 (q3)), rn_ne (q3) hw_wp947, nsym (rn_ne (q3) hw_wp947), rn_top q4, rn_ne0 (q4), nsym (rn_ne0 (q4)), rn_ne (q4) hw_wp947, nsym (rn_ne (q4) hw_wp947), rn_top q5, rn_ne0 (q5), nsym (rn_ne0 (q5)), rn_ne (q5) hw_wp947, nsym (rn_ne (q5) hw_wp947), rm_top qm, rm_row qm hw_wp947, rm_top q15, rm_row q15 hw_wp947, qc, qe, qf, q6, nsym q6, q7, nsym q7, qj, q10, q9, nsym q9, qk, q11, ql, q12, q1e, q1c, rr_top_ne q8 hw_wp947, nsym (rr_top_ne q8 hw_wp947), List.length_append, List.map_append]) (by simp only [go_sem, rr_lates q8, own_late qd, qa, q0, qh, q2, qi, q1, own_late qb, own_late qx, rm_top qg, rm_row qg hw_wp947, rn_top q3, rn_ne0 (q3), nsym (rn_ne0 (q3)), rn_ne (q3) hw_wp947, nsym (rn_ne (q3) hw_wp947), rn_top q4, rn_ne0 (q4), nsym (rn_ne0 (q4)), rn_ne (q4) hw_wp947, nsym (rn_ne (q4) hw_wp947), rn_top q5, rn_ne0 (q5), nsym (rn_ne0 (q5)), rn_ne (q5) hw_wp947, nsym (rn_ne (q5) hw_wp947), rm_top qm, rm_row qm hw_wp947, rm_top q15, rm_row q15 hw_wp947, qc, qe, qf, q6, nsym q6, q7, nsym q7, qj, q10, q9, nsym q9, qk, q11, ql, q12, q1e, q1c, rr_top_ne q8 hw_wp947, nsym (rr_top_ne q8 hw_wp947), List.length_append, List.map_append]) (by simp only [go_sem, q0, q2, q1, q1c]))
                · exact (ownx_rs (by simp only [go_sem, rr_lates q8, own_late qd, qa, q0, qh, q2, qi, q1, own_late qb, own_late qx, rm_top qg, rm_row qg hw_wp947, rn_top q3, rn_ne0 (q3), nsym (rn_ne0 (q3)), rn_ne (q3) hw_wp947, nsym (rn_ne (q3) hw_wp947), rn_top q4, rn_ne0 (q4), nsym (rn_ne0 (q4)), rn_ne (q4) hw_wp947, nsym (rn_ne (q4) hw_wp947), rn_top q5, rn_ne0 (q5), nsym (rn_ne0 (q5)), rn_ne (q5) hw_wp947, nsym (rn_ne (q5) hw_wp947), rm_top qm, rm_row qm hw_wp947, rm_top q15, rm_row q15 hw_wp947, qc, qe, qf, q6, nsym q6, q7, nsym q7, qj, q10, q9, nsym q9, qk, q11, ql, q12, q1e, q1c, rr_top_ne q8 hw_wp947, nsym (rr_top_ne q8 hw_wp947), List.length_append, List.map_append]) (by simp only [go_sem, rr_lates q8, own_late qd, qa, q0, qh, q2, qi, q1, own_late qb, own_late qx, rm_top qg, rm_row qg hw_wp947, rn_top q3, rn_ne0 (q3), nsym (rn_ne0 (q3)), rn_ne (q3) hw_wp947, nsym (rn_ne (q3) hw_wp947), rn_top q4, rn_ne0 (q4), nsym (rn_ne0 (q4)), rn_ne (q4) hw_wp947, nsym (rn_ne (q4) hw_wp947), rn_top q5, rn_ne0 (q5), nsym (rn_ne0 (q5)), rn_ne (q5) hw_wp947, nsym (rn_ne (q5) hw_wp947), rm_top qm, rm_row qm hw_wp947, rm_top q15, rm_row q15 hw_wp947, qc, qe, qf, q6, nsym q6, q7, nsym q7, qj, q10, q9, nsym q9, qk, q11, ql, q12, q1e, q1c, rr_top_ne q8 hw_wp947, nsym (rr_top_ne q8 hw_wp947), List.length_append, List.map_append]))
                · exact (nd_rs (by first | exact notid_nil | exact notid_rs (by first | omega | (simp only [nxs] <;> omega)) | assumption | exact own_notid (by assumption) (by first | omega | (simp only [go_sem, nxs] <;> omega))))
                · exact (fun _ => by simp)
                simp only [go_sem, s1, rr_len q8, s6, s7, s13, s14, q1e, q1c, qa, q0, qh, q2, qi, q1, rm_top qg, rm_row qg hw_wp947, rn_ne0 (q3), nsym (rn_ne0 (q3)), rn_ne (q3) hw_wp947, nsym (rn_ne (q3) hw_wp947), rn_ne0 (q4), nsym (rn_ne0 (q4)), rn_ne (q4) hw_wp947, nsym (rn_ne (q4) hw_wp947), rn_ne0 (q5), nsym (rn_ne0 (q5)), rn_ne (q5) hw_wp947, nsym (rn_ne (q5) hw_wp947), rm_top qm, rm_row qm hw_wp947, rm_top q15, rm_row q15 hw_wp947, qc, qe, qf, q6, nsym q6, q7, nsym q7, qj, q10, q9, nsym q9, qk, q11, ql, q12, ielem_get h_x27, irow_get h_x27, h_x270, h_x271, ielem_get h_x28, irow_get h_x28, h_x280, h_x281, ielem_get hw_wp947, irow_get hw_wp947, own_len os_wp947, ielem_get h_x29, irow_get h_x29, h_x290, h_x291, obr_irp948, ltr_irp948, istr_of v1, istr_of v5, istr_of v1_1, istr_of v5_1, istr_of v7, istr_of v7_1, istr_of v7_2, istr_of v7_3]
                exact hK _ _ ⟨(.rs iqp946 0 (List.length open_)), (nxs (nxs (nxs h.nx))), (nxs h.nx), (by first | (simp only [go_sem, s1, List.length_append, List.map_append]; done) | rfl), s2, s5, s6, s7, s18, s19, s121, s122, (rr_later q8 (by intro j hj  hl; first | rfl | simp only [go_sem, hl, rr_ne hj q3, rr_ne hj q5, rm_sym qm j hj, q0, q1]) (by first | omega | exact Nat.le_refl _ | (simp only [go_sem, nxs] <;> omega))), (own_later qd (by intro j hj hl; first | rfl | simp only [go_sem, hl, q0, q1, own_ne hj qc, own_ne hj qf, qy j hj]) (by first | omega | exact Nat.le_refl _ | (simp only [go_sem, nxs] <;> omega))), (by simp only [go_sem, qa, q0, q1, own_late qb, q7, nsym q7, qj, List.length_append, List.map_append]), (by simp only [go_sem, q0]), (by simp only [go_sem, q0, qh, q2, q1, own_late qb, q6, nsym q6, q9, nsym q9, qk, List.length_append, List.map_append]), (by simp only [go_sem, q2]), (by simp only [go_sem, q0, q1, own_late qb, List.length_append, List.map_append]), (by simp only [go_sem]), (by simp only [go_sem, q0, q1, own_late qb, List.length_append, List.map_append]), (by simp only [go_sem]), (own_later qx (by intro j hj hl; first | rfl | simp only [go_sem, hl, q0, q1, own_ne hj q10, own_ne hj q12, di_sym q1d j hj]) (by first | omega | exact Nat.le_refl _ | (simp only [go_sem, nxs] <;> omega))), qg, q3, q4, (by first | assumption | exact rr_late q8 (by first | assumption | omega | (simp only [nxs] <;> omega))), (by first | assumption | exact rr_late q8 (by first | assumption | omega | (simp only [nxs] <;> omega))), q15, qc, qe, (by first | exact notid_nil | exact notid_rs (by first | assumption | omega | (simp only [nxs] <;> omega)) | assumption | exact own_notid (by assumption) (by first | assumption | omega | (simp only [nxs] <;> omega))), (by first | exact notid_nil | exact notid_rs (by first | assumption | omega | (simp only [nxs] <;> omega)) | assumption | exact own_notid (by assumption) (by first | assumption | omega | (simp only [nxs] <;> omega))), q18, q6, (by first | first | assumption | omega | (simp only [nxs] <;> omega)), (by first | first | assumption | omega | (simp only [nxs] <;> omega)), q10, (by first | first | assumption | omega | (simp only [nxs] <;> omega)), (by first | first | assumption | omega | (simp only [nxs] <;> omega)), q11, (by first | first | assumption | omega | (simp only [nxs] <;> omega)), (by first | exact notid_nil | exact notid_rs (by first | assumption | omega | (simp only [nxs] <;> omega)) | assumption | exact own_notid (by assumption) (by first | assumption | omega | (simp only [nxs] <;> omega))), (by first | exact notid_nil | exact notid_rs (by first | assumption | omega | (simp only [nxs] <;> omega)) | assumption | exact own_notid (by assumption) (by first | assumption | omega | (simp only [nxs] <;> omega))), (by intro j hj; first | exact fr j hj | (refine Eq.trans ?_ (fr j hj); first | rfl | simp only [go_sem, Nat.lt_of_lt_of_le hj fx, ge_ne qt hj, ge_ne qw hj, ge_nid qu hj])), (by first | exact fx | omega | (simp only [go_sem, nxs] <;> omega)), qo, qt, qv, (by first | assumption | omega | (simp only [nxs] <;> omega)), (by first | assumption | omega | (simp only [nxs] <;> omega)), q19⟩
              · try clear s1 s2 s5 s6 s7 s13 s14 s18 s19 s121 s122 q8 qd qa q0 qh q2 qi q1 qb qx qg q3 q4 q5 qm q15 qc qe qf qy q18 q6 q7 qj q10 q9 qk q11 ql q12 q1d fr fx qo qt qv qw qu q19 q1e q1c
                rintro t h ⟨v1_3, i7_4, i7_5, s1, s2, s5, s6, s7, s18, s19, s121, s122, q8, qd, qa, q0, qh, q2, qi, q1, q1i, q1g, qx, qg, q3, q4, q5, q1j, q15, qc, qe, qf, q1l, q18, q6, q7, q1m, q10, q9, q1n, q11, q1o, q12, q1q, fr, fx, qo, qt, qv, qw, qu, q19⟩
                simp only [qblock_normal, qseq_normal]
                exact J18 l30 l22 v1_3 i7_4 i7_5 v7_3 _ _ s1 s2 s5 s6 s7 s18 s19 s121 s122 q8 qd qa q0 qh q2 qi q1 q1i q1g qx qg q3 q4 q5 q1j q15 qc qe qf q1l q18 q6 q7 q1m q10 q9 q1n q11 q1o q12 q1q fr fx qo qt qv qw qu q19 hm2
            simp only [cw_block]
            obtain ⟨b31, hl31, hm2⟩ := bind_get hm2
            refine cw_loopM hl31 (fun | (most_14, x_127), t, h => ∃ v7_3 : AV, t 1 = v1_2 ∧ t 2 = .fp [.fs 5 (List.map eComb h_.Combs), .fs 3 (List.map eTrain h_.Trains), .fs 3 (List.map eShift h_.Shifts), I h_.Until] 0 ∧ t 5 = v5_1 ∧ t 6 = I x_19 ∧ t 7 = .rp i7 0 0 ∧ t 13 = I x_122 ∧ t 14 = I most_14 ∧ t 18 = I (List.length h_.Combs : Int) ∧ t 19 = I x_19 ∧ t 121 = I h_.Until ∧ t 122 = I x_122 ∧ t 126 = I (wr (x_122 + 1)) ∧ t 127 = I x_127 ∧ RR h v1_2 hs_1 1 eI open_ ∧ OwnS h v5_1 1 (List.map eP_halls_bound all_5) ∧ h.ob i7 = some (4, [[.rs i7_1 0 (List.length b_7_0), .rs i7_3 0 (List.length b_7_1), v7_1, v7_3]]) ∧ i7 < h.nx ∧ h.ob i7_1 = some (1, List.map eI b_7_0) ∧ i7_1 < h.nx ∧ h.ob i7_3 = some (1, List.map eI b_7_1) ∧ i7_3 < h.nx ∧ OwnS h v7_1 1 (List.map eI b_7_2) ∧ OwnS h v7_3 1 (List.map eL_I b_7_3) ∧ (∀ j, ¬NotId v5_1 j → RNot v1_2 hs_1 j) ∧ RNot v1_2 hs_1 i7 ∧ RNot v1_2 hs_1 i7_1 ∧ RNot v1_2 hs_1 i7_3 ∧ (∀ j, ¬NotId v7_1 j → RNot v1_2 hs_1 j) ∧ (∀ j, ¬NotId v7_3 j → RNot v1_2 hs_1 j) ∧ NotId v5_1 i7 ∧ NotId v5_1 i7_1 ∧ NotId v5_1 i7_3 ∧ (∀ j, ¬NotId v5_1 j → NotId v7_1 j) ∧ (∀ j, ¬NotId v5_1 j → NotId v7_3 j) ∧ ¬i7 = i7_1 ∧ ¬i7 = i7_3 ∧ NotId v7_1 i7 ∧ NotId v7_3 i7 ∧ ¬i7_1 = i7_3 ∧ NotId v7_1 i7_1 ∧ NotId v7_3 i7_1 ∧ NotId v7_1 i7_3 ∧ NotId v7_3 i7_3 ∧ (∀ j, ¬NotId v7_1 j → NotId v7_3 j) ∧ (∀ j, j < h0.nx → h.ob j = h0.ob j) ∧ h0.nx ≤ h.nx ∧ (∀ j, ¬NotId v5_1 j → h0.nx ≤ j) ∧ h0.nx ≤ i7 ∧ h0.nx ≤ i7_1 ∧ h0.nx ≤ i7_3 ∧ (∀ j, ¬NotId v7_1 j → h0.nx ≤ j) ∧ (∀ j, ¬NotId v7_3 j → h0.nx ≤ j)) ?_ ?_
            · exact ⟨v7_2, s1, s2, s5, s6, s7, (by first | (simp only [go_sem, List.length_append, List.map_append]; done) | rfl), (by first | (simp only [go_sem, List.length_append, List.map_append]; done) | rfl), s18, s19, s121, s122, (by first | (simp only [go_sem, List.length_append, List.map_append]; done) | rfl), (by first | (simp only [go_sem, List.length_append, List.map_append]; done) | rfl), q8, qd, qa, q0, qh, q2, qi, q1, qb, qx, qg, q3, q4, q5, qm, q15, qc, qe, qf, qy, q18, q6, q7, qj, q10, q9, qk, q11, ql, q12, q1d, fr, fx, qo, qt, qv, qw, qu, q19⟩
            · try clear s1 s2 s5 s6 s7 s18 s19 s121 s122 q8 qd qa q0 qh q2 qi q1 qb qx qg q3 q4 q5 qm q15 qc qe qf qy q18 q6 q7 qj q10 q9 qk q11 ql q12 q1d fr fx qo qt qv qw qu q19
              rintro ⟨most_14, x_127⟩ o t h ⟨v7_3, s1, s2, s5, s6, s7, s13, s14, s18, s19, s121, s122, s126, s127, q8, qd, qa, q0, qh, q2, qi, q1, qb, qx, qg, q3, q4, q5, qm, q15, qc, qe, qf, qy, q18, q6, q7, qj, q10, q9, qk, q11, ql, q12, q1d, fr, fx, qo, qt, qv, qw, qu, q19⟩ hm3 hb31
              simp only [halls_bounds_L35] at hm3
              rw [x_halls_bounds_L35]
              refine cw_reg_seq fun K hK => ?_
              simp only [go_sem, s126, s127, q0, q2, q1, istr_of v1, istr_of v5, istr_of v1_1, istr_of v5_1, istr_of v7, istr_of v1_2, istr_of v7_1, istr_of v7_2, istr_of v7_3]
              refine hK _ _ ?_
              clear hK K
              refine cw_seq_k fun K32 hK32 => ?_
              simp only [go_sem]
              refine ibr_intro (fun hc33 => ?_) (fun hc33 => ?_)
              · rw [if_t hc33] at hm3
                simp only [cw_skip, qblock_normal, qseq_normal]
                refine hK32 _ _ ?_
                refine cw_seq_k fun K34 hK34 => ?_
                simp only [cw_block]
                refine cw_reg_seq fun K hK => ?_
                simp only [go_sem, s127, q0, q2, q1, istr_of v1, istr_of v5, istr_of v1_1, istr_of v5_1, istr_of v7, istr_of v1_2, istr_of v7_1, istr_of v7_2, istr_of v7_3]
                refine hK _ _ ?_
                clear hK K
                obtain ⟨x40, h_x40, hm3⟩ := bind_get hm3
                have h_x400 := get_nn h_x40
                have h_x401 := get_lt h_x40
                obtain ⟨iq41, rfl, q1r, q1p⟩ := own_get qx h_x40
                obtain ⟨x42, h_x42, hm3⟩ := bind_get hm3
                have h_x420 := get_nn h_x42
                have h_x421 := get_lt h_x42
                obtain ⟨x43, h_x43, hm3⟩ := bind_get hm3
                have h_x430 := get_nn h_x43
                have h_x431 := get_lt h_x43
                obtain ⟨x44, h_x44, hm3⟩ := bind_get hm3
                have h_x440 := get_nn h_x44
                have h_x441 := get_lt h_x44
                refine cw_reg_k fun K hK => ?_
                simp only [go_sem, s7, s13, s14, qa, q0, qh, q2, qi, q1, q1r, q1p, qc, qe, qf, q6, nsym q6, q7, nsym q7, qj, q10, q9, nsym q9, qk, q11, ql, q12, ielem_get h_x40, irow_get h_x40, h_x400, h_x401, ielem_get h_x42, irow_get h_x42, h_x420, h_x421, ielem_get h_x43, irow_get h_x43, h_x430, h_x431, ielem_get h_x44, irow_get h_x44, h_x440, h_x441, istr_of v1, istr_of v5, istr_of v1_1, istr_of v5_1, istr_of v7, istr_of v1_2, istr_of v7_1, istr_of v7_2]
                refine hK _ _ ?_
                clear hK K
                simp only [qblock_normal, qseq_normal]
                refine hK34 _ _ ?_
                refine cw_reg_k fun K hK => ?_
                simp only [go_sem, s127, q0, q2, q1, q1p, istr_of v1, istr_of v5, istr_of v1_1, istr_of v5_1, istr_of v7, istr_of v1_2, istr_of v7_1, istr_of v7_2]
                refine hK _ _ ?_
                clear hK K
                simp only [qblock_normal, qseq_normal]
                obtain rfl := Option.some.inj hm3
                refine ⟨_, rfl, ?_⟩
                exact ⟨(.rs iq41 0 (List.length b_7_3)), s1, s2, s5, s6, s7, s13, (by first | (simp only [go_sem, s14, List.length_append, List.map_append]; done) | rfl), s18, s19, s121, s122, s126, (by first | (simp only [go_sem, s127, List.length_append, List.map_append]; done) | rfl), q8, qd, (by simp only [go_sem, qa, q0, List.length_append, List.map_append]), (by simp only [go_sem, q0]), qh, q2, qi, q1, qb, (own_rs (by simp only [go_sem, q1r, q1p, List.length_append, List.map_append]) (by first | rfl | simp only [go_sem, List.length_append, List.map_append]) (by simp only [go_sem, q1p])), qg, q3, q4, q5, qm, q15, qc, qe, qf, qy, q18, q6, q7, qj, q10, q9, qk, q11, ql, q12, q1d, fr, fx, qo, qt, qv, qw, qu, q19⟩
              · rw [if_f hc33] at hm3
                simp only [cw_exit, qseq_exit, qblock_same, qblock_ne, qblock_normal, qseq_normal, Nat.reduceEqDiff, not_false_eq_true]
                obtain rfl := Option.some.inj hm3
                obtain rfl := hb31 _ rfl
                try dsimp only at hm2
                exact J20 most_14 v7_3 _ _ s1 s2 s5 s6 s7 s13 s14 s18 s19 s121 s122 q8 qd qa q0 qh q2 qi q1 qb qx qg q3 q4 q5 qm q15 qc qe qf qy q18 q6 q7 qj q10 q9 qk q11 ql q12 q1d fr fx qo qt qv qw qu q19 hm2
          · rw [if_f hc16] at hm2
            simp only [cw_exit, qseq_exit, qblock_same, qblock_ne, qblock_normal, qseq_normal, Nat.reduceEqDiff, not_false_eq_true]
            obtain rfl := Option.some.inj hm2
            obtain rfl := hb14 _ rfl
            try dsimp only at hm1
            exact J11 b_7_1 b_7_2 v1_2 i7_3 v7_1 v7_2 _ _ s1 s2 s5 s7 s18 s19 q8 qd qa q0 qh q2 qi q1 qb qx qg q3 q4 q5 qm q15 qc qe qf qy q18 q6 q7 qj q10 q9 qk q11 ql q12 q1d fr fx qo qt qv qw qu q19 hm1
      simp only [cw_block]
      obtain ⟨b47, hl47, hm1⟩ := bind_get hm1
      refine cw_loopM hl47 (fun | (b_7_0, b_7_3, x_28), t, h => ∃ v1_1 : AV, ∃ v5_1 : AV, ∃ i7 : Nat, ∃ i7_1 : Nat, ∃ i7_2 : Nat, ∃ v7 : AV, t 1 = v1_1 ∧ t 2 = .fp [.fs 5 (List.map eComb h_.Combs), .fs 3 (List.map eTrain h_.Trains), .fs 3 (List.map eShift h_.Shifts), I h_.Until] 0 ∧ t 5 = v5_1 ∧ t 6 = I x_19 ∧ t 7 = .rp i7 0 0 ∧ t 18 = I (List.length h_.Combs : Int) ∧ t 19 = I x_19 ∧ t 27 = I h_.Until ∧ t 28 = I x_28 ∧ RR h v1_1 hs_1 1 eI open_ ∧ OwnS h v5_1 1 (List.map eP_halls_bound all_5) ∧ h.ob i7 = some (4, [[.rs i7_1 0 (List.length b_7_0), .rs i7_2 0 (List.length ([0])), .v (.slice none 0 0), v7]]) ∧ i7 < h.nx ∧ h.ob i7_1 = some (1, List.map eI b_7_0) ∧ i7_1 < h.nx ∧ h.ob i7_2 = some (1, List.map eI ([0])) ∧ i7_2 < h.nx ∧ OwnS h v7 1 (List.map eL_I b_7_3) ∧ (∀ j, ¬NotId v5_1 j → RNot v1_1 hs_1 j) ∧ RNot v1_1 hs_1 i7 ∧ RNot v1_1 hs_1 i7_1 ∧ RNot v1_1 hs_1 i7_2 ∧ (∀ j, ¬NotId v7 j → RNot v1_1 hs_1 j) ∧ NotId v5_1 i7 ∧ NotId v5_1 i7_1 ∧ NotId v5_1 i7_2 ∧ (∀ j, ¬NotId v5_1 j → NotId v7 j) ∧ ¬i7 = i7_1 ∧ ¬i7 = i7_2 ∧ NotId v7 i7 ∧ ¬i7_1 = i7_2 ∧ NotId v7 i7_1 ∧ NotId v7 i7_2 ∧ (∀ j, j < h0.nx → h.ob j = h0.ob j) ∧ h0.nx ≤ h.nx ∧ (∀ j, ¬NotId v5_1 j → h0.nx ≤ j) ∧ h0.nx ≤ i7 ∧ h0.nx ≤ i7_1 ∧ h0.nx ≤ i7_2 ∧ (∀ j, ¬NotId v7 j → h0.nx ≤ j)) ?_ ?_
      · exact ⟨v1, v5, (nxs (nxs h.nx)), h.nx, (nxs h.nx), (.v (.slice none 0 0)), s1, s2, s5, (by first | (simp only [go_sem, List.length_append, List.map_append]; done) | rfl), (by first | (simp only [go_sem, List.length_append, List.map_append]; done) | rfl), s18, s19, (by first | (simp only [go_sem, List.length_append, List.map_append]; done) | rfl), (by first | (simp only [go_sem, List.length_append, List.map_append]; done) | rfl), (rr_later q8 (by intro j hj  hl; first | rfl | simp only [go_sem, hl]) (by first | omega | exact Nat.le_refl _ | (simp only [go_sem, nxs] <;> omega))), (own_later qd (by intro j hj hl; first | rfl | simp only [go_sem, hl]) (by first | omega | exact Nat.le_refl _ | (simp only [go_sem, nxs] <;> omega))), (by simp only [go_sem, List.length_append, List.map_append]), (by simp only [go_sem]), (by simp only [go_sem, List.length_append, List.map_append]), (by simp only [go_sem]), (by simp only [go_sem, List.length_append, List.map_append]), (by simp only [go_sem]), own_nil', qg, (by first | assumption | exact rr_late q8 (by first | assumption | omega | (simp only [nxs] <;> omega))), (by first | assumption | exact rr_late q8 (by first | assumption | omega | (simp only [nxs] <;> omega))), (by first | assumption | exact rr_late q8 (by first | assumption | omega | (simp only [nxs] <;> omega))), dr_nil, (by first | exact notid_nil | exact notid_rs (by first | assumption | omega | (simp only [nxs] <;> omega)) | assumption | exact own_notid (by assumption) (by first | assumption | omega | (simp only [nxs] <;> omega))), (by first | exact notid_nil | exact notid_rs (by first | assumption | omega | (simp only [nxs] <;> omega)) | assumption | exact own_notid (by assumption) (by first | assumption | omega | (simp only [nxs] <;> omega))), (by first | exact notid_nil | exact notid_rs (by first | assumption | omega | (simp only [nxs] <;> omega)) | assumption | exact own_notid (by assumption) (by first | assumption | omega | (simp only [nxs] <;> omega))), (by first | exact dis_nil_l | exact dis_nil_r | assumption | (refine dis_rs_l ?_; first | assumption | exact own_notid (by assumption) (by first | assumption | omega | (simp only [nxs] <;> omega))) | (refine nd_rs ?_; first | assumption | exact own_notid (by assumption) (by first | assumption | omega | (simp only [nxs] <;> omega)))), (by first | first | assumption | omega | (simp only [nxs] <;> omega)), (by first | first | assumption | omega | (simp only [nxs] <;> omega)), (by first | exact notid_nil | exact notid_rs (by first | assumption | omega | (simp only [nxs] <;> omega)) | assumption | exact own_notid (by assumption) (by first | assumption | omega | (simp only [nxs] <;> omega))), (by first | first | assumption | omega | (simp only [nxs] <;> omega)), (by first | exact notid_nil | exact notid_rs (by first | assumption | omega | (simp only [nxs] <;> omega)) | assumption | exact own_notid (by assumption) (by first | assumption | omega | (simp only [nxs] <;> omega))), (by first | exact notid_nil | exact notid_rs (by first | assumption | omega | (simp only [nxs] <;> omega)) | assumption | exact own_notid (by assumption) (by first | assumption | omega | (simp only [nxs] <;> omega))), (by intro j hj; first | exact fr j hj | (refine Eq.trans ?_ (fr j hj); first | rfl | simp only [go_sem, Nat.lt_of_lt_of_le hj fx])), (by first | exact fx | omega | (simp only [go_sem, nxs] <;> omega)), qo, (by first | assumption | omega | (simp only [nxs] <;> omega)), (by first | assumption | omega | (simp only [nxs] <;> omega)), (by first | assumption | omega | (simp only [nxs] <;> omega)), dr_nil⟩
      · try clear s1 s2 s5 s18 s19 q8 qd qg fr fx qo
        rintro ⟨b_7_0, b_7_3, x_28⟩ o t h ⟨v1_1, v5_1, i7, i7_1, i7_2, v7, s1, s2, s5, s6, s7, s18, s19, s27, s28, q8, qd, qa, q0, qh, q2, qi, q1, qb, qg, q3, q4, q5, qm, qc, qe, qf, qy, q6, q7, qj, q9, qk, ql, fr, fx, qo, qt, qv, qw, qu⟩ hm2 hb47
        simp only [halls_bounds_L25] at hm2
        rw [x_halls_bounds_L25]
        refine cw_reg_seq fun K hK => ?_
        simp only [go_sem, s27, s28, q0, q2, q1, istr_of v1, istr_of v5, istr_of v1_1, istr_of v5_1, istr_of v7]
        refine hK _ _ ?_
        clear hK K
        refine cw_seq_k fun K48 hK48 => ?_
        simp only [go_sem]
        refine ibr_intro (fun hc49 => ?_) (fun hc49 => ?_)
        · rw [if_t hc49] at hm2
          simp only [cw_skip, qblock_normal, qseq_normal]
          refine hK48 _ _ ?_
          refine cw_seq_k fun K50 hK50 => ?_
          have J51 : ∀ (b_7_0_1 : List Int) (b_7_3_1 : List (List Int)) (v1_2 : AV) (v5_2 : AV) (i7_3 : Nat) (i7_4 : Nat) (t : Slots) (h : Heap), t 1 = v1_2 → t 2 = .fp [.fs 5 (List.map eComb h_.Combs), .fs 3 (List.map eTrain h_.Trains), .fs 3 (List.map eShift h_.Shifts), I h_.Until] 0 → t 5 = v5_2 → t 6 = I x_19 → t 7 = .rp i7 0 0 → t 18 = I (List.length h_.Combs : Int) → t 19 = I x_19 → t 27 = I h_.Until → t 28 = I x_28 → RR h v1_2 hs_1 1 eI open_ → OwnS h v5_2 1 (List.map eP_halls_bound all_5) → h.ob i7 = some (4, [[.rs i7_3 0 (List.length b_7_0_1), .rs i7_2 0 (List.length ([0])), .v (.slice none 0 0), .rs i7_4 0 (List.length b_7_3_1)]]) → i7 < h.nx → h.ob i7_3 = some (1, List.map eI b_7_0_1) → i7_3 < h.nx → h.ob i7_2 = some (1, List.map eI ([0])) → i7_2 < h.nx → h.ob i7_4 = some (1, List.map eL_I b_7_3_1) → i7_4 < h.nx → (∀ j, ¬NotId v5_2 j → RNot v1_2 hs_1 j) → RNot v1_2 hs_1 i7 → RNot v1_2 hs_1 i7_3 → RNot v1_2 hs_1 i7_2 → RNot v1_2 hs_1 i7_4 → NotId v5_2 i7 → NotId v5_2 i7_3 → NotId v5_2 i7_2 → NotId v5_2 i7_4 → ¬i7 = i7_3 → ¬i7 = i7_2 → ¬i7 = i7_4 → ¬i7_3 = i7_2 → ¬i7_3 = i7_4 → ¬i7_2 = i7_4 → (∀ j, j < h0.nx → h.ob j = h0.ob j) → h0.nx ≤ h.nx → (∀ j, ¬NotId v5_2 j → h0.nx ≤ j) → h0.nx ≤ i7 → h0.nx ≤ i7_3 → h0.nx ≤ i7_2 → h0.nx ≤ i7_4 → halls_bounds_j51 x_28 b_7_0_1 b_7_3_1 = some o → K50 t h := by
            try clear s1 s2 s5 s6 s7 s18 s19 s27 s28 q8 qd qa q0 qh q2 qi q1 qb qg q3 q4 q5 qm qc qe qf qy q6 q7 qj q9 qk ql fr fx qo qt qv qw qu
            intro b_7_0_1 b_7_3_1 v1_2 v5_2 i7_3 i7_4 t h s1 s2 s5 s6 s7 s18 s19 s27 s28 q8 qd qa q0 qh q2 qi q1 q1i q1g qg q3 q4 q5 q1j qc qe qf q1l q6 q7 q1m q9 q1n q1o fr fx qo qt qv qw qu hm2
            refine hK50 _ _ ?_
            unfold halls_bounds_j51 at hm2
            refine cw_reg_k fun K hK => ?_
            simp only [go_sem, s28, q0, q2, q1, q1g, istr_of v1, istr_of v5, istr_of v1_1, istr_of v5_1, istr_of v7, istr_of v1_2, istr_of v5_2]
            refine hK _ _ ?_
            clear hK K
            simp only [qblock_normal, qseq_normal]
            obtain rfl := Option.some.inj hm2
            refine ⟨_, rfl, ?_⟩
            exact ⟨v1_2, v5_2, i7, i7_3, i7_2, (.rs i7_4 0 (List.length b_7_3_1)), s1, s2, s5, s6, s7, s18, s19, s27, (by first | (simp only [go_sem, s28, List.length_append, List.map_append]; done) | rfl), q8, qd, qa, q0, qh, q2, qi, q1, (own_rs (by simp only [go_sem, q1i, q1g, List.length_append, List.map_append]) (by first | rfl | simp only [go_sem, List.length_append, List.map_append]) (by simp only [go_sem, q1g])), qg, q3, q4, q5, (dr_rs q1j), qc, qe, qf, (by first | exact dis_nil_l | exact dis_nil_r | assumption | (refine dis_rs_l ?_; first | assumption | exact own_notid (by assumption) (by first | assumption | omega | (simp only [nxs] <;> omega))) | (refine nd_rs ?_; first | assumption | exact own_notid (by assumption) (by first | assumption | omega | (simp only [nxs] <;> omega)))), q6, q7, (by first | exact notid_nil | exact notid_rs (by first | assumption | omega | (simp only [nxs] <;> omega)) | assumption | exact own_notid (by assumption) (by first | assumption | omega | (simp only [nxs] <;> omega))), q9, (by first | exact notid_nil | exact notid_rs (by first | assumption | omega | (simp only [nxs] <;> omega)) | assumption | exact own_notid (by assumption) (by first | assumption | omega | (simp only [nxs] <;> omega))), (by first | exact notid_nil | exact notid_rs (by first | assumption | omega | (simp only [nxs] <;> omega)) | assumption | exact own_notid (by assumption) (by first | assumption | omega | (simp only [nxs] <;> omega))), fr, fx, qo, qt, qv, qw, (ge_rs qu)⟩
          simp only [cw_block]
          refine cw_reg_seq fun K hK => ?_
          simp only [go_sem, s28, q0, q2, q1, istr_of v1, istr_of v5, istr_of v1_1, istr_of v5_1, istr_of v7]
          refine hK _ _ ?_
          clear hK K
          obtain ⟨l53, h_l53, hm2⟩ := bind_get hm2
          refine cw_reg_seq fun K hK => ?_
          simp only [go_sem, s2, q0, q2, q1, istr_of v1, istr_of v5, istr_of v1_1, istr_of v5_1, istr_of v7]
          refine imksl_ok (f := eI) (z := 0) rfl h_l53 ?_
          simp only [go_sem, s2, q0, q2, q1, istr_of v1, istr_of v5, istr_of v1_1, istr_of v5_1, istr_of v7]
          refine hK _ _ ?_
          clear hK K
          refine cw_assoc ?_
          refine cw_reg_seq fun K hK => ?_
          simp only [go_sem, q0, q2, q1, istr_of v1, istr_of v5, istr_of v1_1, istr_of v5_1, istr_of v7]
          refine hK _ _ ?_
          clear hK K
          refine cw_seq_k fun K54 hK54 => ?_
          have J55 : ∀ (row_9 : List Int) (v5_2 : AV) (i9 : Nat) (t : Slots) (h : Heap), t 1 = v1_1 → t 2 = .fp [.fs 5 (List.map eComb h_.Combs), .fs 3 (List.map eTrain h_.Trains), .fs 3 (List.map eShift h_.Shifts), I h_.Until] 0 → t 5 = v5_2 → t 6 = I x_19 → t 7 = .rp i7 0 0 → t 8 = I x_28 → t 9 = .rs i9 0 (List.length row_9) → t 18 = I (List.length h_.Combs : Int) → t 19 = I x_19 → t 27 = I h_.Until → t 28 = I x_28 → RR h v1_1 hs_1 1 eI open_ → OwnS h v5_2 1 (List.map eP_halls_bound all_5) → h.ob i7 = some (4, [[.rs i7_1 0 (List.length b_7_0), .rs i7_2 0 (List.length ([0])), .v (.slice none 0 0), v7]]) → i7 < h.nx → h.ob i7_1 = some (1, List.map eI b_7_0) → i7_1 < h.nx → h.ob i7_2 = some (1, List.map eI ([0])) → i7_2 < h.nx → OwnS h v7 1 (List.map eL_I b_7_3) → h.ob i9 = some (1, List.map eI row_9) → i9 < h.nx → (∀ j, ¬NotId v5_2 j → RNot v1_1 hs_1 j) → RNot v1_1 hs_1 i7 → RNot v1_1 hs_1 i7_1 → RNot v1_1 hs_1 i7_2 → (∀ j, ¬NotId v7 j → RNot v1_1 hs_1 j) → RNot v1_1 hs_1 i9 → NotId v5_2 i7 → NotId v5_2 i7_1 → NotId v5_2 i7_2 → (∀ j, ¬NotId v5_2 j → NotId v7 j) → NotId v5_2 i9 → ¬i7 = i7_1 → ¬i7 = i7_2 → NotId v7 i7 → ¬i7 = i9 → ¬i7_1 = i7_2 → NotId v7 i7_1 → ¬i7_1 = i9 → NotId v7 i7_2 → ¬i7_2 = i9 → NotId v7 i9 → (∀ j, j < h0.nx → h.ob j = h0.ob j) → h0.nx ≤ h.nx → (∀ j, ¬NotId v5_2 j → h0.nx ≤ j) → h0.nx ≤ i7 → h0.nx ≤ i7_1 → h0.nx ≤ i7_2 → (∀ j, ¬NotId v7 j → h0.nx ≤ j) → h0.nx ≤ i9 → halls_bounds_j55 open_ x_19 b_7_0 b_7_3 x_28 row_9 = some o → K54 t h := by
            try clear s1 s2 s5 s6 s7 s18 s19 s27 s28 q8 qd qa q0 qh q2 qi q1 qb qg q3 q4 q5 qm qc qe qf qy q6 q7 qj q9 qk ql fr fx qo qt qv qw qu
            intro row_9 v5_2 i9 t h s1 s2 s5 s6 s7 s8 s9 s18 s19 s27 s28 q8 qd qa q0 qh q2 qi q1 qb q17 qn qg q3 q4 q5 qm qs qc qe qf qy q13 q6 q7 qj qp q9 qk qr ql qq q14 fr fx qo qt qv qw qu q1a hm2
            refine hK54 _ _ ?_
            unfold halls_bounds_j55 at hm2
            refine cw_assoc ?_
            refine cw_ghost_own (s := 9) (v := .rs i9 0 (List.length row_9)) (f := eI) (l := row_9) (by simp only [go_sem, s9, rr_lates q8, own_late qd, qa, q0, qh, q2, qi, q1, own_late qb, q17, qn, rn_top q3, rn_top q4, rn_top q5, rn_top qs, qc, qe, qf, q13, q6, nsym q6, q7, nsym q7, qj, qp, nsym qp, q9, nsym q9, qk, qr, nsym qr, ql, qq, nsym qq, q14, List.length_append, List.map_append]) (own_rs (by simp only [go_sem, s9, rr_lates q8, own_late qd, qa, q0, qh, q2, qi, q1, own_late qb, q17, qn, rn_top q3, rn_top q4, rn_top q5, rn_top qs, qc, qe, qf, q13, q6, nsym q6, q7, nsym q7, qj, qp, nsym qp, q9, nsym q9, qk, qr, nsym qr, ql, qq, nsym qq, q14, List.length_append, List.map_append]) (by simp only [go_sem, s9, rr_lates q8, own_late qd, qa, q0, qh, q2, qi, q1, own_late qb, q17, qn, rn_top q3, rn_top q4, rn_top q5, rn_top qs, qc, qe, qf, q13, q6, nsym q6, q7, nsym q7, qj, qp, nsym qp, q9, nsym q9, qk, qr, nsym qr, ql, qq, nsym qq, q14, List.length_append, List.map_append]) (by simp only [go_sem, q0, q2, q1, qn])) fz_eI ln_eI ?_
            simp only [frzH_nil, frzH_rs]
            obtain ⟨l57, h_l57, hm2⟩ := bind_get hm2
            refine cw_reg_seq fun K hK => ?_
            simp only [go_sem, s7, s9, qa, q0, qh, q2, qi, q1, qn, qc, qe, qf, q6, nsym q6, q7, nsym q7, qj, qp, nsym qp, q9, nsym q9, qk, qr, nsym qr, ql, qq, nsym qq, q14, istr_of v1, istr_of v5, istr_of v1_1, istr_of v5_1, istr_of v7, istr_of v5_2]
            refine iapp_own (f := eL_I) (l := b_7_3) (m := ([row_9])) ?_ ?_ ?_ ?_ h_l57 ?_
            · exact (own_later qb (by intro j hj hl; first | rfl | simp only [go_sem, hl, rn_top (qm j hj), di_sym qy j hj, own_ne hj qj, own_ne hj qk, own_ne hj ql, own_ne hj q14]) (by first | omega | exact Nat.le_refl _ | (simp only [go_sem, nxs] <;> omega)))
            · exact (ownx_rs (by simp only [go_sem, rr_lates q8, own_late qd, qa, q0, qh, q2, qi, q1, own_late qb, q17, qn, rn_top q3, rn_top q4, rn_top q5, rn_top qs, qc, qe, qf, q13, q6, nsym q6, q7, nsym q7, qj, qp, nsym qp, q9, nsym q9, qk, qr, nsym qr, ql, qq, nsym qq, q14, List.length_append, List.map_append]) (by simp only [go_sem, rr_lates q8, own_late qd, qa, q0, qh, q2, qi, q1, own_late qb, q17, qn, rn_top q3, rn_top q4, rn_top q5, rn_top qs, qc, qe, qf, q13, q6, nsym q6, q7, nsym q7, qj, qp, nsym qp, q9, nsym q9, qk, qr, nsym qr, ql, qq, nsym qq, q14, List.length_append, List.map_append]))
            · exact (nd_rs (by first | exact notid_nil | exact notid_rs (by first | omega | (simp only [nxs] <;> omega)) | assumption | exact own_notid (by assumption) (by first | omega | (simp only [go_sem, nxs] <;> omega))))
            · exact (fun _ => by simp)
            simp only [go_sem, s7, s9, qa, q0, qh, q2, qi, q1, qn, qc, qe, qf, q6, nsym q6, q7, nsym q7, qj, qp, nsym qp, q9, nsym q9, qk, qr, nsym qr, ql, qq, nsym qq, q14, istr_of v1, istr_of v5, istr_of v1_1, istr_of v5_1, istr_of v7, istr_of v5_2]
            refine hK _ _ ?_
            clear hK K
            obtain ⟨x62, h_x62, hm2⟩ := bind_get hm2
            have h_x620 := get_nn h_x62
            have h_x621 := get_lt h_x62
            obtain ⟨x63, h_x63, hm2⟩ := bind_get hm2
            have h_x630 := get_nn h_x63
            have h_x631 := get_lt h_x63
            obtain ⟨iqp982, rfl, q1e, q1c⟩ := rr_top q8 h_x63
            obtain ⟨wp983, hw_wp983, os_wp983⟩ := rr_row q8 h_x63
            obtain ⟨x64, h_x64, hm2⟩ := bind_get hm2
            have h_x640 := get_nn h_x64
            have h_x641 := get_lt h_x64
            obtain ⟨irp984, rfl, obr_irp984, ltr_irp984⟩ := own_get os_wp983 h_x64
            obtain ⟨l65, h_l65, hm2⟩ := bind_get hm2
            refine cw_reg_postK1 (fun t h => ∃ v1_2 : AV, ∃ i7_3 : Nat, ∃ i7_4 : Nat, t 1 = v1_2 ∧ t 2 = .fp [.fs 5 (List.map eComb h_.Combs), .fs 3 (List.map eTrain h_.Trains), .fs 3 (List.map eShift h_.Shifts), I h_.Until] 0 ∧ t 5 = v5_2 ∧ t 6 = I x_19 ∧ t 7 = .rp i7 0 0 ∧ t 18 = I (List.length h_.Combs : Int) ∧ t 19 = I x_19 ∧ t 27 = I h_.Until ∧ t 28 = I x_28 ∧ RR h v1_2 hs_1 1 eI open_ ∧ OwnS h v5_2 1 (List.map eP_halls_bound all_5) ∧ h.ob i7 = some (4, [[.rs i7_3 0 (List.length l65), .rs i7_2 0 (List.length ([0])), .v (.slice none 0 0), .rs i7_4 0 (List.length l57)]]) ∧ i7 < h.nx ∧ h.ob i7_3 = some (1, List.map eI l65) ∧ i7_3 < h.nx ∧ h.ob i7_2 = some (1, List.map eI ([0])) ∧ i7_2 < h.nx ∧ h.ob i7_4 = some (1, List.map eL_I l57) ∧ i7_4 < h.nx ∧ (∀ j, ¬NotId v5_2 j → RNot v1_2 hs_1 j) ∧ RNot v1_2 hs_1 i7 ∧ RNot v1_2 hs_1 i7_3 ∧ RNot v1_2 hs_1 i7_2 ∧ RNot v1_2 hs_1 i7_4 ∧ NotId v5_2 i7 ∧ NotId v5_2 i7_3 ∧ NotId v5_2 i7_2 ∧ NotId v5_2 i7_4 ∧ ¬i7 = i7_3 ∧ ¬i7 = i7_2 ∧ ¬i7 = i7_4 ∧ ¬i7_3 = i7_2 ∧ ¬i7_3 = i7_4 ∧ ¬i7_2 = i7_4 ∧ (∀ j, j < h0.nx → h.ob j = h0.ob j) ∧ h0.nx ≤ h.nx ∧ (∀ j, ¬NotId v5_2 j → h0.nx ≤ j) ∧ h0.nx ≤ i7 ∧ h0.nx ≤ i7_3 ∧ h0.nx ≤ i7_2 ∧ h0.nx ≤ i7_4) (fun K hK => ?_) ?_
            · simp only [go_sem, s1, rr_len q8, s6, s7, s8, q1e, q1c, qa, q0, qh, q2, qi, q1, qn, rm_top qg, rm_row qg hw_wp983, rn_ne0 (q3), nsym (rn_ne0 (q3)), rn_ne (q3) hw_wp983, nsym (rn_ne (q3) hw_wp983), rn_ne0 (q4), nsym (rn_ne0 (q4)), rn_ne (q4) hw_wp983, nsym (rn_ne (q4) hw_wp983), rn_ne0 (q5), nsym (rn_ne0 (q5)), rn_ne (q5) hw_wp983, nsym (rn_ne (q5) hw_wp983), rm_top qm, rm_row qm hw_wp983, rn_ne0 (qs), nsym (rn_ne0 (qs)), rn_ne (qs) hw_wp983, nsym (rn_ne (qs) hw_wp983), qc, qe, qf, q6, nsym q6, q7, nsym q7, qj, qp, nsym qp, q9, nsym q9, qk, qr, nsym qr, ql, qq, nsym qq, ielem_get h_x62, irow_get h_x62, h_x620, h_x621, ielem_get h_x63, irow_get h_x63, h_x630, h_x631, ielem_get hw_wp983, irow_get hw_wp983, own_len os_wp983, ielem_get h_x64, irow_get h_x64, h_x640, h_x641, obr_irp984, ltr_irp984, istr_of v1, istr_of v5, istr_of v5_1, istr_of v7, istr_of v5_2]
              refine iapp_own (f := eI) (l := b_7_0) (m := ([wr (x62 + x64)])) ?_ ?_ ?_ ?_ h_l65 ?_
              · exact (own_rs (by simp only [go_sem, rr_lates q8, own_late qd, qa, q0, qh, q2, qi, q1, own_late qb, q17, qn, rm_top qg, rm_row qg hw_wp983, rn_top q3, rn_ne0 (q3), nsym (rn_ne0 (q3)), rn_ne (q3) hw_wp983, nsym (rn_ne (q3) hw_wp983), rn_top q4, rn_ne0 (q4), nsym (rn_ne0 (q4)), rn_ne (q4) hw_wp983, nsym (rn_ne (q4) hw_wp983), rn_top q5, rn_ne0 (q5), nsym (rn_ne0 (q5)), rn_ne (q5) hw_wp983, nsym (rn_ne (q5) hw_wp983), rm_top qm, rm_row qm hw_wp983, rn_top qs, rn_ne0 (qs), nsym (rn_ne0 (qs)), rn_ne (qs) hw_wp983, nsym (rn_ne (qs) hw_wp983), qc, qe, qf, q13, q6, nsym q6, q7, nsym q7, qj, qp, nsym qp, q9, nsym q9, qk, qr, nsym qr, ql, qq, nsym qq, q14, q1e, q1c, rr_top_ne q8 hw_wp983, nsym (rr_top_ne q8 hw_wp983), List.length_append, List.map_append]) (by simp only [go_sem, rr_lates q8, own_late qd, qa, q0, qh, q2, qi, q1, own_late qb, q17, qn, rm_top qg, rm_row qg hw_wp983, rn_top q3, rn_ne0 (q3), nsym (rn_ne0 (q3)), rn_ne (q3) hw_wp983, nsym (rn_ne (q3) hw_wp983), rn_top q4, rn_ne0 (q4), nsym (rn_ne0 (q4)), rn_ne (q4) hw_wp983, nsym (rn_ne (q4) hw_wp983), rn_top q5, rn_ne0 (q5), nsym (rn_ne0 (q5)), rn_ne (q5) hw_wp983, nsym (rn_ne (q5) hw_wp983), rm_top qm, rm_row qm hw_wp983, rn_top qs, rn_ne0 (qs), nsym (rn_ne0 (qs)), rn_ne (qs) hw_wp983, nsym (rn_ne (qs) hw_wp983), qc, qe, qf, q13, q6, nsym q6, q7, nsym q7, qj, qp, nsym qp, q9, nsym q9, qk, qr, nsym qr, ql, qq, nsym qq, q14, q1e, q1c, rr_top_ne q8 hw_wp983, nsym (rr_top_ne q8 hw_wp983), List.length_append, List.map_append]) (by simp only [go_sem, q0, q2, q1, qn, q1c]))
              · exact (ownx_rs (by simp only [go_sem, rr_lates q8, own_late qd, qa, q0, qh, q2, qi, q1, own_late qb, q17, qn, rm_top qg, rm_row qg hw_wp983, rn_top q3, rn_ne0 (q3), nsym (rn_ne0 (q3)), rn_ne (q3) hw_wp983, nsym (rn_ne (q3) hw_wp983), rn_top q4, rn_ne0 (q4), nsym (rn_ne0 (q4)), rn_ne (q4) hw_wp983, nsym (rn_ne (q4) hw_wp983), rn_top q5, rn_ne0 (q5), nsym (rn_ne0 (q5)), rn_ne (q5) hw_wp983, nsym (rn_ne (q5) hw_wp983), rm_top qm, rm_row qm hw_wp983, rn_top qs, rn_ne0 (qs), nsym (rn_ne0 (qs)), rn_ne (qs) hw_wp983, nsym (rn_ne (qs) hw_wp983), qc, qe, qf, q13, q6, nsym q6, q7, nsym q7, qj, qp, nsym qp, q9, nsym q9, qk, qr, nsym qr, ql, qq, nsym qq, q14, q1e, q1c, rr_top_ne q8 hw_wp983, nsym (rr_top_ne q8 hw_wp983), List.length_append, List.map_append]) (by simp only [go_sem, rr_lates q8, own_late qd, qa, q0, qh, q2, qi, q1, own_late qb, q17, qn, rm_top qg, rm_row qg hw_wp983, rn_top q3, rn_ne0 (q3), nsym (rn_ne0 (q3)), rn_ne (q3) hw_wp983, nsym (rn_ne (q3) hw_wp983), rn_top q4, rn_ne0 (q4), nsym (rn_ne0 (q4)), rn_ne (q4) hw_wp983, nsym (rn_ne (q4) hw_wp983), rn_top q5, rn_ne0 (q5), nsym (rn_ne0 (q5)), rn_ne (q5) hw_wp983, nsym (rn_ne (q5) hw_wp983), rm_top qm, rm_row qm hw_wp983, rn_top qs, rn_ne0 (qs), nsym (rn_ne0 (qs)), rn_ne (qs) hw_wp983, nsym (rn_ne (qs) hw_wp983), qc, qe, qf, q13, q6, nsym q6, q7, nsym q7, qj, qp, nsym qp, q9, nsym q9, qk, qr, nsym qr, ql, qq, nsym qq, q14, q1e, q1c, rr_top_ne q8 hw_wp983, nsym (rr_top_ne q8 hw_wp983), List.length_append, List.map_append]))
              · exact (nd_rs (by first | exact notid_nil | exact notid_rs (by first | omega | (simp only [nxs] <;> omega)) | assumption | exact own_notid (by assumption) (by first | omega | (simp only [go_sem, nxs] <;> omega))))
              · exact (fun _ => by simp)
              simp only [go_sem, s1, rr_len q8, s6, s7, s8, q1e, q1c, qa, q0, qh, q2, qi, q1, qn, rm_top qg, rm_row qg hw_wp983, rn_ne0 (q3), nsym (rn_ne0 (q3)), rn_ne (q3) hw_wp983, nsym (rn_ne (q3) hw_wp983), rn_ne0 (q4), nsym (rn_ne0 (q4)), rn_ne (q4) hw_wp983, nsym (rn_ne (q4) hw_wp983), rn_ne0 (q5), nsym (rn_ne0 (q5)), rn_ne (q5) hw_wp983, nsym (rn_ne (q5) hw_wp983), rm_top qm, rm_row qm hw_wp983, rn_ne0 (qs), nsym (rn_ne0 (qs)), rn_ne (qs) hw_wp983, nsym (rn_ne (qs) hw_wp983), qc, qe, qf, q6, nsym q6, q7, nsym q7, qj, qp, nsym qp, q9, nsym q9, qk, qr, nsym qr, ql, qq, nsym qq, ielem_get h_x62, irow_get h_x62, h_x620, h_x621, ielem_get h_x63, irow_get h_x63, h_x630, h_x631, ielem_get hw_wp983, irow_get hw_wp983, own_len os_wp983, ielem_get h_x64, irow_get h_x64, h_x640, h_x641, obr_irp984, ltr_irp984, istr_of v1, istr_of v5, istr_of v5_1, istr_of v7, istr_of v5_2]
              exact hK _ _ ⟨(.rs iqp982 0 (List.length open_)), (nxs (nxs (nxs h.nx))), (nxs h.nx), (by first | (simp only [go_sem, s1, List.length_append, List.map_append]; done) | rfl), s2, s5, s6, s7, s18, s19, s27, s28, (rr_later q8 (by intro j hj  hl; first | rfl | simp only [go_sem, hl, rr_ne hj q3, rr_ne hj q4, rm_sym qm j hj, rr_ne hj qs, q0, q2, qn]) (by first | omega | exact Nat.le_refl _ | (simp only [go_sem, nxs] <;> omega))), (own_later qd (by intro j hj hl; first | rfl | simp only [go_sem, hl, q0, q2, qn, own_ne hj qc, own_ne hj qe, qy j hj, own_ne hj q13]) (by first | omega | exact Nat.le_refl _ | (simp only [go_sem, nxs] <;> omega))), (by simp only [go_sem, qa, q0, q2, own_late qb, qn, q6, nsym q6, qj, qp, nsym qp, List.length_append, List.map_append]), (by simp only [go_sem, q0]), (by simp only [go_sem, q0, q2, own_late qb, qn, List.length_append, List.map_append]), (by simp only [go_sem]), (by simp only [go_sem, q0, q2, qi, q1, own_late qb, qn, q7, nsym q7, q9, nsym q9, ql, qq, nsym qq, List.length_append, List.map_append]), (by simp only [go_sem, q1]), (by simp only [go_sem, q0, q2, own_late qb, qn, List.length_append, List.map_append]), (by simp only [go_sem]), qg, q3, (by first | assumption | exact rr_late q8 (by first | assumption | omega | (simp only [nxs] <;> omega))), q5, (by first | assumption | exact rr_late q8 (by first | assumption | omega | (simp only [nxs] <;> omega))), qc, (by first | exact notid_nil | exact notid_rs (by first | assumption | omega | (simp only [nxs] <;> omega)) | assumption | exact own_notid (by assumption) (by first | assumption | omega | (simp only [nxs] <;> omega))), qf, (by first | exact notid_nil | exact notid_rs (by first | assumption | omega | (simp only [nxs] <;> omega)) | assumption | exact own_notid (by assumption) (by first | assumption | omega | (simp only [nxs] <;> omega))), (by first | first | assumption | omega | (simp only [nxs] <;> omega)), q7, (by first | first | assumption | omega | (simp only [nxs] <;> omega)), (by first | first | assumption | omega | (simp only [nxs] <;> omega)), (by first | first | assumption | omega | (simp only [nxs] <;> omega)), (by first | first | assumption | omega | (simp only [nxs] <;> omega)), (by intro j hj; first | exact fr j hj | (refine Eq.trans ?_ (fr j hj); first | rfl | simp only [go_sem, Nat.lt_of_lt_of_le hj fx, ge_ne qt hj, ge_ne qv hj, ge_nid qu hj, ge_ne q1a hj])), (by first | exact fx | omega | (simp only [go_sem, nxs] <;> omega)), qo, qt, (by first | assumption | omega | (simp only [nxs] <;> omega)), qw, (by first | assumption | omega | (simp only [nxs] <;> omega))⟩
            · try clear s1 s2 s5 s6 s7 s8 s9 s18 s19 s27 s28 q8 qd qa q0 qh q2 qi q1 qb q17 qn qg q3 q4 q5 qm qs qc qe qf qy q13 q6 q7 qj qp q9 qk qr ql qq q14 fr fx qo qt qv qw qu q1a q1e q1c
              rintro t h ⟨v1_2, i7_3, i7_4, s1, s2, s5, s6, s7, s18, s19, s27, s28, q8, qd, qa, q0, qh, q2, qi, q1, q1i, q1g, qg, q3, q4, q5, q1j, qc, qe, qf, q1l, q6, q7, q1m, q9, q1n, q1o, fr, fx, qo, qt, qv, qw, qu⟩
              simp only [qblock_normal, qseq_normal]
              exact J51 l65 l57 v1_2 v5_2 i7_3 i7_4 _ _ s1 s2 s5 s6 s7 s18 s19 s27 s28 q8 qd qa q0 qh q2 qi q1 q1i q1g qg q3 q4 q5 q1j qc qe qf q1l q6 q7 q1m q9 q1n q1o fr fx qo qt qv qw qu hm2
          simp only [cw_block]
          obtain ⟨b66, hl66, hm2⟩ := bind_get hm2
          refine cw_loopM hl66 (fun | (row_9, t_10), t, h => ∃ v5_2 : AV, ∃ i9 : Nat, t 1 = v1_1 ∧ t 2 = .fp [.fs 5 (List.map eComb h_.Combs), .fs 3 (List.map eTrain h_.Trains), .fs 3 (List.map eShift h_.Shifts), I h_.Until] 0 ∧ t 5 = v5_2 ∧ t 6 = I x_19 ∧ t 7 = .rp i7 0 0 ∧ t 8 = I x_28 ∧ t 9 = .rs i9 0 (List.length row_9) ∧ t 10 = I t_10 ∧ t 18 = I (List.length h_.Combs : Int) ∧ t 19 = I x_19 ∧ t 27 = I h_.Until ∧ t 28 = I x_28 ∧ RR h v1_1 hs_1 1 eI open_ ∧ OwnS h v5_2 1 (List.map eP_halls_bound all_5) ∧ h.ob i7 = some (4, [[.rs i7_1 0 (List.length b_7_0), .rs i7_2 0 (List.length ([0])), .v (.slice none 0 0), v7]]) ∧ i7 < h.nx ∧ h.ob i7_1 = some (1, List.map eI b_7_0) ∧ i7_1 < h.nx ∧ h.ob i7_2 = some (1, List.map eI ([0])) ∧ i7_2 < h.nx ∧ OwnS h v7 1 (List.map eL_I b_7_3) ∧ h.ob i9 = some (1, List.map eI row_9) ∧ i9 < h.nx ∧ (∀ j, ¬NotId v5_2 j → RNot v1_1 hs_1 j) ∧ RNot v1_1 hs_1 i7 ∧ RNot v1_1 hs_1 i7_1 ∧ RNot v1_1 hs_1 i7_2 ∧ (∀ j, ¬NotId v7 j → RNot v1_1 hs_1 j) ∧ RNot v1_1 hs_1 i9 ∧ NotId v5_2 i7 ∧ NotId v5_2 i7_1 ∧ NotId v5_2 i7_2 ∧ (∀ j, ¬NotId v5_2 j → NotId v7 j) ∧ NotId v5_2 i9 ∧ ¬i7 = i7_1 ∧ ¬i7 = i7_2 ∧ NotId v7 i7 ∧ ¬i7 = i9 ∧ ¬i7_1 = i7_2 ∧ NotId v7 i7_1 ∧ ¬i7_1 = i9 ∧ NotId v7 i7_2 ∧ ¬i7_2 = i9 ∧ NotId v7 i9 ∧ (∀ j, j < h0.nx → h.ob j = h0.ob j) ∧ h0.nx ≤ h.nx ∧ (∀ j, ¬NotId v5_2 j → h0.nx ≤ j) ∧ h0.nx ≤ i7 ∧ h0.nx ≤ i7_1 ∧ h0.nx ≤ i7_2 ∧ (∀ j, ¬NotId v7 j → h0.nx ≤ j) ∧ h0.nx ≤ i9) ?_ ?_
          · exact ⟨v5_1, h.nx, s1, s2, s5, s6, s7, (by first | (simp only [go_sem, List.length_append, List.map_append]; done) | rfl), (by first | (simp only [go_sem, List.length_append, List.map_append]; done) | rfl), (by first | (simp only [go_sem, List.length_append, List.map_append]; done) | rfl), s18, s19, s27, s28, (rr_later q8 (by intro j hj  hl; first | rfl | simp only [go_sem, hl]) (by first | omega | exact Nat.le_refl _ | (simp only [go_sem, nxs] <;> omega))), (own_later qd (by intro j hj hl; first | rfl | simp only [go_sem, hl]) (by first | omega | exact Nat.le_refl _ | (simp only [go_sem, nxs] <;> omega))), (by simp only [go_sem, qa, q0, List.length_append, List.map_append]), (by simp only [go_sem, q0]), (by simp only [go_sem, qh, q2, List.length_append, List.map_append]), (by simp only [go_sem, q2]), (by simp only [go_sem, qi, q1, List.length_append, List.map_append]), (by simp only [go_sem, q1]), (own_later qb (by intro j hj hl; first | rfl | simp only [go_sem, hl]) (by first | omega | exact Nat.le_refl _ | (simp only [go_sem, nxs] <;> omega))), (by simp only [go_sem, List.length_append, List.map_append]), (by simp only [go_sem]), qg, q3, q4, q5, qm, (by first | assumption | exact rr_late q8 (by first | assumption | omega | (simp only [nxs] <;> omega))), qc, qe, qf, qy, (by first | exact notid_nil | exact notid_rs (by first | assumption | omega | (simp only [nxs] <;> omega)) | assumption | exact own_notid (by assumption) (by first | assumption | omega | (simp only [nxs] <;> omega))), q6, q7, qj, (by first | first | assumption | omega | (simp only [nxs] <;> omega)), q9, qk, (by first | first | assumption | omega | (simp only [nxs] <;> omega)), ql, (by first | first | assumption | omega | (simp only [nxs] <;> omega)), (by first | exact notid_nil | exact notid_rs (by first | assumption | omega | (simp only [nxs] <;> omega)) | assumption | exact own_notid (by assumption) (by first | assumption | omega | (simp only [nxs] <;> omega))), (by intro j hj; first | exact fr j hj | (refine Eq.trans ?_ (fr j hj); first | rfl | simp only [go_sem, Nat.lt_of_lt_of_le hj fx])), (by first | exact fx | omega | (simp only [go_sem, nxs] <;> omega)), qo, qt, qv, qw, qu, (by first | assumption | omega | (simp only [nxs] <;> omega))⟩
          · try clear s1 s2 s5 s6 s7 s18 s19 s27 s28 q8 qd qa q0 qh q2 qi q1 qb qg q3 q4 q5 qm qc qe qf qy q6 q7 qj q9 qk ql fr fx qo qt qv qw qu
            rintro ⟨row_9, t_10⟩ o t h ⟨v5_2, i9, s1, s2, s5, s6, s7, s8, s9, s10, s18, s19, s27, s28, q8, qd, qa, q0, qh, q2, qi, q1, qb, q17, qn, qg, q3, q4, q5, qm, qs, qc, qe, qf, qy, q13, q6, q7, qj, qp, q9, qk, qr, ql, qq, q14, fr, fx, qo, qt, qv, qw, qu, q1a⟩ hm3 hb66
            simp only [halls_bounds_L21] at hm3
            rw [x_halls_bounds_L21]
            refine cw_assoc ?_
            refine cw_reg_seq fun K hK => ?_
            simp only [go_sem, s2, s10, q0, q2, q1, qn, istr_of v1, istr_of v5, istr_of v1_1, istr_of v5_1, istr_of v7, istr_of v5_2]
            refine hK _ _ ?_
            clear hK K
            refine cw_seq_k fun K67 hK67 => ?_
            simp only [go_sem]
            refine ibr_intro (fun hc68 => ?_) (fun hc68 => ?_)
            · rw [if_t hc68] at hm3
              simp only [cw_skip, qblock_normal, qseq_normal]
              refine hK67 _ _ ?_
              refine cw_seq_k fun K69 hK69 => ?_
              have J70 : ∀ (row_9_1 : List Int) (v5_3 : AV) (t : Slots) (h : Heap), t 1 = v1_1 → t 2 = .fp [.fs 5 (List.map eComb h_.Combs), .fs 3 (List.map eTrain h_.Trains), .fs 3 (List.map eShift h_.Shifts), I h_.Until] 0 → t 5 = v5_3 → t 6 = I x_19 → t 7 = .rp i7 0 0 → t 8 = I x_28 → t 9 = .rs i9 0 (List.length row_9_1) → t 10 = I t_10 → t 18 = I (List.length h_.Combs : Int) → t 19 = I x_19 → t 27 = I h_.Until → t 28 = I x_28 → RR h v1_1 hs_1 1 eI open_ → OwnS h v5_3 1 (List.map eP_halls_bound all_5) → h.ob i7 = some (4, [[.rs i7_1 0 (List.length b_7_0), .rs i7_2 0 (List.length ([0])), .v (.slice none 0 0), v7]]) → i7 < h.nx → h.ob i7_1 = some (1, List.map eI b_7_0) → i7_1 < h.nx → h.ob i7_2 = some (1, List.map eI ([0])) → i7_2 < h.nx → OwnS h v7 1 (List.map eL_I b_7_3) → h.ob i9 = some (1, List.map eI row_9_1) → i9 < h.nx → (∀ j, ¬NotId v5_3 j → RNot v1_1 hs_1 j) → RNot v1_1 hs_1 i7 → RNot v1_1 hs_1 i7_1 → RNot v1_1 hs_1 i7_2 → (∀ j, ¬NotId v7 j → RNot v1_1 hs_1 j) → RNot v1_1 hs_1 i9 → NotId v5_3 i7 → NotId v5_3 i7_1 → NotId v5_3 i7_2 → (∀ j, ¬NotId v5_3 j → NotId v7 j) → NotId v5_3 i9 → ¬i7 = i7_1 → ¬i7 = i7_2 → NotId v7 i7 → ¬i7 = i9 → ¬i7_1 = i7_2 → NotId v7 i7_1 → ¬i7_1 = i9 → NotId v7 i7_2 → ¬i7_2 = i9 → NotId v7 i9 → (∀ j, j < h0.nx → h.ob j = h0.ob j) → h0.nx ≤ h.nx → (∀ j, ¬NotId v5_3 j → h0.nx ≤ j) → h0.nx ≤ i7 → h0.nx ≤ i7_1 → h0.nx ≤ i7_2 → (∀ j, ¬NotId v7 j → h0.nx ≤ j) → h0.nx ≤ i9 → halls_bounds_j70 t_10 row_9_1 = some o → K69 t h := by
                try clear s1 s2 s5 s6 s7 s8 s9 s10 s18 s19 s27 s28 q8 qd qa q0 qh q2 qi q1 qb q17 qn qg q3 q4 q5 qm qs qc qe qf qy q13 q6 q7 qj qp q9 qk qr ql qq q14 fr fx qo qt qv qw qu q1a
                intro row_9_1 v5_3 t h s1 s2 s5 s6 s7 s8 s9 s10 s18 s19 s27 s28 q8 qd qa q0 qh q2 qi q1 qb q17 qn qg q3 q4 q5 qm qs qc qe qf qy q13 q6 q7 qj qp q9 qk qr ql qq q14 fr fx qo qt qv qw qu q1a hm3
                refine hK69 _ _ ?_
                unfold halls_bounds_j70 at hm3
                refine cw_reg_k fun K hK => ?_
                simp only [go_sem, s10, q0, q2, q1, qn, istr_of v1, istr_of v5, istr_of v1_1, istr_of v5_1, istr_of v7, istr_of v5_2, istr_of v5_3]
                refine hK _ _ ?_
                clear hK K
                simp only [qblock_normal, qseq_normal]
                obtain rfl := Option.some.inj hm3
                refine ⟨_, rfl, ?_⟩
                exact ⟨v5_3, i9, s1, s2, s5, s6, s7, s8, (by first | exact s9 | simp only [go_sem, s9, List.length_append, List.map_append]), (by first | (simp only [go_sem, s10, List.length_append, List.map_append]; done) | rfl), s18, s19, s27, s28, q8, qd, qa, q0, qh, q2, qi, q1, qb, q17, qn, qg, q3, q4, q5, qm, qs, qc, qe, qf, qy, q13, q6, q7, qj, qp, q9, qk, qr, ql, qq, q14, fr, fx, qo, qt, qv, qw, qu, q1a⟩
              simp only [cw_block]
              obtain ⟨y73, h_y73, hm3⟩ := bind_get hm3
              obtain ⟨x74, h_x74, hm3⟩ := bind_get hm3
              have h_x740 := get_nn h_x74
              have h_x741 := get_lt h_x74
              refine cw_reg_seq fun K hK => ?_
              simp only [go_sem, s2, s6, s8, s9, s10, q17, qn, q0, q2, q1, q13, qp, nsym qp, qr, nsym qr, qq, nsym qq, q14, ielem_get h_x74, irow_get h_x74, h_x740, h_x741, istr_of v1, istr_of v5, istr_of v1_1, istr_of v5_1, istr_of v7, istr_of v5_2]
              refine icall_fn (k_halls_brought h_ x_19 x_28 t_10 _ h_y73) ?_
              simp only [go_sem, s2, s6, s8, s9, s10, q17, qn, q0, q2, q1, q13, qp, nsym qp, qr, nsym qr, qq, nsym qq, q14, ielem_get h_x74, irow_get h_x74, h_x740, h_x741, istr_of v1, istr_of v5, istr_of v1_1, istr_of v5_1, istr_of v7, istr_of v5_2]
              refine hK _ _ ?_
              clear hK K
              obtain ⟨l76, h_l76, hm3⟩ := bind_get hm3
              refine cw_reg_seq fun K hK => ?_
              simp only [go_sem, s2, s6, q0, q2, q1, qn, istr_of v1, istr_of v5, istr_of v1_1, istr_of v5_1, istr_of v7, istr_of v5_2]
              refine islc_fs (f := eComb) (l := h_.Combs) (lo := none) (hi := some x_19) h_l76 ?_
              simp only [go_sem, s2, s6, q0, q2, q1, qn, istr_of v1, istr_of v5, istr_of v1_1, istr_of v5_1, istr_of v7, istr_of v5_2]
              refine hK _ _ ?_
              clear hK K
              simp only [cw_block]
              obtain ⟨b77, hl77, hm3⟩ := bind_get hm3
              refine cw_loopM hl77 (fun | (row_9_1, x_54), t, h => ∃ v5_3 : AV, t 1 = v1_1 ∧ t 2 = .fp [.fs 5 (List.map eComb h_.Combs), .fs 3 (List.map eTrain h_.Trains), .fs 3 (List.map eShift h_.Shifts), I h_.Until] 0 ∧ t 5 = v5_3 ∧ t 6 = I x_19 ∧ t 7 = .rp i7 0 0 ∧ t 8 = I x_28 ∧ t 9 = .rs i9 0 (List.length row_9_1) ∧ t 10 = I t_10 ∧ t 18 = I (List.length h_.Combs : Int) ∧ t 19 = I x_19 ∧ t 27 = I h_.Until ∧ t 28 = I x_28 ∧ t 52 = .fs 5 (List.map eComb l76) ∧ t 53 = I (List.length l76 : Int) ∧ t 54 = I x_54 ∧ RR h v1_1 hs_1 1 eI open_ ∧ OwnS h v5_3 1 (List.map eP_halls_bound all_5) ∧ h.ob i7 = some (4, [[.rs i7_1 0 (List.length b_7_0), .rs i7_2 0 (List.length ([0])), .v (.slice none 0 0), v7]]) ∧ i7 < h.nx ∧ h.ob i7_1 = some (1, List.map eI b_7_0) ∧ i7_1 < h.nx ∧ h.ob i7_2 = some (1, List.map eI ([0])) ∧ i7_2 < h.nx ∧ OwnS h v7 1 (List.map eL_I b_7_3) ∧ h.ob i9 = some (1, List.map eI row_9_1) ∧ i9 < h.nx ∧ (∀ j, ¬NotId v5_3 j → RNot v1_1 hs_1 j) ∧ RNot v1_1 hs_1 i7 ∧ RNot v1_1 hs_1 i7_1 ∧ RNot v1_1 hs_1 i7_2 ∧ (∀ j, ¬NotId v7 j → RNot v1_1 hs_1 j) ∧ RNot v1_1 hs_1 i9 ∧ NotId v5_3 i7 ∧ NotId v5_3 i7_1 ∧ NotId v5_3 i7_2 ∧ (∀ j, ¬NotId v5_3 j → NotId v7 j) ∧ NotId v5_3 i9 ∧ ¬i7 = i7_1 ∧ ¬i7 = i7_2 ∧ NotId v7 i7 ∧ ¬i7 = i9 ∧ ¬i7_1 = i7_2 ∧ NotId v7 i7_1 ∧ ¬i7_1 = i9 ∧ NotId v7 i7_2 ∧ ¬i7_2 = i9 ∧ NotId v7 i9 ∧ (∀ j, j < h0.nx → h.ob j = h0.ob j) ∧ h0.nx ≤ h.nx ∧ (∀ j, ¬NotId v5_3 j → h0.nx ≤ j) ∧ h0.nx ≤ i7 ∧ h0.nx ≤ i7_1 ∧ h0.nx ≤ i7_2 ∧ (∀ j, ¬NotId v7 j → h0.nx ≤ j) ∧ h0.nx ≤ i9) ?_ ?_
              · exact ⟨v5_2, s1, s2, s5, s6, s7, s8, (by first | exact s9 | simp only [go_sem, s9, List.length_append, List.map_append]), s10, s18, s19, s27, s28, (by first | (simp only [go_sem, List.length_append, List.map_append]; done) | rfl), (by first | (simp only [go_sem, List.length_append, List.map_append]; done) | rfl), (by first | (simp only [go_sem, List.length_append, List.map_append]; done) | rfl), (rr_later q8 (by intro j hj  hl; first | rfl | simp only [go_sem, hl, rr_ne hj qs, qn]) (by first | omega | exact Nat.le_refl _ | (simp only [go_sem, nxs] <;> omega))), (own_later qd (by intro j hj hl; first | rfl | simp only [go_sem, hl, qn, own_ne hj q13]) (by first | omega | exact Nat.le_refl _ | (simp only [go_sem, nxs] <;> omega))), (by simp only [go_sem, qa, q0, qn, qp, nsym qp, List.length_append, List.map_append]), (by simp only [go_sem, q0]), (by simp only [go_sem, qh, q2, qn, qr, nsym qr, List.length_append, List.map_append]), (by simp only [go_sem, q2]), (by simp only [go_sem, qi, q1, qn, qq, nsym qq, List.length_append, List.map_append]), (by simp only [go_sem, q1]), (own_later qb (by intro j hj hl; first | rfl | simp only [go_sem, hl, qn, own_ne hj q14]) (by first | omega | exact Nat.le_refl _ | (simp only [go_sem, nxs] <;> omega))), (by simp only [go_sem, q17, qn, List.length_append, List.map_append]), (by simp only [go_sem, qn]), qg, q3, q4, q5, qm, qs, qc, qe, qf, qy, q13, q6, q7, qj, qp, q9, qk, qr, ql, qq, q14, (by intro j hj; first | exact fr j hj | (refine Eq.trans ?_ (fr j hj); first | rfl | simp only [go_sem, Nat.lt_of_lt_of_le hj fx, ge_ne q1a hj])), (by first | exact fx | omega | (simp only [go_sem, nxs] <;> omega)), qo, qt, qv, qw, qu, q1a⟩
              · try clear s1 s2 s5 s6 s7 s8 s9 s10 s18 s19 s27 s28 q8 qd qa q0 qh q2 qi q1 qb q17 qn qg q3 q4 q5 qm qs qc qe qf qy q13 q6 q7 qj qp q9 qk qr ql qq q14 fr fx qo qt qv qw qu q1a
                rintro ⟨row_9_1, x_54⟩ o t h ⟨v5_3, s1, s2, s5, s6, s7, s8, s9, s10, s18, s19, s27, s28, s52, s53, s54, q8, qd, qa, q0, qh, q2, qi, q1, qb, q17, qn, qg, q3, q4, q5, qm, qs, qc, qe, qf, qy, q13, q6, q7, qj, qp, q9, qk, qr, ql, qq, q14, fr, fx, qo, qt, qv, qw, qu, q1a⟩ hm4 hb77
                simp only [halls_bounds_L19] at hm4
                rw [x_halls_bounds_L19]
                refine cw_reg_seq fun K hK => ?_
                simp only [go_sem, s53, s54, q0, q2, q1, qn, istr_of v1, istr_of v5, istr_of v1_1, istr_of v5_1, istr_of v7, istr_of v5_2, istr_of v5_3]
                refine hK _ _ ?_
                clear hK K
                refine cw_seq_k fun K78 hK78 => ?_
                simp only [go_sem]
                refine ibr_intro (fun hc79 => ?_) (fun hc79 => ?_)
                · rw [if_t hc79] at hm4
                  simp only [cw_skip, qblock_normal, qseq_normal]
                  refine hK78 _ _ ?_
                  refine cw_seq_k fun K80 hK80 => ?_
                  have J81 : ∀ (row_9_2 : List Int) (v5_4 : AV) (t : Slots) (h : Heap), t 1 = v1_1 → t 2 = .fp [.fs 5 (List.map eComb h_.Combs), .fs 3 (List.map eTrain h_.Trains), .fs 3 (List.map eShift h_.Shifts), I h_.Until] 0 → t 5 = v5_4 → t 6 = I x_19 → t 7 = .rp i7 0 0 → t 8 = I x_28 → t 9 = .rs i9 0 (List.length row_9_2) → t 10 = I t_10 → t 18 = I (List.length h_.Combs : Int) → t 19 = I x_19 → t 27 = I h_.Until → t 28 = I x_28 → t 52 = .fs 5 (List.map eComb l76) → t 53 = I (List.length l76 : Int) → t 54 = I x_54 → RR h v1_1 hs_1 1 eI open_ → OwnS h v5_4 1 (List.map eP_halls_bound all_5) → h.ob i7 = some (4, [[.rs i7_1 0 (List.length b_7_0), .rs i7_2 0 (List.length ([0])), .v (.slice none 0 0), v7]]) → i7 < h.nx → h.ob i7_1 = some (1, List.map eI b_7_0) → i7_1 < h.nx → h.ob i7_2 = some (1, List.map eI ([0])) → i7_2 < h.nx → OwnS h v7 1 (List.map eL_I b_7_3) → h.ob i9 = some (1, List.map eI row_9_2) → i9 < h.nx → (∀ j, ¬NotId v5_4 j → RNot v1_1 hs_1 j) → RNot v1_1 hs_1 i7 → RNot v1_1 hs_1 i7_1 → RNot v1_1 hs_1 i7_2 → (∀ j, ¬NotId v7 j → RNot v1_1 hs_1 j) → RNot v1_1 hs_1 i9 → NotId v5_4 i7 → NotId v5_4 i7_1 → NotId v5_4 i7_2 → (∀ j, ¬NotId v5_4 j → NotId v7 j) → NotId v5_4 i9 → ¬i7 = i7_1 → ¬i7 = i7_2 → NotId v7 i7 → ¬i7 = i9 → ¬i7_1 = i7_2 → NotId v7 i7_1 → ¬i7_1 = i9 → NotId v7 i7_2 → ¬i7_2 = i9 → NotId v7 i9 → (∀ j, j < h0.nx → h.ob j = h0.ob j) → h0.nx ≤ h.nx → (∀ j, ¬NotId v5_4 j → h0.nx ≤ j) → h0.nx ≤ i7 → h0.nx ≤ i7_1 → h0.nx ≤ i7_2 → (∀ j, ¬NotId v7 j → h0.nx ≤ j) → h0.nx ≤ i9 → halls_bounds_j81 x_54 row_9_2 = some o → K80 t h := by
                    try clear s1 s2 s5 s6 s7 s8 s9 s10 s18 s19 s27 s28 s52 s53 s54 q8 qd qa q0 qh q2 qi q1 qb q17 qn qg q3 q4 q5 qm qs qc qe qf qy q13 q6 q7 qj qp q9 qk qr ql qq q14 fr fx qo qt qv qw qu q1a
                    intro row_9_2 v5_4 t h s1 s2 s5 s6 s7 s8 s9 s10 s18 s19 s27 s28 s52 s53 s54 q8 qd qa q0 qh q2 qi q1 qb q17 qn qg q3 q4 q5 qm qs qc qe qf qy q13 q6 q7 qj qp q9 qk qr ql qq q14 fr fx qo qt qv qw qu q1a hm4
                    refine hK80 _ _ ?_
                    unfold halls_bounds_j81 at hm4
                    refine cw_reg_k fun K hK => ?_
                    simp only [go_sem, s54, q0, q2, q1, qn, istr_of v1, istr_of v5, istr_of v1_1, istr_of v5_1, istr_of v7, istr_of v5_2, istr_of v5_3, istr_of v5_4]
                    refine hK _ _ ?_
                    clear hK K
                    simp only [qblock_normal, qseq_normal]
                    obtain rfl := Option.some.inj hm4
                    refine ⟨_, rfl, ?_⟩
                    exact ⟨v5_4, s1, s2, s5, s6, s7, s8, (by first | exact s9 | simp only [go_sem, s9, List.length_append, List.map_append]), s10, s18, s19, s27, s28, s52, s53, (by first | (simp only [go_sem, s54, List.length_append, List.map_append]; done) | rfl), q8, qd, qa, q0, qh, q2, qi, q1, qb, q17, qn, qg, q3, q4, q5, qm, qs, qc, qe, qf, qy, q13, q6, q7, qj, qp, q9, qk, qr, ql, qq, q14, fr, fx, qo, qt, qv, qw, qu, q1a⟩
                  simp only [cw_block]
                  obtain ⟨x83, h_x83, hm4⟩ := bind_get hm4
                  have h_x830 := get_nn h_x83
                  have h_x831 := get_lt h_x83
                  refine cw_reg_seq fun K hK => ?_
                  simp only [go_sem, s52, s54, q0, q2, q1, qn, ielem_get h_x83, irow_get h_x83, h_x830, h_x831, istr_of v1, istr_of v5, istr_of v1_1, istr_of v5_1, istr_of v7, istr_of v5_2, istr_of v5_3]
                  refine hK _ _ ?_
                  clear hK K
                  refine cw_reg_seq fun K hK => ?_
                  simp only [go_sem, s6, q0, q2, q1, qn, istr_of v1, istr_of v5, istr_of v1_1, istr_of v5_1, istr_of v7, istr_of v5_2, istr_of v5_3]
                  refine hK _ _ ?_
                  clear hK K
                  simp only [go_sem]
                  refine ibr_intro (fun hc84 => ?_) (fun hc84 => ?_)
                  · rw [if_t hc84] at hm4
                    obtain ⟨x89, h_x89, hm4⟩ := bind_get hm4
                    have h_x890 := get_nn h_x89
                    have h_x891 := get_lt h_x89
                    obtain ⟨x90, h_x90, hm4⟩ := bind_get hm4
                    have h_x900 := get_nn h_x90
                    have h_x901 := get_lt h_x90
                    obtain ⟨iq91, rfl, q16, qz⟩ := own_get qd h_x90
                    obtain ⟨y92, h_y92, hm4⟩ := bind_get hm4
                    refine cw_reg_k fun K hK => ?_
                    simp only [go_sem, s5, s8, s9, s10, q16, qz, q17, qn, q0, q2, q1, qc, qe, qf, q13, qp, nsym qp, qr, nsym qr, qq, nsym qq, q14, ielem_get h_x89, irow_get h_x89, h_x890, h_x891, ielem_get h_x90, irow_get h_x90, h_x900, h_x901, istr_of v1, istr_of v5, istr_of v1_1, istr_of v5_1, istr_of v7, istr_of v5_2]
                    refine icall_fn (k___halls_bound__passes x90 (wr (x_28 - x83.Walk.High)) (wr (t_10 - x83.Walk.Low)) _ h_y92) ?_
                    simp only [go_sem, s5, s8, s9, s10, q16, qz, q17, qn, q0, q2, q1, qc, qe, qf, q13, qp, nsym qp, qr, nsym qr, qq, nsym qq, q14, ielem_get h_x89, irow_get h_x89, h_x890, h_x891, ielem_get h_x90, irow_get h_x90, h_x900, h_x901, istr_of v1, istr_of v5, istr_of v1_1, istr_of v5_1, istr_of v7, istr_of v5_2]
                    refine hK _ _ ?_
                    clear hK K
                    simp only [qblock_normal, qseq_normal]
                    exact J81 (List.set row_9_1 (Int.toNat t_10) (wr (x89 + y92))) (.rs iq91 0 (List.length all_5)) _ _ s1 s2 (by first | (simp only [go_sem, s5, List.length_append, List.map_append]; done) | rfl) s6 s7 s8 (by first | exact s9 | simp only [go_sem, s9, List.length_append, List.map_append]) s10 s18 s19 s27 s28 s52 s53 s54 (rr_later q8 (by intro j hj  hl; first | rfl | simp only [go_sem, hl, rr_ne hj qs, qn]) (by first | omega | exact Nat.le_refl _ | (simp only [go_sem, nxs] <;> omega))) (own_rs (by simp only [go_sem, qn, q13, notid_ne q13, nsym (notid_ne q13), q16, qz, List.length_append, List.map_append]) (by first | rfl | simp only [go_sem, List.length_append, List.map_append]) (by simp only [go_sem, qz])) (by simp only [go_sem, qa, q0, qn, qp, nsym qp, List.length_append, List.map_append]) (by simp only [go_sem, q0]) (by simp only [go_sem, qh, q2, qn, qr, nsym qr, List.length_append, List.map_append]) (by simp only [go_sem, q2]) (by simp only [go_sem, qi, q1, qn, qq, nsym qq, List.length_append, List.map_append]) (by simp only [go_sem, q1]) (own_later qb (by intro j hj hl; first | rfl | simp only [go_sem, hl, qn, own_ne hj q14]) (by first | omega | exact Nat.le_refl _ | (simp only [go_sem, nxs] <;> omega))) (by simp only [go_sem, q17, qn, List.length_append, List.map_append]) (by simp only [go_sem, qn]) qg q3 q4 q5 qm qs qc qe qf qy q13 q6 q7 qj qp q9 qk qr ql qq q14 (by intro j hj; first | exact fr j hj | (refine Eq.trans ?_ (fr j hj); first | rfl | simp only [go_sem, Nat.lt_of_lt_of_le hj fx, ge_ne q1a hj])) (by first | exact fx | omega | (simp only [go_sem, nxs] <;> omega)) qo qt qv qw qu q1a hm4
                  · rw [if_f hc84] at hm4
                    simp only [cw_skip, qblock_normal, qseq_normal]
                    exact J81 row_9_1 v5_3 _ _ s1 s2 s5 s6 s7 s8 (by first | exact s9 | simp only [go_sem, s9, List.length_append, List.map_append]) s10 s18 s19 s27 s28 s52 s53 s54 (rr_later q8 (by intro j hj  hl; first | rfl | simp only [go_sem, hl]) (by first | omega | exact Nat.le_refl _ | (simp only [go_sem, nxs] <;> omega))) (own_later qd (by intro j hj hl; first | rfl | simp only [go_sem, hl]) (by first | omega | exact Nat.le_refl _ | (simp only [go_sem, nxs] <;> omega))) (by simp only [go_sem, qa, q0, List.length_append, List.map_append]) (by simp only [go_sem, q0]) (by simp only [go_sem, qh, q2, List.length_append, List.map_append]) (by simp only [go_sem, q2]) (by simp only [go_sem, qi, q1, List.length_append, List.map_append]) (by simp only [go_sem, q1]) (own_later qb (by intro j hj hl; first | rfl | simp only [go_sem, hl]) (by first | omega | exact Nat.le_refl _ | (simp only [go_sem, nxs] <;> omega))) (by simp only [go_sem, q17, qn, List.length_append, List.map_append]) (by simp only [go_sem, qn]) qg q3 q4 q5 qm qs qc qe qf qy q13 q6 q7 qj qp q9 qk qr ql qq q14 (by intro j hj; first | exact fr j hj | (refine Eq.trans ?_ (fr j hj); first | rfl | simp only [go_sem, Nat.lt_of_lt_of_le hj fx])) (by first | exact fx | omega | (simp only [go_sem, nxs] <;> omega)) qo qt qv qw qu q1a hm4
                · rw [if_f hc79] at hm4
                  simp only [cw_exit, qseq_exit, qblock_same, qblock_ne, qblock_normal, qseq_normal, Nat.reduceEqDiff, not_false_eq_true]
                  obtain rfl := Option.some.inj hm4
                  obtain rfl := hb77 _ rfl
                  try dsimp only at hm3
                  exact J70 row_9_1 v5_3 _ _ s1 s2 s5 s6 s7 s8 (by first | exact s9 | simp only [go_sem, s9, List.length_append, List.map_append]) s10 s18 s19 s27 s28 q8 qd qa q0 qh q2 qi q1 qb q17 qn qg q3 q4 q5 qm qs qc qe qf qy q13 q6 q7 qj qp q9 qk qr ql qq q14 fr fx qo qt qv qw qu q1a hm3
            · rw [if_f hc68] at hm3
              simp only [cw_exit, qseq_exit, qblock_same, qblock_ne, qblock_normal, qseq_normal, Nat.reduceEqDiff, not_false_eq_true]
              obtain rfl := Option.some.inj hm3
              obtain rfl := hb66 _ rfl
              try dsimp only at hm2
              exact J55 row_9 v5_2 i9 _ _ s1 s2 s5 s6 s7 s8 (by first | exact s9 | simp only [go_sem, s9, List.length_append, List.map_append]) s18 s19 s27 s28 q8 qd qa q0 qh q2 qi q1 qb q17 qn qg q3 q4 q5 qm qs qc qe qf qy q13 q6 q7 qj qp q9 qk qr ql qq q14 fr fx qo qt qv qw qu q1a hm2
        · rw [if_f hc49] at hm2
          simp only [cw_exit, qseq_exit, qblock_same, qblock_ne, qblock_normal, qseq_normal, Nat.reduceEqDiff, not_false_eq_true]
          obtain rfl := Option.some.inj hm2
          obtain rfl := hb47 _ rfl
          try dsimp only at hm1
          exact J9 b_7_0 b_7_3 v1_1 v5_1 i7 i7_1 i7_2 v7 _ _ s1 s2 s5 s6 s7 s18 s19 q8 qd qa q0 qh q2 qi q1 qb qg q3 q4 q5 qm qc qe qf qy q6 q7 qj q9 qk ql fr fx qo qt qv qw qu hm1
    · rw [if_f hc5] at hm1
      simp only [cw_exit, qseq_exit, qblock_same, qblock_ne, qblock_normal, qseq_normal, Nat.reduceEqDiff, not_false_eq_true]
      obtain rfl := Option.some.inj hm1
      obtain rfl := hb3 _ rfl
      try dsimp only at hm0
      exact J2 all_5 v5 _ _ s5 qd fr fx qo hm0

end Go.Nw.HM

namespace Go.Nw.HM
open Go.Nw.Halls
set_option linter.unusedSimpArgs false
set_option linter.unusedVariables false
set_option maxHeartbeats 4000000
variable {O : Orac}

theorem k_halls_isTrain (hf : Has O "newel/halls.isTrain" x_halls_isTrain) (k_halls_span : C_halls_span O) : C_halls_isTrain O := by
  intro h_ t_ r hm0
  unfold halls_isTrain at hm0
  refine fn_cw hf rfl (fz_cons (.agg _ (fz_cons (frz_fs fun a _ => fz_eComb a) (fz_cons (frz_fs fun a _ => fz_eTrain a) (fz_cons (frz_fs fun a _ => fz_eShift a) (fz_cons (frz_v _) fz_nil))))) (fz_cons (.agg _ (fz_cons (frz_v _) (fz_cons (frz_v _) (fz_cons (frz_fs fun a _ => fz_eCrowd a) fz_nil)))) fz_nil)) (frz_v _) ?_
  refine cw_start (fun t h => t 0 = .agg [.fs 5 (List.map eComb h_.Combs), .fs 3 (List.map eTrain h_.Trains), .fs 3 (List.map eShift h_.Shifts), I h_.Until] ∧ t 1 = .agg [I t_.At.Low, I t_.At.High, .fs 3 (List.map eCrowd t_.Crowds)]) ⟨rfl, rfl⟩ fun t h ⟨s0, s1⟩ => ?_
  simp only [x_halls_isTrain]
  refine cw_reg_seq fun K hK => ?_
  simp only [go_sem, s0, s1]
  refine hK _ _ ?_
  clear hK K
  refine cw_reg_seq fun K hK => ?_
  simp only [go_sem]
  refine hK _ _ ?_
  clear hK K
  refine cw_assoc ?_
  refine cw_reg_seq fun K hK => ?_
  simp only [go_sem]
  refine hK _ _ ?_
  clear hK K
  refine cw_seq_k fun K1 hK1 => ?_
  have J2 : ∀ (t : Slots) (h : Heap), t 2 = .fp [.fs 5 (List.map eComb h_.Combs), .fs 3 (List.map eTrain h_.Trains), .fs 3 (List.map eShift h_.Shifts), I h_.Until] 0 → t 3 = .fp [I t_.At.Low, I t_.At.High, .fs 3 (List.map eCrowd t_.Crowds)] 0 → halls_isTrain_j2 h_ t_ = some r → K1 t h := by
    intro t h s2 s3 hm0
    refine hK1 _ _ ?_
    unfold halls_isTrain_j2 at hm0
    refine cw_reg_postK (fun t h => t 4 = B ((halls_span t_.At 0 (wr (h_.Until - 1))) && (decide ((List.length t_.Crowds : Int) ≤ 4)))) (fun K hK => ?_) ?_
    · simp only [go_sem, s2, s3]
      refine icall_fn (k_halls_span t_.At 0 (wr (h_.Until - 1))) ?_
      simp only [go_sem, s2, s3]
      refine ibr_intro (fun hg3 => ?_) (fun hg3 => ?_)
      · simp only [go_sem, s2, s3, hg3]
        exact hK _ _ (by first | (simp only [go_sem, hg3, List.length_append, List.map_append]; done) | rfl)
      · simp only [go_sem, s2, s3, hg3]
        exact hK _ _ (by first | (simp only [go_sem, hg3, List.length_append, List.map_append]; done) | rfl)
    · rintro t h s4
      simp only [cw_ret, qseq_ret, qblock_ret, retQ_ret]
      obtain rfl := Option.some.inj hm0
      exact done_t (by simp only [go_sem, s4, List.length_append, List.map_append]) (frz_v _)
  simp only [cw_block]
  obtain ⟨b4, hl4, hm0⟩ := bind_get hm0
  refine cw_loopM hl4 (fun | (last_5, x_11), t, h => t 2 = .fp [.fs 5 (List.map eComb h_.Combs), .fs 3 (List.map eTrain h_.Trains), .fs 3 (List.map eShift h_.Shifts), I h_.Until] 0 ∧ t 3 = .fp [I t_.At.Low, I t_.At.High, .fs 3 (List.map eCrowd t_.Crowds)] 0 ∧ t 5 = I last_5 ∧ t 9 = .fs 3 (List.map eCrowd t_.Crowds) ∧ t 10 = I (List.length t_.Crowds : Int) ∧ t 11 = I x_11) ?_ ?_
  · exact ⟨(by first | (simp only [go_sem, List.length_append, List.map_append]; done) | rfl), (by first | (simp only [go_sem, List.length_append, List.map_append]; done) | rfl), (by first | (simp only [go_sem, List.length_append, List.map_append]; done) | rfl), (by first | (simp only [go_sem, List.length_append, List.map_append]; done) | rfl), (by first | (simp only [go_sem, List.length_append, List.map_append]; done) | rfl), (by first | (simp only [go_sem, List.length_append, List.map_append]; done) | rfl)⟩
  · rintro ⟨last_5, x_11⟩ o t h ⟨s2, s3, s5, s9, s10, s11⟩ hm1 hb4
    simp only [halls_isTrain_L9] at hm1
    rw [x_halls_isTrain_L9]
    refine cw_reg_seq fun K hK => ?_
    simp only [go_sem, s10, s11]
    refine hK _ _ ?_
    clear hK K
    refine cw_seq_k fun K5 hK5 => ?_
    simp only [go_sem]
    refine ibr_intro (fun hc6 => ?_) (fun hc6 => ?_)
    · rw [if_t hc6] at hm1
      simp only [cw_skip, qblock_normal, qseq_normal]
      refine hK5 _ _ ?_
      refine cw_seq_k fun K7 hK7 => ?_
      simp only [cw_block]
      obtain ⟨x9, h_x9, hm1⟩ := bind_get hm1
      have h_x90 := get_nn h_x9
      have h_x91 := get_lt h_x9
      refine cw_reg_seq fun K hK => ?_
      simp only [go_sem, s9, s11, ielem_get h_x9, irow_get h_x9, h_x90, h_x91]
      refine hK _ _ ?_
      clear hK K
      refine cw_assoc ?_
      refine cw_reg_postK (fun t h => ∃ i7 : Nat, t 2 = .fp [.fs 5 (List.map eComb h_.Combs), .fs 3 (List.map eTrain h_.Trains), .fs 3 (List.map eShift h_.Shifts), I h_.Until] 0 ∧ t 3 = .fp [I t_.At.Low, I t_.At.High, .fs 3 (List.map eCrowd t_.Crowds)] 0 ∧ t 7 = .rp i7 0 0 ∧ t 9 = .fs 3 (List.map eCrowd t_.Crowds) ∧ t 10 = I (List.length t_.Crowds : Int) ∧ t 11 = I x_11 ∧ t 32 = B (((decide (x9.Comb ≤ last_5)) || (decide ((List.length h_.Combs : Int) ≤ x9.Comb))) || (!(halls_span x9.People 0 1000))) ∧ h.ob i7 = some (3, [[I x9.Comb, I x9.People.Low, I x9.People.High]]) ∧ i7 < h.nx) (fun K hK => ?_) ?_
      · simp only [go_sem, s2, s5]
        refine ibr_intro (fun hg10 => ?_) (fun hg10 => ?_)
        · simp only [go_sem, s2, s5, hg10]
          exact hK _ _ ⟨h.nx, s2, s3, (by first | (simp only [go_sem, hg10, List.length_append, List.map_append]; done) | rfl), s9, s10, s11, (by first | (simp only [go_sem, hg10, List.length_append, List.map_append]; done) | rfl), (by simp only [go_sem, hg10, List.length_append, List.map_append]), (by simp only [go_sem])⟩
        · simp only [go_sem, s2, s5, hg10]
          refine ibr_intro (fun hg11 => ?_) (fun hg11 => ?_)
          · simp only [go_sem, s2, s5, hg10, hg11]
            exact hK _ _ ⟨h.nx, s2, s3, (by first | (simp only [go_sem, hg10, hg11, List.length_append, List.map_append]; done) | rfl), s9, s10, s11, (by first | (simp only [go_sem, hg10, hg11, List.length_append, List.map_append]; done) | rfl), (by simp only [go_sem, hg10, hg11, List.length_append, List.map_append]), (by simp only [go_sem])⟩
          · simp only [go_sem, s2, s5, hg10, hg11]
            refine icall_fn (k_halls_span x9.People 0 1000) ?_
            simp only [go_sem, s2, s5, hg10, hg11]
            exact hK _ _ ⟨h.nx, s2, s3, (by first | (simp only [go_sem, hg10, hg11, List.length_append, List.map_append]; done) | rfl), s9, s10, s11, (by first | (simp only [go_sem, hg10, hg11, List.length_append, List.map_append]; done) | rfl), (by simp only [go_sem, hg10, hg11, List.length_append, List.map_append]), (by simp only [go_sem])⟩
      · rintro t h ⟨i7, s2, s3, s7, s9, s10, s11, s32, qa, q0⟩
        refine cw_seq_k fun K12 hK12 => ?_
        simp only [go_sem, s32]
        refine ibr_intro (fun hc13 => ?_) (fun hc13 => ?_)
        · rw [if_t hc13] at hm1
          refine cw_reg_seq fun K hK => ?_
          simp only [go_sem, q0]
          refine hK _ _ ?_
          clear hK K
          simp only [cw_ret, qseq_ret, qblock_ret, retQ_ret]
          obtain rfl := Option.some.inj hm1
          obtain rfl := hb4 _ rfl
          try dsimp only at hm0
          obtain rfl := Option.some.inj hm0
          exact done_t (by simp only [go_sem, qa, q0, List.length_append, List.map_append]) (frz_v _)
        · rw [if_f hc13] at hm1
          simp only [cw_skip, qblock_normal, qseq_normal]
          refine hK12 _ _ ?_
          refine cw_reg_k fun K hK => ?_
          simp only [go_sem, s7, qa, q0]
          refine hK _ _ ?_
          clear hK K
          simp only [qblock_normal, qseq_normal]
          refine hK7 _ _ ?_
          refine cw_reg_k fun K hK => ?_
          simp only [go_sem, s11, q0]
          refine hK _ _ ?_
          clear hK K
          simp only [qblock_normal, qseq_normal]
          obtain rfl := Option.some.inj hm1
          refine ⟨_, rfl, ?_⟩
          exact ⟨s2, s3, (by first | (simp only [go_sem, List.length_append, List.map_append]; done) | rfl), s9, s10, (by first | (simp only [go_sem, s11, List.length_append, List.map_append]; done) | rfl)⟩
    · rw [if_f hc6] at hm1
      simp only [cw_exit, qseq_exit, qblock_same, qblock_ne, qblock_normal, qseq_normal, Nat.reduceEqDiff, not_false_eq_true]
      obtain rfl := Option.some.inj hm1
      obtain rfl := hb4 _ rfl
      try dsimp only at hm0
      exact J2  _ _ s2 s3 hm0

end Go.Nw.HM

namespace Go.Nw.HM
open Go.Nw.Halls
set_option linter.unusedSimpArgs false
set_option linter.unusedVariables false
set_option maxHeartbeats 4000000
variable {O : Orac}

theorem k_halls_open (hf : Has O "newel/halls.open" x_halls_open) (k_halls_rates : C_halls_rates O) : C_halls_open O := by
  intro h_ r hm0
  unfold halls_open at hm0
  refine fn_cw hf rfl (fz_cons (.agg _ (fz_cons (frz_fs fun a _ => fz_eComb a) (fz_cons (frz_fs fun a _ => fz_eTrain a) (fz_cons (frz_fs fun a _ => fz_eShift a) (fz_cons (frz_v _) fz_nil))))) fz_nil) (frz_fs fun a _ => fz_eL_I a) ?_
  refine cw_start (fun t h => t 0 = .agg [.fs 5 (List.map eComb h_.Combs), .fs 3 (List.map eTrain h_.Trains), .fs 3 (List.map eShift h_.Shifts), I h_.Until]) rfl fun t h s0 => ?_
  simp only [x_halls_open]
  refine cw_reg_seq fun K hK => ?_
  simp only [go_sem, s0]
  refine hK _ _ ?_
  clear hK K
  refine cw_assoc ?_
  refine cw_reg_seq fun K hK => ?_
  simp only [go_sem]
  refine hK _ _ ?_
  clear hK K
  refine cw_seq_k fun K1 hK1 => ?_
  have J2 : ∀ (out_2 : List (List Int)) (v2 : AV) (t : Slots) (h : Heap), t 2 = v2 → OwnS h v2 1 (List.map eL_I out_2) → halls_open_j2 out_2 = some r → K1 t h := by
    intro out_2 v2 t h s2 q1h hm0
    refine hK1 _ _ ?_
    unfold halls_open_j2 at hm0
    refine cw_reg_seq fun K hK => ?_
    simp only [go_sem, s2, istr_of v2]
    refine hK _ _ ?_
    clear hK K
    simp only [cw_ret, qseq_ret, qblock_ret, retQ_ret]
    obtain rfl := Option.some.inj hm0
    exact done_fz (v := v2) (by simp only [go_sem, s2, own_late q1h, List.length_append, List.map_append]) (fz_own (f := eL_I) (l := out_2) (own_later q1h (by intro j hj hl; first | rfl | simp only [go_sem, hl]) (by first | omega | exact Nat.le_refl _ | (simp only [go_sem, nxs] <;> omega))) fz_eL_I ln_eL_I)
  simp only [cw_block]
  obtain ⟨b3, hl3, hm0⟩ := bind_get hm0
  refine cw_loopM hl3 (fun | (out_2, x_7), t, h => ∃ v2 : AV, t 1 = .fp [.fs 5 (List.map eComb h_.Combs), .fs 3 (List.map eTrain h_.Trains), .fs 3 (List.map eShift h_.Shifts), I h_.Until] 0 ∧ t 2 = v2 ∧ t 6 = I (List.length h_.Combs : Int) ∧ t 7 = I x_7 ∧ OwnS h v2 1 (List.map eL_I out_2)) ?_ ?_
  · exact ⟨(.v (.slice none 0 0)), (by first | (simp only [go_sem, List.length_append, List.map_append]; done) | rfl), (by first | (simp only [go_sem, List.length_append, List.map_append]; done) | rfl), (by first | (simp only [go_sem, List.length_append, List.map_append]; done) | rfl), (by first | (simp only [go_sem, List.length_append, List.map_append]; done) | rfl), own_nil'⟩
  · rintro ⟨out_2, x_7⟩ o t h ⟨v2, s1, s2, s6, s7, q1h⟩ hm1 hb3
    simp only [halls_open_L6] at hm1
    rw [x_halls_open_L6]
    refine cw_reg_seq fun K hK => ?_
    simp only [go_sem, s6, s7, istr_of v2]
    refine hK _ _ ?_
    clear hK K
    refine cw_seq_k fun K4 hK4 => ?_
    simp only [go_sem]
    refine ibr_intro (fun hc5 => ?_) (fun hc5 => ?_)
    · rw [if_t hc5] at hm1
      simp only [cw_skip, qblock_normal, qseq_normal]
      refine hK4 _ _ ?_
      refine cw_seq_k fun K6 hK6 => ?_
      simp only [cw_block]
      refine cw_reg_seq fun K hK => ?_
      simp only [go_sem, s7, istr_of v2]
      refine hK _ _ ?_
      clear hK K
      obtain ⟨y9, h_y9, hm1⟩ := bind_get hm1
      obtain ⟨l10, h_l10, hm1⟩ := bind_get hm1
      refine cw_reg_seq fun K hK => ?_
      simp only [go_sem, s1, s2, istr_of v2]
      refine icall_ow (e := eI) (l := y9) ?_ (k_halls_rates h_ x_7 _ h_y9) ?_
      · exact .cons (.refl _ (.agg _ (fz_cons (frz_fs fun a _ => fz_eComb a) (fz_cons (frz_fs fun a _ => fz_eTrain a) (fz_cons (frz_fs fun a _ => fz_eShift a) (fz_cons (frz_v _) fz_nil)))))) (.cons (.refl _ (frz_v _)) (.nil))
      simp only [go_sem, s1, s2, istr_of v2]
      refine iapp_raw (f := eL_I) (l := out_2) (a := y9) (raw := [.rs h.nx 0 (List.length y9)]) ?_ ?_ ?_ h_l10 ?_
      · exact (own_later q1h (by intro j hj hl; first | rfl | simp only [go_sem, hl]) (by first | omega | exact Nat.le_refl _ | (simp only [go_sem, nxs] <;> omega)))
      · exact (by simp only [go_sem, own_late q1h, List.length_append, List.map_append])
      · exact (by first | exact notid_nil | exact notid_rs (by first | omega | (simp only [nxs] <;> omega)) | assumption | exact own_notid (by assumption) (by first | omega | (simp only [go_sem, nxs] <;> omega)))
      simp only [go_sem, s1, s2, istr_of v2]
      refine hK _ _ ?_
      clear hK K
      refine cw_ghost_skip ?_
      refine cw_ghost_row (id := (nxs (nxs h.nx))) (sz := 1) (f := eL_I) (l := out_2) (a := y9) (raw := [.rs h.nx 0 (List.length y9)]) (fun j => j == h.nx) (by simp only [go_sem, own_late q1h, List.length_append, List.map_append]) (by first | (simp; done) | (simp [nxs] <;> omega)) (.cons (fz_rs (f := eI) (l := y9) (id := h.nx) (by rw [only_ob (by simp)]; simp only [go_sem, own_late q1h, List.length_append, List.map_append]) (by first | rfl | simp only [go_sem, List.length_append, List.map_append]) fz_eI ln_eI) (.nil)) fz_eL_I ln_eL_I ?_
      rw [← (ap_get h_l10).2]
      simp only [cw_skip, qblock_normal, qseq_normal]
      refine hK6 _ _ ?_
      refine cw_reg_k fun K hK => ?_
      simp only [go_sem, s7, Bool.or_eq_false_iff, beq_eq_false_iff_ne, ne_eq, not_false_eq_true, and_self, istr_of v2]
      refine hK _ _ ?_
      clear hK K
      simp only [qblock_normal, qseq_normal]
      obtain rfl := Option.some.inj hm1
      refine ⟨_, rfl, ?_⟩
      exact ⟨(.rs (nxs (nxs h.nx)) 0 (List.length l10)), s1, (by first | (simp only [go_sem, s2, List.length_append, List.map_append]; done) | rfl), s6, (by first | (simp only [go_sem, s7, List.length_append, List.map_append]; done) | rfl), (own_rs (by simp only [go_sem, Bool.or_eq_false_iff, beq_eq_false_iff_ne, ne_eq, not_false_eq_true, and_self, own_late q1h, List.length_append, List.map_append]) (by first | rfl | simp only [go_sem, List.length_append, List.map_append]) (by simp only [go_sem]))⟩
    · rw [if_f hc5] at hm1
      simp only [cw_exit, qseq_exit, qblock_same, qblock_ne, qblock_normal, qseq_normal, Nat.reduceEqDiff, not_false_eq_true]
      obtain rfl := Option.some.inj hm1
      obtain rfl := hb3 _ rfl
      try dsimp only at hm0
      exact J2 out_2 v2 _ _ s2 q1h hm0

end Go.Nw.HM

namespace Go.Nw.HM
open Go.Nw.Halls
set_option linter.unusedSimpArgs false
set_option linter.unusedVariables false
set_option maxHeartbeats 4000000
variable {O : Orac}

theorem k_halls_open_w (hf : Has O "newel/halls.open" x_halls_open) (k_halls_rates : C_halls_rates O) : C_halls_open_w O := by
  intro h_ h0 r hm0
  unfold halls_open at hm0
  refine hasw_cw hf rfl ?_
  refine cw_start (fun t h => t 0 = .agg [.fs 5 (List.map eComb h_.Combs), .fs 3 (List.map eTrain h_.Trains), .fs 3 (List.map eShift h_.Shifts), I h_.Until] ∧ (∀ j, j < h0.nx → h.ob j = h0.ob j) ∧ h0.nx ≤ h.nx) ⟨rfl, fun _ _ => rfl, Nat.le_refl _⟩ fun t h ⟨s0, fr, fx⟩ => ?_
  simp only [x_halls_open]
  refine cw_reg_seq fun K hK => ?_
  simp only [go_sem, s0]
  refine hK _ _ ?_
  clear hK K
  refine cw_assoc ?_
  refine cw_reg_seq fun K hK => ?_
  simp only [go_sem]
  refine hK _ _ ?_
  clear hK K
  refine cw_seq_k fun K1 hK1 => ?_
  have J2 : ∀ (out_2 : List (List Int)) (v2 : AV) (hs2 : List AV) (t : Slots) (h : Heap), t 2 = v2 → RR h v2 hs2 1 eI out_2 → (∀ j, j < h0.nx → h.ob j = h0.ob j) → h0.nx ≤ h.nx → (∀ j, ¬RNot v2 hs2 j → h0.nx ≤ j) → halls_open_j2 out_2 = some r → K1 t h := by
    intro out_2 v2 hs2 t h s2 q1b fr fx q1k hm0
    refine hK1 _ _ ?_
    unfold halls_open_j2 at hm0
    refine cw_reg_seq fun K hK => ?_
    simp only [go_sem, s2, rr_len q1b, istr_of v2]
    refine hK _ _ ?_
    clear hK K
    simp only [cw_ret, qseq_ret, qblock_ret, retQ_ret]
    obtain rfl := Option.some.inj hm0
    exact retw_t (Post := fun v h => ∃ hs, RR h v hs 1 eI out_2 ∧ (∀ j, j < h0.nx → h.ob j = h0.ob j) ∧ h0.nx ≤ h.nx ∧ ∀ j, ¬RNot v hs j → h0.nx ≤ j) (v := v2) (by simp only [go_sem, s2, rr_lates q1b, List.length_append, List.map_append]) ⟨hs2, q1b, fr, fx, q1k⟩
  simp only [cw_block]
  obtain ⟨b3, hl3, hm0⟩ := bind_get hm0
  refine cw_loopM hl3 (fun | (out_2, x_7), t, h => ∃ v2 : AV, ∃ hs2 : List AV, t 1 = .fp [.fs 5 (List.map eComb h_.Combs), .fs 3 (List.map eTrain h_.Trains), .fs 3 (List.map eShift h_.Shifts), I h_.Until] 0 ∧ t 2 = v2 ∧ t 6 = I (List.length h_.Combs : Int) ∧ t 7 = I x_7 ∧ RR h v2 hs2 1 eI out_2 ∧ (∀ j, j < h0.nx → h.ob j = h0.ob j) ∧ h0.nx ≤ h.nx ∧ (∀ j, ¬RNot v2 hs2 j → h0.nx ≤ j)) ?_ ?_
  · exact ⟨nilS, [], (by first | (simp only [go_sem, List.length_append, List.map_append]; done) | rfl), (by first | (simp only [go_sem, List.length_append, List.map_append]; done) | rfl), (by first | (simp only [go_sem, List.length_append, List.map_append]; done) | rfl), (by first | (simp only [go_sem, List.length_append, List.map_append]; done) | rfl), rr_nil, fr, fx, (fun _ hj => absurd rnot_nil hj)⟩
  · rintro ⟨out_2, x_7⟩ o t h ⟨v2, hs2, s1, s2, s6, s7, q1b, fr, fx, q1k⟩ hm1 hb3
    simp only [halls_open_L6] at hm1
    rw [x_halls_open_L6]
    refine cw_reg_seq fun K hK => ?_
    simp only [go_sem, s6, s7, istr_of v2]
    refine hK _ _ ?_
    clear hK K
    refine cw_seq_k fun K4 hK4 => ?_
    simp only [go_sem]
    refine ibr_intro (fun hc5 => ?_) (fun hc5 => ?_)
    · rw [if_t hc5] at hm1
      simp only [cw_skip, qblock_normal, qseq_normal]
      refine hK4 _ _ ?_
      refine cw_seq_k fun K6 hK6 => ?_
      simp only [cw_block]
      refine cw_reg_seq fun K hK => ?_
      simp only [go_sem, s7, istr_of v2]
      refine hK _ _ ?_
      clear hK K
      obtain ⟨y9, h_y9, hm1⟩ := bind_get hm1
      obtain ⟨l10, h_l10, hm1⟩ := bind_get hm1
      refine cw_reg_postK (fun t h => ∃ v2_1 : AV, ∃ hs2_1 : List AV, t 1 = .fp [.fs 5 (List.map eComb h_.Combs), .fs 3 (List.map eTrain h_.Trains), .fs 3 (List.map eShift h_.Shifts), I h_.Until] 0 ∧ t 2 = v2_1 ∧ t 6 = I (List.length h_.Combs : Int) ∧ t 7 = I x_7 ∧ RR h v2_1 hs2_1 1 eI l10 ∧ (∀ j, j < h0.nx → h.ob j = h0.ob j) ∧ h0.nx ≤ h.nx ∧ (∀ j, ¬RNot v2_1 hs2_1 j → h0.nx ≤ j)) (fun K hK => ?_) ?_
      · simp only [go_sem, s1, s2, rr_len q1b, istr_of v2]
        refine icall_ow (e := eI) (l := y9) ?_ (k_halls_rates h_ x_7 _ h_y9) ?_
        · exact .cons (.refl _ (.agg _ (fz_cons (frz_fs fun a _ => fz_eComb a) (fz_cons (frz_fs fun a _ => fz_eTrain a) (fz_cons (frz_fs fun a _ => fz_eShift a) (fz_cons (frz_v _) fz_nil)))))) (.cons (.refl _ (frz_v _)) (.nil))
        simp only [go_sem, s1, s2, rr_len q1b, istr_of v2]
        refine iapp_rr (f := eI) (sz := 1) (rows := out_2) (hs := hs2) (u := .rs h.nx 0 (List.length y9)) ?_ ?_ ?_ h_l10 ?_
        · exact (rr_later q1b (by intro j hj  hl; first | rfl | simp only [go_sem, hl]) (by first | omega | exact Nat.le_refl _ | (simp only [go_sem, nxs] <;> omega)))
        · exact (by simp only [go_sem, rr_lates q1b, List.length_append, List.map_append])
        · exact (rr_late q1b (by first | assumption | omega | (simp only [nxs] <;> omega)))
        simp only [go_sem, s1, s2, rr_len q1b, istr_of v2]
        exact hK _ _ ⟨(.rs (nxs (nxs h.nx)) 0 (List.length l10)), (hs2 ++ [.rs h.nx 0 (List.length y9)]), s1, (by first | (simp only [go_sem, s2, List.length_append, List.map_append]; done) | rfl), s6, s7, (rr_app (h := h) q1b h_l10 (by simp only [go_sem, rr_lates q1b, List.length_append, List.map_append]) rfl (by simp only [go_sem]) (own_rs (by simp only [go_sem, rr_lates q1b, List.length_append, List.map_append]) (by simp only [go_sem, rr_lates q1b, List.length_append, List.map_append]) (by simp only [go_sem])) (dr_rs (by first | assumption | exact rr_late q1b (by first | omega | (simp only [nxs] <;> omega)))) (by first | omega | exact Nat.le_refl _ | (simp only [go_sem, nxs] <;> omega)) (by first | exact notid_nil | exact notid_rs (by first | assumption | omega | (simp only [nxs] <;> omega))) (by intro j hj h2 hl; first | rfl | simp only [go_sem, h2, hl]) (by first | omega | exact Nat.le_refl _ | (simp only [go_sem, nxs] <;> omega))), (by intro j hj; first | exact fr j hj | (refine Eq.trans ?_ (fr j hj); first | rfl | simp only [go_sem, Nat.lt_of_lt_of_le hj fx, rn_top (ge_rn q1k hj)])), (by first | exact fx | omega | (simp only [go_sem, nxs] <;> omega)), (ge_app q1k (by first | assumption | omega | (simp only [nxs] <;> omega)) (ge_rs (by first | assumption | omega | (simp only [nxs] <;> omega))))⟩
      · rintro t h ⟨v2_1, hs2_1, s1, s2, s6, s7, q1b, fr, fx, q1k⟩
        refine cw_ghost_skip ?_
        refine cw_ghost_none ?_
        simp only [cw_skip, qblock_normal, qseq_normal]
        refine hK6 _ _ ?_
        refine cw_reg_k fun K hK => ?_
        simp only [go_sem, s7, istr_of v2, istr_of v2_1]
        refine hK _ _ ?_
        clear hK K
        simp only [qblock_normal, qseq_normal]
        obtain rfl := Option.some.inj hm1
        refine ⟨_, rfl, ?_⟩
        exact ⟨v2_1, hs2_1, s1, s2, s6, (by first | (simp only [go_sem, s7, List.length_append, List.map_append]; done) | rfl), (rr_later q1b (by intro j hj  hl; first | rfl | simp only [go_sem, hl]) (by first | omega | exact Nat.le_refl _ | (simp only [go_sem, nxs] <;> omega))), (by intro j hj; first | exact fr j hj | (refine Eq.trans ?_ (fr j hj); first | rfl | simp only [go_sem, Nat.lt_of_lt_of_le hj fx])), (by first | exact fx | omega | (simp only [go_sem, nxs] <;> omega)), q1k⟩
    · rw [if_f hc5] at hm1
      simp only [cw_exit, qseq_exit, qblock_same, qblock_ne, qblock_normal, qseq_normal, Nat.reduceEqDiff, not_false_eq_true]
      obtain rfl := Option.some.inj hm1
      obtain rfl := hb3 _ rfl
      try dsimp only at hm0
      exact J2 out_2 v2 hs2 _ _ s2 q1b fr fx q1k hm0

end Go.Nw.HM

namespace Go.Nw.HM
open Go.Nw.Halls
set_option linter.unusedSimpArgs false
set_option linter.unusedVariables false
set_option maxHeartbeats 4000000
variable {O : Orac}

theorem k_halls_over (hf : Has O "newel/halls.over" x_halls_over) (k_slices_IndexFunc___int_int_ : C_slices_IndexFunc___int_int_ O) (k_halls_overD1 : C_halls_overD1 O) : C_halls_over O := by
  intro h_ all r hm0
  unfold halls_over at hm0
  refine fn_cw hf rfl (fz_cons (.agg _ (fz_cons (frz_fs fun a _ => fz_eComb a) (fz_cons (frz_fs fun a _ => fz_eTrain a) (fz_cons (frz_fs fun a _ => fz_eShift a) (fz_cons (frz_v _) fz_nil))))) (fz_cons (frz_fs fun a _ => fz_eP_halls_bound a) fz_nil)) (frz_fs fun a _ => fz_eA2_I a) ?_
  refine cw_start (fun t h => t 0 = .agg [.fs 5 (List.map eComb h_.Combs), .fs 3 (List.map eTrain h_.Trains), .fs 3 (List.map eShift h_.Shifts), I h_.Until] ∧ t 1 = .fs 1 (List.map eP_halls_bound all)) ⟨rfl, rfl⟩ fun t h ⟨s0, s1⟩ => ?_
  simp only [x_halls_over]
  refine cw_reg_seq fun K hK => ?_
  simp only [go_sem, s0]
  refine hK _ _ ?_
  clear hK K
  refine cw_assoc ?_
  refine cw_reg_seq fun K hK => ?_
  simp only [go_sem, s1]
  refine hK _ _ ?_
  clear hK K
  refine cw_seq_k fun K1 hK1 => ?_
  have J2 : ∀ (out_4 : List (Int × Int)) (v4 : AV) (t : Slots) (h : Heap), t 4 = v4 → OwnS h v4 2 (List.map eA2_I out_4) → halls_over_j2 out_4 = some r → K1 t h := by
    intro out_4 v4 t h s4 q1f hm0
    refine hK1 _ _ ?_
    unfold halls_over_j2 at hm0
    refine cw_reg_seq fun K hK => ?_
    simp only [go_sem, s4, istr_of v4]
    refine hK _ _ ?_
    clear hK K
    simp only [cw_ret, qseq_ret, qblock_ret, retQ_ret]
    obtain rfl := Option.some.inj hm0
    exact done_fz (v := v4) (by simp only [go_sem, s4, own_late q1f, List.length_append, List.map_append]) (fz_own (f := eA2_I) (l := out_4) (own_later q1f (by intro j hj hl; first | rfl | simp only [go_sem, hl]) (by first | omega | exact Nat.le_refl _ | (simp only [go_sem, nxs] <;> omega))) fz_eA2_I ln_eA2_I)
  simp only [cw_block]
  obtain ⟨b3, hl3, hm0⟩ := bind_get hm0
  refine cw_loopM hl3 (fun | (out_4, x_10), t, h => ∃ v4 : AV, t 2 = .fp [.fs 5 (List.map eComb h_.Combs), .fs 3 (List.map eTrain h_.Trains), .fs 3 (List.map eShift h_.Shifts), I h_.Until] 0 ∧ t 4 = v4 ∧ t 8 = .fs 1 (List.map eP_halls_bound all) ∧ t 9 = I (List.length all : Int) ∧ t 10 = I x_10 ∧ OwnS h v4 2 (List.map eA2_I out_4)) ?_ ?_
  · exact ⟨(.v (.slice none 0 0)), (by first | (simp only [go_sem, List.length_append, List.map_append]; done) | rfl), (by first | (simp only [go_sem, List.length_append, List.map_append]; done) | rfl), (by first | (simp only [go_sem, List.length_append, List.map_append]; done) | rfl), (by first | (simp only [go_sem, List.length_append, List.map_append]; done) | rfl), (by first | (simp only [go_sem, List.length_append, List.map_append]; done) | rfl), own_nil'⟩
  · rintro ⟨out_4, x_10⟩ o t h ⟨v4, s2, s4, s8, s9, s10, q1f⟩ hm1 hb3
    simp only [halls_over_L8] at hm1
    rw [x_halls_over_L8]
    refine cw_reg_seq fun K hK => ?_
    simp only [go_sem, s9, s10, istr_of v4]
    refine hK _ _ ?_
    clear hK K
    refine cw_seq_k fun K4 hK4 => ?_
    simp only [go_sem]
    refine ibr_intro (fun hc5 => ?_) (fun hc5 => ?_)
    · rw [if_t hc5] at hm1
      simp only [cw_skip, qblock_normal, qseq_normal]
      refine hK4 _ _ ?_
      refine cw_seq_k fun K6 hK6 => ?_
      have J7 : ∀ (out_4_1 : List (Int × Int)) (v4_1 : AV) (t : Slots) (h : Heap), t 2 = .fp [.fs 5 (List.map eComb h_.Combs), .fs 3 (List.map eTrain h_.Trains), .fs 3 (List.map eShift h_.Shifts), I h_.Until] 0 → t 4 = v4_1 → t 8 = .fs 1 (List.map eP_halls_bound all) → t 9 = I (List.length all : Int) → t 10 = I x_10 → OwnS h v4_1 2 (List.map eA2_I out_4_1) → halls_over_j7 x_10 out_4_1 = some o → K6 t h := by
        intro out_4_1 v4_1 t h s2 s4 s8 s9 s10 q1f hm1
        refine hK6 _ _ ?_
        unfold halls_over_j7 at hm1
        refine cw_reg_k fun K hK => ?_
        simp only [go_sem, s10, istr_of v4, istr_of v4_1]
        refine hK _ _ ?_
        clear hK K
        simp only [qblock_normal, qseq_normal]
        obtain rfl := Option.some.inj hm1
        refine ⟨_, rfl, ?_⟩
        exact ⟨v4_1, s2, s4, s8, s9, (by first | (simp only [go_sem, s10, List.length_append, List.map_append]; done) | rfl), q1f⟩
      simp only [cw_block]
      obtain ⟨x9, h_x9, hm1⟩ := bind_get hm1
      have h_x90 := get_nn h_x9
      have h_x91 := get_lt h_x9
      refine cw_reg_seq fun K hK => ?_
      simp only [go_sem, s8, s10, ielem_get h_x9, irow_get h_x9, h_x90, h_x91, istr_of v4]
      refine hK _ _ ?_
      clear hK K
      obtain ⟨y13, h_y13, hm1⟩ := bind_get hm1
      refine cw_reg_seq fun K hK => ?_
      simp only [go_sem, s2, istr_of v4]
      refine icall_fz ?_ (k_slices_IndexFunc___int_int_ x9.most "newel/halls.over$1" [] [.fp [.fs 5 (List.map eComb h_.Combs), .fs 3 (List.map eTrain h_.Trains), .fs 3 (List.map eShift h_.Shifts), I h_.Until] 0, .fp [I x_10] 0] (fun z12 => halls_overD1 z12 h_ x_10) (.fn _ _ _ fz_nil (fz_cons (.fp _ _ (fz_cons (frz_fs fun a _ => fz_eComb a) (fz_cons (frz_fs fun a _ => fz_eTrain a) (fz_cons (frz_fs fun a _ => fz_eShift a) (fz_cons (frz_v _) fz_nil))))) (fz_cons (.fp _ _ (fz_cons (frz_v _) fz_nil)) fz_nil))) (fun z0 y hz => k_halls_overD1 z0 h_ x_10 y hz) _ h_y13) (.v _) ?_
      · exact .cons (.refl _ (frz_fs fun a _ => fz_eI a)) (.cons (fz_fn (.nil) (.cons (.refl _ (.fp _ _ (fz_cons (frz_fs fun a _ => fz_eComb a) (fz_cons (frz_fs fun a _ => fz_eTrain a) (fz_cons (frz_fs fun a _ => fz_eShift a) (fz_cons (frz_v _) fz_nil)))))) (.cons (fz_rp (id := h.nx) (sz := 1) (xs := [I x_10]) (by simp only [go_sem, own_late q1f]) (.cons (.refl _ (frz_v _)) (.nil))) (.nil)))) (.nil))
      simp only [go_sem, s2, istr_of v4]
      refine hK _ _ ?_
      clear hK K
      refine cw_reg_seq fun K hK => ?_
      simp only [go_sem, istr_of v4]
      refine hK _ _ ?_
      clear hK K
      simp only [go_sem]
      refine ibr_intro (fun hc14 => ?_) (fun hc14 => ?_)
      · rw [if_t hc14] at hm1
        obtain ⟨l16, h_l16, hm1⟩ := bind_get hm1
        refine cw_reg_k fun K hK => ?_
        simp only [go_sem, s4, istr_of v4]
        refine iapp_own (f := eA2_I) (l := out_4) (m := ([(x_10, y13)])) ?_ ?_ ?_ ?_ h_l16 ?_
        · exact (own_later q1f (by intro j hj hl; first | rfl | simp only [go_sem, hl]) (by first | omega | exact Nat.le_refl _ | (simp only [go_sem, nxs] <;> omega)))
        · exact (ownx_rs (by simp only [go_sem, own_late q1f, List.length_append, List.map_append]) (by simp only [go_sem, own_late q1f, List.length_append, List.map_append]))
        · exact (nd_rs (by first | exact notid_nil | exact notid_rs (by first | omega | (simp only [nxs] <;> omega)) | assumption | exact own_notid (by assumption) (by first | omega | (simp only [go_sem, nxs] <;> omega))))
        · exact (fun _ => by simp)
        simp only [go_sem, s4, istr_of v4]
        refine hK _ _ ?_
        clear hK K
        simp only [qblock_normal, qseq_normal]
        exact J7 l16 (.rs (nxs (nxs h.nx)) 0 (List.length l16)) _ _ s2 (by first | (simp only [go_sem, s4, List.length_append, List.map_append]; done) | rfl) s8 s9 s10 (own_rs (by simp only [go_sem, own_late q1f, List.length_append, List.map_append]) (by first | rfl | simp only [go_sem, List.length_append, List.map_append]) (by simp only [go_sem])) hm1
      · rw [if_f hc14] at hm1
        simp only [cw_skip, qblock_normal, qseq_normal]
        exact J7 out_4 v4 _ _ s2 s4 s8 s9 s10 (own_later q1f (by intro j hj hl; first | rfl | simp only [go_sem, hl]) (by first | omega | exact Nat.le_refl _ | (simp only [go_sem, nxs] <;> omega))) hm1
    · rw [if_f hc5] at hm1
      simp only [cw_exit, qseq_exit, qblock_same, qblock_ne, qblock_normal, qseq_normal, Nat.reduceEqDiff, not_false_eq_true]
      obtain rfl := Option.some.inj hm1
      obtain rfl := hb3 _ rfl
      try dsimp only at hm0
      exact J2 out_4 v4 _ _ s4 q1f hm0

end Go.Nw.HM

namespace Go.Nw.HM
open Go.Nw.Halls
set_option linter.unusedSimpArgs false
set_option linter.unusedVariables false
set_option maxHeartbeats 4000000
variable {O : Orac}

theorem k_halls_rates (hf : Has O "newel/halls.rates" x_halls_rates) : C_halls_rates O := by
  intro h_ comb r hm0
  unfold halls_rates at hm0
  refine fnw_cw hf rfl (fz_cons (.agg _ (fz_cons (frz_fs fun a _ => fz_eComb a) (fz_cons (frz_fs fun a _ => fz_eTrain a) (fz_cons (frz_fs fun a _ => fz_eShift a) (fz_cons (frz_v _) fz_nil))))) (fz_cons (frz_v _) fz_nil)) (by first | exact plain_eI | exact plain_eB) ?_
  refine cw_start (fun t h => t 0 = .agg [.fs 5 (List.map eComb h_.Combs), .fs 3 (List.map eTrain h_.Trains), .fs 3 (List.map eShift h_.Shifts), I h_.Until] ∧ t 1 = I comb) ⟨rfl, rfl⟩ fun t h ⟨s0, s1⟩ => ?_
  simp only [x_halls_rates]
  refine cw_reg_seq fun K hK => ?_
  simp only [go_sem, s0]
  refine hK _ _ ?_
  clear hK K
  obtain ⟨l2, h_l2, hm0⟩ := bind_get hm0
  refine cw_reg_seq fun K hK => ?_
  simp only [go_sem]
  refine imksl_ok (f := eI) (z := 0) rfl h_l2 ?_
  simp only [go_sem]
  refine hK _ _ ?_
  clear hK K
  obtain ⟨x4, h_x4, hm0⟩ := bind_get hm0
  have h_x40 := get_nn h_x4
  have h_x41 := get_lt h_x4
  refine cw_reg_seq fun K hK => ?_
  simp only [go_sem, s1, ielem_get h_x4, irow_get h_x4, h_x40, h_x41]
  refine hK _ _ ?_
  clear hK K
  refine cw_assoc ?_
  refine cw_reg_seq fun K hK => ?_
  simp only [go_sem]
  refine hK _ _ ?_
  clear hK K
  refine cw_seq_k fun K5 hK5 => ?_
  have J6 : ∀ (out_5 : List Int) (i5 : Nat) (t : Slots) (h : Heap), t 5 = .rs i5 0 (List.length out_5) → h.ob i5 = some (1, List.map eI out_5) → i5 < h.nx → halls_rates_j6 out_5 = some r → K5 t h := by
    intro out_5 i5 t h s5 q16 qz hm0
    refine hK5 _ _ ?_
    unfold halls_rates_j6 at hm0
    refine cw_reg_seq fun K hK => ?_
    simp only [go_sem, s5, q16, qz]
    refine hK _ _ ?_
    clear hK K
    simp only [cw_ret, qseq_ret, qblock_ret, retQ_ret]
    obtain rfl := Option.some.inj hm0
    exact done_w (id := i5) (by simp only [go_sem, List.length_append, List.map_append]) (by simp only [go_sem, q16, qz, List.length_append, List.map_append]) (by first | exact plain_eI | exact plain_eB)
  simp only [cw_block]
  obtain ⟨b7, hl7, hm0⟩ := bind_get hm0
  refine cw_loopM hl7 (fun | (out_5, now_6, at_7, x_20), t, h => ∃ i5 : Nat, t 1 = I comb ∧ t 2 = .fp [.fs 5 (List.map eComb h_.Combs), .fs 3 (List.map eTrain h_.Trains), .fs 3 (List.map eShift h_.Shifts), I h_.Until] 0 ∧ t 5 = .rs i5 0 (List.length out_5) ∧ t 6 = I now_6 ∧ t 7 = I at_7 ∧ t 19 = I ((List.length l2 : Nat) : Int) ∧ t 20 = I x_20 ∧ h.ob i5 = some (1, List.map eI out_5) ∧ i5 < h.nx) ?_ ?_
  · exact ⟨h.nx, s1, (by first | (simp only [go_sem, List.length_append, List.map_append]; done) | rfl), (by first | (simp only [go_sem, List.length_append, List.map_append]; done) | rfl), (by first | (simp only [go_sem, List.length_append, List.map_append]; done) | rfl), (by first | (simp only [go_sem, List.length_append, List.map_append]; done) | rfl), (by first | (simp only [go_sem, List.length_append, List.map_append]; done) | rfl), (by first | (simp only [go_sem, List.length_append, List.map_append]; done) | rfl), (by simp only [go_sem, List.length_append, List.map_append]), (by simp only [go_sem])⟩
  · rintro ⟨out_5, now_6, at_7, x_20⟩ o t h ⟨i5, s1, s2, s5, s6, s7, s19, s20, q16, qz⟩ hm1 hb7
    simp only [halls_rates_L13] at hm1
    rw [x_halls_rates_L13]
    refine cw_reg_seq fun K hK => ?_
    simp only [go_sem, s19, s20, qz]
    refine hK _ _ ?_
    clear hK K
    refine cw_seq_k fun K8 hK8 => ?_
    simp only [go_sem]
    refine ibr_intro (fun hc9 => ?_) (fun hc9 => ?_)
    · rw [if_t hc9] at hm1
      simp only [cw_skip, qblock_normal, qseq_normal]
      refine hK8 _ _ ?_
      refine cw_seq_k fun K10 hK10 => ?_
      have J11 : ∀ (out_5_1 : List Int) (now_6_1 : Int) (at_7_1 : Int) (t : Slots) (h : Heap), t 1 = I comb → t 2 = .fp [.fs 5 (List.map eComb h_.Combs), .fs 3 (List.map eTrain h_.Trains), .fs 3 (List.map eShift h_.Shifts), I h_.Until] 0 → t 5 = .rs i5 0 (List.length out_5_1) → t 6 = I now_6_1 → t 7 = I at_7_1 → t 19 = I ((List.length l2 : Nat) : Int) → t 20 = I x_20 → h.ob i5 = some (1, List.map eI out_5_1) → i5 < h.nx → halls_rates_j11 x_20 out_5_1 now_6_1 at_7_1 = some o → K10 t h := by
        try clear s1 s2 s5 s6 s7 s19 s20 q16 qz
        intro out_5_1 now_6_1 at_7_1 t h s1 s2 s5 s6 s7 s19 s20 q16 qz hm1
        refine hK10 _ _ ?_
        unfold halls_rates_j11 at hm1
        refine cw_reg_k fun K hK => ?_
        simp only [go_sem, s20, qz]
        refine hK _ _ ?_
        clear hK K
        simp only [qblock_normal, qseq_normal]
        obtain rfl := Option.some.inj hm1
        refine ⟨_, rfl, ?_⟩
        exact ⟨i5, s1, s2, (by first | exact s5 | simp only [go_sem, s5, List.length_append, List.map_append]), s6, s7, s19, (by first | (simp only [go_sem, s20, List.length_append, List.map_append]; done) | rfl), q16, qz⟩
      simp only [cw_block]
      refine cw_reg_seq fun K hK => ?_
      simp only [go_sem, s20, qz]
      refine hK _ _ ?_
      clear hK K
      refine cw_seq_k fun K12 hK12 => ?_
      have J13 : ∀ (now_6_1 : Int) (at_7_1 : Int) (t : Slots) (h : Heap), t 1 = I comb → t 2 = .fp [.fs 5 (List.map eComb h_.Combs), .fs 3 (List.map eTrain h_.Trains), .fs 3 (List.map eShift h_.Shifts), I h_.Until] 0 → t 5 = .rs i5 0 (List.length out_5) → t 6 = I now_6_1 → t 7 = I at_7_1 → t 8 = I x_20 → t 19 = I ((List.length l2 : Nat) : Int) → t 20 = I x_20 → h.ob i5 = some (1, List.map eI out_5) → i5 < h.nx → halls_rates_j13 out_5 x_20 now_6_1 at_7_1 = some o → K12 t h := by
        try clear s1 s2 s5 s6 s7 s19 s20 q16 qz
        intro now_6_1 at_7_1 t h s1 s2 s5 s6 s7 s8 s19 s20 q16 qz hm1
        refine hK12 _ _ ?_
        unfold halls_rates_j13 at hm1
        obtain ⟨x15, h_x15, hm1⟩ := bind_get hm1
        have h_x150 := get_nn h_x15
        have h_x151 := get_lt h_x15
        refine cw_reg_k fun K hK => ?_
        simp only [go_sem, s5, s6, s8, q16, qz, ielem_get h_x15, irow_get h_x15, h_x150, h_x151]
        refine hK _ _ ?_
        clear hK K
        simp only [qblock_normal, qseq_normal]
        exact J11 (List.set out_5 (Int.toNat x_20) now_6_1) now_6_1 at_7_1 _ _ s1 s2 (by first | exact s5 | simp only [go_sem, s5, List.length_append, List.map_append]) s6 s7 s19 s20 (by simp only [go_sem, q16, qz, List.length_append, List.map_append]) (by simp only [go_sem, qz]) hm1
      simp only [cw_block]
      obtain ⟨b16, hl16, hm1⟩ := bind_get hm1
      refine cw_loopM hl16 (fun | (now_6_1, at_7_1), t, h => t 1 = I comb ∧ t 2 = .fp [.fs 5 (List.map eComb h_.Combs), .fs 3 (List.map eTrain h_.Trains), .fs 3 (List.map eShift h_.Shifts), I h_.Until] 0 ∧ t 5 = .rs i5 0 (List.length out_5) ∧ t 6 = I now_6_1 ∧ t 7 = I at_7_1 ∧ t 8 = I x_20 ∧ t 19 = I ((List.length l2 : Nat) : Int) ∧ t 20 = I x_20 ∧ h.ob i5 = some (1, List.map eI out_5) ∧ i5 < h.nx) ?_ ?_
      · exact ⟨s1, s2, (by first | exact s5 | simp only [go_sem, s5, List.length_append, List.map_append]), s6, s7, (by first | (simp only [go_sem, List.length_append, List.map_append]; done) | rfl), s19, s20, q16, qz⟩
      · try clear s1 s2 s5 s6 s7 s19 s20 q16 qz
        rintro ⟨now_6_1, at_7_1⟩ o t h ⟨s1, s2, s5, s6, s7, s8, s19, s20, q16, qz⟩ hm2 hb16
        simp only [halls_rates_L10] at hm2
        rw [x_halls_rates_L10]
        refine cw_assoc ?_
        obtain ⟨c20, h_c20, hm2⟩ := bind_get hm2
        refine cw_reg_postK (fun t h => t 1 = I comb ∧ t 2 = .fp [.fs 5 (List.map eComb h_.Combs), .fs 3 (List.map eTrain h_.Trains), .fs 3 (List.map eShift h_.Shifts), I h_.Until] 0 ∧ t 5 = .rs i5 0 (List.length out_5) ∧ t 6 = I now_6_1 ∧ t 7 = I at_7_1 ∧ t 8 = I x_20 ∧ t 19 = I ((List.length l2 : Nat) : Int) ∧ t 20 = I x_20 ∧ t 37 = B c20 ∧ h.ob i5 = some (1, List.map eI out_5) ∧ i5 < h.nx) (fun K hK => ?_) ?_
        · simp only [go_sem, s2, s7, s8, qz]
          refine ibr_intro (fun hg21 => ?_) (fun hg21 => ?_)
          · simp only [hg21, Bool.not_true, Bool.not_false, eq_self, if_true, if_false, Bool.true_or, Bool.or_true, Bool.false_or, Bool.or_false, Bool.true_and, Bool.and_true, Bool.false_and, Bool.and_false, Bool.false_eq_true] at h_c20
            obtain ⟨x19, h_x19, h_c20⟩ := bind_get h_c20
            have h_x190 := get_nn h_x19
            have h_x191 := get_lt h_x19
            obtain rfl := Option.some.inj h_c20
            simp only [go_sem, s2, s7, s8, qz, ielem_get h_x19, irow_get h_x19, h_x190, h_x191, hg21]
            exact hK _ _ ⟨s1, s2, (by first | exact s5 | simp only [go_sem, s5, List.length_append, List.map_append]), s6, s7, s8, s19, s20, (by first | (simp only [go_sem, hg21, List.length_append, List.map_append]; done) | rfl), q16, qz⟩
          · simp only [hg21, Bool.not_true, Bool.not_false, eq_self, if_true, if_false, Bool.true_or, Bool.or_true, Bool.false_or, Bool.or_false, Bool.true_and, Bool.and_true, Bool.false_and, Bool.and_false, Bool.false_eq_true] at h_c20
            obtain rfl := Option.some.inj h_c20
            simp only [go_sem, s2, s7, s8, qz, hg21]
            exact hK _ _ ⟨s1, s2, (by first | exact s5 | simp only [go_sem, s5, List.length_append, List.map_append]), s6, s7, s8, s19, s20, (by first | (simp only [go_sem, hg21, List.length_append, List.map_append]; done) | rfl), q16, qz⟩
        · try clear s1 s2 s5 s6 s7 s8 s19 s20 q16 qz
          rintro t h ⟨s1, s2, s5, s6, s7, s8, s19, s20, s37, q16, qz⟩
          refine cw_seq_k fun K22 hK22 => ?_
          simp only [go_sem, s37]
          refine ibr_intro (fun hc23 => ?_) (fun hc23 => ?_)
          · rw [if_t hc23] at hm2
            simp only [cw_skip, qblock_normal, qseq_normal]
            refine hK22 _ _ ?_
            refine cw_seq_k fun K24 hK24 => ?_
            have J25 : ∀ (now_6_2 : Int) (t : Slots) (h : Heap), t 1 = I comb → t 2 = .fp [.fs 5 (List.map eComb h_.Combs), .fs 3 (List.map eTrain h_.Trains), .fs 3 (List.map eShift h_.Shifts), I h_.Until] 0 → t 5 = .rs i5 0 (List.length out_5) → t 6 = I now_6_2 → t 7 = I at_7_1 → t 8 = I x_20 → t 19 = I ((List.length l2 : Nat) : Int) → t 20 = I x_20 → h.ob i5 = some (1, List.map eI out_5) → i5 < h.nx → halls_rates_j25 at_7_1 now_6_2 = some o → K24 t h := by
              try clear s1 s2 s5 s6 s7 s8 s19 s20 s37 q16 qz
              intro now_6_2 t h s1 s2 s5 s6 s7 s8 s19 s20 q16 qz hm2
              refine hK24 _ _ ?_
              unfold halls_rates_j25 at hm2
              refine cw_reg_k fun K hK => ?_
              simp only [go_sem, s7, qz]
              refine hK _ _ ?_
              clear hK K
              simp only [qblock_normal, qseq_normal]
              obtain rfl := Option.some.inj hm2
              refine ⟨_, rfl, ?_⟩
              exact ⟨s1, s2, (by first | exact s5 | simp only [go_sem, s5, List.length_append, List.map_append]), s6, (by first | (simp only [go_sem, s7, List.length_append, List.map_append]; done) | rfl), s8, s19, s20, q16, qz⟩
            simp only [cw_block]
            obtain ⟨x27, h_x27, hm2⟩ := bind_get hm2
            have h_x270 := get_nn h_x27
            have h_x271 := get_lt h_x27
            refine cw_reg_seq fun K hK => ?_
            simp only [go_sem, s1, s2, s7, qz, ielem_get h_x27, irow_get h_x27, h_x270, h_x271]
            refine hK _ _ ?_
            clear hK K
            simp only [go_sem]
            refine ibr_intro (fun hc28 => ?_) (fun hc28 => ?_)
            · rw [if_t hc28] at hm2
              refine cw_reg_k fun K hK => ?_
              simp only [go_sem, s2, s7, qz, ielem_get h_x27, irow_get h_x27, h_x270, h_x271]
              refine hK _ _ ?_
              clear hK K
              simp only [qblock_normal, qseq_normal]
              exact J25 x27.Rate _ _ s1 s2 (by first | exact s5 | simp only [go_sem, s5, List.length_append, List.map_append]) (by first | (simp only [go_sem, s6, List.length_append, List.map_append]; done) | rfl) s7 s8 s19 s20 q16 qz hm2
            · rw [if_f hc28] at hm2
              simp only [cw_skip, qblock_normal, qseq_normal]
              exact J25 now_6_1 _ _ s1 s2 (by first | exact s5 | simp only [go_sem, s5, List.length_append, List.map_append]) s6 s7 s8 s19 s20 q16 qz hm2
          · rw [if_f hc23] at hm2
            simp only [cw_exit, qseq_exit, qblock_same, qblock_ne, qblock_normal, qseq_normal, Nat.reduceEqDiff, not_false_eq_true]
            obtain rfl := Option.some.inj hm2
            obtain rfl := hb16 _ rfl
            try dsimp only at hm1
            exact J13 now_6_1 at_7_1 _ _ s1 s2 (by first | exact s5 | simp only [go_sem, s5, List.length_append, List.map_append]) s6 s7 s8 s19 s20 q16 qz hm1
    · rw [if_f hc9] at hm1
      simp only [cw_exit, qseq_exit, qblock_same, qblock_ne, qblock_normal, qseq_normal, Nat.reduceEqDiff, not_false_eq_true]
      obtain rfl := Option.some.inj hm1
      obtain rfl := hb7 _ rfl
      try dsimp only at hm0
      exact J6 out_5 i5 _ _ (by first | exact s5 | simp only [go_sem, s5, List.length_append, List.map_append]) q16 qz hm0

end Go.Nw.HM

namespace Go.Nw.HM
open Go.Nw.Halls
set_option linter.unusedSimpArgs false
set_option linter.unusedVariables false
set_option maxHeartbeats 4000000
variable {O : Orac}

theorem k_l06_Example (hf : Has O "newel/newellaw06.Example" x_l06_Example) : C_l06_Example O := by
  intro _
  generalize hm0 : l06_Example = r
  unfold l06_Example at hm0
  refine fn_cw hf rfl fz_nil (.agg _ (fz_cons (frz_fs fun a _ => fz_eComb a) (fz_cons (frz_fs fun a _ => fz_eTrain a) (fz_cons (frz_fs fun a _ => fz_eShift a) (fz_cons (frz_v _) fz_nil))))) ?_
  refine cw_start (fun t h => True) trivial fun t h _ => ?_
  simp only [x_l06_Example]
  refine cw_reg_seq fun K hK => ?_
  simp only [go_sem]
  refine hK _ _ ?_
  clear hK K
  refine cw_reg_seq fun K hK => ?_
  simp only [go_sem]
  refine hK _ _ ?_
  clear hK K
  simp only [cw_ret, qseq_ret, qblock_ret, retQ_ret]
  obtain rfl := hm0
  exact done_cell (id := h.nx) (m := 4) (cs := [.rs (nxs h.nx) 0 (2), .rs (nxs (nxs (nxs (nxs h.nx)))) 0 2, .v (.slice none 0 0), I 20]) (by simp only [go_sem, List.length_append, List.map_append]) (by simp only [go_sem, List.length_append, List.map_append]) rfl (fz_agg (.cons (fz_rs (f := eComb) (l := ([(Comb.mk 3 12 1 (Span.mk 2 3)), (Comb.mk 2 10 (-1) (Span.mk 1 1))])) (id := (nxs h.nx)) (by simp only [go_sem, List.length_append, List.map_append]) (by first | rfl | simp only [go_sem, List.length_append, List.map_append]) fz_eComb ln_eComb) (.cons (fz_lit (id := (nxs (nxs (nxs (nxs h.nx))))) (sz := 3) (rows := [[I 2, I 4, .rs (nxs (nxs h.nx)) 0 (1)], [I 5, I 5, .rs (nxs (nxs (nxs h.nx))) 0 (2)]]) (by simp only [go_sem]) rfl (.cons (.cons (.refl _ (frz_v _)) (.cons (.refl _ (frz_v _)) (.cons (fz_rs (f := eCrowd) (l := ([(Crowd.mk 0 (Span.mk 6 10))])) (id := (nxs (nxs h.nx))) (by simp only [go_sem, List.length_append, List.map_append]) (by first | rfl | simp only [go_sem, List.length_append, List.map_append]) fz_eCrowd ln_eCrowd) (.nil)))) (.cons (.cons (.refl _ (frz_v _)) (.cons (.refl _ (frz_v _)) (.cons (fz_rs (f := eCrowd) (l := ([(Crowd.mk 0 (Span.mk 0 4)), (Crowd.mk 1 (Span.mk 3 3))])) (id := (nxs (nxs (nxs h.nx)))) (by simp only [go_sem, List.length_append, List.map_append]) (by first | rfl | simp only [go_sem, List.length_append, List.map_append]) fz_eCrowd ln_eCrowd) (.nil)))) (.nil))) (by intro d hd; obtain ⟨x, _, rfl⟩ := List.mem_map.1 hd; exact ln_eTrain x)) (.cons (.nil _) (.cons (.refl _ (frz_v _)) (.nil))))))

end Go.Nw.HM

namespace Go.Nw.HM
open Go.Nw.Halls
set_option linter.unusedSimpArgs false
set_option linter.unusedVariables false
set_option maxHeartbeats 4000000
variable {O : Orac}

theorem k_l06_Far (hf : Has O "newel/newellaw06.Far" x_l06_Far) : C_l06_Far O := by
  intro h_ r hm0
  unfold l06_Far at hm0
  refine fn_cw hf rfl (fz_cons (.agg _ (fz_cons (frz_fs fun a _ => fz_eComb a) (fz_cons (frz_fs fun a _ => fz_eTrain a) (fz_cons (frz_fs fun a _ => fz_eShift a) (fz_cons (frz_v _) fz_nil))))) fz_nil) (frz_v _) ?_
  refine cw_start (fun t h => t 0 = .agg [.fs 5 (List.map eComb h_.Combs), .fs 3 (List.map eTrain h_.Trains), .fs 3 (List.map eShift h_.Shifts), I h_.Until]) rfl fun t h s0 => ?_
  simp only [x_l06_Far]
  refine cw_reg_seq fun K hK => ?_
  simp only [go_sem, s0]
  refine hK _ _ ?_
  clear hK K
  refine cw_assoc ?_
  refine cw_reg_postK (fun t h => t 1 = .fp [.fs 5 (List.map eComb h_.Combs), .fs 3 (List.map eTrain h_.Trains), .fs 3 (List.map eShift h_.Shifts), I h_.Until] 0 ∧ t 29 = B ((((decide (12 < (List.length h_.Combs : Int))) || (decide (20 < (List.length h_.Trains : Int)))) || (decide (40 < (List.length h_.Shifts : Int)))) || ((decide (40 < h_.Until)) && (decide (h_.Until ≤ 100))))) (fun K hK => ?_) ?_
  · simp only [go_sem]
    refine ibr_intro (fun hg1 => ?_) (fun hg1 => ?_)
    · simp only [go_sem, hg1]
      exact hK _ _ ⟨(by first | (simp only [go_sem, hg1, List.length_append, List.map_append]; done) | rfl), (by first | (simp only [go_sem, hg1, List.length_append, List.map_append]; done) | rfl)⟩
    · simp only [go_sem, hg1]
      refine ibr_intro (fun hg2 => ?_) (fun hg2 => ?_)
      · simp only [go_sem, hg1, hg2]
        exact hK _ _ ⟨(by first | (simp only [go_sem, hg1, hg2, List.length_append, List.map_append]; done) | rfl), (by first | (simp only [go_sem, hg1, hg2, List.length_append, List.map_append]; done) | rfl)⟩
      · simp only [go_sem, hg1, hg2]
        refine ibr_intro (fun hg3 => ?_) (fun hg3 => ?_)
        · simp only [go_sem, hg1, hg2, hg3]
          exact hK _ _ ⟨(by first | (simp only [go_sem, hg1, hg2, hg3, List.length_append, List.map_append]; done) | rfl), (by first | (simp only [go_sem, hg1, hg2, hg3, List.length_append, List.map_append]; done) | rfl)⟩
        · simp only [go_sem, hg1, hg2, hg3]
          refine ibr_intro (fun hg4 => ?_) (fun hg4 => ?_)
          · simp only [go_sem, hg1, hg2, hg3, hg4]
            exact hK _ _ ⟨(by first | (simp only [go_sem, hg1, hg2, hg3, hg4, List.length_append, List.map_append]; done) | rfl), (by first | (simp only [go_sem, hg1, hg2, hg3, hg4, List.length_append, List.map_append]; done) | rfl)⟩
          · simp only [go_sem, hg1, hg2, hg3, hg4]
            exact hK _ _ ⟨(by first | (simp only [go_sem, hg1, hg2, hg3, hg4, List.length_append, List.map_append]; done) | rfl), (by first | (simp only [go_sem, hg1, hg2, hg3, hg4, List.length_append, List.map_append]; done) | rfl)⟩
  · rintro t h ⟨s1, s29⟩
    refine cw_seq_k fun K5 hK5 => ?_
    simp only [go_sem, s29]
    refine ibr_intro (fun hc6 => ?_) (fun hc6 => ?_)
    · rw [if_t hc6] at hm0
      refine cw_reg_seq fun K hK => ?_
      simp only [go_sem]
      refine hK _ _ ?_
      clear hK K
      simp only [cw_ret, qseq_ret, qblock_ret, retQ_ret]
      obtain rfl := Option.some.inj hm0
      exact done_t (by simp only [go_sem, List.length_append, List.map_append]) (frz_v _)
    · rw [if_f hc6] at hm0
      simp only [cw_skip, qblock_normal, qseq_normal]
      refine hK5 _ _ ?_
      refine cw_assoc ?_
      refine cw_reg_seq fun K hK => ?_
      simp only [go_sem]
      refine hK _ _ ?_
      clear hK K
      refine cw_seq_k fun K7 hK7 => ?_
      have J8 : ∀ (t : Slots) (h : Heap), l06_Far_j8 = some r → K7 t h := by
        intro t h hm0
        refine hK7 _ _ ?_
        unfold l06_Far_j8 at hm0
        refine cw_reg_seq fun K hK => ?_
        simp only [go_sem]
        refine hK _ _ ?_
        clear hK K
        simp only [cw_ret, qseq_ret, qblock_ret, retQ_ret]
        obtain rfl := Option.some.inj hm0
        exact done_t (by simp only [go_sem, List.length_append, List.map_append]) (frz_v _)
      simp only [cw_block]
      obtain ⟨b9, hl9, hm0⟩ := bind_get hm0
      refine cw_loopM hl9 (fun | i_3, t, h => t 1 = .fp [.fs 5 (List.map eComb h_.Combs), .fs 3 (List.map eTrain h_.Trains), .fs 3 (List.map eShift h_.Shifts), I h_.Until] 0 ∧ t 3 = I i_3) ?_ ?_
      · exact ⟨s1, (by first | (simp only [go_sem, List.length_append, List.map_append]; done) | rfl)⟩
      · rintro i_3 o t h ⟨s1, s3⟩ hm1 hb9
        simp only [l06_Far_L8] at hm1
        rw [x_l06_Far_L8]
        refine cw_assoc ?_
        refine cw_reg_seq fun K hK => ?_
        simp only [go_sem, s1, s3]
        refine hK _ _ ?_
        clear hK K
        refine cw_seq_k fun K10 hK10 => ?_
        simp only [go_sem]
        refine ibr_intro (fun hc11 => ?_) (fun hc11 => ?_)
        · rw [if_t hc11] at hm1
          simp only [cw_skip, qblock_normal, qseq_normal]
          refine hK10 _ _ ?_
          refine cw_seq_k fun K12 hK12 => ?_
          simp only [cw_block]
          obtain ⟨x14, h_x14, hm1⟩ := bind_get hm1
          have h_x140 := get_nn h_x14
          have h_x141 := get_lt h_x14
          refine cw_reg_seq fun K hK => ?_
          simp only [go_sem, s1, s3, ielem_get h_x14, irow_get h_x14, h_x140, h_x141]
          refine hK _ _ ?_
          clear hK K
          simp only [go_sem]
          refine ibr_intro (fun hc15 => ?_) (fun hc15 => ?_)
          · rw [if_t hc15] at hm1
            refine cw_reg_seq fun K hK => ?_
            simp only [go_sem]
            refine hK _ _ ?_
            clear hK K
            simp only [cw_ret, qseq_ret, qblock_ret, retQ_ret]
            obtain rfl := Option.some.inj hm1
            obtain rfl := hb9 _ rfl
            try dsimp only at hm0
            obtain rfl := Option.some.inj hm0
            exact done_t (by simp only [go_sem, List.length_append, List.map_append]) (frz_v _)
          · rw [if_f hc15] at hm1
            simp only [cw_skip, qblock_normal, qseq_normal]
            refine hK12 _ _ ?_
            refine cw_reg_k fun K hK => ?_
            simp only [go_sem, s3]
            refine hK _ _ ?_
            clear hK K
            simp only [qblock_normal, qseq_normal]
            obtain rfl := Option.some.inj hm1
            refine ⟨_, rfl, ?_⟩
            exact ⟨s1, (by first | (simp only [go_sem, s3, List.length_append, List.map_append]; done) | rfl)⟩
        · rw [if_f hc11] at hm1
          simp only [cw_exit, qseq_exit, qblock_same, qblock_ne, qblock_normal, qseq_normal, Nat.reduceEqDiff, not_false_eq_true]
          obtain rfl := Option.some.inj hm1
          obtain rfl := hb9 _ rfl
          try dsimp only at hm0
          exact J8  _ _  hm0

end Go.Nw.HM

namespace Go.Nw.HM
open Go.Nw.Halls
set_option linter.unusedSimpArgs false
set_option linter.unusedVariables false
set_option maxHeartbeats 4000000
variable {O : Orac}

theorem k_l06_HallsWithin (hf : Has O "newel/newellaw06.HallsWithin" x_l06_HallsWithin) (k_l06_Far : C_l06_Far O) (k_r06_Check : C_r06_Check O) (k_r06_Fits : C_r06_Fits O) (k_l06_works : C_l06_works O) (k_halls_Play : C_halls_Play O) (k_halls_Most : C_halls_Most O) (k_halls_Rates : C_halls_Rates O) (k_halls_Come : C_halls_Come O) : C_l06_HallsWithin O := by
  intro h_ d w_ r hm0
  unfold l06_HallsWithin at hm0
  refine fn_cw hf rfl (fz_cons (.agg _ (fz_cons (frz_fs fun a _ => fz_eComb a) (fz_cons (frz_fs fun a _ => fz_eTrain a) (fz_cons (frz_fs fun a _ => fz_eShift a) (fz_cons (frz_v _) fz_nil))))) (fz_cons (.agg _ (fz_cons (frz_fs fun a _ => fz_eI a) (fz_cons (frz_fs fun a _ => fz_eL_I a) (fz_cons (frz_fs fun a _ => fz_eL_I a) fz_nil)))) (fz_cons (.agg _ (fz_cons (frz_v _) (fz_cons (frz_v _) (fz_cons (frz_v _) fz_nil)))) fz_nil))) (frz_v _) ?_
  refine cw_start (fun t h => t 0 = .agg [.fs 5 (List.map eComb h_.Combs), .fs 3 (List.map eTrain h_.Trains), .fs 3 (List.map eShift h_.Shifts), I h_.Until] ∧ t 1 = .agg [.fs 1 (List.map eI d.At), .fs 1 (List.map eL_I d.People), .fs 1 (List.map eL_I d.Walks)] ∧ t 2 = .agg [I w_.Comb, I w_.From, I w_.To]) ⟨rfl, rfl, rfl⟩ fun t h ⟨s0, s1, s2⟩ => ?_
  simp only [x_l06_HallsWithin]
  refine cw_reg_seq fun K hK => ?_
  simp only [go_sem, s0, s1, s2]
  refine hK _ _ ?_
  clear hK K
  refine cw_assoc ?_
  obtain ⟨y6, h_y6, hm0⟩ := bind_get hm0
  obtain ⟨c8, h_c8, hm0⟩ := bind_get hm0
  obtain ⟨c10, h_c10, hm0⟩ := bind_get hm0
  refine cw_reg_postK (fun t h => t 3 = .fp [.fs 5 (List.map eComb h_.Combs), .fs 3 (List.map eTrain h_.Trains), .fs 3 (List.map eShift h_.Shifts), I h_.Until] 0 ∧ t 4 = .fp [.fs 1 (List.map eI d.At), .fs 1 (List.map eL_I d.People), .fs 1 (List.map eL_I d.Walks)] 0 ∧ t 5 = .fp [I w_.Comb, I w_.From, I w_.To] 0 ∧ t 43 = B ((c10 || (decide (w_.Comb < 0))) || (decide ((List.length h_.Combs : Int) ≤ w_.Comb)))) (fun K hK => ?_) ?_
  · simp only [go_sem]
    refine icall_fn (k_l06_Far h_ _ h_y6) ?_
    simp only [go_sem]
    refine ibr_intro (fun hg11 => ?_) (fun hg11 => ?_)
    · simp only [hg11, Bool.not_true, Bool.not_false, eq_self, if_true, if_false, Bool.true_or, Bool.or_true, Bool.false_or, Bool.or_false, Bool.true_and, Bool.and_true, Bool.false_and, Bool.and_false, Bool.false_eq_true] at h_c8
      obtain rfl := Option.some.inj h_c8
      simp only [hg11, Bool.not_true, Bool.not_false, eq_self, if_true, if_false, Bool.true_or, Bool.or_true, Bool.false_or, Bool.or_false, Bool.true_and, Bool.and_true, Bool.false_and, Bool.and_false, Bool.false_eq_true] at h_c10
      obtain rfl := Option.some.inj h_c10
      simp only [go_sem, hg11]
      exact hK _ _ ⟨(by first | (simp only [go_sem, hg11, List.length_append, List.map_append]; done) | rfl), (by first | (simp only [go_sem, hg11, List.length_append, List.map_append]; done) | rfl), (by first | (simp only [go_sem, hg11, List.length_append, List.map_append]; done) | rfl), (by first | (simp only [go_sem, hg11, List.length_append, List.map_append]; done) | rfl)⟩
    · simp only [hg11, Bool.not_true, Bool.not_false, eq_self, if_true, if_false, Bool.true_or, Bool.or_true, Bool.false_or, Bool.or_false, Bool.true_and, Bool.and_true, Bool.false_and, Bool.and_false, Bool.false_eq_true] at h_c8
      obtain ⟨y7, h_y7, h_c8⟩ := bind_get h_c8
      obtain rfl := Option.some.inj h_c8
      simp only [go_sem, hg11]
      refine icall_fn (k_r06_Check h_ _ h_y7) ?_
      simp only [go_sem, hg11]
      refine ibr_intro (fun hg12 => ?_) (fun hg12 => ?_)
      · simp only [hg11, hg12, Bool.not_true, Bool.not_false, eq_self, if_true, if_false, Bool.true_or, Bool.or_true, Bool.false_or, Bool.or_false, Bool.true_and, Bool.and_true, Bool.false_and, Bool.and_false, Bool.false_eq_true] at h_c10
        obtain rfl := Option.some.inj h_c10
        simp only [go_sem, hg11, hg12]
        exact hK _ _ ⟨(by first | (simp only [go_sem, hg11, hg12, List.length_append, List.map_append]; done) | rfl), (by first | (simp only [go_sem, hg11, hg12, List.length_append, List.map_append]; done) | rfl), (by first | (simp only [go_sem, hg11, hg12, List.length_append, List.map_append]; done) | rfl), (by first | (simp only [go_sem, hg11, hg12, List.length_append, List.map_append]; done) | rfl)⟩
      · simp only [hg11, hg12, Bool.not_true, Bool.not_false, eq_self, if_true, if_false, Bool.true_or, Bool.or_true, Bool.false_or, Bool.or_false, Bool.true_and, Bool.and_true, Bool.false_and, Bool.and_false, Bool.false_eq_true] at h_c10
        obtain ⟨y9, h_y9, h_c10⟩ := bind_get h_c10
        obtain rfl := Option.some.inj h_c10
        simp only [go_sem, hg11, hg12]
        refine icall_fn (k_r06_Fits h_ d _ h_y9) ?_
        simp only [go_sem, hg11, hg12]
        refine ibr_intro (fun hg13 => ?_) (fun hg13 => ?_)
        · simp only [go_sem, hg11, hg12, hg13]
          exact hK _ _ ⟨(by first | (simp only [go_sem, hg11, hg12, hg13, List.length_append, List.map_append]; done) | rfl), (by first | (simp only [go_sem, hg11, hg12, hg13, List.length_append, List.map_append]; done) | rfl), (by first | (simp only [go_sem, hg11, hg12, hg13, List.length_append, List.map_append]; done) | rfl), (by first | (simp only [go_sem, hg11, hg12, hg13, List.length_append, List.map_append]; done) | rfl)⟩
        · simp only [go_sem, hg11, hg12, hg13]
          refine ibr_intro (fun hg14 => ?_) (fun hg14 => ?_)
          · simp only [go_sem, hg11, hg12, hg13, hg14]
            exact hK _ _ ⟨(by first | (simp only [go_sem, hg11, hg12, hg13, hg14, List.length_append, List.map_append]; done) | rfl), (by first | (simp only [go_sem, hg11, hg12, hg13, hg14, List.length_append, List.map_append]; done) | rfl), (by first | (simp only [go_sem, hg11, hg12, hg13, hg14, List.length_append, List.map_append]; done) | rfl), (by first | (simp only [go_sem, hg11, hg12, hg13, hg14, List.length_append, List.map_append]; done) | rfl)⟩
          · simp only [go_sem, hg11, hg12, hg13, hg14]
            exact hK _ _ ⟨(by first | (simp only [go_sem, hg11, hg12, hg13, hg14, List.length_append, List.map_append]; done) | rfl), (by first | (simp only [go_sem, hg11, hg12, hg13, hg14, List.length_append, List.map_append]; done) | rfl), (by first | (simp only [go_sem, hg11, hg12, hg13, hg14, List.length_append, List.map_append]; done) | rfl), (by first | (simp only [go_sem, hg11, hg12, hg13, hg14, List.length_append, List.map_append]; done) | rfl)⟩
  · rintro t h ⟨s3, s4, s5, s43⟩
    refine cw_seq_k fun K15 hK15 => ?_
    simp only [go_sem, s43]
    refine ibr_intro (fun hc16 => ?_) (fun hc16 => ?_)
    · rw [if_t hc16] at hm0
      obtain ⟨y18, h_y18, hm0⟩ := bind_get hm0
      refine cw_reg_seq fun K hK => ?_
      simp only [go_sem]
      refine icall_fn (k_l06_works  _ h_y18) ?_
      simp only [go_sem]
      refine hK _ _ ?_
      clear hK K
      simp only [cw_ret, qseq_ret, qblock_ret, retQ_ret]
      obtain rfl := Option.some.inj hm0
      exact done_t (by simp only [go_sem, List.length_append, List.map_append]) (frz_v _)
    · rw [if_f hc16] at hm0
      simp only [cw_skip, qblock_normal, qseq_normal]
      refine hK15 _ _ ?_
      obtain ⟨y20, h_y20, hm0⟩ := bind_get hm0
      refine cw_reg_seq fun K hK => ?_
      simp only [go_sem, s3, s4]
      refine icall_fn (k_halls_Play h_ d _ h_y20) ?_
      simp only [go_sem, s3, s4]
      refine hK _ _ ?_
      clear hK K
      obtain ⟨y22, h_y22, hm0⟩ := bind_get hm0
      refine cw_reg_seq fun K hK => ?_
      simp only [go_sem, s3, s5]
      refine icall_fn (k_halls_Most h_ w_.Comb _ h_y22) ?_
      simp only [go_sem, s3, s5]
      refine hK _ _ ?_
      clear hK K
      obtain ⟨y24, h_y24, hm0⟩ := bind_get hm0
      refine cw_reg_seq fun K hK => ?_
      simp only [go_sem, s3, s5]
      refine icall_fn (k_halls_Rates h_ w_.Comb _ h_y24) ?_
      simp only [go_sem, s3, s5]
      refine hK _ _ ?_
      clear hK K
      refine cw_assoc ?_
      refine cw_reg_postK (fun t h => t 3 = .fp [.fs 5 (List.map eComb h_.Combs), .fs 3 (List.map eTrain h_.Trains), .fs 3 (List.map eShift h_.Shifts), I h_.Until] 0 ∧ t 5 = .fp [I w_.Comb, I w_.From, I w_.To] 0 ∧ t 7 = .fs 1 (List.map eL_I y20.1) ∧ t 9 = .fs 1 (List.map eI y22.1) ∧ t 11 = .fs 1 (List.map eI y24.1) ∧ t 95 = B ((((((decide (¬y20.2 = 0)) || (decide (¬y22.2 = 0))) || (decide (¬y24.2 = 0))) || (decide (¬(List.length y20.1 : Int) = h_.Until))) || (decide (¬(List.length y22.1 : Int) = h_.Until))) || (decide (¬(List.length y24.1 : Int) = h_.Until)))) (fun K hK => ?_) ?_
      · simp only [go_sem, s3]
        refine ibr_intro (fun hg25 => ?_) (fun hg25 => ?_)
        · simp only [go_sem, s3, hg25]
          exact hK _ _ ⟨s3, s5, (by first | (simp only [go_sem, hg25, List.length_append, List.map_append]; done) | rfl), (by first | (simp only [go_sem, hg25, List.length_append, List.map_append]; done) | rfl), (by first | (simp only [go_sem, hg25, List.length_append, List.map_append]; done) | rfl), (by first | (simp only [go_sem, hg25, List.length_append, List.map_append]; done) | rfl)⟩
        · simp only [go_sem, s3, hg25]
          refine ibr_intro (fun hg26 => ?_) (fun hg26 => ?_)
          · simp only [go_sem, s3, hg25, hg26]
            exact hK _ _ ⟨s3, s5, (by first | (simp only [go_sem, hg25, hg26, List.length_append, List.map_append]; done) | rfl), (by first | (simp only [go_sem, hg25, hg26, List.length_append, List.map_append]; done) | rfl), (by first | (simp only [go_sem, hg25, hg26, List.length_append, List.map_append]; done) | rfl), (by first | (simp only [go_sem, hg25, hg26, List.length_append, List.map_append]; done) | rfl)⟩
          · simp only [go_sem, s3, hg25, hg26]
            refine ibr_intro (fun hg27 => ?_) (fun hg27 => ?_)
            · simp only [go_sem, s3, hg25, hg26, hg27]
              exact hK _ _ ⟨s3, s5, (by first | (simp only [go_sem, hg25, hg26, hg27, List.length_append, List.map_append]; done) | rfl), (by first | (simp only [go_sem, hg25, hg26, hg27, List.length_append, List.map_append]; done) | rfl), (by first | (simp only [go_sem, hg25, hg26, hg27, List.length_append, List.map_append]; done) | rfl), (by first | (simp only [go_sem, hg25, hg26, hg27, List.length_append, List.map_append]; done) | rfl)⟩
            · simp only [go_sem, s3, hg25, hg26, hg27]
              refine ibr_intro (fun hg28 => ?_) (fun hg28 => ?_)
              · simp only [go_sem, s3, hg25, hg26, hg27, hg28]
                exact hK _ _ ⟨s3, s5, (by first | (simp only [go_sem, hg25, hg26, hg27, hg28, List.length_append, List.map_append]; done) | rfl), (by first | (simp only [go_sem, hg25, hg26, hg27, hg28, List.length_append, List.map_append]; done) | rfl), (by first | (simp only [go_sem, hg25, hg26, hg27, hg28, List.length_append, List.map_append]; done) | rfl), (by first | (simp only [go_sem, hg25, hg26, hg27, hg28, List.length_append, List.map_append]; done) | rfl)⟩
              · simp only [go_sem, s3, hg25, hg26, hg27, hg28]
                refine ibr_intro (fun hg29 => ?_) (fun hg29 => ?_)
                · simp only [go_sem, s3, hg25, hg26, hg27, hg28, hg29]
                  exact hK _ _ ⟨s3, s5, (by first | (simp only [go_sem, hg25, hg26, hg27, hg28, hg29, List.length_append, List.map_append]; done) | rfl), (by first | (simp only [go_sem, hg25, hg26, hg27, hg28, hg29, List.length_append, List.map_append]; done) | rfl), (by first | (simp only [go_sem, hg25, hg26, hg27, hg28, hg29, List.length_append, List.map_append]; done) | rfl), (by first | (simp only [go_sem, hg25, hg26, hg27, hg28, hg29, List.length_append, List.map_append]; done) | rfl)⟩
                · simp only [go_sem, s3, hg25, hg26, hg27, hg28, hg29]
                  exact hK _ _ ⟨s3, s5, (by first | (simp only [go_sem, hg25, hg26, hg27, hg28, hg29, List.length_append, List.map_append]; done) | rfl), (by first | (simp only [go_sem, hg25, hg26, hg27, hg28, hg29, List.length_append, List.map_append]; done) | rfl), (by first | (simp only [go_sem, hg25, hg26, hg27, hg28, hg29, List.length_append, List.map_append]; done) | rfl), (by first | (simp only [go_sem, hg25, hg26, hg27, hg28, hg29, List.length_append, List.map_append]; done) | rfl)⟩
      · rintro t h ⟨s3, s5, s7, s9, s11, s95⟩
        refine cw_seq_k fun K30 hK30 => ?_
        simp only [go_sem, s95]
        refine ibr_intro (fun hc31 => ?_) (fun hc31 => ?_)
        · rw [if_t hc31] at hm0
          refine cw_reg_seq fun K hK => ?_
          simp only [go_sem]
          refine hK _ _ ?_
          clear hK K
          simp only [cw_ret, qseq_ret, qblock_ret, retQ_ret]
          obtain rfl := Option.some.inj hm0
          exact done_t (by simp only [go_sem, List.length_append, List.map_append]) (frz_v _)
        · rw [if_f hc31] at hm0
          simp only [cw_skip, qblock_normal, qseq_normal]
          refine hK30 _ _ ?_
          refine cw_reg_seq fun K hK => ?_
          simp only [go_sem]
          refine hK _ _ ?_
          clear hK K
          refine cw_assoc ?_
          refine cw_reg_seq fun K hK => ?_
          simp only [go_sem]
          refine hK _ _ ?_
          clear hK K
          refine cw_seq_k fun K32 hK32 => ?_
          have J33 : ∀ (sum_14 : Int) (t : Slots) (h : Heap), t 3 = .fp [.fs 5 (List.map eComb h_.Combs), .fs 3 (List.map eTrain h_.Trains), .fs 3 (List.map eShift h_.Shifts), I h_.Until] 0 → t 5 = .fp [I w_.Comb, I w_.From, I w_.To] 0 → t 14 = I sum_14 → l06_HallsWithin_j33 h_ w_ sum_14 = some r → K32 t h := by
            intro sum_14 t h s3 s5 s14 hm0
            refine hK32 _ _ ?_
            unfold l06_HallsWithin_j33 at hm0
            obtain ⟨y35, h_y35, hm0⟩ := bind_get hm0
            refine cw_reg_seq fun K hK => ?_
            simp only [go_sem, s3, s5]
            refine icall_fn (k_halls_Come h_ w_.Comb w_.From w_.To _ h_y35) ?_
            simp only [go_sem, s3, s5]
            refine hK _ _ ?_
            clear hK K
            obtain ⟨c39, h_c39, hm0⟩ := bind_get hm0
            refine cw_reg_postK (fun t h => t 6 = B c39) (fun K hK => ?_) ?_
            · simp only [go_sem, s14]
              refine ibr_intro (fun hg40 => ?_) (fun hg40 => ?_)
              · simp only [hg40, Bool.not_true, Bool.not_false, eq_self, if_true, if_false, Bool.true_or, Bool.or_true, Bool.false_or, Bool.or_false, Bool.true_and, Bool.and_true, Bool.false_and, Bool.and_false, Bool.false_eq_true] at h_c39
                obtain ⟨y38, h_y38, h_c39⟩ := bind_get h_c39
                obtain rfl := Option.some.inj h_c39
                simp only [go_sem, s14, hg40]
                refine icall_fn (k_l06_works  _ h_y38) ?_
                simp only [go_sem, s14, hg40]
                exact hK _ _ (by first | (simp only [go_sem, hg40, List.length_append, List.map_append]; done) | rfl)
              · simp only [go_sem, s14, hg40]
                refine ibr_intro (fun hg41 => ?_) (fun hg41 => ?_)
                · simp only [go_sem, s14, hg40, hg41]
                  refine ibr_intro (fun hg42 => ?_) (fun hg42 => ?_)
                  · simp only [hg40, hg41, hg42, Bool.not_true, Bool.not_false, eq_self, if_true, if_false, Bool.true_or, Bool.or_true, Bool.false_or, Bool.or_false, Bool.true_and, Bool.and_true, Bool.false_and, Bool.and_false, Bool.false_eq_true] at h_c39
                    obtain ⟨y38, h_y38, h_c39⟩ := bind_get h_c39
                    obtain rfl := Option.some.inj h_c39
                    simp only [go_sem, s14, hg40, hg41, hg42]
                    refine icall_fn (k_l06_works  _ h_y38) ?_
                    simp only [go_sem, s14, hg40, hg41, hg42]
                    exact hK _ _ (by first | (simp only [go_sem, hg40, hg41, hg42, List.length_append, List.map_append]; done) | rfl)
                  · simp only [hg40, hg41, hg42, Bool.not_true, Bool.not_false, eq_self, if_true, if_false, Bool.true_or, Bool.or_true, Bool.false_or, Bool.or_false, Bool.true_and, Bool.and_true, Bool.false_and, Bool.and_false, Bool.false_eq_true] at h_c39
                    obtain rfl := Option.some.inj h_c39
                    simp only [go_sem, s14, hg40, hg41, hg42]
                    exact hK _ _ (by first | (simp only [go_sem, hg40, hg41, hg42, List.length_append, List.map_append]; done) | rfl)
                · simp only [hg40, hg41, Bool.not_true, Bool.not_false, eq_self, if_true, if_false, Bool.true_or, Bool.or_true, Bool.false_or, Bool.or_false, Bool.true_and, Bool.and_true, Bool.false_and, Bool.and_false, Bool.false_eq_true] at h_c39
                  obtain rfl := Option.some.inj h_c39
                  simp only [go_sem, s14, hg40, hg41]
                  exact hK _ _ (by first | (simp only [go_sem, hg40, hg41, List.length_append, List.map_append]; done) | rfl)
            · rintro t h s6
              simp only [cw_ret, qseq_ret, qblock_ret, retQ_ret]
              obtain rfl := Option.some.inj hm0
              exact done_t (by simp only [go_sem, s6, List.length_append, List.map_append]) (frz_v _)
          simp only [cw_block]
          obtain ⟨b43, hl43, hm0⟩ := bind_get hm0
          refine cw_loopM hl43 (fun | (left_13, sum_14, t_15), t, h => t 3 = .fp [.fs 5 (List.map eComb h_.Combs), .fs 3 (List.map eTrain h_.Trains), .fs 3 (List.map eShift h_.Shifts), I h_.Until] 0 ∧ t 5 = .fp [I w_.Comb, I w_.From, I w_.To] 0 ∧ t 7 = .fs 1 (List.map eL_I y20.1) ∧ t 9 = .fs 1 (List.map eI y22.1) ∧ t 11 = .fs 1 (List.map eI y24.1) ∧ t 13 = I left_13 ∧ t 14 = I sum_14 ∧ t 15 = I t_15) ?_ ?_
          · exact ⟨s3, s5, s7, s9, s11, (by first | (simp only [go_sem, List.length_append, List.map_append]; done) | rfl), (by first | (simp only [go_sem, List.length_append, List.map_append]; done) | rfl), (by first | (simp only [go_sem, List.length_append, List.map_append]; done) | rfl)⟩
          · rintro ⟨left_13, sum_14, t_15⟩ o t h ⟨s3, s5, s7, s9, s11, s13, s14, s15⟩ hm1 hb43
            simp only [l06_HallsWithin_L17] at hm1
            rw [x_l06_HallsWithin_L17]
            refine cw_assoc ?_
            refine cw_reg_seq fun K hK => ?_
            simp only [go_sem, s3, s15]
            refine hK _ _ ?_
            clear hK K
            refine cw_seq_k fun K44 hK44 => ?_
            simp only [go_sem]
            refine ibr_intro (fun hc45 => ?_) (fun hc45 => ?_)
            · rw [if_t hc45] at hm1
              simp only [cw_skip, qblock_normal, qseq_normal]
              refine hK44 _ _ ?_
              refine cw_seq_k fun K46 hK46 => ?_
              simp only [cw_block]
              refine cw_assoc ?_
              obtain ⟨x53, h_x53, hm1⟩ := bind_get hm1
              have h_x530 := get_nn h_x53
              have h_x531 := get_lt h_x53
              obtain ⟨c56, h_c56, hm1⟩ := bind_get hm1
              obtain ⟨c58, h_c58, hm1⟩ := bind_get hm1
              refine cw_reg_postK (fun t h => t 3 = .fp [.fs 5 (List.map eComb h_.Combs), .fs 3 (List.map eTrain h_.Trains), .fs 3 (List.map eShift h_.Shifts), I h_.Until] 0 ∧ t 5 = .fp [I w_.Comb, I w_.From, I w_.To] 0 ∧ t 7 = .fs 1 (List.map eL_I y20.1) ∧ t 9 = .fs 1 (List.map eI y22.1) ∧ t 11 = .fs 1 (List.map eI y24.1) ∧ t 13 = I left_13 ∧ t 14 = I sum_14 ∧ t 15 = I t_15 ∧ t 137 = B c58) (fun K hK => ?_) ?_
              · simp only [go_sem, s3, s5, s7, s9, s13, s15, ielem_get h_x53, irow_get h_x53, h_x530, h_x531]
                refine ibr_intro (fun hg59 => ?_) (fun hg59 => ?_)
                · simp only [hg59, Bool.not_true, Bool.not_false, eq_self, if_true, if_false, Bool.true_or, Bool.or_true, Bool.false_or, Bool.or_false, Bool.true_and, Bool.and_true, Bool.false_and, Bool.and_false, Bool.false_eq_true] at h_c56
                  obtain rfl := Option.some.inj h_c56
                  simp only [hg59, Bool.not_true, Bool.not_false, eq_self, if_true, if_false, Bool.true_or, Bool.or_true, Bool.false_or, Bool.or_false, Bool.true_and, Bool.and_true, Bool.false_and, Bool.and_false, Bool.false_eq_true] at h_c58
                  obtain rfl := Option.some.inj h_c58
                  simp only [go_sem, s3, s5, s7, s9, s13, s15, ielem_get h_x53, irow_get h_x53, h_x530, h_x531, hg59]
                  exact hK _ _ ⟨s3, s5, s7, s9, s11, s13, s14, s15, (by first | (simp only [go_sem, hg59, List.length_append, List.map_append]; done) | rfl)⟩
                · simp only [hg59, Bool.not_true, Bool.not_false, eq_self, if_true, if_false, Bool.true_or, Bool.or_true, Bool.false_or, Bool.or_false, Bool.true_and, Bool.and_true, Bool.false_and, Bool.and_false, Bool.false_eq_true] at h_c56
                  obtain ⟨x54, h_x54, h_c56⟩ := bind_get h_c56
                  have h_x540 := get_nn h_x54
                  have h_x541 := get_lt h_x54
                  obtain ⟨x55, h_x55, h_c56⟩ := bind_get h_c56
                  have h_x550 := get_nn h_x55
                  have h_x551 := get_lt h_x55
                  obtain rfl := Option.some.inj h_c56
                  simp only [go_sem, s3, s5, s7, s9, s13, s15, ielem_get h_x53, irow_get h_x53, h_x530, h_x531, ielem_get h_x54, irow_get h_x54, h_x540, h_x541, ielem_get h_x55, irow_get h_x55, h_x550, h_x551, hg59]
                  refine ibr_intro (fun hg60 => ?_) (fun hg60 => ?_)
                  · simp only [hg59, hg60, Bool.not_true, Bool.not_false, eq_self, if_true, if_false, Bool.true_or, Bool.or_true, Bool.false_or, Bool.or_false, Bool.true_and, Bool.and_true, Bool.false_and, Bool.and_false, Bool.false_eq_true] at h_c58
                    obtain rfl := Option.some.inj h_c58
                    simp only [go_sem, s3, s5, s7, s9, s13, s15, ielem_get h_x53, irow_get h_x53, h_x530, h_x531, ielem_get h_x54, irow_get h_x54, h_x540, h_x541, ielem_get h_x55, irow_get h_x55, h_x550, h_x551, hg59, hg60]
                    exact hK _ _ ⟨s3, s5, s7, s9, s11, s13, s14, s15, (by first | (simp only [go_sem, hg59, hg60, List.length_append, List.map_append]; done) | rfl)⟩
                  · simp only [hg59, hg60, Bool.not_true, Bool.not_false, eq_self, if_true, if_false, Bool.true_or, Bool.or_true, Bool.false_or, Bool.or_false, Bool.true_and, Bool.and_true, Bool.false_and, Bool.and_false, Bool.false_eq_true] at h_c58
                    obtain ⟨x57, h_x57, h_c58⟩ := bind_get h_c58
                    have h_x570 := get_nn h_x57
                    have h_x571 := get_lt h_x57
                    obtain rfl := Option.some.inj (h_x54.symm.trans h_x57)
                    obtain rfl := Option.some.inj h_c58
                    simp only [go_sem, s3, s5, s7, s9, s13, s15, ielem_get h_x53, irow_get h_x53, h_x530, h_x531, ielem_get h_x54, irow_get h_x54, h_x540, h_x541, ielem_get h_x55, irow_get h_x55, h_x550, h_x551, ielem_get h_x57, irow_get h_x57, h_x570, h_x571, hg59, hg60]
                    exact hK _ _ ⟨s3, s5, s7, s9, s11, s13, s14, s15, (by first | (simp only [go_sem, hg59, hg60, List.length_append, List.map_append]; done) | rfl)⟩
              · rintro t h ⟨s3, s5, s7, s9, s11, s13, s14, s15, s137⟩
                refine cw_seq_k fun K61 hK61 => ?_
                simp only [go_sem, s137]
                refine ibr_intro (fun hc62 => ?_) (fun hc62 => ?_)
                · rw [if_t hc62] at hm1
                  refine cw_reg_seq fun K hK => ?_
                  simp only [go_sem]
                  refine hK _ _ ?_
                  clear hK K
                  simp only [cw_ret, qseq_ret, qblock_ret, retQ_ret]
                  obtain rfl := Option.some.inj hm1
                  obtain rfl := hb43 _ rfl
                  try dsimp only at hm0
                  obtain rfl := Option.some.inj hm0
                  exact done_t (by simp only [go_sem, List.length_append, List.map_append]) (frz_v _)
                · rw [if_f hc62] at hm1
                  simp only [cw_skip, qblock_normal, qseq_normal]
                  refine hK61 _ _ ?_
                  refine cw_assoc ?_
                  refine cw_reg_postK (fun t h => t 3 = .fp [.fs 5 (List.map eComb h_.Combs), .fs 3 (List.map eTrain h_.Trains), .fs 3 (List.map eShift h_.Shifts), I h_.Until] 0 ∧ t 5 = .fp [I w_.Comb, I w_.From, I w_.To] 0 ∧ t 7 = .fs 1 (List.map eL_I y20.1) ∧ t 9 = .fs 1 (List.map eI y22.1) ∧ t 11 = .fs 1 (List.map eI y24.1) ∧ t 13 = I left_13 ∧ t 14 = I sum_14 ∧ t 15 = I t_15 ∧ t 147 = B ((decide (w_.From ≤ t_15)) && (decide (t_15 ≤ w_.To)))) (fun K hK => ?_) ?_
                  · simp only [go_sem, s5, s15]
                    refine ibr_intro (fun hg63 => ?_) (fun hg63 => ?_)
                    · simp only [go_sem, s5, s15, hg63]
                      exact hK _ _ ⟨s3, s5, s7, s9, s11, s13, s14, s15, (by first | (simp only [go_sem, hg63, List.length_append, List.map_append]; done) | rfl)⟩
                    · simp only [go_sem, s5, s15, hg63]
                      exact hK _ _ ⟨s3, s5, s7, s9, s11, s13, s14, s15, (by first | (simp only [go_sem, hg63, List.length_append, List.map_append]; done) | rfl)⟩
                  · try clear s3 s5 s7 s9 s11 s13 s14 s15 s137
                    rintro t h ⟨s3, s5, s7, s9, s11, s13, s14, s15, s147⟩
                    refine cw_seq_k fun K64 hK64 => ?_
                    have J65 : ∀ (sum_14_1 : Int) (t : Slots) (h : Heap), t 3 = .fp [.fs 5 (List.map eComb h_.Combs), .fs 3 (List.map eTrain h_.Trains), .fs 3 (List.map eShift h_.Shifts), I h_.Until] 0 → t 5 = .fp [I w_.Comb, I w_.From, I w_.To] 0 → t 7 = .fs 1 (List.map eL_I y20.1) → t 9 = .fs 1 (List.map eI y22.1) → t 11 = .fs 1 (List.map eI y24.1) → t 14 = I sum_14_1 → t 15 = I t_15 → l06_HallsWithin_j65 w_ y20 y24 t_15 sum_14_1 = some o → K64 t h := by
                      try clear s3 s5 s7 s9 s11 s13 s14 s15 s147
                      intro sum_14_1 t h s3 s5 s7 s9 s11 s14 s15 hm1
                      refine hK64 _ _ ?_
                      unfold l06_HallsWithin_j65 at hm1
                      obtain ⟨x69, h_x69, hm1⟩ := bind_get hm1
                      have h_x690 := get_nn h_x69
                      have h_x691 := get_lt h_x69
                      obtain ⟨x70, h_x70, hm1⟩ := bind_get hm1
                      have h_x700 := get_nn h_x70
                      have h_x701 := get_lt h_x70
                      obtain ⟨x71, h_x71, hm1⟩ := bind_get hm1
                      have h_x710 := get_nn h_x71
                      have h_x711 := get_lt h_x71
                      refine cw_reg_k fun K hK => ?_
                      simp only [go_sem, s5, s7, s11, s15, ielem_get h_x69, irow_get h_x69, h_x690, h_x691, ielem_get h_x70, irow_get h_x70, h_x700, h_x701, ielem_get h_x71, irow_get h_x71, h_x710, h_x711]
                      refine hK _ _ ?_
                      clear hK K
                      simp only [qblock_normal, qseq_normal]
                      refine hK46 _ _ ?_
                      refine cw_reg_k fun K hK => ?_
                      simp only [go_sem, s15]
                      refine hK _ _ ?_
                      clear hK K
                      simp only [qblock_normal, qseq_normal]
                      obtain rfl := Option.some.inj hm1
                      refine ⟨_, rfl, ?_⟩
                      exact ⟨s3, s5, s7, s9, s11, (by first | (simp only [go_sem, List.length_append, List.map_append]; done) | rfl), s14, (by first | (simp only [go_sem, s15, List.length_append, List.map_append]; done) | rfl)⟩
                    simp only [go_sem, s147]
                    refine ibr_intro (fun hc72 => ?_) (fun hc72 => ?_)
                    · rw [if_t hc72] at hm1
                      obtain ⟨x74, h_x74, hm1⟩ := bind_get hm1
                      have h_x740 := get_nn h_x74
                      have h_x741 := get_lt h_x74
                      refine cw_reg_k fun K hK => ?_
                      simp only [go_sem, s5, s7, s13, s14, s15, ielem_get h_x74, irow_get h_x74, h_x740, h_x741, ielem_get h_x53, irow_get h_x53, h_x530, h_x531]
                      refine hK _ _ ?_
                      clear hK K
                      simp only [qblock_normal, qseq_normal]
                      exact J65 (wr (sum_14 + (wr (x74 - left_13)))) _ _ s3 s5 s7 s9 s11 (by first | (simp only [go_sem, s14, List.length_append, List.map_append]; done) | rfl) s15 hm1
                    · rw [if_f hc72] at hm1
                      simp only [cw_skip, qblock_normal, qseq_normal]
                      exact J65 sum_14 _ _ s3 s5 s7 s9 s11 s14 s15 hm1
            · rw [if_f hc45] at hm1
              simp only [cw_exit, qseq_exit, qblock_same, qblock_ne, qblock_normal, qseq_normal, Nat.reduceEqDiff, not_false_eq_true]
              obtain rfl := Option.some.inj hm1
              obtain rfl := hb43 _ rfl
              try dsimp only at hm0
              exact J33 sum_14 _ _ s3 s5 s14 hm0

end Go.Nw.HM

namespace Go.Nw.HM
open Go.Nw.Halls
set_option linter.unusedSimpArgs false
set_option linter.unusedVariables false
set_option maxHeartbeats 4000000
variable {O : Orac}

theorem k_l06_works (hf : Has O "newel/newellaw06.works" x_l06_works) (k_l06_Example : C_l06_Example O) (k_halls_Guard : C_halls_Guard O) (k_halls_Over : C_halls_Over O) : C_l06_works O := by
  intro r hm0
  unfold l06_works at hm0
  refine fn_cw hf rfl fz_nil (frz_v _) ?_
  refine cw_start (fun t h => True) trivial fun t h _ => ?_
  simp only [x_l06_works]
  refine cw_reg_seq fun K hK => ?_
  simp only [go_sem]
  refine hK _ _ ?_
  clear hK K
  obtain ⟨y2, h_y2, hm0⟩ := bind_get hm0
  refine cw_reg_seq fun K hK => ?_
  simp only [go_sem]
  refine icall_fn (k_l06_Example ()) ?_
  simp only [go_sem]
  refine icall_fn (k_halls_Guard l06_Example 0 5 _ h_y2) ?_
  simp only [go_sem]
  refine hK _ _ ?_
  clear hK K
  obtain ⟨y4, h_y4, hm0⟩ := bind_get hm0
  refine cw_reg_seq fun K hK => ?_
  simp only [go_sem]
  refine icall_fn (k_l06_Example ()) ?_
  simp only [go_sem]
  refine icall_fn (k_halls_Over l06_Example _ h_y4) ?_
  simp only [go_sem]
  refine hK _ _ ?_
  clear hK K
  obtain ⟨c8, h_c8, hm0⟩ := bind_get hm0
  refine cw_reg_postK (fun t h => t 0 = B c8) (fun K hK => ?_) ?_
  · simp only [go_sem]
    refine ibr_intro (fun hg9 => ?_) (fun hg9 => ?_)
    · simp only [go_sem, hg9]
      refine ibr_intro (fun hg10 => ?_) (fun hg10 => ?_)
      · simp only [go_sem, hg9, hg10]
        refine ibr_intro (fun hg11 => ?_) (fun hg11 => ?_)
        · simp only [go_sem, hg9, hg10, hg11]
          refine ibr_intro (fun hg12 => ?_) (fun hg12 => ?_)
          · simp only [hg9, hg10, hg11, hg12, Bool.not_true, Bool.not_false, eq_self, if_true, if_false, Bool.true_or, Bool.or_true, Bool.false_or, Bool.or_false, Bool.true_and, Bool.and_true, Bool.false_and, Bool.and_false, Bool.false_eq_true] at h_c8
            obtain ⟨x7, h_x7, h_c8⟩ := bind_get h_c8
            have h_x70 := get_nn h_x7
            have h_x71 := get_lt h_x7
            obtain rfl := Option.some.inj h_c8
            simp only [go_sem, ielem_get h_x7, irow_get h_x7, h_x70, h_x71, hg9, hg10, hg11, hg12]
            exact hK _ _ (by first | (simp only [go_sem, hg9, hg10, hg11, hg12, List.length_append, List.map_append]; done) | rfl)
          · simp only [hg9, hg10, hg11, hg12, Bool.not_true, Bool.not_false, eq_self, if_true, if_false, Bool.true_or, Bool.or_true, Bool.false_or, Bool.or_false, Bool.true_and, Bool.and_true, Bool.false_and, Bool.and_false, Bool.false_eq_true] at h_c8
            obtain rfl := Option.some.inj h_c8
            simp only [go_sem, hg9, hg10, hg11, hg12]
            exact hK _ _ (by first | (simp only [go_sem, hg9, hg10, hg11, hg12, List.length_append, List.map_append]; done) | rfl)
        · simp only [hg9, hg10, hg11, Bool.not_true, Bool.not_false, eq_self, if_true, if_false, Bool.true_or, Bool.or_true, Bool.false_or, Bool.or_false, Bool.true_and, Bool.and_true, Bool.false_and, Bool.and_false, Bool.false_eq_true] at h_c8
          obtain rfl := Option.some.inj h_c8
          simp only [go_sem, hg9, hg10, hg11]
          exact hK _ _ (by first | (simp only [go_sem, hg9, hg10, hg11, List.length_append, List.map_append]; done) | rfl)
      · simp only [hg9, hg10, Bool.not_true, Bool.not_false, eq_self, if_true, if_false, Bool.true_or, Bool.or_true, Bool.false_or, Bool.or_false, Bool.true_and, Bool.and_true, Bool.false_and, Bool.and_false, Bool.false_eq_true] at h_c8
        obtain rfl := Option.some.inj h_c8
        simp only [go_sem, hg9, hg10]
        exact hK _ _ (by first | (simp only [go_sem, hg9, hg10, List.length_append, List.map_append]; done) | rfl)
    · simp only [hg9, Bool.not_true, Bool.not_false, eq_self, if_true, if_false, Bool.true_or, Bool.or_true, Bool.false_or, Bool.or_false, Bool.true_and, Bool.and_true, Bool.false_and, Bool.and_false, Bool.false_eq_true] at h_c8
      obtain rfl := Option.some.inj h_c8
      simp only [go_sem, hg9]
      exact hK _ _ (by first | (simp only [go_sem, hg9, List.length_append, List.map_append]; done) | rfl)
  · rintro t h s0
    simp only [cw_ret, qseq_ret, qblock_ret, retQ_ret]
    obtain rfl := Option.some.inj hm0
    exact done_t (by simp only [go_sem, s0, List.length_append, List.map_append]) (frz_v _)

end Go.Nw.HM

namespace Go.Nw.HM
open Go.Nw.Halls
set_option linter.unusedSimpArgs false
set_option linter.unusedVariables false
set_option maxHeartbeats 4000000
variable {O : Orac}

theorem k_r06_Check (hf : Has O "newel/newelref06.Check" x_r06_Check) (k_r06_within : C_r06_within O) (k_r06_spanned : C_r06_spanned O) : C_r06_Check O := by
  intro h_ r hm0
  unfold r06_Check at hm0
  refine fn_cw hf rfl (fz_cons (.agg _ (fz_cons (frz_fs fun a _ => fz_eComb a) (fz_cons (frz_fs fun a _ => fz_eTrain a) (fz_cons (frz_fs fun a _ => fz_eShift a) (fz_cons (frz_v _) fz_nil))))) fz_nil) (frz_v _) ?_
  refine cw_start (fun t h => t 0 = .agg [.fs 5 (List.map eComb h_.Combs), .fs 3 (List.map eTrain h_.Trains), .fs 3 (List.map eShift h_.Shifts), I h_.Until]) rfl fun t h s0 => ?_
  simp only [x_r06_Check]
  refine cw_reg_seq fun K hK => ?_
  simp only [go_sem, s0]
  refine hK _ _ ?_
  clear hK K
  refine cw_assoc ?_
  refine cw_reg_postK (fun t h => t 1 = .fp [.fs 5 (List.map eComb h_.Combs), .fs 3 (List.map eTrain h_.Trains), .fs 3 (List.map eShift h_.Shifts), I h_.Until] 0 ∧ t 34 = B ((((!(r06_within h_.Until 1 100)) || (!(r06_within (List.length h_.Combs : Int) 1 8))) || (decide (12 < (List.length h_.Trains : Int)))) || (decide (20 < (List.length h_.Shifts : Int))))) (fun K hK => ?_) ?_
  · simp only [go_sem]
    refine icall_fn (k_r06_within h_.Until 1 100) ?_
    simp only [go_sem]
    refine ibr_intro (fun hg1 => ?_) (fun hg1 => ?_)
    · simp only [go_sem, hg1]
      exact hK _ _ ⟨(by first | (simp only [go_sem, hg1, List.length_append, List.map_append]; done) | rfl), (by first | (simp only [go_sem, hg1, List.length_append, List.map_append]; done) | rfl)⟩
    · simp only [go_sem, hg1]
      refine icall_fn (k_r06_within (List.length h_.Combs : Int) 1 8) ?_
      simp only [go_sem, hg1]
      refine ibr_intro (fun hg2 => ?_) (fun hg2 => ?_)
      · simp only [go_sem, hg1, hg2]
        exact hK _ _ ⟨(by first | (simp only [go_sem, hg1, hg2, List.length_append, List.map_append]; done) | rfl), (by first | (simp only [go_sem, hg1, hg2, List.length_append, List.map_append]; done) | rfl)⟩
      · simp only [go_sem, hg1, hg2]
        refine ibr_intro (fun hg3 => ?_) (fun hg3 => ?_)
        · simp only [go_sem, hg1, hg2, hg3]
          exact hK _ _ ⟨(by first | (simp only [go_sem, hg1, hg2, hg3, List.length_append, List.map_append]; done) | rfl), (by first | (simp only [go_sem, hg1, hg2, hg3, List.length_append, List.map_append]; done) | rfl)⟩
        · simp only [go_sem, hg1, hg2, hg3]
          exact hK _ _ ⟨(by first | (simp only [go_sem, hg1, hg2, hg3, List.length_append, List.map_append]; done) | rfl), (by first | (simp only [go_sem, hg1, hg2, hg3, List.length_append, List.map_append]; done) | rfl)⟩
  · rintro t h ⟨s1, s34⟩
    refine cw_seq_k fun K4 hK4 => ?_
    simp only [go_sem, s34]
    refine ibr_intro (fun hc5 => ?_) (fun hc5 => ?_)
    · rw [if_t hc5] at hm0
      refine cw_reg_seq fun K hK => ?_
      simp only [go_sem]
      refine hK _ _ ?_
      clear hK K
      simp only [cw_ret, qseq_ret, qblock_ret, retQ_ret]
      obtain rfl := Option.some.inj hm0
      exact done_t (by simp only [go_sem, List.length_append, List.map_append]) (frz_v _)
    · rw [if_f hc5] at hm0
      simp only [cw_skip, qblock_normal, qseq_normal]
      refine hK4 _ _ ?_
      refine cw_reg_seq fun K hK => ?_
      simp only [go_sem, s1]
      refine hK _ _ ?_
      clear hK K
      refine cw_assoc ?_
      refine cw_reg_seq fun K hK => ?_
      simp only [go_sem]
      refine hK _ _ ?_
      clear hK K
      refine cw_seq_k fun K6 hK6 => ?_
      have J7 : ∀ (t : Slots) (h : Heap), t 1 = .fp [.fs 5 (List.map eComb h_.Combs), .fs 3 (List.map eTrain h_.Trains), .fs 3 (List.map eShift h_.Shifts), I h_.Until] 0 → t 3 = I (List.length h_.Combs : Int) → r06_Check_j7 h_ = some r → K6 t h := by
        intro t h s1 s3 hm0
        refine hK6 _ _ ?_
        unfold r06_Check_j7 at hm0
        refine cw_assoc ?_
        refine cw_reg_seq fun K hK => ?_
        simp only [go_sem]
        refine hK _ _ ?_
        clear hK K
        refine cw_seq_k fun K8 hK8 => ?_
        have J9 : ∀ (t : Slots) (h : Heap), t 1 = .fp [.fs 5 (List.map eComb h_.Combs), .fs 3 (List.map eTrain h_.Trains), .fs 3 (List.map eShift h_.Shifts), I h_.Until] 0 → t 3 = I (List.length h_.Combs : Int) → r06_Check_j9 h_ = some r → K8 t h := by
          intro t h s1 s3 hm0
          refine hK8 _ _ ?_
          unfold r06_Check_j9 at hm0
          refine cw_assoc ?_
          refine cw_reg_seq fun K hK => ?_
          simp only [go_sem]
          refine hK _ _ ?_
          clear hK K
          refine cw_seq_k fun K10 hK10 => ?_
          have J11 : ∀ (t : Slots) (h : Heap), r06_Check_j11 = some r → K10 t h := by
            intro t h hm0
            refine hK10 _ _ ?_
            unfold r06_Check_j11 at hm0
            refine cw_reg_seq fun K hK => ?_
            simp only [go_sem]
            refine hK _ _ ?_
            clear hK K
            simp only [cw_ret, qseq_ret, qblock_ret, retQ_ret]
            obtain rfl := Option.some.inj hm0
            exact done_t (by simp only [go_sem, List.length_append, List.map_append]) (frz_v _)
          simp only [cw_block]
          obtain ⟨b12, hl12, hm0⟩ := bind_get hm0
          refine cw_loopM hl12 (fun | i_10, t, h => t 1 = .fp [.fs 5 (List.map eComb h_.Combs), .fs 3 (List.map eTrain h_.Trains), .fs 3 (List.map eShift h_.Shifts), I h_.Until] 0 ∧ t 3 = I (List.length h_.Combs : Int) ∧ t 10 = I i_10) ?_ ?_
          · exact ⟨s1, s3, (by first | (simp only [go_sem, List.length_append, List.map_append]; done) | rfl)⟩
          · rintro i_10 o t h ⟨s1, s3, s10⟩ hm1 hb12
            simp only [r06_Check_L32] at hm1
            rw [x_r06_Check_L32]
            refine cw_assoc ?_
            refine cw_reg_seq fun K hK => ?_
            simp only [go_sem, s1, s10]
            refine hK _ _ ?_
            clear hK K
            refine cw_seq_k fun K13 hK13 => ?_
            simp only [go_sem]
            refine ibr_intro (fun hc14 => ?_) (fun hc14 => ?_)
            · rw [if_t hc14] at hm1
              simp only [cw_skip, qblock_normal, qseq_normal]
              refine hK13 _ _ ?_
              refine cw_seq_k fun K15 hK15 => ?_
              simp only [cw_block]
              obtain ⟨x17, h_x17, hm1⟩ := bind_get hm1
              have h_x170 := get_nn h_x17
              have h_x171 := get_lt h_x17
              refine cw_reg_seq fun K hK => ?_
              simp only [go_sem, s1, s10, ielem_get h_x17, irow_get h_x17, h_x170, h_x171]
              refine hK _ _ ?_
              clear hK K
              obtain ⟨c23, h_c23, hm1⟩ := bind_get hm1
              refine cw_reg_postK (fun t h => t 1 = .fp [.fs 5 (List.map eComb h_.Combs), .fs 3 (List.map eTrain h_.Trains), .fs 3 (List.map eShift h_.Shifts), I h_.Until] 0 ∧ t 3 = I (List.length h_.Combs : Int) ∧ t 10 = I i_10 ∧ t 187 = B c23) (fun K hK => ?_) ?_
              · simp only [go_sem, s1, s3, s10]
                refine icall_fn (k_r06_within x17.At 0 (wr (h_.Until - 1))) ?_
                simp only [go_sem, s1, s3, s10]
                refine ibr_intro (fun hg24 => ?_) (fun hg24 => ?_)
                · simp only [hg24, Bool.not_true, Bool.not_false, eq_self, if_true, if_false, Bool.true_or, Bool.or_true, Bool.false_or, Bool.or_false, Bool.true_and, Bool.and_true, Bool.false_and, Bool.and_false, Bool.false_eq_true] at h_c23
                  obtain rfl := Option.some.inj h_c23
                  simp only [go_sem, s1, s3, s10, hg24]
                  exact hK _ _ ⟨s1, s3, s10, (by first | (simp only [go_sem, hg24, List.length_append, List.map_append]; done) | rfl)⟩
                · simp only [go_sem, s1, s3, s10, hg24]
                  refine icall_fn (k_r06_within x17.Comb 0 (wr ((List.length h_.Combs : Int) - 1))) ?_
                  simp only [go_sem, s1, s3, s10, hg24]
                  refine ibr_intro (fun hg25 => ?_) (fun hg25 => ?_)
                  · simp only [hg24, hg25, Bool.not_true, Bool.not_false, eq_self, if_true, if_false, Bool.true_or, Bool.or_true, Bool.false_or, Bool.or_false, Bool.true_and, Bool.and_true, Bool.false_and, Bool.and_false, Bool.false_eq_true] at h_c23
                    obtain rfl := Option.some.inj h_c23
                    simp only [go_sem, s1, s3, s10, hg24, hg25]
                    exact hK _ _ ⟨s1, s3, s10, (by first | (simp only [go_sem, hg24, hg25, List.length_append, List.map_append]; done) | rfl)⟩
                  · simp only [go_sem, s1, s3, s10, hg24, hg25]
                    refine icall_fn (k_r06_within x17.Rate 0 1000) ?_
                    simp only [go_sem, s1, s3, s10, hg24, hg25]
                    refine ibr_intro (fun hg26 => ?_) (fun hg26 => ?_)
                    · simp only [hg24, hg25, hg26, Bool.not_true, Bool.not_false, eq_self, if_true, if_false, Bool.true_or, Bool.or_true, Bool.false_or, Bool.or_false, Bool.true_and, Bool.and_true, Bool.false_and, Bool.and_false, Bool.false_eq_true] at h_c23
                      obtain rfl := Option.some.inj h_c23
                      simp only [go_sem, s1, s3, s10, hg24, hg25, hg26]
                      exact hK _ _ ⟨s1, s3, s10, (by first | (simp only [go_sem, hg24, hg25, hg26, List.length_append, List.map_append]; done) | rfl)⟩
                    · simp only [hg24, hg25, hg26, Bool.not_true, Bool.not_false, eq_self, if_true, if_false, Bool.true_or, Bool.or_true, Bool.false_or, Bool.or_false, Bool.true_and, Bool.and_true, Bool.false_and, Bool.and_false, Bool.false_eq_true] at h_c23
                      obtain ⟨c22, h_c22, h_c23⟩ := bind_get h_c23
                      obtain rfl := Option.some.inj h_c23
                      simp only [go_sem, s1, s3, s10, hg24, hg25, hg26]
                      refine ibr_intro (fun hg27 => ?_) (fun hg27 => ?_)
                      · simp only [hg24, hg25, hg26, hg27, Bool.not_true, Bool.not_false, eq_self, if_true, if_false, Bool.true_or, Bool.or_true, Bool.false_or, Bool.or_false, Bool.true_and, Bool.and_true, Bool.false_and, Bool.and_false, Bool.false_eq_true] at h_c22
                        obtain ⟨x21, h_x21, h_c22⟩ := bind_get h_c22
                        have h_x210 := get_nn h_x21
                        have h_x211 := get_lt h_x21
                        obtain rfl := Option.some.inj h_c22
                        simp only [go_sem, s1, s3, s10, ielem_get h_x21, irow_get h_x21, h_x210, h_x211, hg24, hg25, hg26, hg27]
                        exact hK _ _ ⟨s1, s3, s10, (by first | (simp only [go_sem, hg24, hg25, hg26, hg27, List.length_append, List.map_append]; done) | rfl)⟩
                      · simp only [hg24, hg25, hg26, hg27, Bool.not_true, Bool.not_false, eq_self, if_true, if_false, Bool.true_or, Bool.or_true, Bool.false_or, Bool.or_false, Bool.true_and, Bool.and_true, Bool.false_and, Bool.and_false, Bool.false_eq_true] at h_c22
                        obtain rfl := Option.some.inj h_c22
                        simp only [go_sem, s1, s3, s10, hg24, hg25, hg26, hg27]
                        exact hK _ _ ⟨s1, s3, s10, (by first | (simp only [go_sem, hg24, hg25, hg26, hg27, List.length_append, List.map_append]; done) | rfl)⟩
              · rintro t h ⟨s1, s3, s10, s187⟩
                simp only [go_sem, s187]
                refine ibr_intro (fun hc28 => ?_) (fun hc28 => ?_)
                · rw [if_t hc28] at hm1
                  refine cw_reg_seq fun K hK => ?_
                  simp only [go_sem]
                  refine hK _ _ ?_
                  clear hK K
                  simp only [cw_ret, qseq_ret, qblock_ret, retQ_ret]
                  obtain rfl := Option.some.inj hm1
                  obtain rfl := hb12 _ rfl
                  try dsimp only at hm0
                  obtain rfl := Option.some.inj hm0
                  exact done_t (by simp only [go_sem, List.length_append, List.map_append]) (frz_v _)
                · rw [if_f hc28] at hm1
                  simp only [cw_skip, qblock_normal, qseq_normal]
                  refine hK15 _ _ ?_
                  refine cw_reg_k fun K hK => ?_
                  simp only [go_sem, s10]
                  refine hK _ _ ?_
                  clear hK K
                  simp only [qblock_normal, qseq_normal]
                  obtain rfl := Option.some.inj hm1
                  refine ⟨_, rfl, ?_⟩
                  exact ⟨s1, s3, (by first | (simp only [go_sem, s10, List.length_append, List.map_append]; done) | rfl)⟩
            · rw [if_f hc14] at hm1
              simp only [cw_exit, qseq_exit, qblock_same, qblock_ne, qblock_normal, qseq_normal, Nat.reduceEqDiff, not_false_eq_true]
              obtain rfl := Option.some.inj hm1
              obtain rfl := hb12 _ rfl
              try dsimp only at hm0
              exact J11  _ _  hm0
        simp only [cw_block]
        obtain ⟨b30, hl30, hm0⟩ := bind_get hm0
        refine cw_loopM hl30 (fun | i_6, t, h => t 1 = .fp [.fs 5 (List.map eComb h_.Combs), .fs 3 (List.map eTrain h_.Trains), .fs 3 (List.map eShift h_.Shifts), I h_.Until] 0 ∧ t 3 = I (List.length h_.Combs : Int) ∧ t 6 = I i_6) ?_ ?_
        · exact ⟨s1, s3, (by first | (simp only [go_sem, List.length_append, List.map_append]; done) | rfl)⟩
        · rintro i_6 o t h ⟨s1, s3, s6⟩ hm1 hb30
          simp only [r06_Check_L25] at hm1
          rw [x_r06_Check_L25]
          refine cw_assoc ?_
          refine cw_reg_seq fun K hK => ?_
          simp only [go_sem, s1, s6]
          refine hK _ _ ?_
          clear hK K
          refine cw_seq_k fun K31 hK31 => ?_
          simp only [go_sem]
          refine ibr_intro (fun hc32 => ?_) (fun hc32 => ?_)
          · rw [if_t hc32] at hm1
            simp only [cw_skip, qblock_normal, qseq_normal]
            refine hK31 _ _ ?_
            refine cw_seq_k fun K33 hK33 => ?_
            have J34 : ∀ (t : Slots) (h : Heap), t 1 = .fp [.fs 5 (List.map eComb h_.Combs), .fs 3 (List.map eTrain h_.Trains), .fs 3 (List.map eShift h_.Shifts), I h_.Until] 0 → t 3 = I (List.length h_.Combs : Int) → t 6 = I i_6 → r06_Check_j34 i_6 = some o → K33 t h := by
              intro t h s1 s3 s6 hm1
              refine hK33 _ _ ?_
              unfold r06_Check_j34 at hm1
              refine cw_reg_k fun K hK => ?_
              simp only [go_sem, s6]
              refine hK _ _ ?_
              clear hK K
              simp only [qblock_normal, qseq_normal]
              obtain rfl := Option.some.inj hm1
              refine ⟨_, rfl, ?_⟩
              exact ⟨s1, s3, (by first | (simp only [go_sem, s6, List.length_append, List.map_append]; done) | rfl)⟩
            simp only [cw_block]
            obtain ⟨x36, h_x36, hm1⟩ := bind_get hm1
            have h_x360 := get_nn h_x36
            have h_x361 := get_lt h_x36
            refine cw_reg_seq fun K hK => ?_
            simp only [go_sem, s1, s6, ielem_get h_x36, irow_get h_x36, h_x360, h_x361]
            refine hK _ _ ?_
            clear hK K
            refine cw_assoc ?_
            refine cw_reg_postK (fun t h => ∃ i7 : Nat, t 1 = .fp [.fs 5 (List.map eComb h_.Combs), .fs 3 (List.map eTrain h_.Trains), .fs 3 (List.map eShift h_.Shifts), I h_.Until] 0 ∧ t 3 = I (List.length h_.Combs : Int) ∧ t 6 = I i_6 ∧ t 7 = .rp i7 0 0 ∧ t 103 = B ((!(r06_spanned x36.At 0 (wr (h_.Until - 1)))) || (decide (4 < (List.length x36.Crowds : Int)))) ∧ h.ob i7 = some (3, [[I x36.At.Low, I x36.At.High, .fs 3 (List.map eCrowd x36.Crowds)]]) ∧ i7 < h.nx) (fun K hK => ?_) ?_
            · simp only [go_sem, s1]
              refine icall_fn (k_r06_spanned x36.At 0 (wr (h_.Until - 1))) ?_
              simp only [go_sem, s1]
              refine ibr_intro (fun hg37 => ?_) (fun hg37 => ?_)
              · simp only [go_sem, s1, hg37]
                exact hK _ _ ⟨h.nx, s1, s3, s6, (by first | (simp only [go_sem, hg37, List.length_append, List.map_append]; done) | rfl), (by first | (simp only [go_sem, hg37, List.length_append, List.map_append]; done) | rfl), (by simp only [go_sem, hg37, List.length_append, List.map_append]), (by simp only [go_sem])⟩
              · simp only [go_sem, s1, hg37]
                exact hK _ _ ⟨h.nx, s1, s3, s6, (by first | (simp only [go_sem, hg37, List.length_append, List.map_append]; done) | rfl), (by first | (simp only [go_sem, hg37, List.length_append, List.map_append]; done) | rfl), (by simp only [go_sem, hg37, List.length_append, List.map_append]), (by simp only [go_sem])⟩
            · rintro t h ⟨i7, s1, s3, s6, s7, s103, qa, q0⟩
              refine cw_seq_k fun K38 hK38 => ?_
              simp only [go_sem, s103]
              refine ibr_intro (fun hc39 => ?_) (fun hc39 => ?_)
              · rw [if_t hc39] at hm1
                refine cw_reg_seq fun K hK => ?_
                simp only [go_sem, q0]
                refine hK _ _ ?_
                clear hK K
                simp only [cw_ret, qseq_ret, qblock_ret, retQ_ret]
                obtain rfl := Option.some.inj hm1
                obtain rfl := hb30 _ rfl
                try dsimp only at hm0
                obtain rfl := Option.some.inj hm0
                exact done_t (by simp only [go_sem, qa, q0, List.length_append, List.map_append]) (frz_v _)
              · rw [if_f hc39] at hm1
                simp only [cw_skip, qblock_normal, qseq_normal]
                refine hK38 _ _ ?_
                refine cw_reg_seq fun K hK => ?_
                simp only [go_sem, q0]
                refine hK _ _ ?_
                clear hK K
                refine cw_reg_seq fun K hK => ?_
                simp only [go_sem, q0]
                refine hK _ _ ?_
                clear hK K
                simp only [cw_block]
                obtain ⟨b40, hl40, hm1⟩ := bind_get hm1
                refine cw_loopM hl40 (fun | (last_8, k_9), t, h => t 1 = .fp [.fs 5 (List.map eComb h_.Combs), .fs 3 (List.map eTrain h_.Trains), .fs 3 (List.map eShift h_.Shifts), I h_.Until] 0 ∧ t 3 = I (List.length h_.Combs : Int) ∧ t 6 = I i_6 ∧ t 7 = .rp i7 0 0 ∧ t 8 = I last_8 ∧ t 9 = I k_9 ∧ h.ob i7 = some (3, [[I x36.At.Low, I x36.At.High, .fs 3 (List.map eCrowd x36.Crowds)]]) ∧ i7 < h.nx) ?_ ?_
                · exact ⟨s1, s3, s6, s7, (by first | (simp only [go_sem, List.length_append, List.map_append]; done) | rfl), (by first | (simp only [go_sem, List.length_append, List.map_append]; done) | rfl), qa, q0⟩
                · rintro ⟨last_8, k_9⟩ o t h ⟨s1, s3, s6, s7, s8, s9, qa, q0⟩ hm2 hb40
                  simp only [r06_Check_L23] at hm2
                  rw [x_r06_Check_L23]
                  refine cw_assoc ?_
                  refine cw_reg_seq fun K hK => ?_
                  simp only [go_sem, s7, s9, qa, q0]
                  refine hK _ _ ?_
                  clear hK K
                  refine cw_seq_k fun K41 hK41 => ?_
                  simp only [go_sem]
                  refine ibr_intro (fun hc42 => ?_) (fun hc42 => ?_)
                  · rw [if_t hc42] at hm2
                    simp only [cw_skip, qblock_normal, qseq_normal]
                    refine hK41 _ _ ?_
                    refine cw_seq_k fun K43 hK43 => ?_
                    simp only [cw_block]
                    refine cw_assoc ?_
                    obtain ⟨x45, h_x45, hm2⟩ := bind_get hm2
                    have h_x450 := get_nn h_x45
                    have h_x451 := get_lt h_x45
                    refine cw_reg_postK (fun t h => t 1 = .fp [.fs 5 (List.map eComb h_.Combs), .fs 3 (List.map eTrain h_.Trains), .fs 3 (List.map eShift h_.Shifts), I h_.Until] 0 ∧ t 3 = I (List.length h_.Combs : Int) ∧ t 6 = I i_6 ∧ t 7 = .rp i7 0 0 ∧ t 9 = I k_9 ∧ t 132 = B ((!(r06_within x45.Comb (wr (last_8 + 1)) (wr ((List.length h_.Combs : Int) - 1)))) || (!(r06_spanned x45.People 0 1000))) ∧ h.ob i7 = some (3, [[I x36.At.Low, I x36.At.High, .fs 3 (List.map eCrowd x36.Crowds)]]) ∧ i7 < h.nx) (fun K hK => ?_) ?_
                    · simp only [go_sem, s3, s7, s8, s9, qa, q0, ielem_get h_x45, irow_get h_x45, h_x450, h_x451]
                      refine icall_fn (k_r06_within x45.Comb (wr (last_8 + 1)) (wr ((List.length h_.Combs : Int) - 1))) ?_
                      simp only [go_sem, s3, s7, s8, s9, qa, q0, ielem_get h_x45, irow_get h_x45, h_x450, h_x451]
                      refine ibr_intro (fun hg46 => ?_) (fun hg46 => ?_)
                      · simp only [go_sem, s3, s7, s8, s9, qa, q0, ielem_get h_x45, irow_get h_x45, h_x450, h_x451, hg46]
                        exact hK _ _ ⟨s1, s3, s6, s7, s9, (by first | (simp only [go_sem, hg46, List.length_append, List.map_append]; done) | rfl), qa, q0⟩
                      · simp only [go_sem, s3, s7, s8, s9, qa, q0, ielem_get h_x45, irow_get h_x45, h_x450, h_x451, hg46]
                        refine icall_fn (k_r06_spanned x45.People 0 1000) ?_
                        simp only [go_sem, s3, s7, s8, s9, qa, q0, ielem_get h_x45, irow_get h_x45, h_x450, h_x451, hg46]
                        exact hK _ _ ⟨s1, s3, s6, s7, s9, (by first | (simp only [go_sem, hg46, List.length_append, List.map_append]; done) | rfl), qa, q0⟩
                    · rintro t h ⟨s1, s3, s6, s7, s9, s132, qa, q0⟩
                      refine cw_seq_k fun K47 hK47 => ?_
                      simp only [go_sem, s132]
                      refine ibr_intro (fun hc48 => ?_) (fun hc48 => ?_)
                      · rw [if_t hc48] at hm2
                        refine cw_reg_seq fun K hK => ?_
                        simp only [go_sem, q0]
                        refine hK _ _ ?_
                        clear hK K
                        simp only [cw_ret, qseq_ret, qblock_ret, retQ_ret]
                        obtain rfl := Option.some.inj hm2
                        obtain rfl := hb40 _ rfl
                        try dsimp only at hm1
                        obtain rfl := Option.some.inj hm1
                        obtain rfl := hb30 _ rfl
                        try dsimp only at hm0
                        obtain rfl := Option.some.inj hm0
                        exact done_t (by simp only [go_sem, qa, q0, List.length_append, List.map_append]) (frz_v _)
                      · rw [if_f hc48] at hm2
                        simp only [cw_skip, qblock_normal, qseq_normal]
                        refine hK47 _ _ ?_
                        refine cw_reg_k fun K hK => ?_
                        simp only [go_sem, s7, s9, qa, q0, ielem_get h_x45, irow_get h_x45, h_x450, h_x451]
                        refine hK _ _ ?_
                        clear hK K
                        simp only [qblock_normal, qseq_normal]
                        refine hK43 _ _ ?_
                        refine cw_reg_k fun K hK => ?_
                        simp only [go_sem, s9, q0]
                        refine hK _ _ ?_
                        clear hK K
                        simp only [qblock_normal, qseq_normal]
                        obtain rfl := Option.some.inj hm2
                        refine ⟨_, rfl, ?_⟩
                        exact ⟨s1, s3, s6, s7, (by first | (simp only [go_sem, List.length_append, List.map_append]; done) | rfl), (by first | (simp only [go_sem, s9, List.length_append, List.map_append]; done) | rfl), qa, q0⟩
                  · rw [if_f hc42] at hm2
                    simp only [cw_exit, qseq_exit, qblock_same, qblock_ne, qblock_normal, qseq_normal, Nat.reduceEqDiff, not_false_eq_true]
                    obtain rfl := Option.some.inj hm2
                    obtain rfl := hb40 _ rfl
                    try dsimp only at hm1
                    exact J34  _ _ s1 s3 s6 hm1
          · rw [if_f hc32] at hm1
            simp only [cw_exit, qseq_exit, qblock_same, qblock_ne, qblock_normal, qseq_normal, Nat.reduceEqDiff, not_false_eq_true]
            obtain rfl := Option.some.inj hm1
            obtain rfl := hb30 _ rfl
            try dsimp only at hm0
            exact J9  _ _ s1 s3 hm0
      simp only [cw_block]
      obtain ⟨b51, hl51, hm0⟩ := bind_get hm0
      refine cw_loopM hl51 (fun | i_4, t, h => t 1 = .fp [.fs 5 (List.map eComb h_.Combs), .fs 3 (List.map eTrain h_.Trains), .fs 3 (List.map eShift h_.Shifts), I h_.Until] 0 ∧ t 3 = I (List.length h_.Combs : Int) ∧ t 4 = I i_4) ?_ ?_
      · exact ⟨s1, (by first | (simp only [go_sem, List.length_append, List.map_append]; done) | rfl), (by first | (simp only [go_sem, List.length_append, List.map_append]; done) | rfl)⟩
      · rintro i_4 o t h ⟨s1, s3, s4⟩ hm1 hb51
        simp only [r06_Check_L10] at hm1
        rw [x_r06_Check_L10]
        refine cw_assoc ?_
        refine cw_reg_seq fun K hK => ?_
        simp only [go_sem, s3, s4]
        refine hK _ _ ?_
        clear hK K
        refine cw_seq_k fun K52 hK52 => ?_
        simp only [go_sem]
        refine ibr_intro (fun hc53 => ?_) (fun hc53 => ?_)
        · rw [if_t hc53] at hm1
          simp only [cw_skip, qblock_normal, qseq_normal]
          refine hK52 _ _ ?_
          refine cw_seq_k fun K54 hK54 => ?_
          simp only [cw_block]
          obtain ⟨x56, h_x56, hm1⟩ := bind_get hm1
          have h_x560 := get_nn h_x56
          have h_x561 := get_lt h_x56
          refine cw_reg_seq fun K hK => ?_
          simp only [go_sem, s1, s4, ielem_get h_x56, irow_get h_x56, h_x560, h_x561]
          refine hK _ _ ?_
          clear hK K
          refine cw_reg_postK (fun t h => t 1 = .fp [.fs 5 (List.map eComb h_.Combs), .fs 3 (List.map eTrain h_.Trains), .fs 3 (List.map eShift h_.Shifts), I h_.Until] 0 ∧ t 3 = I (List.length h_.Combs : Int) ∧ t 4 = I i_4 ∧ t 78 = B ((((!(r06_within x56.Rate 0 1000)) || (!(r06_within x56.Limit 0 100000))) || ((decide (¬x56.Next = (-1))) && (!(r06_within x56.Next (wr (i_4 + 1)) (wr ((List.length h_.Combs : Int) - 1)))))) || (!(r06_spanned x56.Walk 1 20)))) (fun K hK => ?_) ?_
          · simp only [go_sem, s3, s4]
            refine icall_fn (k_r06_within x56.Rate 0 1000) ?_
            simp only [go_sem, s3, s4]
            refine ibr_intro (fun hg57 => ?_) (fun hg57 => ?_)
            · simp only [go_sem, s3, s4, hg57]
              exact hK _ _ ⟨s1, s3, s4, (by first | (simp only [go_sem, hg57, List.length_append, List.map_append]; done) | rfl)⟩
            · simp only [go_sem, s3, s4, hg57]
              refine icall_fn (k_r06_within x56.Limit 0 100000) ?_
              simp only [go_sem, s3, s4, hg57]
              refine ibr_intro (fun hg58 => ?_) (fun hg58 => ?_)
              · simp only [go_sem, s3, s4, hg57, hg58]
                exact hK _ _ ⟨s1, s3, s4, (by first | (simp only [go_sem, hg57, hg58, List.length_append, List.map_append]; done) | rfl)⟩
              · simp only [go_sem, s3, s4, hg57, hg58]
                refine ibr_intro (fun hg59 => ?_) (fun hg59 => ?_)
                · simp only [go_sem, s3, s4, hg57, hg58, hg59]
                  refine icall_fn (k_r06_within x56.Next (wr (i_4 + 1)) (wr ((List.length h_.Combs : Int) - 1))) ?_
                  simp only [go_sem, s3, s4, hg57, hg58, hg59]
                  refine ibr_intro (fun hg60 => ?_) (fun hg60 => ?_)
                  · simp only [go_sem, s3, s4, hg57, hg58, hg59, hg60]
                    exact hK _ _ ⟨s1, s3, s4, (by first | (simp only [go_sem, hg57, hg58, hg59, hg60, List.length_append, List.map_append]; done) | rfl)⟩
                  · simp only [go_sem, s3, s4, hg57, hg58, hg59, hg60]
                    refine icall_fn (k_r06_spanned x56.Walk 1 20) ?_
                    simp only [go_sem, s3, s4, hg57, hg58, hg59, hg60]
                    exact hK _ _ ⟨s1, s3, s4, (by first | (simp only [go_sem, hg57, hg58, hg59, hg60, List.length_append, List.map_append]; done) | rfl)⟩
                · simp only [go_sem, s3, s4, hg57, hg58, hg59]
                  refine icall_fn (k_r06_spanned x56.Walk 1 20) ?_
                  simp only [go_sem, s3, s4, hg57, hg58, hg59]
                  exact hK _ _ ⟨s1, s3, s4, (by first | (simp only [go_sem, hg57, hg58, hg59, List.length_append, List.map_append]; done) | rfl)⟩
          · rintro t h ⟨s1, s3, s4, s78⟩
            simp only [go_sem, s78]
            refine ibr_intro (fun hc61 => ?_) (fun hc61 => ?_)
            · rw [if_t hc61] at hm1
              refine cw_reg_seq fun K hK => ?_
              simp only [go_sem]
              refine hK _ _ ?_
              clear hK K
              simp only [cw_ret, qseq_ret, qblock_ret, retQ_ret]
              obtain rfl := Option.some.inj hm1
              obtain rfl := hb51 _ rfl
              try dsimp only at hm0
              obtain rfl := Option.some.inj hm0
              exact done_t (by simp only [go_sem, List.length_append, List.map_append]) (frz_v _)
            · rw [if_f hc61] at hm1
              simp only [cw_skip, qblock_normal, qseq_normal]
              refine hK54 _ _ ?_
              refine cw_reg_k fun K hK => ?_
              simp only [go_sem, s4]
              refine hK _ _ ?_
              clear hK K
              simp only [qblock_normal, qseq_normal]
              obtain rfl := Option.some.inj hm1
              refine ⟨_, rfl, ?_⟩
              exact ⟨s1, s3, (by first | (simp only [go_sem, s4, List.length_append, List.map_append]; done) | rfl)⟩
        · rw [if_f hc53] at hm1
          simp only [cw_exit, qseq_exit, qblock_same, qblock_ne, qblock_normal, qseq_normal, Nat.reduceEqDiff, not_false_eq_true]
          obtain rfl := Option.some.inj hm1
          obtain rfl := hb51 _ rfl
          try dsimp only at hm0
          exact J7  _ _ s1 s3 hm0

end Go.Nw.HM

namespace Go.Nw.HM
open Go.Nw.Halls
set_option linter.unusedSimpArgs false
set_option linter.unusedVariables false
set_option maxHeartbeats 4000000
variable {O : Orac}

theorem k_r06_spanned (hf : Has O "newel/newelref06.spanned" x_r06_spanned) : C_r06_spanned O := by
  intro s low high
  generalize hm0 : r06_spanned s low high = r
  unfold r06_spanned at hm0
  refine fn_cw hf rfl (fz_cons (.agg _ (fz_cons (frz_v _) (fz_cons (frz_v _) fz_nil))) (fz_cons (frz_v _) (fz_cons (frz_v _) fz_nil))) (frz_v _) ?_
  refine cw_start (fun t h => t 0 = .agg [I s.Low, I s.High] ∧ t 1 = I low ∧ t 2 = I high) ⟨rfl, rfl, rfl⟩ fun t h ⟨s0, s1, s2⟩ => ?_
  simp only [x_r06_spanned]
  refine cw_reg_seq fun K hK => ?_
  simp only [go_sem, s0]
  refine hK _ _ ?_
  clear hK K
  refine cw_reg_postK (fun t h => t 6 = B (((decide (low ≤ s.Low)) && (decide (s.Low ≤ s.High))) && (decide (s.High ≤ high)))) (fun K hK => ?_) ?_
  · simp only [go_sem, s1, s2]
    refine ibr_intro (fun hg1 => ?_) (fun hg1 => ?_)
    · simp only [go_sem, s1, s2, hg1]
      refine ibr_intro (fun hg2 => ?_) (fun hg2 => ?_)
      · simp only [go_sem, s1, s2, hg1, hg2]
        exact hK _ _ (by first | (simp only [go_sem, hg1, hg2, List.length_append, List.map_append]; done) | rfl)
      · simp only [go_sem, s1, s2, hg1, hg2]
        exact hK _ _ (by first | (simp only [go_sem, hg1, hg2, List.length_append, List.map_append]; done) | rfl)
    · simp only [go_sem, s1, s2, hg1]
      exact hK _ _ (by first | (simp only [go_sem, hg1, List.length_append, List.map_append]; done) | rfl)
  · rintro t h s6
    simp only [cw_ret, qseq_ret, qblock_ret, retQ_ret]
    obtain rfl := hm0
    exact done_t (by simp only [go_sem, s6, List.length_append, List.map_append]) (frz_v _)

end Go.Nw.HM

namespace Go.Nw.HM
open Go.Nw.Halls
set_option linter.unusedSimpArgs false
set_option linter.unusedVariables false
set_option maxHeartbeats 4000000
variable {O : Orac}

theorem k_r06_within (hf : Has O "newel/newelref06.within" x_r06_within) : C_r06_within O := by
  intro n low high
  generalize hm0 : r06_within n low high = r
  unfold r06_within at hm0
  refine fn_cw hf rfl (fz_cons (frz_v _) (fz_cons (frz_v _) (fz_cons (frz_v _) fz_nil))) (frz_v _) ?_
  refine cw_start (fun t h => t 0 = I n ∧ t 1 = I low ∧ t 2 = I high) ⟨rfl, rfl, rfl⟩ fun t h ⟨s0, s1, s2⟩ => ?_
  simp only [x_r06_within]
  refine cw_reg_seq fun K hK => ?_
  simp only [go_sem]
  refine hK _ _ ?_
  clear hK K
  refine cw_reg_postK (fun t h => t 6 = B ((decide (low ≤ n)) && (decide (n ≤ high)))) (fun K hK => ?_) ?_
  · simp only [go_sem, s0, s1, s2]
    refine ibr_intro (fun hg1 => ?_) (fun hg1 => ?_)
    · simp only [go_sem, s0, s1, s2, hg1]
      exact hK _ _ (by first | (simp only [go_sem, hg1, List.length_append, List.map_append]; done) | rfl)
    · simp only [go_sem, s0, s1, s2, hg1]
      exact hK _ _ (by first | (simp only [go_sem, hg1, List.length_append, List.map_append]; done) | rfl)
  · rintro t h s6
    simp only [cw_ret, qseq_ret, qblock_ret, retQ_ret]
    obtain rfl := hm0
    exact done_t (by simp only [go_sem, s6, List.length_append, List.map_append]) (frz_v _)

end Go.Nw.HM

namespace Go.Nw.HM
open Go.Nw.Halls
set_option linter.unusedSimpArgs false
set_option linter.unusedVariables false
set_option maxHeartbeats 4000000
variable {O : Orac}

theorem k_slices_ContainsFunc___api_Train_api_Train_ (hf : Has O "slices.ContainsFunc[[]newel/api.Train,newel/api.Train]" x_slices_ContainsFunc___api_Train_api_Train_) (k_slices_IndexFunc___api_Train_api_Train_ : C_slices_IndexFunc___api_Train_api_Train_ O) : C_slices_ContainsFunc___api_Train_api_Train_ O := by
  intro s f_n f_a f_b f f_z f_h r hm0
  unfold slices_ContainsFunc___api_Train_api_Train_ at hm0
  refine fn_cw hf rfl (fz_cons (frz_fs fun a _ => fz_eTrain a) (fz_cons f_z fz_nil)) (frz_v _) ?_
  refine cw_start (fun t h => t 0 = .fs 3 (List.map eTrain s) ∧ t 1 = .fn f_n f_a f_b) ⟨rfl, rfl⟩ fun t h ⟨s0, s1⟩ => ?_
  simp only [x_slices_ContainsFunc___api_Train_api_Train_]
  refine cw_reg_seq fun K hK => ?_
  simp only [go_sem]
  refine hK _ _ ?_
  clear hK K
  obtain ⟨y2, h_y2, hm0⟩ := bind_get hm0
  refine cw_reg_seq fun K hK => ?_
  simp only [go_sem, s0, s1]
  refine icall_fn (k_slices_IndexFunc___api_Train_api_Train_ s f_n f_a f_b f f_z f_h _ h_y2) ?_
  simp only [go_sem, s0, s1]
  refine hK _ _ ?_
  clear hK K
  simp only [cw_ret, qseq_ret, qblock_ret, retQ_ret]
  obtain rfl := Option.some.inj hm0
  exact done_t (by simp only [go_sem, List.length_append, List.map_append]) (frz_v _)

end Go.Nw.HM

namespace Go.Nw.HM
open Go.Nw.Halls
set_option linter.unusedSimpArgs false
set_option linter.unusedVariables false
set_option maxHeartbeats 4000000
variable {O : Orac}

theorem k_slices_ContainsFunc___int_int_ (hf : Has O "slices.ContainsFunc[[]int,int]" x_slices_ContainsFunc___int_int_) (k_slices_IndexFunc___int_int_ : C_slices_IndexFunc___int_int_ O) : C_slices_ContainsFunc___int_int_ O := by
  intro s f_n f_a f_b f f_z f_h r hm0
  unfold slices_ContainsFunc___int_int_ at hm0
  refine fn_cw hf rfl (fz_cons (frz_fs fun a _ => fz_eI a) (fz_cons f_z fz_nil)) (frz_v _) ?_
  refine cw_start (fun t h => t 0 = .fs 1 (List.map eI s) ∧ t 1 = .fn f_n f_a f_b) ⟨rfl, rfl⟩ fun t h ⟨s0, s1⟩ => ?_
  simp only [x_slices_ContainsFunc___int_int_]
  refine cw_reg_seq fun K hK => ?_
  simp only [go_sem]
  refine hK _ _ ?_
  clear hK K
  obtain ⟨y2, h_y2, hm0⟩ := bind_get hm0
  refine cw_reg_seq fun K hK => ?_
  simp only [go_sem, s0, s1]
  refine icall_fn (k_slices_IndexFunc___int_int_ s f_n f_a f_b f f_z f_h _ h_y2) ?_
  simp only [go_sem, s0, s1]
  refine hK _ _ ?_
  clear hK K
  simp only [cw_ret, qseq_ret, qblock_ret, retQ_ret]
  obtain rfl := Option.some.inj hm0
  exact done_t (by simp only [go_sem, List.length_append, List.map_append]) (frz_v _)

end Go.Nw.HM

namespace Go.Nw.HM
open Go.Nw.Halls
set_option linter.unusedSimpArgs false
set_option linter.unusedVariables false
set_option maxHeartbeats 4000000
variable {O : Orac}

theorem k_slices_IndexFunc___api_Train_api_Train_ (hf : Has O "slices.IndexFunc[[]newel/api.Train,newel/api.Train]" x_slices_IndexFunc___api_Train_api_Train_) : C_slices_IndexFunc___api_Train_api_Train_ O := by
  intro s f_n f_a f_b f f_z f_h r hm0
  unfold slices_IndexFunc___api_Train_api_Train_ at hm0
  refine fn_cw hf rfl (fz_cons (frz_fs fun a _ => fz_eTrain a) (fz_cons f_z fz_nil)) (frz_v _) ?_
  refine cw_start (fun t h => t 0 = .fs 3 (List.map eTrain s) ∧ t 1 = .fn f_n f_a f_b) ⟨rfl, rfl⟩ fun t h ⟨s0, s1⟩ => ?_
  simp only [x_slices_IndexFunc___api_Train_api_Train_]
  refine cw_reg_seq fun K hK => ?_
  simp only [go_sem]
  refine hK _ _ ?_
  clear hK K
  refine cw_assoc ?_
  refine cw_reg_seq fun K hK => ?_
  simp only [go_sem, s0]
  refine hK _ _ ?_
  clear hK K
  refine cw_seq_k fun K1 hK1 => ?_
  have J2 : ∀ (t : Slots) (h : Heap), slices_IndexFunc___api_Train_api_Train__j2 = some r → K1 t h := by
    intro t h hm0
    refine hK1 _ _ ?_
    unfold slices_IndexFunc___api_Train_api_Train__j2 at hm0
    refine cw_reg_seq fun K hK => ?_
    simp only [go_sem]
    refine hK _ _ ?_
    clear hK K
    simp only [cw_ret, qseq_ret, qblock_ret, retQ_ret]
    obtain rfl := Option.some.inj hm0
    exact done_t (by simp only [go_sem, List.length_append, List.map_append]) (frz_v _)
  simp only [cw_block]
  obtain ⟨b3, hl3, hm0⟩ := bind_get hm0
  refine cw_loopM hl3 (fun | x_8, t, h => t 0 = .fs 3 (List.map eTrain s) ∧ t 1 = .fn f_n f_a f_b ∧ t 7 = I (List.length s : Int) ∧ t 8 = I x_8) ?_ ?_
  · exact ⟨s0, s1, (by first | (simp only [go_sem, List.length_append, List.map_append]; done) | rfl), (by first | (simp only [go_sem, List.length_append, List.map_append]; done) | rfl)⟩
  · rintro x_8 o t h ⟨s0, s1, s7, s8⟩ hm1 hb3
    simp only [slices_IndexFunc___api_Train_api_Train__L7] at hm1
    rw [x_slices_IndexFunc___api_Train_api_Train__L7]
    refine cw_reg_seq fun K hK => ?_
    simp only [go_sem, s7, s8]
    refine hK _ _ ?_
    clear hK K
    refine cw_seq_k fun K4 hK4 => ?_
    simp only [go_sem]
    refine ibr_intro (fun hc5 => ?_) (fun hc5 => ?_)
    · rw [if_t hc5] at hm1
      simp only [cw_skip, qblock_normal, qseq_normal]
      refine hK4 _ _ ?_
      refine cw_seq_k fun K6 hK6 => ?_
      simp only [cw_block]
      refine cw_reg_seq fun K hK => ?_
      simp only [go_sem, s8]
      refine hK _ _ ?_
      clear hK K
      obtain ⟨x9, h_x9, hm1⟩ := bind_get hm1
      have h_x90 := get_nn h_x9
      have h_x91 := get_lt h_x9
      obtain ⟨y10, h_y10, hm1⟩ := bind_get hm1
      refine cw_reg_seq fun K hK => ?_
      simp only [go_sem, s0, s1, ielem_get h_x9, irow_get h_x9, h_x90, h_x91]
      refine icallv_fn (f_h x9 _ h_y10) ?_
      simp only [go_sem, s0, s1, ielem_get h_x9, irow_get h_x9, h_x90, h_x91]
      refine hK _ _ ?_
      clear hK K
      simp only [go_sem]
      refine ibr_intro (fun hc11 => ?_) (fun hc11 => ?_)
      · rw [if_t hc11] at hm1
        refine cw_reg_seq fun K hK => ?_
        simp only [go_sem]
        refine hK _ _ ?_
        clear hK K
        simp only [cw_ret, qseq_ret, qblock_ret, retQ_ret]
        obtain rfl := Option.some.inj hm1
        obtain rfl := hb3 _ rfl
        try dsimp only at hm0
        obtain rfl := Option.some.inj hm0
        exact done_t (by simp only [go_sem, List.length_append, List.map_append]) (frz_v _)
      · rw [if_f hc11] at hm1
        simp only [cw_skip, qblock_normal, qseq_normal]
        refine hK6 _ _ ?_
        refine cw_reg_k fun K hK => ?_
        simp only [go_sem, s8]
        refine hK _ _ ?_
        clear hK K
        simp only [qblock_normal, qseq_normal]
        obtain rfl := Option.some.inj hm1
        refine ⟨_, rfl, ?_⟩
        exact ⟨s0, s1, s7, (by first | (simp only [go_sem, s8, List.length_append, List.map_append]; done) | rfl)⟩
    · rw [if_f hc5] at hm1
      simp only [cw_exit, qseq_exit, qblock_same, qblock_ne, qblock_normal, qseq_normal, Nat.reduceEqDiff, not_false_eq_true]
      obtain rfl := Option.some.inj hm1
      obtain rfl := hb3 _ rfl
      try dsimp only at hm0
      exact J2  _ _  hm0

end Go.Nw.HM

namespace Go.Nw.HM
open Go.Nw.Halls
set_option linter.unusedSimpArgs false
set_option linter.unusedVariables false
set_option maxHeartbeats 4000000
variable {O : Orac}

theorem k_slices_IndexFunc___int_int_ (hf : Has O "slices.IndexFunc[[]int,int]" x_slices_IndexFunc___int_int_) : C_slices_IndexFunc___int_int_ O := by
  intro s f_n f_a f_b f f_z f_h r hm0
  unfold slices_IndexFunc___int_int_ at hm0
  refine fn_cw hf rfl (fz_cons (frz_fs fun a _ => fz_eI a) (fz_cons f_z fz_nil)) (frz_v _) ?_
  refine cw_start (fun t h => t 0 = .fs 1 (List.map eI s) ∧ t 1 = .fn f_n f_a f_b) ⟨rfl, rfl⟩ fun t h ⟨s0, s1⟩ => ?_
  simp only [x_slices_IndexFunc___int_int_]
  refine cw_reg_seq fun K hK => ?_
  simp only [go_sem]
  refine hK _ _ ?_
  clear hK K
  refine cw_assoc ?_
  refine cw_reg_seq fun K hK => ?_
  simp only [go_sem, s0]
  refine hK _ _ ?_
  clear hK K
  refine cw_seq_k fun K1 hK1 => ?_
  have J2 : ∀ (t : Slots) (h : Heap), slices_IndexFunc___int_int__j2 = some r → K1 t h := by
    intro t h hm0
    refine hK1 _ _ ?_
    unfold slices_IndexFunc___int_int__j2 at hm0
    refine cw_reg_seq fun K hK => ?_
    simp only [go_sem]
    refine hK _ _ ?_
    clear hK K
    simp only [cw_ret, qseq_ret, qblock_ret, retQ_ret]
    obtain rfl := Option.some.inj hm0
    exact done_t (by simp only [go_sem, List.length_append, List.map_append]) (frz_v _)
  simp only [cw_block]
  obtain ⟨b3, hl3, hm0⟩ := bind_get hm0
  refine cw_loopM hl3 (fun | x_8, t, h => t 0 = .fs 1 (List.map eI s) ∧ t 1 = .fn f_n f_a f_b ∧ t 7 = I (List.length s : Int) ∧ t 8 = I x_8) ?_ ?_
  · exact ⟨s0, s1, (by first | (simp only [go_sem, List.length_append, List.map_append]; done) | rfl), (by first | (simp only [go_sem, List.length_append, List.map_append]; done) | rfl)⟩
  · rintro x_8 o t h ⟨s0, s1, s7, s8⟩ hm1 hb3
    simp only [slices_IndexFunc___int_int__L7] at hm1
    rw [x_slices_IndexFunc___int_int__L7]
    refine cw_reg_seq fun K hK => ?_
    simp only [go_sem, s7, s8]
    refine hK _ _ ?_
    clear hK K
    refine cw_seq_k fun K4 hK4 => ?_
    simp only [go_sem]
    refine ibr_intro (fun hc5 => ?_) (fun hc5 => ?_)
    · rw [if_t hc5] at hm1
      simp only [cw_skip, qblock_normal, qseq_normal]
      refine hK4 _ _ ?_
      refine cw_seq_k fun K6 hK6 => ?_
      simp only [cw_block]
      refine cw_reg_seq fun K hK => ?_
      simp only [go_sem, s8]
      refine hK _ _ ?_
      clear hK K
      obtain ⟨x9, h_x9, hm1⟩ := bind_get hm1
      have h_x90 := get_nn h_x9
      have h_x91 := get_lt h_x9
      obtain ⟨y10, h_y10, hm1⟩ := bind_get hm1
      refine cw_reg_seq fun K hK => ?_
      simp only [go_sem, s0, s1, ielem_get h_x9, irow_get h_x9, h_x90, h_x91]
      refine icallv_fn (f_h x9 _ h_y10) ?_
      simp only [go_sem, s0, s1, ielem_get h_x9, irow_get h_x9, h_x90, h_x91]
      refine hK _ _ ?_
      clear hK K
      simp only [go_sem]
      refine ibr_intro (fun hc11 => ?_) (fun hc11 => ?_)
      · rw [if_t hc11] at hm1
        refine cw_reg_seq fun K hK => ?_
        simp only [go_sem]
        refine hK _ _ ?_
        clear hK K
        simp only [cw_ret, qseq_ret, qblock_ret, retQ_ret]
        obtain rfl := Option.some.inj hm1
        obtain rfl := hb3 _ rfl
        try dsimp only at hm0
        obtain rfl := Option.some.inj hm0
        exact done_t (by simp only [go_sem, List.length_append, List.map_append]) (frz_v _)
      · rw [if_f hc11] at hm1
        simp only [cw_skip, qblock_normal, qseq_normal]
        refine hK6 _ _ ?_
        refine cw_reg_k fun K hK => ?_
        simp only [go_sem, s8]
        refine hK _ _ ?_
        clear hK K
        simp only [qblock_normal, qseq_normal]
        obtain rfl := Option.some.inj hm1
        refine ⟨_, rfl, ?_⟩
        exact ⟨s0, s1, s7, (by first | (simp only [go_sem, s8, List.length_append, List.map_append]; done) | rfl)⟩
    · rw [if_f hc5] at hm1
      simp only [cw_exit, qseq_exit, qblock_same, qblock_ne, qblock_normal, qseq_normal, Nat.reduceEqDiff, not_false_eq_true]
      obtain rfl := Option.some.inj hm1
      obtain rfl := hb3 _ rfl
      try dsimp only at hm0
      exact J2  _ _  hm0

end Go.Nw.HM
