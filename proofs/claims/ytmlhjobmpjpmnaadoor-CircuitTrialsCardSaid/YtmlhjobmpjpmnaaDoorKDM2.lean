/- That the texts make what their models say: printed by a program. -/
import Derived.Test.YtmlhjobmpjpmnaaDoorDM
set_option linter.all false
set_option linter.unusedVariables false
set_option linter.unusedSimpArgs false
set_option linter.unusedSectionVars false
namespace Go.Nw.DM
open Go.Nw.Door
set_option linter.unusedSimpArgs false
set_option linter.unusedVariables false
variable {O : Orac}

theorem k_r03_Fewest (hf : Has O "newel/newelref03.Fewest" x_r03_Fewest) (k_r03_CheckTrials : C_r03_CheckTrials O) (k_r03_all : C_r03_all O) (k_r03_every : C_r03_every O) (k_r03_Ones : C_r03_Ones O) (k_r03_members : C_r03_members O) (k_r03_less : C_r03_less O) : C_r03_Fewest O := by
  intro c l r hm0
  unfold r03_Fewest at hm0
  refine fn_cw hf rfl (fz_cons (.agg _ (fz_cons (frz_v _) (fz_cons (frz_fs fun a _ => fz_eI a) (fz_cons (frz_fs fun a _ => fz_eWire a) fz_nil)))) (fz_cons (frz_fs fun a _ => fz_eTrial a) fz_nil)) (.tup _ (fz_cons (frz_fs fun a _ => fz_eI a) (fz_cons (frz_v _) fz_nil))) ?_
  refine cw_start (fun t h => t 0 = .agg [I c.Hazards, .fs 1 (List.map eI c.Switches), .fs 2 (List.map eWire c.Wires)] ∧ t 1 = .fs 2 (List.map eTrial l)) ⟨rfl, rfl⟩ fun t h ⟨s0, s1⟩ => ?_
  simp only [x_r03_Fewest]
  refine cw_reg_seq fun K hK => ?_
  simp only [go_sem, s0]
  refine hK _ _ ?_
  clear hK K
  refine cw_assoc ?_
  obtain ⟨y2, h_y2, hm0⟩ := bind_get hm0
  refine cw_reg_seq fun K hK => ?_
  simp only [go_sem, s1]
  refine icall_fn (k_r03_CheckTrials c l _ h_y2) ?_
  simp only [go_sem, s1]
  refine hK _ _ ?_
  clear hK K
  refine cw_assoc ?_
  refine cw_reg_seq fun K hK => ?_
  simp only [go_sem]
  refine hK _ _ ?_
  clear hK K
  refine cw_seq_k fun K3 hK3 => ?_
  simp only [go_sem]
  refine ibr_intro (fun hc4 => ?_) (fun hc4 => ?_)
  · rw [if_t hc4] at hm0
    refine cw_reg_seq fun K hK => ?_
    simp only [go_sem]
    refine hK _ _ ?_
    clear hK K
    simp only [cw_ret, qseq_ret, qblock_ret, retQ_ret]
    obtain rfl := Option.some.inj hm0
    exact done_fz2 (v := .v (.slice none 0 0)) (u := I y2) (by simp only [go_sem, List.length_append, List.map_append]) (by simp only [go_sem, List.length_append, List.map_append]) (.nil _) (.refl _ (frz_v _))
  · rw [if_f hc4] at hm0
    simp only [cw_skip, qblock_normal, qseq_normal]
    refine hK3 _ _ ?_
    obtain ⟨q6, h_q6, hm0⟩ := bind_get hm0
    refine cw_reg_seq fun K hK => ?_
    simp only [go_sem, s1, ibin_shl h_q6]
    refine hK _ _ ?_
    clear hK K
    obtain ⟨y8, h_y8, hm0⟩ := bind_get hm0
    refine cw_reg_seq fun K hK => ?_
    simp only [go_sem, s1]
    refine icall_fn (k_r03_all c l (wr (q6 - 1)) _ h_y8) ?_
    simp only [go_sem, s1]
    refine hK _ _ ?_
    clear hK K
    obtain ⟨y10, h_y10, hm0⟩ := bind_get hm0
    refine cw_reg_seq fun K hK => ?_
    simp only [go_sem, s1]
    refine icall_fn (k_r03_every c l _ h_y10) ?_
    simp only [go_sem, s1]
    refine hK _ _ ?_
    clear hK K
    refine cw_reg_seq fun K hK => ?_
    simp only [go_sem]
    refine hK _ _ ?_
    clear hK K
    refine cw_assoc ?_
    refine cw_reg_seq fun K hK => ?_
    simp only [go_sem]
    refine hK _ _ ?_
    clear hK K
    refine cw_seq_k fun K11 hK11 => ?_
    have J12 : ∀ (best_10 : Int) (t : Slots) (h : Heap), t 1 = .fs 2 (List.map eTrial l) → t 10 = I best_10 → r03_Fewest_j12 l best_10 = some r → K11 t h := by
      intro best_10 t h s1 s10 hm0
      refine hK11 _ _ ?_
      unfold r03_Fewest_j12 at hm0
      obtain ⟨y14, h_y14, hm0⟩ := bind_get hm0
      refine cw_reg_seq fun K hK => ?_
      simp only [go_sem, s1, s10]
      refine icall_fn (k_r03_members best_10 (List.length l : Int) _ h_y14) ?_
      simp only [go_sem, s1, s10]
      refine hK _ _ ?_
      clear hK K
      simp only [cw_ret, qseq_ret, qblock_ret, retQ_ret]
      obtain rfl := Option.some.inj hm0
      exact done_t2 (by simp only [go_sem, List.length_append, List.map_append]) (by simp only [go_sem, List.length_append, List.map_append]) (frz_fs fun a _ => fz_eI a) (frz_v _)
    simp only [cw_block]
    obtain ⟨b15, hl15, hm0⟩ := bind_get hm0
    refine cw_loopM hl15 (fun | (best_10, set_11), t, h => t 1 = .fs 2 (List.map eTrial l) ∧ t 7 = I (wr (q6 - 1)) ∧ t 8 = I y8 ∧ t 9 = .fs 1 (List.map eI y10) ∧ t 10 = I best_10 ∧ t 11 = I set_11) ?_ ?_
    · exact ⟨s1, (by first | rfl | simp only [go_sem, List.length_append, List.map_append]), (by first | rfl | simp only [go_sem, List.length_append, List.map_append]), (by first | rfl | simp only [go_sem, List.length_append, List.map_append]), (by first | rfl | simp only [go_sem, List.length_append, List.map_append]), (by first | rfl | simp only [go_sem, List.length_append, List.map_append])⟩
    · rintro ⟨best_10, set_11⟩ o t h ⟨s1, s7, s8, s9, s10, s11⟩ hm1 hb15
      simp only [r03_Fewest_L21] at hm1
      rw [x_r03_Fewest_L21]
      refine cw_assoc ?_
      refine cw_reg_seq fun K hK => ?_
      simp only [go_sem, s7, s11]
      refine hK _ _ ?_
      clear hK K
      refine cw_seq_k fun K16 hK16 => ?_
      simp only [go_sem]
      refine ibr_intro (fun hc17 => ?_) (fun hc17 => ?_)
      · rw [if_t hc17] at hm1
        simp only [cw_skip, qblock_normal, qseq_normal]
        refine hK16 _ _ ?_
        refine cw_seq_k fun K18 hK18 => ?_
        have J19 : ∀ (best_10_1 : Int) (t : Slots) (h : Heap), t 1 = .fs 2 (List.map eTrial l) → t 7 = I (wr (q6 - 1)) → t 8 = I y8 → t 9 = .fs 1 (List.map eI y10) → t 10 = I best_10_1 → t 11 = I set_11 → r03_Fewest_j19 set_11 best_10_1 = some o → K18 t h := by
          intro best_10_1 t h s1 s7 s8 s9 s10 s11 hm1
          refine hK18 _ _ ?_
          unfold r03_Fewest_j19 at hm1
          refine cw_reg_k fun K hK => ?_
          simp only [go_sem, s11]
          refine hK _ _ ?_
          clear hK K
          simp only [qblock_normal, qseq_normal]
          obtain rfl := Option.some.inj hm1
          refine ⟨_, rfl, ?_⟩
          exact ⟨s1, s7, s8, s9, s10, (by first | rfl | exact s11 | simp only [go_sem, s11, List.length_append, List.map_append])⟩
        simp only [cw_block]
        refine cw_reg_seq fun K hK => ?_
        simp only [go_sem]
        refine hK _ _ ?_
        clear hK K
        refine cw_assoc ?_
        refine cw_reg_seq fun K hK => ?_
        simp only [go_sem]
        refine hK _ _ ?_
        clear hK K
        refine cw_seq_k fun K20 hK20 => ?_
        have J21 : ∀ (have_12 : Int) (t : Slots) (h : Heap), t 1 = .fs 2 (List.map eTrial l) → t 7 = I (wr (q6 - 1)) → t 8 = I y8 → t 9 = .fs 1 (List.map eI y10) → t 10 = I best_10 → t 11 = I set_11 → t 12 = I have_12 → r03_Fewest_j21 l y8 best_10 set_11 have_12 = some o → K20 t h := by
          intro have_12 t h s1 s7 s8 s9 s10 s11 s12 hm1
          refine hK20 _ _ ?_
          unfold r03_Fewest_j21 at hm1
          refine cw_assoc ?_
          obtain ⟨c27, h_c27, hm1⟩ := bind_get hm1
          refine cw_reg_postK (fun t h => t 1 = .fs 2 (List.map eTrial l) ∧ t 7 = I (wr (q6 - 1)) ∧ t 8 = I y8 ∧ t 9 = .fs 1 (List.map eI y10) ∧ t 10 = I best_10 ∧ t 11 = I set_11 ∧ t 65 = B c27) (fun K hK => ?_) ?_
          · simp only [go_sem, s8, s10, s11, s12]
            refine ibr_intro (fun hg28 => ?_) (fun hg28 => ?_)
            · simp only [hg28, Bool.not_true, Bool.not_false, eq_self, if_true, if_false, Bool.true_or, Bool.or_true, Bool.false_or, Bool.or_false, Bool.true_and, Bool.and_true, Bool.false_and, Bool.and_false, Bool.false_eq_true] at h_c27
              obtain rfl := Option.some.inj h_c27
              simp only [go_sem, s8, s10, s11, s12, hg28]
              exact hK _ _ ⟨s1, s7, s8, s9, s10, s11, (by first | rfl | simp only [go_sem, hg28, List.length_append, List.map_append])⟩
            · simp only [hg28, Bool.not_true, Bool.not_false, eq_self, if_true, if_false, Bool.true_or, Bool.or_true, Bool.false_or, Bool.or_false, Bool.true_and, Bool.and_true, Bool.false_and, Bool.and_false, Bool.false_eq_true] at h_c27
              obtain ⟨y25, h_y25, h_c27⟩ := bind_get h_c27
              obtain ⟨y26, h_y26, h_c27⟩ := bind_get h_c27
              obtain rfl := Option.some.inj h_c27
              simp only [go_sem, s8, s10, s11, s12, hg28]
              refine icall_fn (k_r03_Ones set_11 _ h_y25) ?_
              simp only [go_sem, s8, s10, s11, s12, hg28]
              refine icall_fn (k_r03_Ones best_10 _ h_y26) ?_
              simp only [go_sem, s8, s10, s11, s12, hg28]
              exact hK _ _ ⟨s1, s7, s8, s9, s10, s11, (by first | rfl | simp only [go_sem, hg28, List.length_append, List.map_append])⟩
          · rintro t h ⟨s1, s7, s8, s9, s10, s11, s65⟩
            refine cw_seq_k fun K29 hK29 => ?_
            simp only [go_sem, s65]
            refine ibr_intro (fun hc30 => ?_) (fun hc30 => ?_)
            · rw [if_t hc30] at hm1
              simp only [cw_exit, qseq_exit, qblock_same, qblock_ne, qblock_normal, qseq_normal, Nat.reduceEqDiff, not_false_eq_true]
              exact J19 best_10 _ _ s1 s7 s8 s9 s10 s11 hm1
            · rw [if_f hc30] at hm1
              simp only [cw_skip, qblock_normal, qseq_normal]
              refine hK29 _ _ ?_
              obtain ⟨y37, h_y37, hm1⟩ := bind_get hm1
              obtain ⟨y38, h_y38, hm1⟩ := bind_get hm1
              obtain ⟨c42, h_c42, hm1⟩ := bind_get hm1
              refine cw_reg_postK (fun t h => t 1 = .fs 2 (List.map eTrial l) ∧ t 7 = I (wr (q6 - 1)) ∧ t 8 = I y8 ∧ t 9 = .fs 1 (List.map eI y10) ∧ t 10 = I best_10 ∧ t 11 = I set_11 ∧ t 81 = B c42) (fun K hK => ?_) ?_
              · simp only [go_sem, s1, s10, s11]
                refine icall_fn (k_r03_Ones set_11 _ h_y37) ?_
                simp only [go_sem, s1, s10, s11]
                refine icall_fn (k_r03_Ones best_10 _ h_y38) ?_
                simp only [go_sem, s1, s10, s11]
                refine ibr_intro (fun hg43 => ?_) (fun hg43 => ?_)
                · simp only [hg43, Bool.not_true, Bool.not_false, eq_self, if_true, if_false, Bool.true_or, Bool.or_true, Bool.false_or, Bool.or_false, Bool.true_and, Bool.and_true, Bool.false_and, Bool.and_false, Bool.false_eq_true] at h_c42
                  obtain rfl := Option.some.inj h_c42
                  simp only [go_sem, s1, s10, s11, hg43]
                  exact hK _ _ ⟨s1, s7, s8, s9, s10, s11, (by first | rfl | simp only [go_sem, hg43, List.length_append, List.map_append])⟩
                · simp only [hg43, Bool.not_true, Bool.not_false, eq_self, if_true, if_false, Bool.true_or, Bool.or_true, Bool.false_or, Bool.or_false, Bool.true_and, Bool.and_true, Bool.false_and, Bool.and_false, Bool.false_eq_true] at h_c42
                  obtain ⟨y39, h_y39, h_c42⟩ := bind_get h_c42
                  obtain ⟨y40, h_y40, h_c42⟩ := bind_get h_c42
                  obtain ⟨y41, h_y41, h_c42⟩ := bind_get h_c42
                  obtain rfl := Option.some.inj h_c42
                  simp only [go_sem, s1, s10, s11, hg43]
                  refine icall_fn (k_r03_members set_11 (List.length l : Int) _ h_y39) ?_
                  simp only [go_sem, s1, s10, s11, hg43]
                  refine icall_fn (k_r03_members best_10 (List.length l : Int) _ h_y40) ?_
                  simp only [go_sem, s1, s10, s11, hg43]
                  refine icall_fn (k_r03_less y39 y40 _ h_y41) ?_
                  simp only [go_sem, s1, s10, s11, hg43]
                  exact hK _ _ ⟨s1, s7, s8, s9, s10, s11, (by first | rfl | simp only [go_sem, hg43, List.length_append, List.map_append])⟩
              · rintro t h ⟨s1, s7, s8, s9, s10, s11, s81⟩
                simp only [go_sem, s81]
                refine ibr_intro (fun hc44 => ?_) (fun hc44 => ?_)
                · rw [if_t hc44] at hm1
                  refine cw_reg_k fun K hK => ?_
                  simp only [go_sem, s11]
                  refine hK _ _ ?_
                  clear hK K
                  simp only [qblock_normal, qseq_normal]
                  exact J19 set_11 _ _ s1 s7 s8 s9 (by first | rfl | exact s10 | simp only [go_sem, s10, List.length_append, List.map_append]) s11 hm1
                · rw [if_f hc44] at hm1
                  simp only [cw_skip, qblock_normal, qseq_normal]
                  exact J19 best_10 _ _ s1 s7 s8 s9 s10 s11 hm1
        simp only [cw_block]
        obtain ⟨b45, hl45, hm1⟩ := bind_get hm1
        refine cw_loopM hl45 (fun | (have_12, i_13), t, h => t 1 = .fs 2 (List.map eTrial l) ∧ t 7 = I (wr (q6 - 1)) ∧ t 8 = I y8 ∧ t 9 = .fs 1 (List.map eI y10) ∧ t 10 = I best_10 ∧ t 11 = I set_11 ∧ t 12 = I have_12 ∧ t 13 = I i_13) ?_ ?_
        · exact ⟨s1, s7, s8, s9, s10, s11, (by first | rfl | simp only [go_sem, List.length_append, List.map_append]), (by first | rfl | simp only [go_sem, List.length_append, List.map_append])⟩
        · rintro ⟨have_12, i_13⟩ o t h ⟨s1, s7, s8, s9, s10, s11, s12, s13⟩ hm2 hb45
          simp only [r03_Fewest_L16] at hm2
          rw [x_r03_Fewest_L16]
          refine cw_assoc ?_
          refine cw_reg_seq fun K hK => ?_
          simp only [go_sem, s1, s13]
          refine hK _ _ ?_
          clear hK K
          refine cw_seq_k fun K46 hK46 => ?_
          simp only [go_sem]
          refine ibr_intro (fun hc47 => ?_) (fun hc47 => ?_)
          · rw [if_t hc47] at hm2
            simp only [cw_skip, qblock_normal, qseq_normal]
            refine hK46 _ _ ?_
            refine cw_seq_k fun K48 hK48 => ?_
            have J49 : ∀ (have_12_1 : Int) (t : Slots) (h : Heap), t 1 = .fs 2 (List.map eTrial l) → t 7 = I (wr (q6 - 1)) → t 8 = I y8 → t 9 = .fs 1 (List.map eI y10) → t 10 = I best_10 → t 11 = I set_11 → t 12 = I have_12_1 → t 13 = I i_13 → r03_Fewest_j49 i_13 have_12_1 = some o → K48 t h := by
              intro have_12_1 t h s1 s7 s8 s9 s10 s11 s12 s13 hm2
              refine hK48 _ _ ?_
              unfold r03_Fewest_j49 at hm2
              refine cw_reg_k fun K hK => ?_
              simp only [go_sem, s13]
              refine hK _ _ ?_
              clear hK K
              simp only [qblock_normal, qseq_normal]
              obtain rfl := Option.some.inj hm2
              refine ⟨_, rfl, ?_⟩
              exact ⟨s1, s7, s8, s9, s10, s11, s12, (by first | rfl | exact s13 | simp only [go_sem, s13, List.length_append, List.map_append])⟩
            simp only [cw_block]
            obtain ⟨q51, h_q51, hm2⟩ := bind_get hm2
            refine cw_reg_seq fun K hK => ?_
            simp only [go_sem, s11, s13, ibin_shr h_q51]
            refine hK _ _ ?_
            clear hK K
            simp only [go_sem]
            refine ibr_intro (fun hc52 => ?_) (fun hc52 => ?_)
            · rw [if_t hc52] at hm2
              obtain ⟨x54, h_x54, hm2⟩ := bind_get hm2
              have h_x540 := get_nn h_x54
              have h_x541 := get_lt h_x54
              refine cw_reg_k fun K hK => ?_
              simp only [go_sem, s9, s12, s13, ielem_get h_x54, irow_get h_x54, h_x540, h_x541]
              refine hK _ _ ?_
              clear hK K
              simp only [qblock_normal, qseq_normal]
              exact J49 (bor have_12 x54) _ _ s1 s7 s8 s9 s10 s11 (by first | rfl | exact s12 | simp only [go_sem, s12, List.length_append, List.map_append]) s13 hm2
            · rw [if_f hc52] at hm2
              simp only [cw_skip, qblock_normal, qseq_normal]
              exact J49 have_12 _ _ s1 s7 s8 s9 s10 s11 s12 s13 hm2
          · rw [if_f hc47] at hm2
            simp only [cw_exit, qseq_exit, qblock_same, qblock_ne, qblock_normal, qseq_normal, Nat.reduceEqDiff, not_false_eq_true]
            obtain rfl := Option.some.inj hm2
            obtain rfl := hb45 _ rfl
            try dsimp only at hm1
            exact J21 have_12 _ _ s1 s7 s8 s9 s10 s11 s12 hm1
      · rw [if_f hc17] at hm1
        simp only [cw_exit, qseq_exit, qblock_same, qblock_ne, qblock_normal, qseq_normal, Nat.reduceEqDiff, not_false_eq_true]
        obtain rfl := Option.some.inj hm1
        obtain rfl := hb15 _ rfl
        try dsimp only at hm0
        exact J12 best_10 _ _ s1 s10 hm0

end Go.Nw.DM

namespace Go.Nw.DM
open Go.Nw.Door
set_option linter.unusedSimpArgs false
set_option linter.unusedVariables false
variable {O : Orac}

theorem k_r03_Tells (hf : Has O "newel/newelref03.Tells" x_r03_Tells) (k_r03_conducts : C_r03_conducts O) : C_r03_Tells O := by
  intro c t_ closed r hm0
  unfold r03_Tells at hm0
  refine fn_cw hf rfl (fz_cons (.agg _ (fz_cons (frz_v _) (fz_cons (frz_fs fun a _ => fz_eI a) (fz_cons (frz_fs fun a _ => fz_eWire a) fz_nil)))) (fz_cons (.agg _ (fz_cons (frz_v _) (fz_cons (frz_v _) fz_nil))) (fz_cons (frz_v _) fz_nil))) (frz_v _) ?_
  refine cw_start (fun t h => t 0 = .agg [I c.Hazards, .fs 1 (List.map eI c.Switches), .fs 2 (List.map eWire c.Wires)] ∧ t 1 = .agg [I t_.Hazards, I t_.Wire] ∧ t 2 = I closed) ⟨rfl, rfl, rfl⟩ fun t h ⟨s0, s1, s2⟩ => ?_
  simp only [x_r03_Tells]
  refine cw_reg_seq fun K hK => ?_
  simp only [go_sem, s0, s1]
  refine hK _ _ ?_
  clear hK K
  obtain ⟨y4, h_y4, hm0⟩ := bind_get hm0
  obtain ⟨c6, h_c6, hm0⟩ := bind_get hm0
  refine cw_reg_postK (fun t h => t 6 = B c6) (fun K hK => ?_) ?_
  · simp only [go_sem, s2]
    refine icall_fn (k_r03_conducts 1000 c t_.Wire t_.Hazards closed 0 _ h_y4) ?_
    simp only [go_sem, s2]
    refine ibr_intro (fun hg7 => ?_) (fun hg7 => ?_)
    · simp only [hg7, Bool.not_true, Bool.not_false, eq_self, if_true, if_false, Bool.true_or, Bool.or_true, Bool.false_or, Bool.or_false, Bool.true_and, Bool.and_true, Bool.false_and, Bool.and_false, Bool.false_eq_true] at h_c6
      obtain ⟨y5, h_y5, h_c6⟩ := bind_get h_c6
      obtain rfl := Option.some.inj h_c6
      simp only [go_sem, s2, hg7]
      refine icall_fn (k_r03_conducts 1000 c t_.Wire t_.Hazards 0 0 _ h_y5) ?_
      simp only [go_sem, s2, hg7]
      exact hK _ _ (by first | rfl | simp only [go_sem, hg7, List.length_append, List.map_append])
    · simp only [hg7, Bool.not_true, Bool.not_false, eq_self, if_true, if_false, Bool.true_or, Bool.or_true, Bool.false_or, Bool.or_false, Bool.true_and, Bool.and_true, Bool.false_and, Bool.and_false, Bool.false_eq_true] at h_c6
      obtain rfl := Option.some.inj h_c6
      simp only [go_sem, s2, hg7]
      exact hK _ _ (by first | rfl | simp only [go_sem, hg7, List.length_append, List.map_append])
  · rintro t h s6
    simp only [cw_ret, qseq_ret, qblock_ret, retQ_ret]
    obtain rfl := Option.some.inj hm0
    exact done_t (by simp only [go_sem, s6, List.length_append, List.map_append]) (frz_v _)

end Go.Nw.DM

namespace Go.Nw.DM
open Go.Nw.Door
set_option linter.unusedSimpArgs false
set_option linter.unusedVariables false
variable {O : Orac}

theorem k_r03_all (hf : Has O "newel/newelref03.all" x_r03_all) (k_r03_shown : C_r03_shown O) : C_r03_all O := by
  intro c l which r hm0
  unfold r03_all at hm0
  refine fn_cw hf rfl (fz_cons (.agg _ (fz_cons (frz_v _) (fz_cons (frz_fs fun a _ => fz_eI a) (fz_cons (frz_fs fun a _ => fz_eWire a) fz_nil)))) (fz_cons (frz_fs fun a _ => fz_eTrial a) (fz_cons (frz_v _) fz_nil))) (frz_v _) ?_
  refine cw_start (fun t h => t 0 = .agg [I c.Hazards, .fs 1 (List.map eI c.Switches), .fs 2 (List.map eWire c.Wires)] ∧ t 1 = .fs 2 (List.map eTrial l) ∧ t 2 = I which) ⟨rfl, rfl, rfl⟩ fun t h ⟨s0, s1, s2⟩ => ?_
  simp only [x_r03_all]
  refine cw_reg_seq fun K hK => ?_
  simp only [go_sem, s0]
  refine hK _ _ ?_
  clear hK K
  refine cw_reg_seq fun K hK => ?_
  simp only [go_sem]
  refine hK _ _ ?_
  clear hK K
  refine cw_assoc ?_
  refine cw_reg_seq fun K hK => ?_
  simp only [go_sem]
  refine hK _ _ ?_
  clear hK K
  refine cw_seq_k fun K1 hK1 => ?_
  have J2 : ∀ (set_7 : Int) (t : Slots) (h : Heap), t 7 = I set_7 → r03_all_j2 set_7 = some r → K1 t h := by
    intro set_7 t h s7 hm0
    refine hK1 _ _ ?_
    unfold r03_all_j2 at hm0
    refine cw_reg_seq fun K hK => ?_
    simp only [go_sem, s7]
    refine hK _ _ ?_
    clear hK K
    simp only [cw_ret, qseq_ret, qblock_ret, retQ_ret]
    obtain rfl := Option.some.inj hm0
    exact done_t (by simp only [go_sem, List.length_append, List.map_append]) (frz_v _)
  simp only [cw_block]
  obtain ⟨b3, hl3, hm0⟩ := bind_get hm0
  refine cw_loopM hl3 (fun | (set_7, i_8), t, h => t 1 = .fs 2 (List.map eTrial l) ∧ t 2 = I which ∧ t 3 = .fp [I c.Hazards, .fs 1 (List.map eI c.Switches), .fs 2 (List.map eWire c.Wires)] 0 ∧ t 7 = I set_7 ∧ t 8 = I i_8) ?_ ?_
  · exact ⟨s1, s2, (by first | rfl | simp only [go_sem, List.length_append, List.map_append]), (by first | rfl | simp only [go_sem, List.length_append, List.map_append]), (by first | rfl | simp only [go_sem, List.length_append, List.map_append])⟩
  · rintro ⟨set_7, i_8⟩ o t h ⟨s1, s2, s3, s7, s8⟩ hm1 hb3
    simp only [r03_all_L7] at hm1
    rw [x_r03_all_L7]
    refine cw_assoc ?_
    refine cw_reg_seq fun K hK => ?_
    simp only [go_sem, s1, s8]
    refine hK _ _ ?_
    clear hK K
    refine cw_seq_k fun K4 hK4 => ?_
    simp only [go_sem]
    refine ibr_intro (fun hc5 => ?_) (fun hc5 => ?_)
    · rw [if_t hc5] at hm1
      simp only [cw_skip, qblock_normal, qseq_normal]
      refine hK4 _ _ ?_
      refine cw_seq_k fun K6 hK6 => ?_
      have J7 : ∀ (set_7_1 : Int) (t : Slots) (h : Heap), t 1 = .fs 2 (List.map eTrial l) → t 2 = I which → t 3 = .fp [I c.Hazards, .fs 1 (List.map eI c.Switches), .fs 2 (List.map eWire c.Wires)] 0 → t 7 = I set_7_1 → t 8 = I i_8 → r03_all_j7 i_8 set_7_1 = some o → K6 t h := by
        intro set_7_1 t h s1 s2 s3 s7 s8 hm1
        refine hK6 _ _ ?_
        unfold r03_all_j7 at hm1
        refine cw_reg_k fun K hK => ?_
        simp only [go_sem, s8]
        refine hK _ _ ?_
        clear hK K
        simp only [qblock_normal, qseq_normal]
        obtain rfl := Option.some.inj hm1
        refine ⟨_, rfl, ?_⟩
        exact ⟨s1, s2, s3, s7, (by first | rfl | exact s8 | simp only [go_sem, s8, List.length_append, List.map_append])⟩
      simp only [cw_block]
      obtain ⟨q9, h_q9, hm1⟩ := bind_get hm1
      refine cw_reg_seq fun K hK => ?_
      simp only [go_sem, s2, s8, ibin_shr h_q9]
      refine hK _ _ ?_
      clear hK K
      simp only [go_sem]
      refine ibr_intro (fun hc10 => ?_) (fun hc10 => ?_)
      · rw [if_t hc10] at hm1
        obtain ⟨x13, h_x13, hm1⟩ := bind_get hm1
        have h_x130 := get_nn h_x13
        have h_x131 := get_lt h_x13
        obtain ⟨y14, h_y14, hm1⟩ := bind_get hm1
        refine cw_reg_k fun K hK => ?_
        simp only [go_sem, s1, s3, s7, s8, ielem_get h_x13, irow_get h_x13, h_x130, h_x131]
        refine icall_fn (k_r03_shown c x13 _ h_y14) ?_
        simp only [go_sem, s1, s3, s7, s8, ielem_get h_x13, irow_get h_x13, h_x130, h_x131]
        refine hK _ _ ?_
        clear hK K
        simp only [qblock_normal, qseq_normal]
        exact J7 (bor set_7 y14) _ _ s1 s2 s3 (by first | rfl | exact s7 | simp only [go_sem, s7, List.length_append, List.map_append]) s8 hm1
      · rw [if_f hc10] at hm1
        simp only [cw_skip, qblock_normal, qseq_normal]
        exact J7 set_7 _ _ s1 s2 s3 s7 s8 hm1
    · rw [if_f hc5] at hm1
      simp only [cw_exit, qseq_exit, qblock_same, qblock_ne, qblock_normal, qseq_normal, Nat.reduceEqDiff, not_false_eq_true]
      obtain rfl := Option.some.inj hm1
      obtain rfl := hb3 _ rfl
      try dsimp only at hm0
      exact J2 set_7 _ _ s7 hm0

end Go.Nw.DM

namespace Go.Nw.DM
open Go.Nw.Door
set_option linter.unusedSimpArgs false
set_option linter.unusedVariables false
variable {O : Orac}

theorem k_r03_conducts_body (hf : Has O "newel/newelref03.conducts" x_r03_conducts) : C_r03_conducts_body O := by
  intro self_r03_conducts self_r03_conducts_h c wire hazards closed open_ r hm0
  unfold r03_conducts_body at hm0
  refine fn_cw hf rfl (fz_cons (.agg _ (fz_cons (frz_v _) (fz_cons (frz_fs fun a _ => fz_eI a) (fz_cons (frz_fs fun a _ => fz_eWire a) fz_nil)))) (fz_cons (frz_v _) (fz_cons (frz_v _) (fz_cons (frz_v _) (fz_cons (frz_v _) fz_nil))))) (frz_v _) ?_
  refine cw_start (fun t h => t 0 = .agg [I c.Hazards, .fs 1 (List.map eI c.Switches), .fs 2 (List.map eWire c.Wires)] ∧ t 1 = I wire ∧ t 2 = I hazards ∧ t 3 = I closed ∧ t 4 = I open_) ⟨rfl, rfl, rfl, rfl, rfl⟩ fun t h ⟨s0, s1, s2, s3, s4⟩ => ?_
  simp only [x_r03_conducts]
  refine cw_reg_seq fun K hK => ?_
  simp only [go_sem, s0]
  refine hK _ _ ?_
  clear hK K
  obtain ⟨x2, h_x2, hm0⟩ := bind_get hm0
  have h_x20 := get_nn h_x2
  have h_x21 := get_lt h_x2
  refine cw_reg_seq fun K hK => ?_
  simp only [go_sem, s1, ielem_get h_x2, irow_get h_x2, h_x20, h_x21]
  refine hK _ _ ?_
  clear hK K
  refine cw_assoc ?_
  refine cw_reg_seq fun K hK => ?_
  simp only [go_sem]
  refine hK _ _ ?_
  clear hK K
  refine cw_seq_k fun K3 hK3 => ?_
  simp only [go_sem]
  refine ibr_intro (fun hc4 => ?_) (fun hc4 => ?_)
  · rw [if_t hc4] at hm0
    obtain ⟨x6, h_x6, hm0⟩ := bind_get hm0
    have h_x60 := get_nn h_x6
    have h_x61 := get_lt h_x6
    refine cw_reg_seq fun K hK => ?_
    simp only [go_sem, ielem_get h_x6, irow_get h_x6, h_x60, h_x61]
    refine hK _ _ ?_
    clear hK K
    obtain ⟨q12, h_q12, hm0⟩ := bind_get hm0
    obtain ⟨c16, h_c16, hm0⟩ := bind_get hm0
    refine cw_reg_postK (fun t h => t 10 = B c16) (fun K hK => ?_) ?_
    · simp only [go_sem, s2, s3, s4, ibin_shr h_q12]
      refine ibr_intro (fun hg17 => ?_) (fun hg17 => ?_)
      · simp only [hg17, Bool.not_true, Bool.not_false, eq_self, if_true, if_false, Bool.true_or, Bool.or_true, Bool.false_or, Bool.or_false, Bool.true_and, Bool.and_true, Bool.false_and, Bool.and_false, Bool.false_eq_true] at h_c16
        obtain ⟨q13, h_q13, h_c16⟩ := bind_get h_c16
        obtain ⟨c15, h_c15, h_c16⟩ := bind_get h_c16
        obtain rfl := Option.some.inj h_c16
        simp only [go_sem, s2, s3, s4, ibin_shr h_q12, ibin_shr h_q13, hg17]
        refine ibr_intro (fun hg18 => ?_) (fun hg18 => ?_)
        · simp only [hg17, hg18, Bool.not_true, Bool.not_false, eq_self, if_true, if_false, Bool.true_or, Bool.or_true, Bool.false_or, Bool.or_false, Bool.true_and, Bool.and_true, Bool.false_and, Bool.and_false, Bool.false_eq_true] at h_c15
          obtain rfl := Option.some.inj h_c15
          simp only [go_sem, s2, s3, s4, ibin_shr h_q12, ibin_shr h_q13, hg17, hg18]
          exact hK _ _ (by first | rfl | simp only [go_sem, hg17, hg18, List.length_append, List.map_append])
        · simp only [hg17, hg18, Bool.not_true, Bool.not_false, eq_self, if_true, if_false, Bool.true_or, Bool.or_true, Bool.false_or, Bool.or_false, Bool.true_and, Bool.and_true, Bool.false_and, Bool.and_false, Bool.false_eq_true] at h_c15
          obtain ⟨x14, h_x14, h_c15⟩ := bind_get h_c15
          have h_x140 := get_nn h_x14
          have h_x141 := get_lt h_x14
          obtain rfl := Option.some.inj h_c15
          simp only [go_sem, s2, s3, s4, ibin_shr h_q12, ibin_shr h_q13, ielem_get h_x14, irow_get h_x14, h_x140, h_x141, hg17, hg18]
          exact hK _ _ (by first | rfl | simp only [go_sem, hg17, hg18, List.length_append, List.map_append])
      · simp only [hg17, Bool.not_true, Bool.not_false, eq_self, if_true, if_false, Bool.true_or, Bool.or_true, Bool.false_or, Bool.or_false, Bool.true_and, Bool.and_true, Bool.false_and, Bool.and_false, Bool.false_eq_true] at h_c16
        obtain rfl := Option.some.inj h_c16
        simp only [go_sem, s2, s3, s4, ibin_shr h_q12, hg17]
        exact hK _ _ (by first | rfl | simp only [go_sem, hg17, List.length_append, List.map_append])
    · rintro t h s10
      simp only [cw_ret, qseq_ret, qblock_ret, retQ_ret]
      obtain rfl := Option.some.inj hm0
      exact done_t (by simp only [go_sem, s10, List.length_append, List.map_append]) (frz_v _)
  · rw [if_f hc4] at hm0
    simp only [cw_skip, qblock_normal, qseq_normal]
    refine hK3 _ _ ?_
    refine cw_assoc ?_
    refine cw_reg_seq fun K hK => ?_
    simp only [go_sem]
    refine hK _ _ ?_
    clear hK K
    refine cw_seq_k fun K19 hK19 => ?_
    have J20 : ∀ (i11 : Nat) (t : Slots) (h : Heap), t 11 = .rp i11 0 0 → h.ob i11 = some (2, [[I x2.Kind, .fs 1 (List.map eI x2.Of)]]) → i11 < h.nx → r03_conducts_body_j20 x2 = some r → K19 t h := by
      intro i11 t h s11 ob_o11 lt_o11 hm0
      refine hK19 _ _ ?_
      unfold r03_conducts_body_j20 at hm0
      refine cw_reg_seq fun K hK => ?_
      simp only [go_sem, s11, ob_o11, lt_o11]
      refine hK _ _ ?_
      clear hK K
      simp only [cw_ret, qseq_ret, qblock_ret, retQ_ret]
      obtain rfl := Option.some.inj hm0
      exact done_t (by simp only [go_sem, ob_o11, lt_o11, List.length_append, List.map_append]) (frz_v _)
    simp only [cw_block]
    obtain ⟨b21, hl21, hm0⟩ := bind_get hm0
    refine cw_loopM hl21 (fun | k_13, t, h => ∃ i11 : Nat, t 2 = I hazards ∧ t 3 = I closed ∧ t 4 = I open_ ∧ t 5 = .fp [I c.Hazards, .fs 1 (List.map eI c.Switches), .fs 2 (List.map eWire c.Wires)] 0 ∧ t 11 = .rp i11 0 0 ∧ t 13 = I k_13 ∧ h.ob i11 = some (2, [[I x2.Kind, .fs 1 (List.map eI x2.Of)]]) ∧ i11 < h.nx) ?_ ?_
    · exact ⟨h.nx, s2, s3, s4, (by first | rfl | simp only [go_sem, List.length_append, List.map_append]), (by first | rfl | simp only [go_sem, List.length_append, List.map_append]), (by first | rfl | simp only [go_sem, List.length_append, List.map_append]), (by simp only [go_sem, List.length_append, List.map_append]), (by simp only [go_sem])⟩
    · rintro k_13 o t h ⟨i11, s2, s3, s4, s5, s11, s13, ob_o11, lt_o11⟩ hm1 hb21
      simp only [r03_conducts_body_L10] at hm1
      rw [x_r03_conducts_L10]
      refine cw_assoc ?_
      refine cw_reg_seq fun K hK => ?_
      simp only [go_sem, s11, s13, ob_o11, lt_o11]
      refine hK _ _ ?_
      clear hK K
      refine cw_seq_k fun K22 hK22 => ?_
      simp only [go_sem]
      refine ibr_intro (fun hc23 => ?_) (fun hc23 => ?_)
      · rw [if_t hc23] at hm1
        simp only [cw_skip, qblock_normal, qseq_normal]
        refine hK22 _ _ ?_
        refine cw_seq_k fun K24 hK24 => ?_
        simp only [cw_block]
        obtain ⟨x27, h_x27, hm1⟩ := bind_get hm1
        have h_x270 := get_nn h_x27
        have h_x271 := get_lt h_x27
        obtain ⟨y28, h_y28, hm1⟩ := bind_get hm1
        refine cw_reg_seq fun K hK => ?_
        simp only [go_sem, s2, s3, s4, s5, s11, s13, ob_o11, lt_o11, ielem_get h_x27, irow_get h_x27, h_x270, h_x271]
        refine icall_fn (self_r03_conducts_h c x27 hazards closed open_ _ h_y28) ?_
        simp only [go_sem, s2, s3, s4, s5, s11, s13, ob_o11, lt_o11, ielem_get h_x27, irow_get h_x27, h_x270, h_x271]
        refine hK _ _ ?_
        clear hK K
        simp only [go_sem]
        refine ibr_intro (fun hc29 => ?_) (fun hc29 => ?_)
        · rw [if_t hc29] at hm1
          refine cw_reg_seq fun K hK => ?_
          simp only [go_sem, s11, ob_o11, lt_o11]
          refine hK _ _ ?_
          clear hK K
          simp only [cw_ret, qseq_ret, qblock_ret, retQ_ret]
          obtain rfl := Option.some.inj hm1
          obtain rfl := hb21 _ rfl
          try dsimp only at hm0
          obtain rfl := Option.some.inj hm0
          exact done_t (by simp only [go_sem, ob_o11, lt_o11, List.length_append, List.map_append]) (frz_v _)
        · rw [if_f hc29] at hm1
          simp only [cw_skip, qblock_normal, qseq_normal]
          refine hK24 _ _ ?_
          refine cw_reg_k fun K hK => ?_
          simp only [go_sem, s13, lt_o11]
          refine hK _ _ ?_
          clear hK K
          simp only [qblock_normal, qseq_normal]
          obtain rfl := Option.some.inj hm1
          refine ⟨_, rfl, ?_⟩
          exact ⟨i11, s2, s3, s4, s5, s11, (by first | rfl | exact s13 | simp only [go_sem, s13, List.length_append, List.map_append]), ob_o11, lt_o11⟩
      · rw [if_f hc23] at hm1
        simp only [cw_exit, qseq_exit, qblock_same, qblock_ne, qblock_normal, qseq_normal, Nat.reduceEqDiff, not_false_eq_true]
        obtain rfl := Option.some.inj hm1
        obtain rfl := hb21 _ rfl
        try dsimp only at hm0
        exact J20 i11 _ _ s11 ob_o11 lt_o11 hm0

theorem k_r03_conducts (k_r03_conducts_body : C_r03_conducts_body O) : C_r03_conducts O := by
  intro n
  induction n with
  | zero => intro c wire hazards closed open_ r h; cases h
  | succ n ih => exact fun c wire hazards closed open_ r h => k_r03_conducts_body (r03_conducts n) ih c wire hazards closed open_ r h

end Go.Nw.DM

namespace Go.Nw.DM
open Go.Nw.Door
set_option linter.unusedSimpArgs false
set_option linter.unusedVariables false
variable {O : Orac}

theorem k_r03_every (hf : Has O "newel/newelref03.every" x_r03_every) (k_r03_shown : C_r03_shown O) : C_r03_every O := by
  intro c l r hm0
  unfold r03_every at hm0
  refine fn_cw hf rfl (fz_cons (.agg _ (fz_cons (frz_v _) (fz_cons (frz_fs fun a _ => fz_eI a) (fz_cons (frz_fs fun a _ => fz_eWire a) fz_nil)))) (fz_cons (frz_fs fun a _ => fz_eTrial a) fz_nil)) (frz_fs fun a _ => fz_eI a) ?_
  refine cw_start (fun t h => t 0 = .agg [I c.Hazards, .fs 1 (List.map eI c.Switches), .fs 2 (List.map eWire c.Wires)] ∧ t 1 = .fs 2 (List.map eTrial l)) ⟨rfl, rfl⟩ fun t h ⟨s0, s1⟩ => ?_
  simp only [x_r03_every]
  refine cw_reg_seq fun K hK => ?_
  simp only [go_sem, s0]
  refine hK _ _ ?_
  clear hK K
  refine cw_reg_seq fun K hK => ?_
  simp only [go_sem]
  refine hK _ _ ?_
  clear hK K
  refine cw_assoc ?_
  refine cw_reg_seq fun K hK => ?_
  simp only [go_sem]
  refine hK _ _ ?_
  clear hK K
  refine cw_seq_k fun K1 hK1 => ?_
  have J2 : ∀ (shows_5 : List Int) (v5 : AV) (t : Slots) (h : Heap), t 5 = v5 → OwnS h v5 1 (List.map eI shows_5) → r03_every_j2 shows_5 = some r → K1 t h := by
    intro shows_5 v5 t h s5 ow_o5 hm0
    refine hK1 _ _ ?_
    unfold r03_every_j2 at hm0
    refine cw_reg_seq fun K hK => ?_
    simp only [go_sem, s5, istr_of v5]
    refine hK _ _ ?_
    clear hK K
    simp only [cw_ret, qseq_ret, qblock_ret, retQ_ret]
    obtain rfl := Option.some.inj hm0
    exact done_fz (v := v5) (by simp only [go_sem, List.length_append, List.map_append]) (fz_own (f := eI) (l := shows_5) (own_later ow_o5 (by intro j hj hl; first | rfl | simp only [go_sem, hl]) (by first | omega | (simp only [go_sem, nxs]; omega))) fz_eI ln_eI)
  simp only [cw_block]
  obtain ⟨b3, hl3, hm0⟩ := bind_get hm0
  refine cw_loopM hl3 (fun | (shows_5, i_6), t, h => ∃ v5 : AV, t 1 = .fs 2 (List.map eTrial l) ∧ t 2 = .fp [I c.Hazards, .fs 1 (List.map eI c.Switches), .fs 2 (List.map eWire c.Wires)] 0 ∧ t 5 = v5 ∧ t 6 = I i_6 ∧ OwnS h v5 1 (List.map eI shows_5)) ?_ ?_
  · exact ⟨(.v (.slice none 0 0)), s1, (by first | rfl | simp only [go_sem, List.length_append, List.map_append]), (by first | rfl | simp only [go_sem, List.length_append, List.map_append]), (by first | rfl | simp only [go_sem, List.length_append, List.map_append]), own_nil'⟩
  · rintro ⟨shows_5, i_6⟩ o t h ⟨v5, s1, s2, s5, s6, ow_o5⟩ hm1 hb3
    simp only [r03_every_L6] at hm1
    rw [x_r03_every_L6]
    refine cw_assoc ?_
    refine cw_reg_seq fun K hK => ?_
    simp only [go_sem, s1, s6, istr_of v5]
    refine hK _ _ ?_
    clear hK K
    refine cw_seq_k fun K4 hK4 => ?_
    simp only [go_sem]
    refine ibr_intro (fun hc5 => ?_) (fun hc5 => ?_)
    · rw [if_t hc5] at hm1
      simp only [cw_skip, qblock_normal, qseq_normal]
      refine hK4 _ _ ?_
      refine cw_seq_k fun K6 hK6 => ?_
      simp only [cw_block]
      obtain ⟨x10, h_x10, hm1⟩ := bind_get hm1
      have h_x100 := get_nn h_x10
      have h_x101 := get_lt h_x10
      obtain ⟨y11, h_y11, hm1⟩ := bind_get hm1
      obtain ⟨l12, h_l12, hm1⟩ := bind_get hm1
      refine cw_reg_k fun K hK => ?_
      simp only [go_sem, s1, s2, s5, s6, ielem_get h_x10, irow_get h_x10, h_x100, h_x101, istr_of v5]
      refine icall_fn (k_r03_shown c x10 _ h_y11) ?_
      simp only [go_sem, s1, s2, s5, s6, ielem_get h_x10, irow_get h_x10, h_x100, h_x101, istr_of v5]
      refine iapp_own (f := eI) (l := shows_5) (m := ([y11])) ?_ ?_ ?_ ?_ h_l12 ?_
      · exact (own_later ow_o5 (by intro j hj hl; first | rfl | simp only [go_sem, hl]) (by first | omega | (simp only [go_sem, nxs]; omega)))
      · exact (ownx_rs (by simp only [go_sem, List.length_append, List.map_append]) (by simp only [go_sem, List.length_append, List.map_append]))
      · exact (nd_rs (by first | exact notid_nil | exact notid_rs (by first | omega | (simp only [nxs]; omega)) | assumption | exact own_notid (by assumption) (by first | omega | (simp only [go_sem, nxs]; omega))))
      · exact (fun _ => by simp)
      simp only [go_sem, s1, s2, s5, s6, ielem_get h_x10, irow_get h_x10, h_x100, h_x101, istr_of v5]
      refine hK _ _ ?_
      clear hK K
      simp only [qblock_normal, qseq_normal]
      refine hK6 _ _ ?_
      refine cw_reg_k fun K hK => ?_
      simp only [go_sem, s6, istr_of v5]
      refine hK _ _ ?_
      clear hK K
      simp only [qblock_normal, qseq_normal]
      obtain rfl := Option.some.inj hm1
      refine ⟨_, rfl, ?_⟩
      exact ⟨(.rs (nxs h.nx) 0 (List.length l12)), s1, s2, (by first | rfl | exact s5 | simp only [go_sem, s5, List.length_append, List.map_append]), (by first | rfl | exact s6 | simp only [go_sem, s6, List.length_append, List.map_append]), (own_rs (by simp only [go_sem, List.length_append, List.map_append]) (by simp only [go_sem, List.length_append, List.map_append]) (by simp only [go_sem]))⟩
    · rw [if_f hc5] at hm1
      simp only [cw_exit, qseq_exit, qblock_same, qblock_ne, qblock_normal, qseq_normal, Nat.reduceEqDiff, not_false_eq_true]
      obtain rfl := Option.some.inj hm1
      obtain rfl := hb3 _ rfl
      try dsimp only at hm0
      exact J2 shows_5 v5 _ _ s5 ow_o5 hm0

end Go.Nw.DM

namespace Go.Nw.DM
open Go.Nw.Door
set_option linter.unusedSimpArgs false
set_option linter.unusedVariables false
variable {O : Orac}

theorem k_r03_less (hf : Has O "newel/newelref03.less" x_r03_less) : C_r03_less O := by
  intro a b r hm0
  unfold r03_less at hm0
  refine fn_cw hf rfl (fz_cons (frz_fs fun a _ => fz_eI a) (fz_cons (frz_fs fun a _ => fz_eI a) fz_nil)) (frz_v _) ?_
  refine cw_start (fun t h => t 0 = .fs 1 (List.map eI a) ∧ t 1 = .fs 1 (List.map eI b)) ⟨rfl, rfl⟩ fun t h ⟨s0, s1⟩ => ?_
  simp only [x_r03_less]
  refine cw_reg_seq fun K hK => ?_
  simp only [go_sem]
  refine hK _ _ ?_
  clear hK K
  refine cw_assoc ?_
  refine cw_reg_seq fun K hK => ?_
  simp only [go_sem]
  refine hK _ _ ?_
  clear hK K
  refine cw_seq_k fun K1 hK1 => ?_
  have J2 : ∀ (t : Slots) (h : Heap), r03_less_j2 = some r → K1 t h := by
    intro t h hm0
    refine hK1 _ _ ?_
    unfold r03_less_j2 at hm0
    refine cw_reg_seq fun K hK => ?_
    simp only [go_sem]
    refine hK _ _ ?_
    clear hK K
    simp only [cw_ret, qseq_ret, qblock_ret, retQ_ret]
    obtain rfl := Option.some.inj hm0
    exact done_t (by simp only [go_sem, List.length_append, List.map_append]) (frz_v _)
  simp only [cw_block]
  obtain ⟨b3, hl3, hm0⟩ := bind_get hm0
  refine cw_loopM hl3 (fun | i_5, t, h => t 0 = .fs 1 (List.map eI a) ∧ t 1 = .fs 1 (List.map eI b) ∧ t 5 = I i_5) ?_ ?_
  · exact ⟨s0, s1, (by first | rfl | simp only [go_sem, List.length_append, List.map_append])⟩
  · rintro i_5 o t h ⟨s0, s1, s5⟩ hm1 hb3
    simp only [r03_less_L6] at hm1
    rw [x_r03_less_L6]
    refine cw_assoc ?_
    refine cw_reg_seq fun K hK => ?_
    simp only [go_sem, s0, s5]
    refine hK _ _ ?_
    clear hK K
    refine cw_seq_k fun K4 hK4 => ?_
    simp only [go_sem]
    refine ibr_intro (fun hc5 => ?_) (fun hc5 => ?_)
    · rw [if_t hc5] at hm1
      simp only [cw_skip, qblock_normal, qseq_normal]
      refine hK4 _ _ ?_
      refine cw_seq_k fun K6 hK6 => ?_
      simp only [cw_block]
      obtain ⟨x9, h_x9, hm1⟩ := bind_get hm1
      have h_x90 := get_nn h_x9
      have h_x91 := get_lt h_x9
      obtain ⟨x10, h_x10, hm1⟩ := bind_get hm1
      have h_x100 := get_nn h_x10
      have h_x101 := get_lt h_x10
      refine cw_reg_seq fun K hK => ?_
      simp only [go_sem, s0, s1, s5, ielem_get h_x9, irow_get h_x9, h_x90, h_x91, ielem_get h_x10, irow_get h_x10, h_x100, h_x101]
      refine hK _ _ ?_
      clear hK K
      simp only [go_sem]
      refine ibr_intro (fun hc11 => ?_) (fun hc11 => ?_)
      · rw [if_t hc11] at hm1
        refine cw_reg_seq fun K hK => ?_
        simp only [go_sem, s0, s1, s5, ielem_get h_x9, irow_get h_x9, h_x90, h_x91, ielem_get h_x10, irow_get h_x10, h_x100, h_x101]
        refine hK _ _ ?_
        clear hK K
        simp only [cw_ret, qseq_ret, qblock_ret, retQ_ret]
        obtain rfl := Option.some.inj hm1
        obtain rfl := hb3 _ rfl
        try dsimp only at hm0
        obtain rfl := Option.some.inj hm0
        exact done_t (by simp only [go_sem, List.length_append, List.map_append]) (frz_v _)
      · rw [if_f hc11] at hm1
        simp only [cw_skip, qblock_normal, qseq_normal]
        refine hK6 _ _ ?_
        refine cw_reg_k fun K hK => ?_
        simp only [go_sem, s5]
        refine hK _ _ ?_
        clear hK K
        simp only [qblock_normal, qseq_normal]
        obtain rfl := Option.some.inj hm1
        refine ⟨_, rfl, ?_⟩
        exact ⟨s0, s1, (by first | rfl | exact s5 | simp only [go_sem, s5, List.length_append, List.map_append])⟩
    · rw [if_f hc5] at hm1
      simp only [cw_exit, qseq_exit, qblock_same, qblock_ne, qblock_normal, qseq_normal, Nat.reduceEqDiff, not_false_eq_true]
      obtain rfl := Option.some.inj hm1
      obtain rfl := hb3 _ rfl
      try dsimp only at hm0
      exact J2  _ _  hm0

end Go.Nw.DM

namespace Go.Nw.DM
open Go.Nw.Door
set_option linter.unusedSimpArgs false
set_option linter.unusedVariables false
variable {O : Orac}

theorem k_r03_members (hf : Has O "newel/newelref03.members" x_r03_members) : C_r03_members O := by
  intro set n r hm0
  unfold r03_members at hm0
  refine fn_cw hf rfl (fz_cons (frz_v _) (fz_cons (frz_v _) fz_nil)) (frz_fs fun a _ => fz_eI a) ?_
  refine cw_start (fun t h => t 0 = I set ∧ t 1 = I n) ⟨rfl, rfl⟩ fun t h ⟨s0, s1⟩ => ?_
  simp only [x_r03_members]
  refine cw_reg_seq fun K hK => ?_
  simp only [go_sem]
  refine hK _ _ ?_
  clear hK K
  refine cw_reg_seq fun K hK => ?_
  simp only [go_sem]
  refine hK _ _ ?_
  clear hK K
  refine cw_assoc ?_
  refine cw_reg_seq fun K hK => ?_
  simp only [go_sem]
  refine hK _ _ ?_
  clear hK K
  refine cw_seq_k fun K1 hK1 => ?_
  have J2 : ∀ (l_5 : List Int) (v5 : AV) (t : Slots) (h : Heap), t 5 = v5 → OwnS h v5 1 (List.map eI l_5) → r03_members_j2 l_5 = some r → K1 t h := by
    intro l_5 v5 t h s5 ow_o5 hm0
    refine hK1 _ _ ?_
    unfold r03_members_j2 at hm0
    refine cw_reg_seq fun K hK => ?_
    simp only [go_sem, s5, istr_of v5]
    refine hK _ _ ?_
    clear hK K
    simp only [cw_ret, qseq_ret, qblock_ret, retQ_ret]
    obtain rfl := Option.some.inj hm0
    exact done_fz (v := v5) (by simp only [go_sem, List.length_append, List.map_append]) (fz_own (f := eI) (l := l_5) (own_later ow_o5 (by intro j hj hl; first | rfl | simp only [go_sem, hl]) (by first | omega | (simp only [go_sem, nxs]; omega))) fz_eI ln_eI)
  simp only [cw_block]
  obtain ⟨b3, hl3, hm0⟩ := bind_get hm0
  refine cw_loopM hl3 (fun | (l_5, i_6), t, h => ∃ v5 : AV, t 0 = I set ∧ t 1 = I n ∧ t 5 = v5 ∧ t 6 = I i_6 ∧ OwnS h v5 1 (List.map eI l_5)) ?_ ?_
  · exact ⟨(.v (.slice none 0 0)), s0, s1, (by first | rfl | simp only [go_sem, List.length_append, List.map_append]), (by first | rfl | simp only [go_sem, List.length_append, List.map_append]), own_nil'⟩
  · rintro ⟨l_5, i_6⟩ o t h ⟨v5, s0, s1, s5, s6, ow_o5⟩ hm1 hb3
    simp only [r03_members_L7] at hm1
    rw [x_r03_members_L7]
    refine cw_assoc ?_
    refine cw_reg_seq fun K hK => ?_
    simp only [go_sem, s1, s6, istr_of v5]
    refine hK _ _ ?_
    clear hK K
    refine cw_seq_k fun K4 hK4 => ?_
    simp only [go_sem]
    refine ibr_intro (fun hc5 => ?_) (fun hc5 => ?_)
    · rw [if_t hc5] at hm1
      simp only [cw_skip, qblock_normal, qseq_normal]
      refine hK4 _ _ ?_
      refine cw_seq_k fun K6 hK6 => ?_
      have J7 : ∀ (l_5_1 : List Int) (v5_1 : AV) (t : Slots) (h : Heap), t 0 = I set → t 1 = I n → t 5 = v5_1 → t 6 = I i_6 → OwnS h v5_1 1 (List.map eI l_5_1) → r03_members_j7 i_6 l_5_1 = some o → K6 t h := by
        intro l_5_1 v5_1 t h s0 s1 s5 s6 ow_o5 hm1
        refine hK6 _ _ ?_
        unfold r03_members_j7 at hm1
        refine cw_reg_k fun K hK => ?_
        simp only [go_sem, s6, istr_of v5, istr_of v5_1]
        refine hK _ _ ?_
        clear hK K
        simp only [qblock_normal, qseq_normal]
        obtain rfl := Option.some.inj hm1
        refine ⟨_, rfl, ?_⟩
        exact ⟨v5_1, s0, s1, s5, (by first | rfl | exact s6 | simp only [go_sem, s6, List.length_append, List.map_append]), ow_o5⟩
      simp only [cw_block]
      obtain ⟨q9, h_q9, hm1⟩ := bind_get hm1
      refine cw_reg_seq fun K hK => ?_
      simp only [go_sem, s0, s6, ibin_shr h_q9, istr_of v5]
      refine hK _ _ ?_
      clear hK K
      simp only [go_sem]
      refine ibr_intro (fun hc10 => ?_) (fun hc10 => ?_)
      · rw [if_t hc10] at hm1
        obtain ⟨l12, h_l12, hm1⟩ := bind_get hm1
        refine cw_reg_k fun K hK => ?_
        simp only [go_sem, s5, s6, istr_of v5]
        refine iapp_own (f := eI) (l := l_5) (m := ([i_6])) ?_ ?_ ?_ ?_ h_l12 ?_
        · exact (own_later ow_o5 (by intro j hj hl; first | rfl | simp only [go_sem, hl]) (by first | omega | (simp only [go_sem, nxs]; omega)))
        · exact (ownx_rs (by simp only [go_sem, List.length_append, List.map_append]) (by simp only [go_sem, List.length_append, List.map_append]))
        · exact (nd_rs (by first | exact notid_nil | exact notid_rs (by first | omega | (simp only [nxs]; omega)) | assumption | exact own_notid (by assumption) (by first | omega | (simp only [go_sem, nxs]; omega))))
        · exact (fun _ => by simp)
        simp only [go_sem, s5, s6, istr_of v5]
        refine hK _ _ ?_
        clear hK K
        simp only [qblock_normal, qseq_normal]
        exact J7 l12 (.rs (nxs h.nx) 0 (List.length l12)) _ _ s0 s1 (by first | rfl | exact s5 | simp only [go_sem, s5, List.length_append, List.map_append]) s6 (own_rs (by simp only [go_sem, List.length_append, List.map_append]) (by simp only [go_sem, List.length_append, List.map_append]) (by simp only [go_sem])) hm1
      · rw [if_f hc10] at hm1
        simp only [cw_skip, qblock_normal, qseq_normal]
        exact J7 l_5 v5 _ _ s0 s1 s5 s6 ow_o5 hm1
    · rw [if_f hc5] at hm1
      simp only [cw_exit, qseq_exit, qblock_same, qblock_ne, qblock_normal, qseq_normal, Nat.reduceEqDiff, not_false_eq_true]
      obtain rfl := Option.some.inj hm1
      obtain rfl := hb3 _ rfl
      try dsimp only at hm0
      exact J2 l_5 v5 _ _ s5 ow_o5 hm0

end Go.Nw.DM

namespace Go.Nw.DM
open Go.Nw.Door
set_option linter.unusedSimpArgs false
set_option linter.unusedVariables false
variable {O : Orac}

theorem k_r03_shown (hf : Has O "newel/newelref03.shown" x_r03_shown) (k_r03_Tells : C_r03_Tells O) : C_r03_shown O := by
  intro c t_ r hm0
  unfold r03_shown at hm0
  refine fn_cw hf rfl (fz_cons (.agg _ (fz_cons (frz_v _) (fz_cons (frz_fs fun a _ => fz_eI a) (fz_cons (frz_fs fun a _ => fz_eWire a) fz_nil)))) (fz_cons (.agg _ (fz_cons (frz_v _) (fz_cons (frz_v _) fz_nil))) fz_nil)) (frz_v _) ?_
  refine cw_start (fun t h => t 0 = .agg [I c.Hazards, .fs 1 (List.map eI c.Switches), .fs 2 (List.map eWire c.Wires)] ∧ t 1 = .agg [I t_.Hazards, I t_.Wire]) ⟨rfl, rfl⟩ fun t h ⟨s0, s1⟩ => ?_
  simp only [x_r03_shown]
  refine cw_reg_seq fun K hK => ?_
  simp only [go_sem, s0, s1]
  refine hK _ _ ?_
  clear hK K
  refine cw_reg_seq fun K hK => ?_
  simp only [go_sem]
  refine hK _ _ ?_
  clear hK K
  refine cw_assoc ?_
  refine cw_reg_seq fun K hK => ?_
  simp only [go_sem]
  refine hK _ _ ?_
  clear hK K
  refine cw_seq_k fun K1 hK1 => ?_
  have J2 : ∀ (set_5 : Int) (t : Slots) (h : Heap), t 5 = I set_5 → r03_shown_j2 set_5 = some r → K1 t h := by
    intro set_5 t h s5 hm0
    refine hK1 _ _ ?_
    unfold r03_shown_j2 at hm0
    refine cw_reg_seq fun K hK => ?_
    simp only [go_sem, s5]
    refine hK _ _ ?_
    clear hK K
    simp only [cw_ret, qseq_ret, qblock_ret, retQ_ret]
    obtain rfl := Option.some.inj hm0
    exact done_t (by simp only [go_sem, List.length_append, List.map_append]) (frz_v _)
  simp only [cw_block]
  obtain ⟨b3, hl3, hm0⟩ := bind_get hm0
  refine cw_loopM hl3 (fun | (set_5, i_6), t, h => t 2 = .fp [I c.Hazards, .fs 1 (List.map eI c.Switches), .fs 2 (List.map eWire c.Wires)] 0 ∧ t 3 = .fp [I t_.Hazards, I t_.Wire] 0 ∧ t 5 = I set_5 ∧ t 6 = I i_6) ?_ ?_
  · exact ⟨(by first | rfl | simp only [go_sem, List.length_append, List.map_append]), (by first | rfl | simp only [go_sem, List.length_append, List.map_append]), (by first | rfl | simp only [go_sem, List.length_append, List.map_append]), (by first | rfl | simp only [go_sem, List.length_append, List.map_append])⟩
  · rintro ⟨set_5, i_6⟩ o t h ⟨s2, s3, s5, s6⟩ hm1 hb3
    simp only [r03_shown_L7] at hm1
    rw [x_r03_shown_L7]
    refine cw_assoc ?_
    refine cw_reg_seq fun K hK => ?_
    simp only [go_sem, s2, s6]
    refine hK _ _ ?_
    clear hK K
    refine cw_seq_k fun K4 hK4 => ?_
    simp only [go_sem]
    refine ibr_intro (fun hc5 => ?_) (fun hc5 => ?_)
    · rw [if_t hc5] at hm1
      simp only [cw_skip, qblock_normal, qseq_normal]
      refine hK4 _ _ ?_
      refine cw_seq_k fun K6 hK6 => ?_
      have J7 : ∀ (set_5_1 : Int) (t : Slots) (h : Heap), t 2 = .fp [I c.Hazards, .fs 1 (List.map eI c.Switches), .fs 2 (List.map eWire c.Wires)] 0 → t 3 = .fp [I t_.Hazards, I t_.Wire] 0 → t 5 = I set_5_1 → t 6 = I i_6 → r03_shown_j7 i_6 set_5_1 = some o → K6 t h := by
        intro set_5_1 t h s2 s3 s5 s6 hm1
        refine hK6 _ _ ?_
        unfold r03_shown_j7 at hm1
        refine cw_reg_k fun K hK => ?_
        simp only [go_sem, s6]
        refine hK _ _ ?_
        clear hK K
        simp only [qblock_normal, qseq_normal]
        obtain rfl := Option.some.inj hm1
        refine ⟨_, rfl, ?_⟩
        exact ⟨s2, s3, s5, (by first | rfl | exact s6 | simp only [go_sem, s6, List.length_append, List.map_append])⟩
      simp only [cw_block]
      obtain ⟨q10, h_q10, hm1⟩ := bind_get hm1
      obtain ⟨y11, h_y11, hm1⟩ := bind_get hm1
      refine cw_reg_seq fun K hK => ?_
      simp only [go_sem, s2, s3, s6, ibin_shl h_q10]
      refine icall_fn (k_r03_Tells c t_ q10 _ h_y11) ?_
      simp only [go_sem, s2, s3, s6, ibin_shl h_q10]
      refine hK _ _ ?_
      clear hK K
      simp only [go_sem]
      refine ibr_intro (fun hc12 => ?_) (fun hc12 => ?_)
      · rw [if_t hc12] at hm1
        refine cw_reg_k fun K hK => ?_
        simp only [go_sem, s5, s6, ibin_shl h_q10]
        refine hK _ _ ?_
        clear hK K
        simp only [qblock_normal, qseq_normal]
        exact J7 (bor set_5 q10) _ _ s2 s3 (by first | rfl | exact s5 | simp only [go_sem, s5, List.length_append, List.map_append]) s6 hm1
      · rw [if_f hc12] at hm1
        simp only [cw_skip, qblock_normal, qseq_normal]
        exact J7 set_5 _ _ s2 s3 s5 s6 hm1
    · rw [if_f hc5] at hm1
      simp only [cw_exit, qseq_exit, qblock_same, qblock_ne, qblock_normal, qseq_normal, Nat.reduceEqDiff, not_false_eq_true]
      obtain rfl := Option.some.inj hm1
      obtain rfl := hb3 _ rfl
      try dsimp only at hm0
      exact J2 set_5 _ _ s5 hm0

end Go.Nw.DM

namespace Go.Nw.DM
open Go.Nw.Door
set_option linter.unusedSimpArgs false
set_option linter.unusedVariables false
variable {O : Orac}

theorem k_r03_within (hf : Has O "newel/newelref03.within" x_r03_within) : C_r03_within O := by
  intro n low high
  generalize hm0 : r03_within n low high = r
  unfold r03_within at hm0
  refine fn_cw hf rfl (fz_cons (frz_v _) (fz_cons (frz_v _) (fz_cons (frz_v _) fz_nil))) (frz_v _) ?_
  refine cw_start (fun t h => t 0 = I n ∧ t 1 = I low ∧ t 2 = I high) ⟨rfl, rfl, rfl⟩ fun t h ⟨s0, s1, s2⟩ => ?_
  simp only [x_r03_within]
  refine cw_reg_seq fun K hK => ?_
  simp only [go_sem]
  refine hK _ _ ?_
  clear hK K
  refine cw_reg_postK (fun t h => t 6 = B ((decide (low ≤ n)) && (decide (n ≤ high)))) (fun K hK => ?_) ?_
  · simp only [go_sem, s0, s1, s2]
    refine ibr_intro (fun hg1 => ?_) (fun hg1 => ?_)
    · simp only [go_sem, s0, s1, s2, hg1]
      exact hK _ _ (by first | rfl | simp only [go_sem, hg1, List.length_append, List.map_append])
    · simp only [go_sem, s0, s1, s2, hg1]
      exact hK _ _ (by first | rfl | simp only [go_sem, hg1, List.length_append, List.map_append])
  · rintro t h s6
    simp only [cw_ret, qseq_ret, qblock_ret, retQ_ret]
    obtain rfl := hm0
    exact done_t (by simp only [go_sem, s6, List.length_append, List.map_append]) (frz_v _)

end Go.Nw.DM

namespace Go.Nw.DM
open Go.Nw.Door
set_option linter.unusedSimpArgs false
set_option linter.unusedVariables false
variable {O : Orac}

theorem k_slices_Compare___int_int_ (hf : Has O "slices.Compare[[]int,int]" x_slices_Compare___int_int_) (k_cmp_Compare_int_ : C_cmp_Compare_int_ O) : C_slices_Compare___int_int_ O := by
  intro s1_ s2_ r hm0
  unfold slices_Compare___int_int_ at hm0
  refine fn_cw hf rfl (fz_cons (frz_fs fun a _ => fz_eI a) (fz_cons (frz_fs fun a _ => fz_eI a) fz_nil)) (frz_v _) ?_
  refine cw_start (fun t h => t 0 = .fs 1 (List.map eI s1_) ∧ t 1 = .fs 1 (List.map eI s2_)) ⟨rfl, rfl⟩ fun t h ⟨s0, s1⟩ => ?_
  simp only [x_slices_Compare___int_int_]
  refine cw_reg_seq fun K hK => ?_
  simp only [go_sem]
  refine hK _ _ ?_
  clear hK K
  refine cw_assoc ?_
  refine cw_reg_seq fun K hK => ?_
  simp only [go_sem, s0]
  refine hK _ _ ?_
  clear hK K
  refine cw_seq_k fun K1 hK1 => ?_
  have J2 : ∀ (t : Slots) (h : Heap), t 0 = .fs 1 (List.map eI s1_) → t 1 = .fs 1 (List.map eI s2_) → slices_Compare___int_int__j2 s1_ s2_ = some r → K1 t h := by
    intro t h s0 s1 hm0
    refine hK1 _ _ ?_
    unfold slices_Compare___int_int__j2 at hm0
    refine cw_assoc ?_
    refine cw_reg_seq fun K hK => ?_
    simp only [go_sem, s0, s1]
    refine hK _ _ ?_
    clear hK K
    refine cw_seq_k fun K3 hK3 => ?_
    simp only [go_sem]
    refine ibr_intro (fun hc4 => ?_) (fun hc4 => ?_)
    · rw [if_t hc4] at hm0
      refine cw_reg_seq fun K hK => ?_
      simp only [go_sem]
      refine hK _ _ ?_
      clear hK K
      simp only [cw_ret, qseq_ret, qblock_ret, retQ_ret]
      obtain rfl := Option.some.inj hm0
      exact done_t (by simp only [go_sem, List.length_append, List.map_append]) (frz_v _)
    · rw [if_f hc4] at hm0
      simp only [cw_skip, qblock_normal, qseq_normal]
      refine hK3 _ _ ?_
      refine cw_reg_seq fun K hK => ?_
      simp only [go_sem]
      refine hK _ _ ?_
      clear hK K
      simp only [cw_ret, qseq_ret, qblock_ret, retQ_ret]
      obtain rfl := Option.some.inj hm0
      exact done_t (by simp only [go_sem, List.length_append, List.map_append]) (frz_v _)
  simp only [cw_block]
  obtain ⟨b5, hl5, hm0⟩ := bind_get hm0
  refine cw_loopM hl5 (fun | x_11, t, h => t 0 = .fs 1 (List.map eI s1_) ∧ t 1 = .fs 1 (List.map eI s2_) ∧ t 9 = .fs 1 (List.map eI s1_) ∧ t 10 = I (List.length s1_ : Int) ∧ t 11 = I x_11) ?_ ?_
  · exact ⟨s0, s1, (by first | rfl | simp only [go_sem, List.length_append, List.map_append]), (by first | rfl | simp only [go_sem, List.length_append, List.map_append]), (by first | rfl | simp only [go_sem, List.length_append, List.map_append])⟩
  · rintro x_11 o t h ⟨s0, s1, s9, s10, s11⟩ hm1 hb5
    simp only [slices_Compare___int_int__L11] at hm1
    rw [x_slices_Compare___int_int__L11]
    refine cw_reg_seq fun K hK => ?_
    simp only [go_sem, s10, s11]
    refine hK _ _ ?_
    clear hK K
    refine cw_seq_k fun K6 hK6 => ?_
    simp only [go_sem]
    refine ibr_intro (fun hc7 => ?_) (fun hc7 => ?_)
    · rw [if_t hc7] at hm1
      simp only [cw_skip, qblock_normal, qseq_normal]
      refine hK6 _ _ ?_
      refine cw_seq_k fun K8 hK8 => ?_
      simp only [cw_block]
      obtain ⟨x10, h_x10, hm1⟩ := bind_get hm1
      have h_x100 := get_nn h_x10
      have h_x101 := get_lt h_x10
      refine cw_reg_seq fun K hK => ?_
      simp only [go_sem, s9, s11, ielem_get h_x10, irow_get h_x10, h_x100, h_x101]
      refine hK _ _ ?_
      clear hK K
      refine cw_assoc ?_
      refine cw_reg_seq fun K hK => ?_
      simp only [go_sem, s1]
      refine hK _ _ ?_
      clear hK K
      refine cw_seq_k fun K11 hK11 => ?_
      simp only [go_sem]
      refine ibr_intro (fun hc12 => ?_) (fun hc12 => ?_)
      · rw [if_t hc12] at hm1
        refine cw_reg_seq fun K hK => ?_
        simp only [go_sem]
        refine hK _ _ ?_
        clear hK K
        simp only [cw_ret, qseq_ret, qblock_ret, retQ_ret]
        obtain rfl := Option.some.inj hm1
        obtain rfl := hb5 _ rfl
        try dsimp only at hm0
        obtain rfl := Option.some.inj hm0
        exact done_t (by simp only [go_sem, List.length_append, List.map_append]) (frz_v _)
      · rw [if_f hc12] at hm1
        simp only [cw_skip, qblock_normal, qseq_normal]
        refine hK11 _ _ ?_
        obtain ⟨x14, h_x14, hm1⟩ := bind_get hm1
        have h_x140 := get_nn h_x14
        have h_x141 := get_lt h_x14
        refine cw_reg_seq fun K hK => ?_
        simp only [go_sem, s1, ielem_get h_x14, irow_get h_x14, h_x140, h_x141]
        refine hK _ _ ?_
        clear hK K
        refine cw_reg_seq fun K hK => ?_
        simp only [go_sem]
        refine icall_fn (k_cmp_Compare_int_ x10 x14) ?_
        simp only [go_sem]
        refine hK _ _ ?_
        clear hK K
        refine cw_reg_seq fun K hK => ?_
        simp only [go_sem]
        refine hK _ _ ?_
        clear hK K
        simp only [go_sem]
        refine ibr_intro (fun hc15 => ?_) (fun hc15 => ?_)
        · rw [if_t hc15] at hm1
          refine cw_reg_seq fun K hK => ?_
          simp only [go_sem]
          refine hK _ _ ?_
          clear hK K
          simp only [cw_ret, qseq_ret, qblock_ret, retQ_ret]
          obtain rfl := Option.some.inj hm1
          obtain rfl := hb5 _ rfl
          try dsimp only at hm0
          obtain rfl := Option.some.inj hm0
          exact done_t (by simp only [go_sem, List.length_append, List.map_append]) (frz_v _)
        · rw [if_f hc15] at hm1
          simp only [cw_skip, qblock_normal, qseq_normal]
          refine hK8 _ _ ?_
          refine cw_reg_k fun K hK => ?_
          simp only [go_sem, s11]
          refine hK _ _ ?_
          clear hK K
          simp only [qblock_normal, qseq_normal]
          obtain rfl := Option.some.inj hm1
          refine ⟨_, rfl, ?_⟩
          exact ⟨s0, s1, s9, s10, (by first | rfl | exact s11 | simp only [go_sem, s11, List.length_append, List.map_append])⟩
    · rw [if_f hc7] at hm1
      simp only [cw_exit, qseq_exit, qblock_same, qblock_ne, qblock_normal, qseq_normal, Nat.reduceEqDiff, not_false_eq_true]
      obtain rfl := Option.some.inj hm1
      obtain rfl := hb5 _ rfl
      try dsimp only at hm0
      exact J2  _ _ s0 s1 hm0

end Go.Nw.DM

namespace Go.Nw.DM
open Go.Nw.Door
set_option linter.unusedSimpArgs false
set_option linter.unusedVariables false
variable {O : Orac}

theorem k_slices_ContainsFunc___int_int_ (hf : Has O "slices.ContainsFunc[[]int,int]" x_slices_ContainsFunc___int_int_) (k_slices_IndexFunc___int_int_ : C_slices_IndexFunc___int_int_ O) : C_slices_ContainsFunc___int_int_ O := by
  intro s f_n f_a f_b f f_z f_h r hm0
  unfold slices_ContainsFunc___int_int_ at hm0
  refine fn_cw hf rfl (fz_cons (frz_fs fun a _ => fz_eI a) (fz_cons f_z fz_nil)) (frz_v _) ?_
  refine cw_start (fun t h => t 0 = .fs 1 (List.map eI s) ∧ t 1 = .fn f_n f_a f_b) ⟨rfl, rfl⟩ fun t h ⟨s0, s1⟩ => ?_
  simp only [x_slices_ContainsFunc___int_int_]
  refine cw_reg_seq fun K hK => ?_
  simp only [go_sem]
  refine hK _ _ ?_
  clear hK K
  obtain ⟨y2, h_y2, hm0⟩ := bind_get hm0
  refine cw_reg_seq fun K hK => ?_
  simp only [go_sem, s0, s1]
  refine icall_fn (k_slices_IndexFunc___int_int_ s f_n f_a f_b f f_z f_h _ h_y2) ?_
  simp only [go_sem, s0, s1]
  refine hK _ _ ?_
  clear hK K
  simp only [cw_ret, qseq_ret, qblock_ret, retQ_ret]
  obtain rfl := Option.some.inj hm0
  exact done_t (by simp only [go_sem, List.length_append, List.map_append]) (frz_v _)

end Go.Nw.DM

namespace Go.Nw.DM
open Go.Nw.Door
set_option linter.unusedSimpArgs false
set_option linter.unusedVariables false
variable {O : Orac}

theorem k_slices_Contains___bool_bool_ (hf : Has O "slices.Contains[[]bool,bool]" x_slices_Contains___bool_bool_) (k_slices_Index___bool_bool_ : C_slices_Index___bool_bool_ O) : C_slices_Contains___bool_bool_ O := by
  intro s v r hm0
  unfold slices_Contains___bool_bool_ at hm0
  refine fn_cw hf rfl (fz_cons (frz_fs fun a _ => fz_eB a) (fz_cons (frz_v _) fz_nil)) (frz_v _) ?_
  refine cw_start (fun t h => t 0 = .fs 1 (List.map eB s) ∧ t 1 = B v) ⟨rfl, rfl⟩ fun t h ⟨s0, s1⟩ => ?_
  simp only [x_slices_Contains___bool_bool_]
  refine cw_reg_seq fun K hK => ?_
  simp only [go_sem]
  refine hK _ _ ?_
  clear hK K
  obtain ⟨y2, h_y2, hm0⟩ := bind_get hm0
  refine cw_reg_seq fun K hK => ?_
  simp only [go_sem, s0, s1]
  refine icall_fn (k_slices_Index___bool_bool_ s v _ h_y2) ?_
  simp only [go_sem, s0, s1]
  refine hK _ _ ?_
  clear hK K
  simp only [cw_ret, qseq_ret, qblock_ret, retQ_ret]
  obtain rfl := Option.some.inj hm0
  exact done_t (by simp only [go_sem, List.length_append, List.map_append]) (frz_v _)

end Go.Nw.DM

namespace Go.Nw.DM
open Go.Nw.Door
set_option linter.unusedSimpArgs false
set_option linter.unusedVariables false
variable {O : Orac}

theorem k_slices_Contains___int_int_ (hf : Has O "slices.Contains[[]int,int]" x_slices_Contains___int_int_) (k_slices_Index___int_int_ : C_slices_Index___int_int_ O) : C_slices_Contains___int_int_ O := by
  intro s v r hm0
  unfold slices_Contains___int_int_ at hm0
  refine fn_cw hf rfl (fz_cons (frz_fs fun a _ => fz_eI a) (fz_cons (frz_v _) fz_nil)) (frz_v _) ?_
  refine cw_start (fun t h => t 0 = .fs 1 (List.map eI s) ∧ t 1 = I v) ⟨rfl, rfl⟩ fun t h ⟨s0, s1⟩ => ?_
  simp only [x_slices_Contains___int_int_]
  refine cw_reg_seq fun K hK => ?_
  simp only [go_sem]
  refine hK _ _ ?_
  clear hK K
  obtain ⟨y2, h_y2, hm0⟩ := bind_get hm0
  refine cw_reg_seq fun K hK => ?_
  simp only [go_sem, s0, s1]
  refine icall_fn (k_slices_Index___int_int_ s v _ h_y2) ?_
  simp only [go_sem, s0, s1]
  refine hK _ _ ?_
  clear hK K
  simp only [cw_ret, qseq_ret, qblock_ret, retQ_ret]
  obtain rfl := Option.some.inj hm0
  exact done_t (by simp only [go_sem, List.length_append, List.map_append]) (frz_v _)

end Go.Nw.DM

namespace Go.Nw.DM
open Go.Nw.Door
set_option linter.unusedSimpArgs false
set_option linter.unusedVariables false
variable {O : Orac}

theorem k_slices_IndexFunc___int_int_ (hf : Has O "slices.IndexFunc[[]int,int]" x_slices_IndexFunc___int_int_) : C_slices_IndexFunc___int_int_ O := by
  intro s f_n f_a f_b f f_z f_h r hm0
  unfold slices_IndexFunc___int_int_ at hm0
  refine fn_cw hf rfl (fz_cons (frz_fs fun a _ => fz_eI a) (fz_cons f_z fz_nil)) (frz_v _) ?_
  refine cw_start (fun t h => t 0 = .fs 1 (List.map eI s) ∧ t 1 = .fn f_n f_a f_b) ⟨rfl, rfl⟩ fun t h ⟨s0, s1⟩ => ?_
  simp only [x_slices_IndexFunc___int_int_]
  refine cw_reg_seq fun K hK => ?_
  simp only [go_sem]
  refine hK _ _ ?_
  clear hK K
  refine cw_assoc ?_
  refine cw_reg_seq fun K hK => ?_
  simp only [go_sem, s0]
  refine hK _ _ ?_
  clear hK K
  refine cw_seq_k fun K1 hK1 => ?_
  have J2 : ∀ (t : Slots) (h : Heap), slices_IndexFunc___int_int__j2 = some r → K1 t h := by
    intro t h hm0
    refine hK1 _ _ ?_
    unfold slices_IndexFunc___int_int__j2 at hm0
    refine cw_reg_seq fun K hK => ?_
    simp only [go_sem]
    refine hK _ _ ?_
    clear hK K
    simp only [cw_ret, qseq_ret, qblock_ret, retQ_ret]
    obtain rfl := Option.some.inj hm0
    exact done_t (by simp only [go_sem, List.length_append, List.map_append]) (frz_v _)
  simp only [cw_block]
  obtain ⟨b3, hl3, hm0⟩ := bind_get hm0
  refine cw_loopM hl3 (fun | x_8, t, h => t 0 = .fs 1 (List.map eI s) ∧ t 1 = .fn f_n f_a f_b ∧ t 7 = I (List.length s : Int) ∧ t 8 = I x_8) ?_ ?_
  · exact ⟨s0, s1, (by first | rfl | simp only [go_sem, List.length_append, List.map_append]), (by first | rfl | simp only [go_sem, List.length_append, List.map_append])⟩
  · rintro x_8 o t h ⟨s0, s1, s7, s8⟩ hm1 hb3
    simp only [slices_IndexFunc___int_int__L7] at hm1
    rw [x_slices_IndexFunc___int_int__L7]
    refine cw_reg_seq fun K hK => ?_
    simp only [go_sem, s7, s8]
    refine hK _ _ ?_
    clear hK K
    refine cw_seq_k fun K4 hK4 => ?_
    simp only [go_sem]
    refine ibr_intro (fun hc5 => ?_) (fun hc5 => ?_)
    · rw [if_t hc5] at hm1
      simp only [cw_skip, qblock_normal, qseq_normal]
      refine hK4 _ _ ?_
      refine cw_seq_k fun K6 hK6 => ?_
      simp only [cw_block]
      refine cw_reg_seq fun K hK => ?_
      simp only [go_sem, s8]
      refine hK _ _ ?_
      clear hK K
      obtain ⟨x9, h_x9, hm1⟩ := bind_get hm1
      have h_x90 := get_nn h_x9
      have h_x91 := get_lt h_x9
      obtain ⟨y10, h_y10, hm1⟩ := bind_get hm1
      refine cw_reg_seq fun K hK => ?_
      simp only [go_sem, s0, s1, ielem_get h_x9, irow_get h_x9, h_x90, h_x91]
      refine icallv_fn (f_h x9 _ h_y10) ?_
      simp only [go_sem, s0, s1, ielem_get h_x9, irow_get h_x9, h_x90, h_x91]
      refine hK _ _ ?_
      clear hK K
      simp only [go_sem]
      refine ibr_intro (fun hc11 => ?_) (fun hc11 => ?_)
      · rw [if_t hc11] at hm1
        refine cw_reg_seq fun K hK => ?_
        simp only [go_sem]
        refine hK _ _ ?_
        clear hK K
        simp only [cw_ret, qseq_ret, qblock_ret, retQ_ret]
        obtain rfl := Option.some.inj hm1
        obtain rfl := hb3 _ rfl
        try dsimp only at hm0
        obtain rfl := Option.some.inj hm0
        exact done_t (by simp only [go_sem, List.length_append, List.map_append]) (frz_v _)
      · rw [if_f hc11] at hm1
        simp only [cw_skip, qblock_normal, qseq_normal]
        refine hK6 _ _ ?_
        refine cw_reg_k fun K hK => ?_
        simp only [go_sem, s8]
        refine hK _ _ ?_
        clear hK K
        simp only [qblock_normal, qseq_normal]
        obtain rfl := Option.some.inj hm1
        refine ⟨_, rfl, ?_⟩
        exact ⟨s0, s1, s7, (by first | rfl | exact s8 | simp only [go_sem, s8, List.length_append, List.map_append])⟩
    · rw [if_f hc5] at hm1
      simp only [cw_exit, qseq_exit, qblock_same, qblock_ne, qblock_normal, qseq_normal, Nat.reduceEqDiff, not_false_eq_true]
      obtain rfl := Option.some.inj hm1
      obtain rfl := hb3 _ rfl
      try dsimp only at hm0
      exact J2  _ _  hm0

end Go.Nw.DM

namespace Go.Nw.DM
open Go.Nw.Door
set_option linter.unusedSimpArgs false
set_option linter.unusedVariables false
variable {O : Orac}

theorem k_slices_Index___bool_bool_ (hf : Has O "slices.Index[[]bool,bool]" x_slices_Index___bool_bool_) : C_slices_Index___bool_bool_ O := by
  intro s v r hm0
  unfold slices_Index___bool_bool_ at hm0
  refine fn_cw hf rfl (fz_cons (frz_fs fun a _ => fz_eB a) (fz_cons (frz_v _) fz_nil)) (frz_v _) ?_
  refine cw_start (fun t h => t 0 = .fs 1 (List.map eB s) ∧ t 1 = B v) ⟨rfl, rfl⟩ fun t h ⟨s0, s1⟩ => ?_
  simp only [x_slices_Index___bool_bool_]
  refine cw_reg_seq fun K hK => ?_
  simp only [go_sem]
  refine hK _ _ ?_
  clear hK K
  refine cw_assoc ?_
  refine cw_reg_seq fun K hK => ?_
  simp only [go_sem, s0]
  refine hK _ _ ?_
  clear hK K
  refine cw_seq_k fun K1 hK1 => ?_
  have J2 : ∀ (t : Slots) (h : Heap), slices_Index___bool_bool__j2 = some r → K1 t h := by
    intro t h hm0
    refine hK1 _ _ ?_
    unfold slices_Index___bool_bool__j2 at hm0
    refine cw_reg_seq fun K hK => ?_
    simp only [go_sem]
    refine hK _ _ ?_
    clear hK K
    simp only [cw_ret, qseq_ret, qblock_ret, retQ_ret]
    obtain rfl := Option.some.inj hm0
    exact done_t (by simp only [go_sem, List.length_append, List.map_append]) (frz_v _)
  simp only [cw_block]
  obtain ⟨b3, hl3, hm0⟩ := bind_get hm0
  refine cw_loopM hl3 (fun | x_8, t, h => t 0 = .fs 1 (List.map eB s) ∧ t 1 = B v ∧ t 7 = I (List.length s : Int) ∧ t 8 = I x_8) ?_ ?_
  · exact ⟨s0, s1, (by first | rfl | simp only [go_sem, List.length_append, List.map_append]), (by first | rfl | simp only [go_sem, List.length_append, List.map_append])⟩
  · rintro x_8 o t h ⟨s0, s1, s7, s8⟩ hm1 hb3
    simp only [slices_Index___bool_bool__L7] at hm1
    rw [x_slices_Index___bool_bool__L7]
    refine cw_reg_seq fun K hK => ?_
    simp only [go_sem, s7, s8]
    refine hK _ _ ?_
    clear hK K
    refine cw_seq_k fun K4 hK4 => ?_
    simp only [go_sem]
    refine ibr_intro (fun hc5 => ?_) (fun hc5 => ?_)
    · rw [if_t hc5] at hm1
      simp only [cw_skip, qblock_normal, qseq_normal]
      refine hK4 _ _ ?_
      refine cw_seq_k fun K6 hK6 => ?_
      simp only [cw_block]
      refine cw_reg_seq fun K hK => ?_
      simp only [go_sem, s8]
      refine hK _ _ ?_
      clear hK K
      obtain ⟨x8, h_x8, hm1⟩ := bind_get hm1
      have h_x80 := get_nn h_x8
      have h_x81 := get_lt h_x8
      refine cw_reg_seq fun K hK => ?_
      simp only [go_sem, s0, s1, ielem_get h_x8, irow_get h_x8, h_x80, h_x81]
      refine hK _ _ ?_
      clear hK K
      simp only [go_sem]
      refine ibr_intro (fun hc9 => ?_) (fun hc9 => ?_)
      · rw [if_t hc9] at hm1
        refine cw_reg_seq fun K hK => ?_
        simp only [go_sem]
        refine hK _ _ ?_
        clear hK K
        simp only [cw_ret, qseq_ret, qblock_ret, retQ_ret]
        obtain rfl := Option.some.inj hm1
        obtain rfl := hb3 _ rfl
        try dsimp only at hm0
        obtain rfl := Option.some.inj hm0
        exact done_t (by simp only [go_sem, List.length_append, List.map_append]) (frz_v _)
      · rw [if_f hc9] at hm1
        simp only [cw_skip, qblock_normal, qseq_normal]
        refine hK6 _ _ ?_
        refine cw_reg_k fun K hK => ?_
        simp only [go_sem, s8]
        refine hK _ _ ?_
        clear hK K
        simp only [qblock_normal, qseq_normal]
        obtain rfl := Option.some.inj hm1
        refine ⟨_, rfl, ?_⟩
        exact ⟨s0, s1, s7, (by first | rfl | exact s8 | simp only [go_sem, s8, List.length_append, List.map_append])⟩
    · rw [if_f hc5] at hm1
      simp only [cw_exit, qseq_exit, qblock_same, qblock_ne, qblock_normal, qseq_normal, Nat.reduceEqDiff, not_false_eq_true]
      obtain rfl := Option.some.inj hm1
      obtain rfl := hb3 _ rfl
      try dsimp only at hm0
      exact J2  _ _  hm0

end Go.Nw.DM

namespace Go.Nw.DM
open Go.Nw.Door
set_option linter.unusedSimpArgs false
set_option linter.unusedVariables false
variable {O : Orac}

theorem k_slices_Index___int_int_ (hf : Has O "slices.Index[[]int,int]" x_slices_Index___int_int_) : C_slices_Index___int_int_ O := by
  intro s v r hm0
  unfold slices_Index___int_int_ at hm0
  refine fn_cw hf rfl (fz_cons (frz_fs fun a _ => fz_eI a) (fz_cons (frz_v _) fz_nil)) (frz_v _) ?_
  refine cw_start (fun t h => t 0 = .fs 1 (List.map eI s) ∧ t 1 = I v) ⟨rfl, rfl⟩ fun t h ⟨s0, s1⟩ => ?_
  simp only [x_slices_Index___int_int_]
  refine cw_reg_seq fun K hK => ?_
  simp only [go_sem]
  refine hK _ _ ?_
  clear hK K
  refine cw_assoc ?_
  refine cw_reg_seq fun K hK => ?_
  simp only [go_sem, s0]
  refine hK _ _ ?_
  clear hK K
  refine cw_seq_k fun K1 hK1 => ?_
  have J2 : ∀ (t : Slots) (h : Heap), slices_Index___int_int__j2 = some r → K1 t h := by
    intro t h hm0
    refine hK1 _ _ ?_
    unfold slices_Index___int_int__j2 at hm0
    refine cw_reg_seq fun K hK => ?_
    simp only [go_sem]
    refine hK _ _ ?_
    clear hK K
    simp only [cw_ret, qseq_ret, qblock_ret, retQ_ret]
    obtain rfl := Option.some.inj hm0
    exact done_t (by simp only [go_sem, List.length_append, List.map_append]) (frz_v _)
  simp only [cw_block]
  obtain ⟨b3, hl3, hm0⟩ := bind_get hm0
  refine cw_loopM hl3 (fun | x_8, t, h => t 0 = .fs 1 (List.map eI s) ∧ t 1 = I v ∧ t 7 = I (List.length s : Int) ∧ t 8 = I x_8) ?_ ?_
  · exact ⟨s0, s1, (by first | rfl | simp only [go_sem, List.length_append, List.map_append]), (by first | rfl | simp only [go_sem, List.length_append, List.map_append])⟩
  · rintro x_8 o t h ⟨s0, s1, s7, s8⟩ hm1 hb3
    simp only [slices_Index___int_int__L7] at hm1
    rw [x_slices_Index___int_int__L7]
    refine cw_reg_seq fun K hK => ?_
    simp only [go_sem, s7, s8]
    refine hK _ _ ?_
    clear hK K
    refine cw_seq_k fun K4 hK4 => ?_
    simp only [go_sem]
    refine ibr_intro (fun hc5 => ?_) (fun hc5 => ?_)
    · rw [if_t hc5] at hm1
      simp only [cw_skip, qblock_normal, qseq_normal]
      refine hK4 _ _ ?_
      refine cw_seq_k fun K6 hK6 => ?_
      simp only [cw_block]
      refine cw_reg_seq fun K hK => ?_
      simp only [go_sem, s8]
      refine hK _ _ ?_
      clear hK K
      obtain ⟨x8, h_x8, hm1⟩ := bind_get hm1
      have h_x80 := get_nn h_x8
      have h_x81 := get_lt h_x8
      refine cw_reg_seq fun K hK => ?_
      simp only [go_sem, s0, s1, ielem_get h_x8, irow_get h_x8, h_x80, h_x81]
      refine hK _ _ ?_
      clear hK K
      simp only [go_sem]
      refine ibr_intro (fun hc9 => ?_) (fun hc9 => ?_)
      · rw [if_t hc9] at hm1
        refine cw_reg_seq fun K hK => ?_
        simp only [go_sem]
        refine hK _ _ ?_
        clear hK K
        simp only [cw_ret, qseq_ret, qblock_ret, retQ_ret]
        obtain rfl := Option.some.inj hm1
        obtain rfl := hb3 _ rfl
        try dsimp only at hm0
        obtain rfl := Option.some.inj hm0
        exact done_t (by simp only [go_sem, List.length_append, List.map_append]) (frz_v _)
      · rw [if_f hc9] at hm1
        simp only [cw_skip, qblock_normal, qseq_normal]
        refine hK6 _ _ ?_
        refine cw_reg_k fun K hK => ?_
        simp only [go_sem, s8]
        refine hK _ _ ?_
        clear hK K
        simp only [qblock_normal, qseq_normal]
        obtain rfl := Option.some.inj hm1
        refine ⟨_, rfl, ?_⟩
        exact ⟨s0, s1, s7, (by first | rfl | exact s8 | simp only [go_sem, s8, List.length_append, List.map_append])⟩
    · rw [if_f hc5] at hm1
      simp only [cw_exit, qseq_exit, qblock_same, qblock_ne, qblock_normal, qseq_normal, Nat.reduceEqDiff, not_false_eq_true]
      obtain rfl := Option.some.inj hm1
      obtain rfl := hb3 _ rfl
      try dsimp only at hm0
      exact J2  _ _  hm0

end Go.Nw.DM
