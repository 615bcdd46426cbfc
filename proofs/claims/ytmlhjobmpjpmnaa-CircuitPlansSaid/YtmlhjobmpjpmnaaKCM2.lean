/- That the texts make what their models say: printed by a program. -/
import Derived.Test.YtmlhjobmpjpmnaaCM
set_option linter.all false
set_option linter.unusedVariables false
set_option linter.unusedSimpArgs false
set_option linter.unusedSectionVars false
namespace Go.Nw.CM
open Go.Nw.Circ
set_option linter.unusedSimpArgs false
set_option linter.unusedVariables false
variable {O : Orac}

theorem k_r03_Rota (hf : Has O "newel/newelref03.Rota" x_r03_Rota) (k_r03_CheckTrials : C_r03_CheckTrials O) (k_r03_within : C_r03_within O) (k_r03_every : C_r03_every O) (k_r03_AsRota : C_r03_AsRota O) (k_r03_gap : C_r03_gap O) (k_r03_tried : C_r03_tried O) : C_r03_Rota O := by
  intro c l nights days r hm0
  unfold r03_Rota at hm0
  refine fn_cw hf rfl (fz_cons (.agg _ (fz_cons (frz_v _) (fz_cons (frz_fs fun a _ => fz_eI a) (fz_cons (frz_fs fun a _ => fz_eWire a) fz_nil)))) (fz_cons (frz_fs fun a _ => fz_eTrial a) (fz_cons (frz_v _) (fz_cons (frz_v _) fz_nil)))) (.tup _ (fz_cons (frz_fs fun a _ => fz_eI a) (fz_cons (frz_v _) fz_nil))) ?_
  refine cw_start (fun t h => t 0 = .agg [I c.Hazards, .fs 1 (List.map eI c.Switches), .fs 2 (List.map eWire c.Wires)] ∧ t 1 = .fs 2 (List.map eTrial l) ∧ t 2 = I nights ∧ t 3 = I days) ⟨rfl, rfl, rfl, rfl⟩ fun t h ⟨s0, s1, s2, s3⟩ => ?_
  simp only [x_r03_Rota]
  refine cw_reg_seq fun K hK => ?_
  simp only [go_sem, s0]
  refine hK _ _ ?_
  clear hK K
  refine cw_assoc ?_
  obtain ⟨y2, h_y2, hm0⟩ := bind_get hm0
  refine cw_reg_seq fun K hK => ?_
  simp only [go_sem, s1]
  refine icall_fn (k_r03_CheckTrials c l _ h_y2) ?_
  simp only [go_sem, s1]
  refine hK _ _ ?_
  clear hK K
  refine cw_assoc ?_
  refine cw_reg_seq fun K hK => ?_
  simp only [go_sem]
  refine hK _ _ ?_
  clear hK K
  refine cw_seq_k fun K3 hK3 => ?_
  simp only [go_sem]
  refine ibr_intro (fun hc4 => ?_) (fun hc4 => ?_)
  · rw [if_t hc4] at hm0
    refine cw_reg_seq fun K hK => ?_
    simp only [go_sem]
    refine hK _ _ ?_
    clear hK K
    simp only [cw_ret, qseq_ret, qblock_ret, retQ_ret]
    obtain rfl := Option.some.inj hm0
    exact done_fz2 (v := .v (.slice none 0 0)) (u := I y2) (by simp only [go_sem, List.length_append, List.map_append]) (by simp only [go_sem, List.length_append, List.map_append]) (.nil _) (.refl _ (frz_v _))
  · rw [if_f hc4] at hm0
    simp only [cw_skip, qblock_normal, qseq_normal]
    refine hK3 _ _ ?_
    refine cw_assoc ?_
    refine cw_reg_postK (fun t h => t 1 = .fs 2 (List.map eTrial l) ∧ t 2 = I nights ∧ t 3 = I days ∧ t 4 = .fp [I c.Hazards, .fs 1 (List.map eI c.Switches), .fs 2 (List.map eWire c.Wires)] 0 ∧ t 35 = B ((!(r03_within nights 1 60)) || (!(r03_within days 1 60)))) (fun K hK => ?_) ?_
    · simp only [go_sem, s2, s3]
      refine icall_fn (k_r03_within nights 1 60) ?_
      simp only [go_sem, s2, s3]
      refine ibr_intro (fun hg5 => ?_) (fun hg5 => ?_)
      · simp only [go_sem, s2, s3, hg5]
        exact hK _ _ ⟨s1, s2, s3, (by first | rfl | simp only [go_sem, hg5, List.length_append, List.map_append]), (by first | rfl | simp only [go_sem, hg5, List.length_append, List.map_append])⟩
      · simp only [go_sem, s2, s3, hg5]
        refine icall_fn (k_r03_within days 1 60) ?_
        simp only [go_sem, s2, s3, hg5]
        exact hK _ _ ⟨s1, s2, s3, (by first | rfl | simp only [go_sem, hg5, List.length_append, List.map_append]), (by first | rfl | simp only [go_sem, hg5, List.length_append, List.map_append])⟩
    · rintro t h ⟨s1, s2, s3, s4, s35⟩
      refine cw_seq_k fun K6 hK6 => ?_
      simp only [go_sem, s35]
      refine ibr_intro (fun hc7 => ?_) (fun hc7 => ?_)
      · rw [if_t hc7] at hm0
        refine cw_reg_seq fun K hK => ?_
        simp only [go_sem]
        refine hK _ _ ?_
        clear hK K
        simp only [cw_ret, qseq_ret, qblock_ret, retQ_ret]
        obtain rfl := Option.some.inj hm0
        exact done_fz2 (v := .v (.slice none 0 0)) (u := I 1) (by simp only [go_sem, List.length_append, List.map_append]) (by simp only [go_sem, List.length_append, List.map_append]) (.nil _) (.refl _ (frz_v _))
      · rw [if_f hc7] at hm0
        simp only [cw_skip, qblock_normal, qseq_normal]
        refine hK6 _ _ ?_
        refine cw_reg_seq fun K hK => ?_
        simp only [go_sem]
        refine hK _ _ ?_
        clear hK K
        refine cw_assoc ?_
        refine cw_reg_seq fun K hK => ?_
        simp only [go_sem]
        refine hK _ _ ?_
        clear hK K
        refine cw_seq_k fun K8 hK8 => ?_
        have J9 : ∀ (count_11 : Int) (t : Slots) (h : Heap), t 1 = .fs 2 (List.map eTrial l) → t 2 = I nights → t 3 = I days → t 4 = .fp [I c.Hazards, .fs 1 (List.map eI c.Switches), .fs 2 (List.map eWire c.Wires)] 0 → t 11 = I count_11 → r03_Rota_j9 c l nights days count_11 = some r → K8 t h := by
          intro count_11 t h s1 s2 s3 s4 s11 hm0
          refine hK8 _ _ ?_
          unfold r03_Rota_j9 at hm0
          refine cw_reg_seq fun K hK => ?_
          simp only [go_sem]
          refine hK _ _ ?_
          clear hK K
          obtain ⟨y11, h_y11, hm0⟩ := bind_get hm0
          refine cw_reg_seq fun K hK => ?_
          simp only [go_sem, s1, s4]
          refine icall_fn (k_r03_every c l _ h_y11) ?_
          simp only [go_sem, s1, s4]
          refine hK _ _ ?_
          clear hK K
          refine cw_assoc ?_
          refine cw_reg_seq fun K hK => ?_
          simp only [go_sem]
          refine hK _ _ ?_
          clear hK K
          refine cw_seq_k fun K12 hK12 => ?_
          have J13 : ∀ (best_13 : Option (List Int)) (w13 : AV) (t : Slots) (h : Heap), t 13 = w13 → NilF w13 1 eI best_13 → r03_Rota_j13 best_13 = some r → K12 t h := by
            intro best_13 w13 t h s13 nf_w13 hm0
            refine hK12 _ _ ?_
            unfold r03_Rota_j13 at hm0
            refine cw_assoc ?_
            obtain ⟨q15, h_q15, hm0⟩ := bind_get hm0
            refine cw_reg_seq fun K hK => ?_
            simp only [go_sem, s13, ibin_nil_nf nf_w13 h_q15, ibin_nnil_nf nf_w13 h_q15, istr_of w13]
            refine hK _ _ ?_
            clear hK K
            refine cw_seq_k fun K16 hK16 => ?_
            simp only [go_sem]
            refine ibr_intro (fun hc17 => ?_) (fun hc17 => ?_)
            · rw [if_t hc17] at hm0
              refine cw_reg_seq fun K hK => ?_
              simp only [go_sem, istr_of w13]
              refine hK _ _ ?_
              clear hK K
              simp only [cw_ret, qseq_ret, qblock_ret, retQ_ret]
              obtain rfl := Option.some.inj hm0
              exact done_fz2 (v := .v (.slice none 0 0)) (u := I 3) (by simp only [go_sem, List.length_append, List.map_append]) (by simp only [go_sem, List.length_append, List.map_append]) (.nil _) (.refl _ (frz_v _))
            · rw [if_f hc17] at hm0
              simp only [cw_skip, qblock_normal, qseq_normal]
              refine hK16 _ _ ?_
              refine cw_reg_seq fun K hK => ?_
              simp only [go_sem, s13, istr_of w13]
              refine hK _ _ ?_
              clear hK K
              simp only [cw_ret, qseq_ret, qblock_ret, retQ_ret]
              obtain rfl := Option.some.inj hm0
              exact done_fz2 (v := w13) (u := I 0) (by simp only [go_sem, List.length_append, List.map_append]) (by simp only [go_sem, List.length_append, List.map_append]) (fz_nf nf_w13 fz_eI) (.refl _ (frz_v _))
          simp only [cw_block]
          obtain ⟨b18, hl18, hm0⟩ := bind_get hm0
          refine cw_loopM hl18 (fun | (best_13, x_15), t, h => ∃ w13 : AV, t 1 = .fs 2 (List.map eTrial l) ∧ t 2 = I nights ∧ t 3 = I days ∧ t 4 = .fp [I c.Hazards, .fs 1 (List.map eI c.Switches), .fs 2 (List.map eWire c.Wires)] 0 ∧ t 11 = I count_11 ∧ t 13 = w13 ∧ t 14 = .fs 1 (List.map eI y11) ∧ t 15 = I x_15 ∧ NilF w13 1 eI best_13) ?_ ?_
          · exact ⟨(.v (.slice none 0 0)), s1, s2, s3, s4, s11, (by first | rfl | simp only [go_sem, List.length_append, List.map_append]), (by first | rfl | simp only [go_sem, List.length_append, List.map_append]), (by first | rfl | simp only [go_sem, List.length_append, List.map_append]), (by first | assumption | exact rfl)⟩
          · rintro ⟨best_13, x_15⟩ o t h ⟨w13, s1, s2, s3, s4, s11, s13, s14, s15, nf_w13⟩ hm1 hb18
            simp only [r03_Rota_L31] at hm1
            rw [x_r03_Rota_L31]
            refine cw_assoc ?_
            refine cw_reg_seq fun K hK => ?_
            simp only [go_sem, s11, s15, istr_of w13]
            refine hK _ _ ?_
            clear hK K
            refine cw_seq_k fun K19 hK19 => ?_
            simp only [go_sem]
            refine ibr_intro (fun hc20 => ?_) (fun hc20 => ?_)
            · rw [if_t hc20] at hm1
              simp only [cw_skip, qblock_normal, qseq_normal]
              refine hK19 _ _ ?_
              refine cw_seq_k fun K21 hK21 => ?_
              have J22 : ∀ (best_13_1 : Option (List Int)) (w13_1 : AV) (t : Slots) (h : Heap), t 1 = .fs 2 (List.map eTrial l) → t 2 = I nights → t 3 = I days → t 4 = .fp [I c.Hazards, .fs 1 (List.map eI c.Switches), .fs 2 (List.map eWire c.Wires)] 0 → t 11 = I count_11 → t 13 = w13_1 → t 14 = .fs 1 (List.map eI y11) → t 15 = I x_15 → NilF w13_1 1 eI best_13_1 → r03_Rota_j22 x_15 best_13_1 = some o → K21 t h := by
                intro best_13_1 w13_1 t h s1 s2 s3 s4 s11 s13 s14 s15 nf_w13_1 hm1
                refine hK21 _ _ ?_
                unfold r03_Rota_j22 at hm1
                refine cw_reg_k fun K hK => ?_
                simp only [go_sem, s15, istr_of w13, istr_of w13_1]
                refine hK _ _ ?_
                clear hK K
                simp only [qblock_normal, qseq_normal]
                obtain rfl := Option.some.inj hm1
                refine ⟨_, rfl, ?_⟩
                exact ⟨w13_1, s1, s2, s3, s4, s11, s13, s14, (by first | rfl | exact s15 | simp only [go_sem, s15, List.length_append, List.map_append]), (by first | assumption | exact rfl)⟩
              simp only [cw_block]
              obtain ⟨l24, h_l24, hm1⟩ := bind_get hm1
              refine cw_reg_seq fun K hK => ?_
              simp only [go_sem, s2, istr_of w13]
              refine imksl_ok (f := eI) (z := 0) rfl h_l24 ?_
              simp only [go_sem, s2, istr_of w13]
              refine hK _ _ ?_
              clear hK K
              refine cw_reg_seq fun K hK => ?_
              simp only [go_sem, s15, istr_of w13]
              refine hK _ _ ?_
              clear hK K
              refine cw_assoc ?_
              refine cw_reg_seq fun K hK => ?_
              simp only [go_sem, s2, istr_of w13]
              refine hK _ _ ?_
              clear hK K
              refine cw_seq_k fun K25 hK25 => ?_
              have J26 : ∀ (list_16 : List Int) (i16 : Nat) (t : Slots) (h : Heap), t 1 = .fs 2 (List.map eTrial l) → t 2 = I nights → t 3 = I days → t 4 = .fp [I c.Hazards, .fs 1 (List.map eI c.Switches), .fs 2 (List.map eWire c.Wires)] 0 → t 11 = I count_11 → t 13 = w13 → t 14 = .fs 1 (List.map eI y11) → t 15 = I x_15 → t 16 = .rs i16 0 (List.length list_16) → NilF w13 1 eI best_13 → h.ob i16 = some (1, List.map eI list_16) → i16 < h.nx → r03_Rota_j26 c days y11 best_13 x_15 list_16 = some o → K25 t h := by
                intro list_16 i16 t h s1 s2 s3 s4 s11 s13 s14 s15 s16 nf_w13 ob_o16 lt_o16 hm1
                refine hK25 _ _ ?_
                unfold r03_Rota_j26 at hm1
                refine cw_assoc ?_
                obtain ⟨q31, h_q31, hm1⟩ := bind_get hm1
                obtain ⟨c34, h_c34, hm1⟩ := bind_get hm1
                refine cw_reg_postK (fun t h => t 1 = .fs 2 (List.map eTrial l) ∧ t 2 = I nights ∧ t 3 = I days ∧ t 4 = .fp [I c.Hazards, .fs 1 (List.map eI c.Switches), .fs 2 (List.map eWire c.Wires)] 0 ∧ t 11 = I count_11 ∧ t 13 = w13 ∧ t 14 = .fs 1 (List.map eI y11) ∧ t 15 = I x_15 ∧ t 16 = .rs i16 0 (List.length list_16) ∧ t 87 = B c34 ∧ NilF w13 1 eI best_13 ∧ h.ob i16 = some (1, List.map eI list_16) ∧ i16 < h.nx) (fun K hK => ?_) ?_
                · simp only [go_sem, s13, s16, ob_o16, lt_o16, ibin_nil_nf nf_w13 h_q31, ibin_nnil_nf nf_w13 h_q31, istr_of w13]
                  refine ibr_intro (fun hg35 => ?_) (fun hg35 => ?_)
                  · simp only [hg35, Bool.not_true, Bool.not_false, eq_self, if_true, if_false, Bool.true_or, Bool.or_true, Bool.false_or, Bool.or_false, Bool.true_and, Bool.and_true, Bool.false_and, Bool.and_false, Bool.false_eq_true] at h_c34
                    obtain ⟨y32, h_y32, h_c34⟩ := bind_get h_c34
                    obtain ⟨y33, h_y33, h_c34⟩ := bind_get h_c34
                    obtain rfl := Option.some.inj h_c34
                    simp only [go_sem, s13, s16, ob_o16, lt_o16, ibin_nil_nf nf_w13 h_q31, ibin_nnil_nf nf_w13 h_q31, hg35, istr_of w13]
                    refine icall_fz ?_ (k_r03_tried list_16 _ h_y32) (.v _) ?_
                    · exact .cons (fz_rs (f := eI) (l := list_16) (by simp only [go_sem, ob_o16, lt_o16, List.length_append, List.map_append]) (by first | rfl | simp only [go_sem, List.length_append, List.map_append]) fz_eI ln_eI) (.nil)
                    simp only [go_sem, s13, s16, ob_o16, lt_o16, ibin_nil_nf nf_w13 h_q31, ibin_nnil_nf nf_w13 h_q31, hg35, istr_of w13]
                    refine icall_fn2 ?_ (fz_cons (frz_nf nf_w13 fz_eI) fz_nil) (k_r03_tried (Option.getD best_13 []) _ h_y33) ?_
                    · exact .cons (fz_nf nf_w13 fz_eI) (.nil)
                    simp only [go_sem, s13, s16, ob_o16, lt_o16, ibin_nil_nf nf_w13 h_q31, ibin_nnil_nf nf_w13 h_q31, hg35, istr_of w13]
                    exact hK _ _ ⟨s1, s2, s3, s4, s11, s13, s14, s15, (by first | exact s16 | simp only [go_sem, s16, List.length_append, List.map_append]), (by first | rfl | simp only [go_sem, hg35, List.length_append, List.map_append]), (by first | assumption | exact rfl), ob_o16, lt_o16⟩
                  · simp only [hg35, Bool.not_true, Bool.not_false, eq_self, if_true, if_false, Bool.true_or, Bool.or_true, Bool.false_or, Bool.or_false, Bool.true_and, Bool.and_true, Bool.false_and, Bool.and_false, Bool.false_eq_true] at h_c34
                    obtain rfl := Option.some.inj h_c34
                    simp only [go_sem, s13, s16, ob_o16, lt_o16, ibin_nil_nf nf_w13 h_q31, ibin_nnil_nf nf_w13 h_q31, hg35, istr_of w13]
                    exact hK _ _ ⟨s1, s2, s3, s4, s11, s13, s14, s15, (by first | exact s16 | simp only [go_sem, s16, List.length_append, List.map_append]), (by first | rfl | simp only [go_sem, hg35, List.length_append, List.map_append]), (by first | assumption | exact rfl), ob_o16, lt_o16⟩
                · rintro t h ⟨s1, s2, s3, s4, s11, s13, s14, s15, s16, s87, nf_w13, ob_o16, lt_o16⟩
                  refine cw_seq_k fun K36 hK36 => ?_
                  simp only [go_sem, s87]
                  refine ibr_intro (fun hc37 => ?_) (fun hc37 => ?_)
                  · rw [if_t hc37] at hm1
                    simp only [cw_exit, qseq_exit, qblock_same, qblock_ne, qblock_normal, qseq_normal, Nat.reduceEqDiff, not_false_eq_true]
                    exact J22 best_13 w13 _ _ s1 s2 s3 s4 s11 s13 s14 s15 (by first | assumption | exact rfl) hm1
                  · rw [if_f hc37] at hm1
                    simp only [cw_skip, qblock_normal, qseq_normal]
                    refine hK36 _ _ ?_
                    refine cw_assoc ?_
                    refine cw_ghost_own (s := 16) (v := .rs i16 0 (List.length list_16)) (f := eI) (l := list_16) (by simp only [go_sem, s16, ob_o16, lt_o16, List.length_append, List.map_append]) (own_rs (by simp only [go_sem, s16, ob_o16, lt_o16, List.length_append, List.map_append]) (by simp only [go_sem, s16, ob_o16, lt_o16, List.length_append, List.map_append]) (by simp only [go_sem, lt_o16])) fz_eI ln_eI ?_
                    simp only [frzH_nil, frzH_rs]
                    obtain ⟨y40, h_y40, hm1⟩ := bind_get hm1
                    obtain ⟨y41, h_y41, hm1⟩ := bind_get hm1
                    refine cw_reg_seq fun K hK => ?_
                    simp only [go_sem, s3, s4, s14, s16, istr_of w13]
                    refine icall_fn (k_r03_AsRota list_16 days _ h_y40) ?_
                    simp only [go_sem, s3, s4, s14, s16, istr_of w13]
                    refine icall_fn (k_r03_gap c y11 y40 _ h_y41) ?_
                    simp only [go_sem, s3, s4, s14, s16, istr_of w13]
                    refine hK _ _ ?_
                    clear hK K
                    refine cw_reg_seq fun K hK => ?_
                    simp only [go_sem, istr_of w13]
                    refine hK _ _ ?_
                    clear hK K
                    simp only [go_sem]
                    refine ibr_intro (fun hc42 => ?_) (fun hc42 => ?_)
                    · rw [if_t hc42] at hm1
                      refine cw_reg_k fun K hK => ?_
                      simp only [go_sem, s16, istr_of w13]
                      refine hK _ _ ?_
                      clear hK K
                      simp only [qblock_normal, qseq_normal]
                      exact J22 (some list_16) (.fs 1 (List.map eI list_16)) _ _ s1 s2 s3 s4 s11 (by first | rfl | exact s13 | simp only [go_sem, s13, List.length_append, List.map_append]) s14 s15 (by first | assumption | exact rfl) hm1
                    · rw [if_f hc42] at hm1
                      simp only [cw_skip, qblock_normal, qseq_normal]
                      exact J22 best_13 w13 _ _ s1 s2 s3 s4 s11 s13 s14 s15 (by first | assumption | exact rfl) hm1
              simp only [cw_block]
              obtain ⟨b43, hl43, hm1⟩ := bind_get hm1
              refine cw_loopM hl43 (fun | (list_16, rest_17, i_18), t, h => ∃ i16 : Nat, t 1 = .fs 2 (List.map eTrial l) ∧ t 2 = I nights ∧ t 3 = I days ∧ t 4 = .fp [I c.Hazards, .fs 1 (List.map eI c.Switches), .fs 2 (List.map eWire c.Wires)] 0 ∧ t 11 = I count_11 ∧ t 13 = w13 ∧ t 14 = .fs 1 (List.map eI y11) ∧ t 15 = I x_15 ∧ t 16 = .rs i16 0 (List.length list_16) ∧ t 17 = I rest_17 ∧ t 18 = I i_18 ∧ NilF w13 1 eI best_13 ∧ h.ob i16 = some (1, List.map eI list_16) ∧ i16 < h.nx) ?_ ?_
              · exact ⟨h.nx, s1, s2, s3, s4, s11, s13, s14, s15, (by first | rfl | simp only [go_sem, List.length_append, List.map_append]), (by first | rfl | simp only [go_sem, List.length_append, List.map_append]), (by first | rfl | simp only [go_sem, List.length_append, List.map_append]), (by first | assumption | exact rfl), (by simp only [go_sem, List.length_append, List.map_append]), (by simp only [go_sem])⟩
              · rintro ⟨list_16, rest_17, i_18⟩ o t h ⟨i16, s1, s2, s3, s4, s11, s13, s14, s15, s16, s17, s18, nf_w13, ob_o16, lt_o16⟩ hm2 hb43
                simp only [r03_Rota_L25] at hm2
                rw [x_r03_Rota_L25]
                refine cw_assoc ?_
                refine cw_reg_seq fun K hK => ?_
                simp only [go_sem, s18, lt_o16, istr_of w13]
                refine hK _ _ ?_
                clear hK K
                refine cw_seq_k fun K44 hK44 => ?_
                simp only [go_sem]
                refine ibr_intro (fun hc45 => ?_) (fun hc45 => ?_)
                · rw [if_t hc45] at hm2
                  simp only [cw_skip, qblock_normal, qseq_normal]
                  refine hK44 _ _ ?_
                  refine cw_seq_k fun K46 hK46 => ?_
                  simp only [cw_block]
                  obtain ⟨q49, h_q49, hm2⟩ := bind_get hm2
                  obtain ⟨x50, h_x50, hm2⟩ := bind_get hm2
                  have h_x500 := get_nn h_x50
                  have h_x501 := get_lt h_x50
                  refine cw_reg_seq fun K hK => ?_
                  simp only [go_sem, s1, s16, s17, s18, ob_o16, lt_o16, ibin_rem h_q49, ielem_get h_x50, irow_get h_x50, h_x500, h_x501, istr_of w13]
                  refine hK _ _ ?_
                  clear hK K
                  obtain ⟨q52, h_q52, hm2⟩ := bind_get hm2
                  refine cw_reg_k fun K hK => ?_
                  simp only [go_sem, s1, s17, lt_o16, ibin_quo h_q52, istr_of w13]
                  refine hK _ _ ?_
                  clear hK K
                  simp only [qblock_normal, qseq_normal]
                  refine hK46 _ _ ?_
                  refine cw_reg_k fun K hK => ?_
                  simp only [go_sem, s18, lt_o16, istr_of w13]
                  refine hK _ _ ?_
                  clear hK K
                  simp only [qblock_normal, qseq_normal]
                  obtain rfl := Option.some.inj hm2
                  refine ⟨_, rfl, ?_⟩
                  exact ⟨i16, s1, s2, s3, s4, s11, s13, s14, s15, (by first | exact s16 | simp only [go_sem, s16, List.length_append, List.map_append]), (by first | rfl | exact s17 | simp only [go_sem, s17, List.length_append, List.map_append]), (by first | rfl | exact s18 | simp only [go_sem, s18, List.length_append, List.map_append]), (by first | assumption | exact rfl), (by simp only [go_sem, ob_o16, lt_o16, List.length_append, List.map_append]), (by simp only [go_sem, lt_o16])⟩
                · rw [if_f hc45] at hm2
                  simp only [cw_exit, qseq_exit, qblock_same, qblock_ne, qblock_normal, qseq_normal, Nat.reduceEqDiff, not_false_eq_true]
                  obtain rfl := Option.some.inj hm2
                  obtain rfl := hb43 _ rfl
                  try dsimp only at hm1
                  exact J26 list_16 i16 _ _ s1 s2 s3 s4 s11 s13 s14 s15 (by first | exact s16 | simp only [go_sem, s16, List.length_append, List.map_append]) (by first | assumption | exact rfl) ob_o16 lt_o16 hm1
            · rw [if_f hc20] at hm1
              simp only [cw_exit, qseq_exit, qblock_same, qblock_ne, qblock_normal, qseq_normal, Nat.reduceEqDiff, not_false_eq_true]
              obtain rfl := Option.some.inj hm1
              obtain rfl := hb18 _ rfl
              try dsimp only at hm0
              exact J13 best_13 w13 _ _ s13 (by first | assumption | exact rfl) hm0
        simp only [cw_block]
        obtain ⟨b55, hl55, hm0⟩ := bind_get hm0
        refine cw_loopM hl55 (fun | (count_11, i_12), t, h => t 1 = .fs 2 (List.map eTrial l) ∧ t 2 = I nights ∧ t 3 = I days ∧ t 4 = .fp [I c.Hazards, .fs 1 (List.map eI c.Switches), .fs 2 (List.map eWire c.Wires)] 0 ∧ t 11 = I count_11 ∧ t 12 = I i_12) ?_ ?_
        · exact ⟨s1, s2, s3, s4, (by first | rfl | simp only [go_sem, List.length_append, List.map_append]), (by first | rfl | simp only [go_sem, List.length_append, List.map_append])⟩
        · rintro ⟨count_11, i_12⟩ o t h ⟨s1, s2, s3, s4, s11, s12⟩ hm1 hb55
          simp only [r03_Rota_L13] at hm1
          rw [x_r03_Rota_L13]
          refine cw_assoc ?_
          refine cw_reg_seq fun K hK => ?_
          simp only [go_sem, s2, s12]
          refine hK _ _ ?_
          clear hK K
          refine cw_seq_k fun K56 hK56 => ?_
          simp only [go_sem]
          refine ibr_intro (fun hc57 => ?_) (fun hc57 => ?_)
          · rw [if_t hc57] at hm1
            simp only [cw_skip, qblock_normal, qseq_normal]
            refine hK56 _ _ ?_
            refine cw_seq_k fun K58 hK58 => ?_
            simp only [cw_block]
            refine cw_reg_seq fun K hK => ?_
            simp only [go_sem, s1, s11]
            refine hK _ _ ?_
            clear hK K
            refine cw_reg_seq fun K hK => ?_
            simp only [go_sem, s11]
            refine hK _ _ ?_
            clear hK K
            simp only [go_sem]
            refine ibr_intro (fun hc59 => ?_) (fun hc59 => ?_)
            · rw [if_t hc59] at hm1
              refine cw_reg_seq fun K hK => ?_
              simp only [go_sem]
              refine hK _ _ ?_
              clear hK K
              simp only [cw_ret, qseq_ret, qblock_ret, retQ_ret]
              obtain rfl := Option.some.inj hm1
              obtain rfl := hb55 _ rfl
              try dsimp only at hm0
              obtain rfl := Option.some.inj hm0
              exact done_fz2 (v := .v (.slice none 0 0)) (u := I 2) (by simp only [go_sem, List.length_append, List.map_append]) (by simp only [go_sem, List.length_append, List.map_append]) (.nil _) (.refl _ (frz_v _))
            · rw [if_f hc59] at hm1
              simp only [cw_skip, qblock_normal, qseq_normal]
              refine hK58 _ _ ?_
              refine cw_reg_k fun K hK => ?_
              simp only [go_sem, s12]
              refine hK _ _ ?_
              clear hK K
              simp only [qblock_normal, qseq_normal]
              obtain rfl := Option.some.inj hm1
              refine ⟨_, rfl, ?_⟩
              exact ⟨s1, s2, s3, s4, (by first | rfl | exact s11 | simp only [go_sem, s11, List.length_append, List.map_append]), (by first | rfl | exact s12 | simp only [go_sem, s12, List.length_append, List.map_append])⟩
          · rw [if_f hc57] at hm1
            simp only [cw_exit, qseq_exit, qblock_same, qblock_ne, qblock_normal, qseq_normal, Nat.reduceEqDiff, not_false_eq_true]
            obtain rfl := Option.some.inj hm1
            obtain rfl := hb55 _ rfl
            try dsimp only at hm0
            exact J9 count_11 _ _ s1 s2 s3 s4 s11 hm0

end Go.Nw.CM

namespace Go.Nw.CM
open Go.Nw.Circ
set_option linter.unusedSimpArgs false
set_option linter.unusedVariables false
variable {O : Orac}

theorem k_r03_conducts_body (hf : Has O "newel/newelref03.conducts" x_r03_conducts) : C_r03_conducts_body O := by
  intro self_r03_conducts self_r03_conducts_h c wire hazards closed open_ r hm0
  unfold r03_conducts_body at hm0
  refine fn_cw hf rfl (fz_cons (.agg _ (fz_cons (frz_v _) (fz_cons (frz_fs fun a _ => fz_eI a) (fz_cons (frz_fs fun a _ => fz_eWire a) fz_nil)))) (fz_cons (frz_v _) (fz_cons (frz_v _) (fz_cons (frz_v _) (fz_cons (frz_v _) fz_nil))))) (frz_v _) ?_
  refine cw_start (fun t h => t 0 = .agg [I c.Hazards, .fs 1 (List.map eI c.Switches), .fs 2 (List.map eWire c.Wires)] ∧ t 1 = I wire ∧ t 2 = I hazards ∧ t 3 = I closed ∧ t 4 = I open_) ⟨rfl, rfl, rfl, rfl, rfl⟩ fun t h ⟨s0, s1, s2, s3, s4⟩ => ?_
  simp only [x_r03_conducts]
  refine cw_reg_seq fun K hK => ?_
  simp only [go_sem, s0]
  refine hK _ _ ?_
  clear hK K
  obtain ⟨x2, h_x2, hm0⟩ := bind_get hm0
  have h_x20 := get_nn h_x2
  have h_x21 := get_lt h_x2
  refine cw_reg_seq fun K hK => ?_
  simp only [go_sem, s1, ielem_get h_x2, irow_get h_x2, h_x20, h_x21]
  refine hK _ _ ?_
  clear hK K
  refine cw_assoc ?_
  refine cw_reg_seq fun K hK => ?_
  simp only [go_sem]
  refine hK _ _ ?_
  clear hK K
  refine cw_seq_k fun K3 hK3 => ?_
  simp only [go_sem]
  refine ibr_intro (fun hc4 => ?_) (fun hc4 => ?_)
  · rw [if_t hc4] at hm0
    obtain ⟨x6, h_x6, hm0⟩ := bind_get hm0
    have h_x60 := get_nn h_x6
    have h_x61 := get_lt h_x6
    refine cw_reg_seq fun K hK => ?_
    simp only [go_sem, ielem_get h_x6, irow_get h_x6, h_x60, h_x61]
    refine hK _ _ ?_
    clear hK K
    obtain ⟨q12, h_q12, hm0⟩ := bind_get hm0
    obtain ⟨c16, h_c16, hm0⟩ := bind_get hm0
    refine cw_reg_postK (fun t h => t 10 = B c16) (fun K hK => ?_) ?_
    · simp only [go_sem, s2, s3, s4, ibin_shr h_q12]
      refine ibr_intro (fun hg17 => ?_) (fun hg17 => ?_)
      · simp only [hg17, Bool.not_true, Bool.not_false, eq_self, if_true, if_false, Bool.true_or, Bool.or_true, Bool.false_or, Bool.or_false, Bool.true_and, Bool.and_true, Bool.false_and, Bool.and_false, Bool.false_eq_true] at h_c16
        obtain ⟨q13, h_q13, h_c16⟩ := bind_get h_c16
        obtain ⟨c15, h_c15, h_c16⟩ := bind_get h_c16
        obtain rfl := Option.some.inj h_c16
        simp only [go_sem, s2, s3, s4, ibin_shr h_q12, ibin_shr h_q13, hg17]
        refine ibr_intro (fun hg18 => ?_) (fun hg18 => ?_)
        · simp only [hg17, hg18, Bool.not_true, Bool.not_false, eq_self, if_true, if_false, Bool.true_or, Bool.or_true, Bool.false_or, Bool.or_false, Bool.true_and, Bool.and_true, Bool.false_and, Bool.and_false, Bool.false_eq_true] at h_c15
          obtain rfl := Option.some.inj h_c15
          simp only [go_sem, s2, s3, s4, ibin_shr h_q12, ibin_shr h_q13, hg17, hg18]
          exact hK _ _ (by first | rfl | simp only [go_sem, hg17, hg18, List.length_append, List.map_append])
        · simp only [hg17, hg18, Bool.not_true, Bool.not_false, eq_self, if_true, if_false, Bool.true_or, Bool.or_true, Bool.false_or, Bool.or_false, Bool.true_and, Bool.and_true, Bool.false_and, Bool.and_false, Bool.false_eq_true] at h_c15
          obtain ⟨x14, h_x14, h_c15⟩ := bind_get h_c15
          have h_x140 := get_nn h_x14
          have h_x141 := get_lt h_x14
          obtain rfl := Option.some.inj h_c15
          simp only [go_sem, s2, s3, s4, ibin_shr h_q12, ibin_shr h_q13, ielem_get h_x14, irow_get h_x14, h_x140, h_x141, hg17, hg18]
          exact hK _ _ (by first | rfl | simp only [go_sem, hg17, hg18, List.length_append, List.map_append])
      · simp only [hg17, Bool.not_true, Bool.not_false, eq_self, if_true, if_false, Bool.true_or, Bool.or_true, Bool.false_or, Bool.or_false, Bool.true_and, Bool.and_true, Bool.false_and, Bool.and_false, Bool.false_eq_true] at h_c16
        obtain rfl := Option.some.inj h_c16
        simp only [go_sem, s2, s3, s4, ibin_shr h_q12, hg17]
        exact hK _ _ (by first | rfl | simp only [go_sem, hg17, List.length_append, List.map_append])
    · rintro t h s10
      simp only [cw_ret, qseq_ret, qblock_ret, retQ_ret]
      obtain rfl := Option.some.inj hm0
      exact done_t (by simp only [go_sem, s10, List.length_append, List.map_append]) (frz_v _)
  · rw [if_f hc4] at hm0
    simp only [cw_skip, qblock_normal, qseq_normal]
    refine hK3 _ _ ?_
    refine cw_assoc ?_
    refine cw_reg_seq fun K hK => ?_
    simp only [go_sem]
    refine hK _ _ ?_
    clear hK K
    refine cw_seq_k fun K19 hK19 => ?_
    have J20 : ∀ (i11 : Nat) (t : Slots) (h : Heap), t 11 = .rp i11 0 0 → h.ob i11 = some (2, [[I x2.Kind, .fs 1 (List.map eI x2.Of)]]) → i11 < h.nx → r03_conducts_body_j20 x2 = some r → K19 t h := by
      intro i11 t h s11 ob_o11 lt_o11 hm0
      refine hK19 _ _ ?_
      unfold r03_conducts_body_j20 at hm0
      refine cw_reg_seq fun K hK => ?_
      simp only [go_sem, s11, ob_o11, lt_o11]
      refine hK _ _ ?_
      clear hK K
      simp only [cw_ret, qseq_ret, qblock_ret, retQ_ret]
      obtain rfl := Option.some.inj hm0
      exact done_t (by simp only [go_sem, ob_o11, lt_o11, List.length_append, List.map_append]) (frz_v _)
    simp only [cw_block]
    obtain ⟨b21, hl21, hm0⟩ := bind_get hm0
    refine cw_loopM hl21 (fun | k_13, t, h => ∃ i11 : Nat, t 2 = I hazards ∧ t 3 = I closed ∧ t 4 = I open_ ∧ t 5 = .fp [I c.Hazards, .fs 1 (List.map eI c.Switches), .fs 2 (List.map eWire c.Wires)] 0 ∧ t 11 = .rp i11 0 0 ∧ t 13 = I k_13 ∧ h.ob i11 = some (2, [[I x2.Kind, .fs 1 (List.map eI x2.Of)]]) ∧ i11 < h.nx) ?_ ?_
    · exact ⟨h.nx, s2, s3, s4, (by first | rfl | simp only [go_sem, List.length_append, List.map_append]), (by first | rfl | simp only [go_sem, List.length_append, List.map_append]), (by first | rfl | simp only [go_sem, List.length_append, List.map_append]), (by simp only [go_sem, List.length_append, List.map_append]), (by simp only [go_sem])⟩
    · rintro k_13 o t h ⟨i11, s2, s3, s4, s5, s11, s13, ob_o11, lt_o11⟩ hm1 hb21
      simp only [r03_conducts_body_L10] at hm1
      rw [x_r03_conducts_L10]
      refine cw_assoc ?_
      refine cw_reg_seq fun K hK => ?_
      simp only [go_sem, s11, s13, ob_o11, lt_o11]
      refine hK _ _ ?_
      clear hK K
      refine cw_seq_k fun K22 hK22 => ?_
      simp only [go_sem]
      refine ibr_intro (fun hc23 => ?_) (fun hc23 => ?_)
      · rw [if_t hc23] at hm1
        simp only [cw_skip, qblock_normal, qseq_normal]
        refine hK22 _ _ ?_
        refine cw_seq_k fun K24 hK24 => ?_
        simp only [cw_block]
        obtain ⟨x27, h_x27, hm1⟩ := bind_get hm1
        have h_x270 := get_nn h_x27
        have h_x271 := get_lt h_x27
        obtain ⟨y28, h_y28, hm1⟩ := bind_get hm1
        refine cw_reg_seq fun K hK => ?_
        simp only [go_sem, s2, s3, s4, s5, s11, s13, ob_o11, lt_o11, ielem_get h_x27, irow_get h_x27, h_x270, h_x271]
        refine icall_fn (self_r03_conducts_h c x27 hazards closed open_ _ h_y28) ?_
        simp only [go_sem, s2, s3, s4, s5, s11, s13, ob_o11, lt_o11, ielem_get h_x27, irow_get h_x27, h_x270, h_x271]
        refine hK _ _ ?_
        clear hK K
        simp only [go_sem]
        refine ibr_intro (fun hc29 => ?_) (fun hc29 => ?_)
        · rw [if_t hc29] at hm1
          refine cw_reg_seq fun K hK => ?_
          simp only [go_sem, s11, ob_o11, lt_o11]
          refine hK _ _ ?_
          clear hK K
          simp only [cw_ret, qseq_ret, qblock_ret, retQ_ret]
          obtain rfl := Option.some.inj hm1
          obtain rfl := hb21 _ rfl
          try dsimp only at hm0
          obtain rfl := Option.some.inj hm0
          exact done_t (by simp only [go_sem, ob_o11, lt_o11, List.length_append, List.map_append]) (frz_v _)
        · rw [if_f hc29] at hm1
          simp only [cw_skip, qblock_normal, qseq_normal]
          refine hK24 _ _ ?_
          refine cw_reg_k fun K hK => ?_
          simp only [go_sem, s13, lt_o11]
          refine hK _ _ ?_
          clear hK K
          simp only [qblock_normal, qseq_normal]
          obtain rfl := Option.some.inj hm1
          refine ⟨_, rfl, ?_⟩
          exact ⟨i11, s2, s3, s4, s5, s11, (by first | rfl | exact s13 | simp only [go_sem, s13, List.length_append, List.map_append]), ob_o11, lt_o11⟩
      · rw [if_f hc23] at hm1
        simp only [cw_exit, qseq_exit, qblock_same, qblock_ne, qblock_normal, qseq_normal, Nat.reduceEqDiff, not_false_eq_true]
        obtain rfl := Option.some.inj hm1
        obtain rfl := hb21 _ rfl
        try dsimp only at hm0
        exact J20 i11 _ _ s11 ob_o11 lt_o11 hm0

theorem k_r03_conducts (k_r03_conducts_body : C_r03_conducts_body O) : C_r03_conducts O := by
  intro n
  induction n with
  | zero => intro c wire hazards closed open_ r h; cases h
  | succ n ih => exact fun c wire hazards closed open_ r h => k_r03_conducts_body (r03_conducts n) ih c wire hazards closed open_ r h

end Go.Nw.CM

namespace Go.Nw.CM
open Go.Nw.Circ
set_option linter.unusedSimpArgs false
set_option linter.unusedVariables false
variable {O : Orac}

theorem k_r03_every (hf : Has O "newel/newelref03.every" x_r03_every) (k_r03_shown : C_r03_shown O) : C_r03_every O := by
  intro c l r hm0
  unfold r03_every at hm0
  refine fn_cw hf rfl (fz_cons (.agg _ (fz_cons (frz_v _) (fz_cons (frz_fs fun a _ => fz_eI a) (fz_cons (frz_fs fun a _ => fz_eWire a) fz_nil)))) (fz_cons (frz_fs fun a _ => fz_eTrial a) fz_nil)) (frz_fs fun a _ => fz_eI a) ?_
  refine cw_start (fun t h => t 0 = .agg [I c.Hazards, .fs 1 (List.map eI c.Switches), .fs 2 (List.map eWire c.Wires)] ∧ t 1 = .fs 2 (List.map eTrial l)) ⟨rfl, rfl⟩ fun t h ⟨s0, s1⟩ => ?_
  simp only [x_r03_every]
  refine cw_reg_seq fun K hK => ?_
  simp only [go_sem, s0]
  refine hK _ _ ?_
  clear hK K
  refine cw_reg_seq fun K hK => ?_
  simp only [go_sem]
  refine hK _ _ ?_
  clear hK K
  refine cw_assoc ?_
  refine cw_reg_seq fun K hK => ?_
  simp only [go_sem]
  refine hK _ _ ?_
  clear hK K
  refine cw_seq_k fun K1 hK1 => ?_
  have J2 : ∀ (shows_5 : List Int) (v5 : AV) (t : Slots) (h : Heap), t 5 = v5 → OwnS h v5 1 (List.map eI shows_5) → r03_every_j2 shows_5 = some r → K1 t h := by
    intro shows_5 v5 t h s5 ow_o5 hm0
    refine hK1 _ _ ?_
    unfold r03_every_j2 at hm0
    refine cw_reg_seq fun K hK => ?_
    simp only [go_sem, s5, istr_of v5]
    refine hK _ _ ?_
    clear hK K
    simp only [cw_ret, qseq_ret, qblock_ret, retQ_ret]
    obtain rfl := Option.some.inj hm0
    exact done_fz (v := v5) (by simp only [go_sem, List.length_append, List.map_append]) (fz_own (f := eI) (l := shows_5) (own_later ow_o5 (by intro j hj hl; first | rfl | simp only [go_sem, hl]) (by first | omega | (simp only [go_sem, nxs]; omega))) fz_eI ln_eI)
  simp only [cw_block]
  obtain ⟨b3, hl3, hm0⟩ := bind_get hm0
  refine cw_loopM hl3 (fun | (shows_5, i_6), t, h => ∃ v5 : AV, t 1 = .fs 2 (List.map eTrial l) ∧ t 2 = .fp [I c.Hazards, .fs 1 (List.map eI c.Switches), .fs 2 (List.map eWire c.Wires)] 0 ∧ t 5 = v5 ∧ t 6 = I i_6 ∧ OwnS h v5 1 (List.map eI shows_5)) ?_ ?_
  · exact ⟨(.v (.slice none 0 0)), s1, (by first | rfl | simp only [go_sem, List.length_append, List.map_append]), (by first | rfl | simp only [go_sem, List.length_append, List.map_append]), (by first | rfl | simp only [go_sem, List.length_append, List.map_append]), own_nil'⟩
  · rintro ⟨shows_5, i_6⟩ o t h ⟨v5, s1, s2, s5, s6, ow_o5⟩ hm1 hb3
    simp only [r03_every_L6] at hm1
    rw [x_r03_every_L6]
    refine cw_assoc ?_
    refine cw_reg_seq fun K hK => ?_
    simp only [go_sem, s1, s6, istr_of v5]
    refine hK _ _ ?_
    clear hK K
    refine cw_seq_k fun K4 hK4 => ?_
    simp only [go_sem]
    refine ibr_intro (fun hc5 => ?_) (fun hc5 => ?_)
    · rw [if_t hc5] at hm1
      simp only [cw_skip, qblock_normal, qseq_normal]
      refine hK4 _ _ ?_
      refine cw_seq_k fun K6 hK6 => ?_
      simp only [cw_block]
      obtain ⟨x10, h_x10, hm1⟩ := bind_get hm1
      have h_x100 := get_nn h_x10
      have h_x101 := get_lt h_x10
      obtain ⟨y11, h_y11, hm1⟩ := bind_get hm1
      obtain ⟨l12, h_l12, hm1⟩ := bind_get hm1
      refine cw_reg_k fun K hK => ?_
      simp only [go_sem, s1, s2, s5, s6, ielem_get h_x10, irow_get h_x10, h_x100, h_x101, istr_of v5]
      refine icall_fn (k_r03_shown c x10 _ h_y11) ?_
      simp only [go_sem, s1, s2, s5, s6, ielem_get h_x10, irow_get h_x10, h_x100, h_x101, istr_of v5]
      refine iapp_own (f := eI) (l := shows_5) (m := ([y11])) ?_ ?_ ?_ ?_ h_l12 ?_
      · exact (own_later ow_o5 (by intro j hj hl; first | rfl | simp only [go_sem, hl]) (by first | omega | (simp only [go_sem, nxs]; omega)))
      · exact (ownx_rs (by simp only [go_sem, List.length_append, List.map_append]) (by simp only [go_sem, List.length_append, List.map_append]))
      · exact (nd_rs (by first | exact notid_nil | exact notid_rs (by first | omega | (simp only [nxs]; omega)) | assumption | exact own_notid (by assumption) (by first | omega | (simp only [go_sem, nxs]; omega))))
      · exact (fun _ => by simp)
      simp only [go_sem, s1, s2, s5, s6, ielem_get h_x10, irow_get h_x10, h_x100, h_x101, istr_of v5]
      refine hK _ _ ?_
      clear hK K
      simp only [qblock_normal, qseq_normal]
      refine hK6 _ _ ?_
      refine cw_reg_k fun K hK => ?_
      simp only [go_sem, s6, istr_of v5]
      refine hK _ _ ?_
      clear hK K
      simp only [qblock_normal, qseq_normal]
      obtain rfl := Option.some.inj hm1
      refine ⟨_, rfl, ?_⟩
      exact ⟨(.rs (nxs h.nx) 0 (List.length l12)), s1, s2, (by first | rfl | exact s5 | simp only [go_sem, s5, List.length_append, List.map_append]), (by first | rfl | exact s6 | simp only [go_sem, s6, List.length_append, List.map_append]), (own_rs (by simp only [go_sem, List.length_append, List.map_append]) (by simp only [go_sem, List.length_append, List.map_append]) (by simp only [go_sem]))⟩
    · rw [if_f hc5] at hm1
      simp only [cw_exit, qseq_exit, qblock_same, qblock_ne, qblock_normal, qseq_normal, Nat.reduceEqDiff, not_false_eq_true]
      obtain rfl := Option.some.inj hm1
      obtain rfl := hb3 _ rfl
      try dsimp only at hm0
      exact J2 shows_5 v5 _ _ s5 ow_o5 hm0

end Go.Nw.CM

namespace Go.Nw.CM
open Go.Nw.Circ
set_option linter.unusedSimpArgs false
set_option linter.unusedVariables false
variable {O : Orac}

theorem k_r03_gap (hf : Has O "newel/newelref03.gap" x_r03_gap) : C_r03_gap O := by
  intro c shows r_ r hm0
  unfold r03_gap at hm0
  refine fn_cw hf rfl (fz_cons (.agg _ (fz_cons (frz_v _) (fz_cons (frz_fs fun a _ => fz_eI a) (fz_cons (frz_fs fun a _ => fz_eWire a) fz_nil)))) (fz_cons (frz_fs fun a _ => fz_eI a) (fz_cons (.agg _ (fz_cons (frz_fs fun a _ => fz_eL_I a) (fz_cons (frz_v _) fz_nil))) fz_nil))) (.tup _ (fz_cons (frz_v _) (fz_cons (frz_v _) (fz_cons (frz_v _) fz_nil)))) ?_
  refine cw_start (fun t h => t 0 = .agg [I c.Hazards, .fs 1 (List.map eI c.Switches), .fs 2 (List.map eWire c.Wires)] ∧ t 1 = .fs 1 (List.map eI shows) ∧ t 2 = .agg [.fs 1 (List.map eL_I r_.Nights), I r_.Gap]) ⟨rfl, rfl, rfl⟩ fun t h ⟨s0, s1, s2⟩ => ?_
  simp only [x_r03_gap]
  refine cw_reg_seq fun K hK => ?_
  simp only [go_sem, s0, s2]
  refine hK _ _ ?_
  clear hK K
  refine cw_reg_seq fun K hK => ?_
  simp only [go_sem]
  refine hK _ _ ?_
  clear hK K
  obtain ⟨l2, h_l2, hm0⟩ := bind_get hm0
  refine cw_reg_seq fun K hK => ?_
  simp only [go_sem]
  refine imksl_ok (f := eI) (z := 0) rfl h_l2 ?_
  simp only [go_sem]
  refine hK _ _ ?_
  clear hK K
  refine cw_assoc ?_
  refine cw_reg_seq fun K hK => ?_
  simp only [go_sem]
  refine hK _ _ ?_
  clear hK K
  refine cw_seq_k fun K3 hK3 => ?_
  have J4 : ∀ (done_10 : List Int) (i10 : Nat) (t : Slots) (h : Heap), t 3 = .fp [I c.Hazards, .fs 1 (List.map eI c.Switches), .fs 2 (List.map eWire c.Wires)] 0 → t 5 = .fp [.fs 1 (List.map eL_I r_.Nights), I r_.Gap] 0 → t 9 = I (List.length r_.Nights : Int) → t 10 = .rs i10 0 (List.length done_10) → h.ob i10 = some (1, List.map eI done_10) → i10 < h.nx → r03_gap_j4 c r_ done_10 = some r → K3 t h := by
    intro done_10 i10 t h s3 s5 s9 s10 ob_o10 lt_o10 hm0
    refine hK3 _ _ ?_
    unfold r03_gap_j4 at hm0
    refine cw_assoc ?_
    refine cw_reg_seq fun K hK => ?_
    simp only [go_sem, lt_o10]
    refine hK _ _ ?_
    clear hK K
    refine cw_seq_k fun K5 hK5 => ?_
    have J6 : ∀ (t : Slots) (h : Heap), r03_gap_j6 = some r → K5 t h := by
      intro t h hm0
      refine hK5 _ _ ?_
      unfold r03_gap_j6 at hm0
      refine cw_reg_seq fun K hK => ?_
      simp only [go_sem]
      refine hK _ _ ?_
      clear hK K
      simp only [cw_ret, qseq_ret, qblock_ret, retQ_ret]
      obtain rfl := Option.some.inj hm0
      exact done_t3 (by simp only [go_sem, List.length_append, List.map_append]) (by simp only [go_sem, List.length_append, List.map_append]) (by simp only [go_sem, List.length_append, List.map_append]) (frz_v _) (frz_v _) (frz_v _)
    simp only [cw_block]
    obtain ⟨b7, hl7, hm0⟩ := bind_get hm0
    refine cw_loopM hl7 (fun | s_13, t, h => t 3 = .fp [I c.Hazards, .fs 1 (List.map eI c.Switches), .fs 2 (List.map eWire c.Wires)] 0 ∧ t 5 = .fp [.fs 1 (List.map eL_I r_.Nights), I r_.Gap] 0 ∧ t 9 = I (List.length r_.Nights : Int) ∧ t 10 = .rs i10 0 (List.length done_10) ∧ t 13 = I s_13 ∧ h.ob i10 = some (1, List.map eI done_10) ∧ i10 < h.nx) ?_ ?_
    · exact ⟨s3, s5, s9, (by first | exact s10 | simp only [go_sem, s10, List.length_append, List.map_append]), (by first | rfl | simp only [go_sem, List.length_append, List.map_append]), ob_o10, lt_o10⟩
    · rintro s_13 o t h ⟨s3, s5, s9, s10, s13, ob_o10, lt_o10⟩ hm1 hb7
      simp only [r03_gap_L27] at hm1
      rw [x_r03_gap_L27]
      refine cw_assoc ?_
      refine cw_reg_seq fun K hK => ?_
      simp only [go_sem, s3, s13, lt_o10]
      refine hK _ _ ?_
      clear hK K
      refine cw_seq_k fun K8 hK8 => ?_
      simp only [go_sem]
      refine ibr_intro (fun hc9 => ?_) (fun hc9 => ?_)
      · rw [if_t hc9] at hm1
        simp only [cw_skip, qblock_normal, qseq_normal]
        refine hK8 _ _ ?_
        refine cw_seq_k fun K10 hK10 => ?_
        have J11 : ∀ (t : Slots) (h : Heap), t 3 = .fp [I c.Hazards, .fs 1 (List.map eI c.Switches), .fs 2 (List.map eWire c.Wires)] 0 → t 5 = .fp [.fs 1 (List.map eL_I r_.Nights), I r_.Gap] 0 → t 9 = I (List.length r_.Nights : Int) → t 10 = .rs i10 0 (List.length done_10) → t 13 = I s_13 → h.ob i10 = some (1, List.map eI done_10) → i10 < h.nx → r03_gap_j11 s_13 = some o → K10 t h := by
          intro t h s3 s5 s9 s10 s13 ob_o10 lt_o10 hm1
          refine hK10 _ _ ?_
          unfold r03_gap_j11 at hm1
          refine cw_reg_k fun K hK => ?_
          simp only [go_sem, s13, lt_o10]
          refine hK _ _ ?_
          clear hK K
          simp only [qblock_normal, qseq_normal]
          obtain rfl := Option.some.inj hm1
          refine ⟨_, rfl, ?_⟩
          exact ⟨s3, s5, s9, (by first | exact s10 | simp only [go_sem, s10, List.length_append, List.map_append]), (by first | rfl | exact s13 | simp only [go_sem, s13, List.length_append, List.map_append]), ob_o10, lt_o10⟩
        simp only [cw_block]
        refine cw_reg_seq fun K hK => ?_
        simp only [go_sem, lt_o10]
        refine hK _ _ ?_
        clear hK K
        simp only [cw_block]
        obtain ⟨b12, hl12, hm1⟩ := bind_get hm1
        refine cw_loopM hl12 (fun | from_14, t, h => t 3 = .fp [I c.Hazards, .fs 1 (List.map eI c.Switches), .fs 2 (List.map eWire c.Wires)] 0 ∧ t 5 = .fp [.fs 1 (List.map eL_I r_.Nights), I r_.Gap] 0 ∧ t 9 = I (List.length r_.Nights : Int) ∧ t 10 = .rs i10 0 (List.length done_10) ∧ t 13 = I s_13 ∧ t 14 = I from_14 ∧ h.ob i10 = some (1, List.map eI done_10) ∧ i10 < h.nx) ?_ ?_
        · exact ⟨s3, s5, s9, (by first | exact s10 | simp only [go_sem, s10, List.length_append, List.map_append]), s13, (by first | rfl | simp only [go_sem, List.length_append, List.map_append]), ob_o10, lt_o10⟩
        · rintro from_14 o t h ⟨s3, s5, s9, s10, s13, s14, ob_o10, lt_o10⟩ hm2 hb12
          simp only [r03_gap_L25] at hm2
          rw [x_r03_gap_L25]
          refine cw_assoc ?_
          refine cw_reg_seq fun K hK => ?_
          simp only [go_sem, s9, s14, lt_o10]
          refine hK _ _ ?_
          clear hK K
          refine cw_seq_k fun K13 hK13 => ?_
          simp only [go_sem]
          refine ibr_intro (fun hc14 => ?_) (fun hc14 => ?_)
          · rw [if_t hc14] at hm2
            simp only [cw_skip, qblock_normal, qseq_normal]
            refine hK13 _ _ ?_
            refine cw_seq_k fun K15 hK15 => ?_
            have J16 : ∀ (t : Slots) (h : Heap), t 3 = .fp [I c.Hazards, .fs 1 (List.map eI c.Switches), .fs 2 (List.map eWire c.Wires)] 0 → t 5 = .fp [.fs 1 (List.map eL_I r_.Nights), I r_.Gap] 0 → t 9 = I (List.length r_.Nights : Int) → t 10 = .rs i10 0 (List.length done_10) → t 13 = I s_13 → t 14 = I from_14 → h.ob i10 = some (1, List.map eI done_10) → i10 < h.nx → r03_gap_j16 from_14 = some o → K15 t h := by
              intro t h s3 s5 s9 s10 s13 s14 ob_o10 lt_o10 hm2
              refine hK15 _ _ ?_
              unfold r03_gap_j16 at hm2
              refine cw_reg_k fun K hK => ?_
              simp only [go_sem, s14, lt_o10]
              refine hK _ _ ?_
              clear hK K
              simp only [qblock_normal, qseq_normal]
              obtain rfl := Option.some.inj hm2
              refine ⟨_, rfl, ?_⟩
              exact ⟨s3, s5, s9, (by first | exact s10 | simp only [go_sem, s10, List.length_append, List.map_append]), s13, (by first | rfl | exact s14 | simp only [go_sem, s14, List.length_append, List.map_append]), ob_o10, lt_o10⟩
            simp only [cw_block]
            refine cw_reg_seq fun K hK => ?_
            simp only [go_sem, lt_o10]
            refine hK _ _ ?_
            clear hK K
            refine cw_assoc ?_
            refine cw_reg_seq fun K hK => ?_
            simp only [go_sem, lt_o10]
            refine hK _ _ ?_
            clear hK K
            refine cw_seq_k fun K17 hK17 => ?_
            have J18 : ∀ (set_15 : Int) (t : Slots) (h : Heap), t 3 = .fp [I c.Hazards, .fs 1 (List.map eI c.Switches), .fs 2 (List.map eWire c.Wires)] 0 → t 5 = .fp [.fs 1 (List.map eL_I r_.Nights), I r_.Gap] 0 → t 9 = I (List.length r_.Nights : Int) → t 10 = .rs i10 0 (List.length done_10) → t 13 = I s_13 → t 14 = I from_14 → t 15 = I set_15 → h.ob i10 = some (1, List.map eI done_10) → i10 < h.nx → r03_gap_j18 s_13 from_14 set_15 = some o → K17 t h := by
              intro set_15 t h s3 s5 s9 s10 s13 s14 s15 ob_o10 lt_o10 hm2
              refine hK17 _ _ ?_
              unfold r03_gap_j18 at hm2
              obtain ⟨q20, h_q20, hm2⟩ := bind_get hm2
              refine cw_reg_seq fun K hK => ?_
              simp only [go_sem, s13, s15, lt_o10, ibin_shr h_q20]
              refine hK _ _ ?_
              clear hK K
              simp only [go_sem]
              refine ibr_intro (fun hc21 => ?_) (fun hc21 => ?_)
              · rw [if_t hc21] at hm2
                refine cw_reg_seq fun K hK => ?_
                simp only [go_sem, s13, s14, lt_o10]
                refine hK _ _ ?_
                clear hK K
                simp only [cw_ret, qseq_ret, qblock_ret, retQ_ret]
                obtain rfl := Option.some.inj hm2
                obtain rfl := hb12 _ rfl
                try dsimp only at hm1
                obtain rfl := Option.some.inj hm1
                obtain rfl := hb7 _ rfl
                try dsimp only at hm0
                obtain rfl := Option.some.inj hm0
                exact done_t3 (by simp only [go_sem, ob_o10, lt_o10, List.length_append, List.map_append]) (by simp only [go_sem, ob_o10, lt_o10, List.length_append, List.map_append]) (by simp only [go_sem, ob_o10, lt_o10, List.length_append, List.map_append]) (frz_v _) (frz_v _) (frz_v _)
              · rw [if_f hc21] at hm2
                simp only [cw_skip, qblock_normal, qseq_normal]
                exact J16  _ _ s3 s5 s9 (by first | exact s10 | simp only [go_sem, s10, List.length_append, List.map_append]) s13 s14 ob_o10 lt_o10 hm2
            simp only [cw_block]
            obtain ⟨b22, hl22, hm2⟩ := bind_get hm2
            refine cw_loopM hl22 (fun | (set_15, d_16), t, h => t 3 = .fp [I c.Hazards, .fs 1 (List.map eI c.Switches), .fs 2 (List.map eWire c.Wires)] 0 ∧ t 5 = .fp [.fs 1 (List.map eL_I r_.Nights), I r_.Gap] 0 ∧ t 9 = I (List.length r_.Nights : Int) ∧ t 10 = .rs i10 0 (List.length done_10) ∧ t 13 = I s_13 ∧ t 14 = I from_14 ∧ t 15 = I set_15 ∧ t 16 = I d_16 ∧ h.ob i10 = some (1, List.map eI done_10) ∧ i10 < h.nx) ?_ ?_
            · exact ⟨s3, s5, s9, (by first | exact s10 | simp only [go_sem, s10, List.length_append, List.map_append]), s13, s14, (by first | rfl | simp only [go_sem, List.length_append, List.map_append]), (by first | rfl | simp only [go_sem, List.length_append, List.map_append]), ob_o10, lt_o10⟩
            · rintro ⟨set_15, d_16⟩ o t h ⟨s3, s5, s9, s10, s13, s14, s15, s16, ob_o10, lt_o10⟩ hm3 hb22
              simp only [r03_gap_L21] at hm3
              rw [x_r03_gap_L21]
              refine cw_assoc ?_
              refine cw_reg_seq fun K hK => ?_
              simp only [go_sem, s5, s16, lt_o10]
              refine hK _ _ ?_
              clear hK K
              refine cw_seq_k fun K23 hK23 => ?_
              simp only [go_sem]
              refine ibr_intro (fun hc24 => ?_) (fun hc24 => ?_)
              · rw [if_t hc24] at hm3
                simp only [cw_skip, qblock_normal, qseq_normal]
                refine hK23 _ _ ?_
                refine cw_seq_k fun K25 hK25 => ?_
                simp only [cw_block]
                obtain ⟨q28, h_q28, hm3⟩ := bind_get hm3
                obtain ⟨x29, h_x29, hm3⟩ := bind_get hm3
                have h_x290 := get_nn h_x29
                have h_x291 := get_lt h_x29
                refine cw_reg_k fun K hK => ?_
                simp only [go_sem, s9, s10, s14, s15, s16, ob_o10, lt_o10, ibin_rem h_q28, ielem_get h_x29, irow_get h_x29, h_x290, h_x291]
                refine hK _ _ ?_
                clear hK K
                simp only [qblock_normal, qseq_normal]
                refine hK25 _ _ ?_
                refine cw_reg_k fun K hK => ?_
                simp only [go_sem, s16, lt_o10]
                refine hK _ _ ?_
                clear hK K
                simp only [qblock_normal, qseq_normal]
                obtain rfl := Option.some.inj hm3
                refine ⟨_, rfl, ?_⟩
                exact ⟨s3, s5, s9, (by first | exact s10 | simp only [go_sem, s10, List.length_append, List.map_append]), s13, s14, (by first | rfl | exact s15 | simp only [go_sem, s15, List.length_append, List.map_append]), (by first | rfl | exact s16 | simp only [go_sem, s16, List.length_append, List.map_append]), ob_o10, lt_o10⟩
              · rw [if_f hc24] at hm3
                simp only [cw_exit, qseq_exit, qblock_same, qblock_ne, qblock_normal, qseq_normal, Nat.reduceEqDiff, not_false_eq_true]
                obtain rfl := Option.some.inj hm3
                obtain rfl := hb22 _ rfl
                try dsimp only at hm2
                exact J18 set_15 _ _ s3 s5 s9 (by first | exact s10 | simp only [go_sem, s10, List.length_append, List.map_append]) s13 s14 s15 ob_o10 lt_o10 hm2
          · rw [if_f hc14] at hm2
            simp only [cw_exit, qseq_exit, qblock_same, qblock_ne, qblock_normal, qseq_normal, Nat.reduceEqDiff, not_false_eq_true]
            obtain rfl := Option.some.inj hm2
            obtain rfl := hb12 _ rfl
            try dsimp only at hm1
            exact J11  _ _ s3 s5 s9 (by first | exact s10 | simp only [go_sem, s10, List.length_append, List.map_append]) s13 ob_o10 lt_o10 hm1
      · rw [if_f hc9] at hm1
        simp only [cw_exit, qseq_exit, qblock_same, qblock_ne, qblock_normal, qseq_normal, Nat.reduceEqDiff, not_false_eq_true]
        obtain rfl := Option.some.inj hm1
        obtain rfl := hb7 _ rfl
        try dsimp only at hm0
        exact J6  _ _  hm0
  simp only [cw_block]
  obtain ⟨b33, hl33, hm0⟩ := bind_get hm0
  refine cw_loopM hl33 (fun | (done_10, i_11), t, h => ∃ i10 : Nat, t 1 = .fs 1 (List.map eI shows) ∧ t 3 = .fp [I c.Hazards, .fs 1 (List.map eI c.Switches), .fs 2 (List.map eWire c.Wires)] 0 ∧ t 5 = .fp [.fs 1 (List.map eL_I r_.Nights), I r_.Gap] 0 ∧ t 9 = I (List.length r_.Nights : Int) ∧ t 10 = .rs i10 0 (List.length done_10) ∧ t 11 = I i_11 ∧ h.ob i10 = some (1, List.map eI done_10) ∧ i10 < h.nx) ?_ ?_
  · exact ⟨h.nx, s1, (by first | rfl | simp only [go_sem, List.length_append, List.map_append]), (by first | rfl | simp only [go_sem, List.length_append, List.map_append]), (by first | rfl | simp only [go_sem, List.length_append, List.map_append]), (by first | rfl | simp only [go_sem, List.length_append, List.map_append]), (by first | rfl | simp only [go_sem, List.length_append, List.map_append]), (by simp only [go_sem, List.length_append, List.map_append]), (by simp only [go_sem])⟩
  · rintro ⟨done_10, i_11⟩ o t h ⟨i10, s1, s3, s5, s9, s10, s11, ob_o10, lt_o10⟩ hm1 hb33
    simp only [r03_gap_L11] at hm1
    rw [x_r03_gap_L11]
    refine cw_assoc ?_
    refine cw_reg_seq fun K hK => ?_
    simp only [go_sem, s9, s11, lt_o10]
    refine hK _ _ ?_
    clear hK K
    refine cw_seq_k fun K34 hK34 => ?_
    simp only [go_sem]
    refine ibr_intro (fun hc35 => ?_) (fun hc35 => ?_)
    · rw [if_t hc35] at hm1
      simp only [cw_skip, qblock_normal, qseq_normal]
      refine hK34 _ _ ?_
      refine cw_seq_k fun K36 hK36 => ?_
      have J37 : ∀ (done_10_1 : List Int) (t : Slots) (h : Heap), t 1 = .fs 1 (List.map eI shows) → t 3 = .fp [I c.Hazards, .fs 1 (List.map eI c.Switches), .fs 2 (List.map eWire c.Wires)] 0 → t 5 = .fp [.fs 1 (List.map eL_I r_.Nights), I r_.Gap] 0 → t 9 = I (List.length r_.Nights : Int) → t 10 = .rs i10 0 (List.length done_10_1) → t 11 = I i_11 → h.ob i10 = some (1, List.map eI done_10_1) → i10 < h.nx → r03_gap_j37 i_11 done_10_1 = some o → K36 t h := by
        intro done_10_1 t h s1 s3 s5 s9 s10 s11 ob_o10 lt_o10 hm1
        refine hK36 _ _ ?_
        unfold r03_gap_j37 at hm1
        refine cw_reg_k fun K hK => ?_
        simp only [go_sem, s11, lt_o10]
        refine hK _ _ ?_
        clear hK K
        simp only [qblock_normal, qseq_normal]
        obtain rfl := Option.some.inj hm1
        refine ⟨_, rfl, ?_⟩
        exact ⟨i10, s1, s3, s5, s9, (by first | exact s10 | simp only [go_sem, s10, List.length_append, List.map_append]), (by first | rfl | exact s11 | simp only [go_sem, s11, List.length_append, List.map_append]), ob_o10, lt_o10⟩
      simp only [cw_block]
      refine cw_reg_seq fun K hK => ?_
      simp only [go_sem, lt_o10]
      refine hK _ _ ?_
      clear hK K
      simp only [cw_block]
      obtain ⟨b38, hl38, hm1⟩ := bind_get hm1
      refine cw_loopM hl38 (fun | (done_10_1, k_12), t, h => t 1 = .fs 1 (List.map eI shows) ∧ t 3 = .fp [I c.Hazards, .fs 1 (List.map eI c.Switches), .fs 2 (List.map eWire c.Wires)] 0 ∧ t 5 = .fp [.fs 1 (List.map eL_I r_.Nights), I r_.Gap] 0 ∧ t 9 = I (List.length r_.Nights : Int) ∧ t 10 = .rs i10 0 (List.length done_10_1) ∧ t 11 = I i_11 ∧ t 12 = I k_12 ∧ h.ob i10 = some (1, List.map eI done_10_1) ∧ i10 < h.nx) ?_ ?_
      · exact ⟨s1, s3, s5, s9, (by first | exact s10 | simp only [go_sem, s10, List.length_append, List.map_append]), s11, (by first | rfl | simp only [go_sem, List.length_append, List.map_append]), ob_o10, lt_o10⟩
      · rintro ⟨done_10_1, k_12⟩ o t h ⟨s1, s3, s5, s9, s10, s11, s12, ob_o10, lt_o10⟩ hm2 hb38
        simp only [r03_gap_L9] at hm2
        rw [x_r03_gap_L9]
        refine cw_assoc ?_
        obtain ⟨x40, h_x40, hm2⟩ := bind_get hm2
        have h_x400 := get_nn h_x40
        have h_x401 := get_lt h_x40
        refine cw_reg_seq fun K hK => ?_
        simp only [go_sem, s5, s11, s12, lt_o10, ielem_get h_x40, irow_get h_x40, h_x400, h_x401]
        refine hK _ _ ?_
        clear hK K
        refine cw_seq_k fun K41 hK41 => ?_
        simp only [go_sem]
        refine ibr_intro (fun hc42 => ?_) (fun hc42 => ?_)
        · rw [if_t hc42] at hm2
          simp only [cw_skip, qblock_normal, qseq_normal]
          refine hK41 _ _ ?_
          refine cw_seq_k fun K43 hK43 => ?_
          simp only [cw_block]
          obtain ⟨x47, h_x47, hm2⟩ := bind_get hm2
          have h_x470 := get_nn h_x47
          have h_x471 := get_lt h_x47
          obtain ⟨x48, h_x48, hm2⟩ := bind_get hm2
          have h_x480 := get_nn h_x48
          have h_x481 := get_lt h_x48
          obtain ⟨x49, h_x49, hm2⟩ := bind_get hm2
          have h_x490 := get_nn h_x49
          have h_x491 := get_lt h_x49
          refine cw_reg_k fun K hK => ?_
          simp only [go_sem, s1, s5, s10, s11, s12, ob_o10, lt_o10, ielem_get h_x47, irow_get h_x47, h_x470, h_x471, ielem_get h_x48, irow_get h_x48, h_x480, h_x481, ielem_get h_x49, irow_get h_x49, h_x490, h_x491, ielem_get h_x40, irow_get h_x40, h_x400, h_x401]
          refine hK _ _ ?_
          clear hK K
          simp only [qblock_normal, qseq_normal]
          refine hK43 _ _ ?_
          refine cw_reg_k fun K hK => ?_
          simp only [go_sem, s12, lt_o10]
          refine hK _ _ ?_
          clear hK K
          simp only [qblock_normal, qseq_normal]
          obtain rfl := Option.some.inj hm2
          refine ⟨_, rfl, ?_⟩
          exact ⟨s1, s3, s5, s9, (by first | exact s10 | simp only [go_sem, s10, List.length_append, List.map_append]), s11, (by first | rfl | exact s12 | simp only [go_sem, s12, List.length_append, List.map_append]), (by simp only [go_sem, ob_o10, lt_o10, List.length_append, List.map_append]), (by simp only [go_sem, lt_o10])⟩
        · rw [if_f hc42] at hm2
          simp only [cw_exit, qseq_exit, qblock_same, qblock_ne, qblock_normal, qseq_normal, Nat.reduceEqDiff, not_false_eq_true]
          obtain rfl := Option.some.inj hm2
          obtain rfl := hb38 _ rfl
          try dsimp only at hm1
          exact J37 done_10_1 _ _ s1 s3 s5 s9 (by first | exact s10 | simp only [go_sem, s10, List.length_append, List.map_append]) s11 ob_o10 lt_o10 hm1
    · rw [if_f hc35] at hm1
      simp only [cw_exit, qseq_exit, qblock_same, qblock_ne, qblock_normal, qseq_normal, Nat.reduceEqDiff, not_false_eq_true]
      obtain rfl := Option.some.inj hm1
      obtain rfl := hb33 _ rfl
      try dsimp only at hm0
      exact J4 done_10 i10 _ _ s3 s5 s9 (by first | exact s10 | simp only [go_sem, s10, List.length_append, List.map_append]) ob_o10 lt_o10 hm0

end Go.Nw.CM

namespace Go.Nw.CM
open Go.Nw.Circ
set_option linter.unusedSimpArgs false
set_option linter.unusedVariables false
variable {O : Orac}

theorem k_r03_shown (hf : Has O "newel/newelref03.shown" x_r03_shown) (k_r03_Tells : C_r03_Tells O) : C_r03_shown O := by
  intro c t_ r hm0
  unfold r03_shown at hm0
  refine fn_cw hf rfl (fz_cons (.agg _ (fz_cons (frz_v _) (fz_cons (frz_fs fun a _ => fz_eI a) (fz_cons (frz_fs fun a _ => fz_eWire a) fz_nil)))) (fz_cons (.agg _ (fz_cons (frz_v _) (fz_cons (frz_v _) fz_nil))) fz_nil)) (frz_v _) ?_
  refine cw_start (fun t h => t 0 = .agg [I c.Hazards, .fs 1 (List.map eI c.Switches), .fs 2 (List.map eWire c.Wires)] ∧ t 1 = .agg [I t_.Hazards, I t_.Wire]) ⟨rfl, rfl⟩ fun t h ⟨s0, s1⟩ => ?_
  simp only [x_r03_shown]
  refine cw_reg_seq fun K hK => ?_
  simp only [go_sem, s0, s1]
  refine hK _ _ ?_
  clear hK K
  refine cw_reg_seq fun K hK => ?_
  simp only [go_sem]
  refine hK _ _ ?_
  clear hK K
  refine cw_assoc ?_
  refine cw_reg_seq fun K hK => ?_
  simp only [go_sem]
  refine hK _ _ ?_
  clear hK K
  refine cw_seq_k fun K1 hK1 => ?_
  have J2 : ∀ (set_5 : Int) (t : Slots) (h : Heap), t 5 = I set_5 → r03_shown_j2 set_5 = some r → K1 t h := by
    intro set_5 t h s5 hm0
    refine hK1 _ _ ?_
    unfold r03_shown_j2 at hm0
    refine cw_reg_seq fun K hK => ?_
    simp only [go_sem, s5]
    refine hK _ _ ?_
    clear hK K
    simp only [cw_ret, qseq_ret, qblock_ret, retQ_ret]
    obtain rfl := Option.some.inj hm0
    exact done_t (by simp only [go_sem, List.length_append, List.map_append]) (frz_v _)
  simp only [cw_block]
  obtain ⟨b3, hl3, hm0⟩ := bind_get hm0
  refine cw_loopM hl3 (fun | (set_5, i_6), t, h => t 2 = .fp [I c.Hazards, .fs 1 (List.map eI c.Switches), .fs 2 (List.map eWire c.Wires)] 0 ∧ t 3 = .fp [I t_.Hazards, I t_.Wire] 0 ∧ t 5 = I set_5 ∧ t 6 = I i_6) ?_ ?_
  · exact ⟨(by first | rfl | simp only [go_sem, List.length_append, List.map_append]), (by first | rfl | simp only [go_sem, List.length_append, List.map_append]), (by first | rfl | simp only [go_sem, List.length_append, List.map_append]), (by first | rfl | simp only [go_sem, List.length_append, List.map_append])⟩
  · rintro ⟨set_5, i_6⟩ o t h ⟨s2, s3, s5, s6⟩ hm1 hb3
    simp only [r03_shown_L7] at hm1
    rw [x_r03_shown_L7]
    refine cw_assoc ?_
    refine cw_reg_seq fun K hK => ?_
    simp only [go_sem, s2, s6]
    refine hK _ _ ?_
    clear hK K
    refine cw_seq_k fun K4 hK4 => ?_
    simp only [go_sem]
    refine ibr_intro (fun hc5 => ?_) (fun hc5 => ?_)
    · rw [if_t hc5] at hm1
      simp only [cw_skip, qblock_normal, qseq_normal]
      refine hK4 _ _ ?_
      refine cw_seq_k fun K6 hK6 => ?_
      have J7 : ∀ (set_5_1 : Int) (t : Slots) (h : Heap), t 2 = .fp [I c.Hazards, .fs 1 (List.map eI c.Switches), .fs 2 (List.map eWire c.Wires)] 0 → t 3 = .fp [I t_.Hazards, I t_.Wire] 0 → t 5 = I set_5_1 → t 6 = I i_6 → r03_shown_j7 i_6 set_5_1 = some o → K6 t h := by
        intro set_5_1 t h s2 s3 s5 s6 hm1
        refine hK6 _ _ ?_
        unfold r03_shown_j7 at hm1
        refine cw_reg_k fun K hK => ?_
        simp only [go_sem, s6]
        refine hK _ _ ?_
        clear hK K
        simp only [qblock_normal, qseq_normal]
        obtain rfl := Option.some.inj hm1
        refine ⟨_, rfl, ?_⟩
        exact ⟨s2, s3, s5, (by first | rfl | exact s6 | simp only [go_sem, s6, List.length_append, List.map_append])⟩
      simp only [cw_block]
      obtain ⟨q10, h_q10, hm1⟩ := bind_get hm1
      obtain ⟨y11, h_y11, hm1⟩ := bind_get hm1
      refine cw_reg_seq fun K hK => ?_
      simp only [go_sem, s2, s3, s6, ibin_shl h_q10]
      refine icall_fn (k_r03_Tells c t_ q10 _ h_y11) ?_
      simp only [go_sem, s2, s3, s6, ibin_shl h_q10]
      refine hK _ _ ?_
      clear hK K
      simp only [go_sem]
      refine ibr_intro (fun hc12 => ?_) (fun hc12 => ?_)
      · rw [if_t hc12] at hm1
        refine cw_reg_k fun K hK => ?_
        simp only [go_sem, s5, s6, ibin_shl h_q10]
        refine hK _ _ ?_
        clear hK K
        simp only [qblock_normal, qseq_normal]
        exact J7 (bor set_5 q10) _ _ s2 s3 (by first | rfl | exact s5 | simp only [go_sem, s5, List.length_append, List.map_append]) s6 hm1
      · rw [if_f hc12] at hm1
        simp only [cw_skip, qblock_normal, qseq_normal]
        exact J7 set_5 _ _ s2 s3 s5 s6 hm1
    · rw [if_f hc5] at hm1
      simp only [cw_exit, qseq_exit, qblock_same, qblock_ne, qblock_normal, qseq_normal, Nat.reduceEqDiff, not_false_eq_true]
      obtain rfl := Option.some.inj hm1
      obtain rfl := hb3 _ rfl
      try dsimp only at hm0
      exact J2 set_5 _ _ s5 hm0

end Go.Nw.CM

namespace Go.Nw.CM
open Go.Nw.Circ
set_option linter.unusedSimpArgs false
set_option linter.unusedVariables false
variable {O : Orac}

theorem k_r03_tried (hf : Has O "newel/newelref03.tried" x_r03_tried) : C_r03_tried O := by
  intro list r hm0
  unfold r03_tried at hm0
  refine fn_cw hf rfl (fz_cons (frz_fs fun a _ => fz_eI a) fz_nil) (frz_v _) ?_
  refine cw_start (fun t h => t 0 = .fs 1 (List.map eI list)) rfl fun t h s0 => ?_
  simp only [x_r03_tried]
  refine cw_reg_seq fun K hK => ?_
  simp only [go_sem]
  refine hK _ _ ?_
  clear hK K
  refine cw_reg_seq fun K hK => ?_
  simp only [go_sem]
  refine hK _ _ ?_
  clear hK K
  refine cw_assoc ?_
  refine cw_reg_seq fun K hK => ?_
  simp only [go_sem]
  refine hK _ _ ?_
  clear hK K
  refine cw_seq_k fun K1 hK1 => ?_
  have J2 : ∀ (n_3 : Int) (t : Slots) (h : Heap), t 3 = I n_3 → r03_tried_j2 n_3 = some r → K1 t h := by
    intro n_3 t h s3 hm0
    refine hK1 _ _ ?_
    unfold r03_tried_j2 at hm0
    refine cw_reg_seq fun K hK => ?_
    simp only [go_sem, s3]
    refine hK _ _ ?_
    clear hK K
    simp only [cw_ret, qseq_ret, qblock_ret, retQ_ret]
    obtain rfl := Option.some.inj hm0
    exact done_t (by simp only [go_sem, List.length_append, List.map_append]) (frz_v _)
  simp only [cw_block]
  obtain ⟨b3, hl3, hm0⟩ := bind_get hm0
  refine cw_loopM hl3 (fun | (n_3, i_4), t, h => t 0 = .fs 1 (List.map eI list) ∧ t 3 = I n_3 ∧ t 4 = I i_4) ?_ ?_
  · exact ⟨s0, (by first | rfl | simp only [go_sem, List.length_append, List.map_append]), (by first | rfl | simp only [go_sem, List.length_append, List.map_append])⟩
  · rintro ⟨n_3, i_4⟩ o t h ⟨s0, s3, s4⟩ hm1 hb3
    simp only [r03_tried_L7] at hm1
    rw [x_r03_tried_L7]
    refine cw_assoc ?_
    refine cw_reg_seq fun K hK => ?_
    simp only [go_sem, s0, s4]
    refine hK _ _ ?_
    clear hK K
    refine cw_seq_k fun K4 hK4 => ?_
    simp only [go_sem]
    refine ibr_intro (fun hc5 => ?_) (fun hc5 => ?_)
    · rw [if_t hc5] at hm1
      simp only [cw_skip, qblock_normal, qseq_normal]
      refine hK4 _ _ ?_
      refine cw_seq_k fun K6 hK6 => ?_
      have J7 : ∀ (n_3_1 : Int) (t : Slots) (h : Heap), t 0 = .fs 1 (List.map eI list) → t 3 = I n_3_1 → t 4 = I i_4 → r03_tried_j7 i_4 n_3_1 = some o → K6 t h := by
        intro n_3_1 t h s0 s3 s4 hm1
        refine hK6 _ _ ?_
        unfold r03_tried_j7 at hm1
        refine cw_reg_k fun K hK => ?_
        simp only [go_sem, s4]
        refine hK _ _ ?_
        clear hK K
        simp only [qblock_normal, qseq_normal]
        obtain rfl := Option.some.inj hm1
        refine ⟨_, rfl, ?_⟩
        exact ⟨s0, s3, (by first | rfl | exact s4 | simp only [go_sem, s4, List.length_append, List.map_append])⟩
      simp only [cw_block]
      obtain ⟨x9, h_x9, hm1⟩ := bind_get hm1
      have h_x90 := get_nn h_x9
      have h_x91 := get_lt h_x9
      refine cw_reg_seq fun K hK => ?_
      simp only [go_sem, s0, s4, ielem_get h_x9, irow_get h_x9, h_x90, h_x91]
      refine hK _ _ ?_
      clear hK K
      simp only [go_sem]
      refine ibr_intro (fun hc10 => ?_) (fun hc10 => ?_)
      · rw [if_t hc10] at hm1
        refine cw_reg_k fun K hK => ?_
        simp only [go_sem, s3]
        refine hK _ _ ?_
        clear hK K
        simp only [qblock_normal, qseq_normal]
        exact J7 (wr (n_3 + 1)) _ _ s0 (by first | rfl | exact s3 | simp only [go_sem, s3, List.length_append, List.map_append]) s4 hm1
      · rw [if_f hc10] at hm1
        simp only [cw_skip, qblock_normal, qseq_normal]
        exact J7 n_3 _ _ s0 s3 s4 hm1
    · rw [if_f hc5] at hm1
      simp only [cw_exit, qseq_exit, qblock_same, qblock_ne, qblock_normal, qseq_normal, Nat.reduceEqDiff, not_false_eq_true]
      obtain rfl := Option.some.inj hm1
      obtain rfl := hb3 _ rfl
      try dsimp only at hm0
      exact J2 n_3 _ _ s3 hm0

end Go.Nw.CM

namespace Go.Nw.CM
open Go.Nw.Circ
set_option linter.unusedSimpArgs false
set_option linter.unusedVariables false
variable {O : Orac}

theorem k_r03_within (hf : Has O "newel/newelref03.within" x_r03_within) : C_r03_within O := by
  intro n low high
  generalize hm0 : r03_within n low high = r
  unfold r03_within at hm0
  refine fn_cw hf rfl (fz_cons (frz_v _) (fz_cons (frz_v _) (fz_cons (frz_v _) fz_nil))) (frz_v _) ?_
  refine cw_start (fun t h => t 0 = I n ∧ t 1 = I low ∧ t 2 = I high) ⟨rfl, rfl, rfl⟩ fun t h ⟨s0, s1, s2⟩ => ?_
  simp only [x_r03_within]
  refine cw_reg_seq fun K hK => ?_
  simp only [go_sem]
  refine hK _ _ ?_
  clear hK K
  refine cw_reg_postK (fun t h => t 6 = B ((decide (low ≤ n)) && (decide (n ≤ high)))) (fun K hK => ?_) ?_
  · simp only [go_sem, s0, s1, s2]
    refine ibr_intro (fun hg1 => ?_) (fun hg1 => ?_)
    · simp only [go_sem, s0, s1, s2, hg1]
      exact hK _ _ (by first | rfl | simp only [go_sem, hg1, List.length_append, List.map_append])
    · simp only [go_sem, s0, s1, s2, hg1]
      exact hK _ _ (by first | rfl | simp only [go_sem, hg1, List.length_append, List.map_append])
  · rintro t h s6
    simp only [cw_ret, qseq_ret, qblock_ret, retQ_ret]
    obtain rfl := hm0
    exact done_t (by simp only [go_sem, s6, List.length_append, List.map_append]) (frz_v _)

end Go.Nw.CM

namespace Go.Nw.CM
open Go.Nw.Circ
set_option linter.unusedSimpArgs false
set_option linter.unusedVariables false
variable {O : Orac}

theorem k_slices_Clone___int_int_ (hf : Has O "slices.Clone[[]int,int]" x_slices_Clone___int_int_) : C_slices_Clone___int_int_ O := by
  intro s r hm0
  unfold slices_Clone___int_int_ at hm0
  refine fnw_cw hf rfl (fz_cons (frz_fs fun a _ => fz_eI a) fz_nil) (by first | exact plain_eI | exact plain_eB) ?_
  refine cw_start (fun t h => t 0 = .fs 1 (List.map eI s)) rfl fun t h s0 => ?_
  simp only [x_slices_Clone___int_int_]
  refine cw_reg_seq fun K hK => ?_
  simp only [go_sem]
  refine hK _ _ ?_
  clear hK K
  refine cw_assoc ?_
  obtain ⟨q2, h_q2, hm0⟩ := bind_get hm0
  refine cw_reg_seq fun K hK => ?_
  simp only [go_sem, s0, ibin_nil_fs h_q2, ibin_nnil_fs h_q2]
  refine hK _ _ ?_
  clear hK K
  refine cw_seq_k fun K3 hK3 => ?_
  simp only [go_sem]
  refine ibr_intro (fun hc4 => ?_) (fun hc4 => ?_)
  · rw [if_t hc4] at hm0
    refine cw_reg_seq fun K hK => ?_
    simp only [go_sem]
    refine hK _ _ ?_
    clear hK K
    simp only [cw_ret, qseq_ret, qblock_ret, retQ_ret]
    simp_all only [nilq_some_true]
  · rw [if_f hc4] at hm0
    simp only [cw_skip, qblock_normal, qseq_normal]
    refine hK3 _ _ ?_
    obtain ⟨l6, h_l6, hm0⟩ := bind_get hm0
    refine cw_reg_seq fun K hK => ?_
    simp only [go_sem, s0]
    refine iapp_own (f := eI) (l := ([])) (m := s) ?_ ?_ ?_ ?_ h_l6 ?_
    · exact (own_rs (by simp only [go_sem, List.length_append, List.map_append]) (by simp only [go_sem, List.length_append, List.map_append]) (by simp only [go_sem]))
    · exact ownx_fs
    · exact nd_fs
    · exact (fun e => by cases e)
    simp only [go_sem, s0]
    refine hK _ _ ?_
    clear hK K
    simp only [cw_ret, qseq_ret, qblock_ret, retQ_ret]
    obtain rfl := Option.some.inj hm0
    exact done_w (id := (nxs h.nx)) (by simp only [go_sem, List.length_append, List.map_append]) (by simp only [go_sem, List.length_append, List.map_append]) (by first | exact plain_eI | exact plain_eB)

end Go.Nw.CM

namespace Go.Nw.CM
open Go.Nw.Circ
set_option linter.unusedSimpArgs false
set_option linter.unusedVariables false
variable {O : Orac}

theorem k_slices_ContainsFunc___int_int_ (hf : Has O "slices.ContainsFunc[[]int,int]" x_slices_ContainsFunc___int_int_) (k_slices_IndexFunc___int_int_ : C_slices_IndexFunc___int_int_ O) : C_slices_ContainsFunc___int_int_ O := by
  intro s f_n f_a f_b f f_z f_h r hm0
  unfold slices_ContainsFunc___int_int_ at hm0
  refine fn_cw hf rfl (fz_cons (frz_fs fun a _ => fz_eI a) (fz_cons f_z fz_nil)) (frz_v _) ?_
  refine cw_start (fun t h => t 0 = .fs 1 (List.map eI s) ∧ t 1 = .fn f_n f_a f_b) ⟨rfl, rfl⟩ fun t h ⟨s0, s1⟩ => ?_
  simp only [x_slices_ContainsFunc___int_int_]
  refine cw_reg_seq fun K hK => ?_
  simp only [go_sem]
  refine hK _ _ ?_
  clear hK K
  obtain ⟨y2, h_y2, hm0⟩ := bind_get hm0
  refine cw_reg_seq fun K hK => ?_
  simp only [go_sem, s0, s1]
  refine icall_fn (k_slices_IndexFunc___int_int_ s f_n f_a f_b f f_z f_h _ h_y2) ?_
  simp only [go_sem, s0, s1]
  refine hK _ _ ?_
  clear hK K
  simp only [cw_ret, qseq_ret, qblock_ret, retQ_ret]
  obtain rfl := Option.some.inj hm0
  exact done_t (by simp only [go_sem, List.length_append, List.map_append]) (frz_v _)

end Go.Nw.CM

namespace Go.Nw.CM
open Go.Nw.Circ
set_option linter.unusedSimpArgs false
set_option linter.unusedVariables false
variable {O : Orac}

theorem k_slices_Contains___bool_bool_ (hf : Has O "slices.Contains[[]bool,bool]" x_slices_Contains___bool_bool_) (k_slices_Index___bool_bool_ : C_slices_Index___bool_bool_ O) : C_slices_Contains___bool_bool_ O := by
  intro s v r hm0
  unfold slices_Contains___bool_bool_ at hm0
  refine fn_cw hf rfl (fz_cons (frz_fs fun a _ => fz_eB a) (fz_cons (frz_v _) fz_nil)) (frz_v _) ?_
  refine cw_start (fun t h => t 0 = .fs 1 (List.map eB s) ∧ t 1 = B v) ⟨rfl, rfl⟩ fun t h ⟨s0, s1⟩ => ?_
  simp only [x_slices_Contains___bool_bool_]
  refine cw_reg_seq fun K hK => ?_
  simp only [go_sem]
  refine hK _ _ ?_
  clear hK K
  obtain ⟨y2, h_y2, hm0⟩ := bind_get hm0
  refine cw_reg_seq fun K hK => ?_
  simp only [go_sem, s0, s1]
  refine icall_fn (k_slices_Index___bool_bool_ s v _ h_y2) ?_
  simp only [go_sem, s0, s1]
  refine hK _ _ ?_
  clear hK K
  simp only [cw_ret, qseq_ret, qblock_ret, retQ_ret]
  obtain rfl := Option.some.inj hm0
  exact done_t (by simp only [go_sem, List.length_append, List.map_append]) (frz_v _)

end Go.Nw.CM

namespace Go.Nw.CM
open Go.Nw.Circ
set_option linter.unusedSimpArgs false
set_option linter.unusedVariables false
variable {O : Orac}

theorem k_slices_Contains___int_int_ (hf : Has O "slices.Contains[[]int,int]" x_slices_Contains___int_int_) (k_slices_Index___int_int_ : C_slices_Index___int_int_ O) : C_slices_Contains___int_int_ O := by
  intro s v r hm0
  unfold slices_Contains___int_int_ at hm0
  refine fn_cw hf rfl (fz_cons (frz_fs fun a _ => fz_eI a) (fz_cons (frz_v _) fz_nil)) (frz_v _) ?_
  refine cw_start (fun t h => t 0 = .fs 1 (List.map eI s) ∧ t 1 = I v) ⟨rfl, rfl⟩ fun t h ⟨s0, s1⟩ => ?_
  simp only [x_slices_Contains___int_int_]
  refine cw_reg_seq fun K hK => ?_
  simp only [go_sem]
  refine hK _ _ ?_
  clear hK K
  obtain ⟨y2, h_y2, hm0⟩ := bind_get hm0
  refine cw_reg_seq fun K hK => ?_
  simp only [go_sem, s0, s1]
  refine icall_fn (k_slices_Index___int_int_ s v _ h_y2) ?_
  simp only [go_sem, s0, s1]
  refine hK _ _ ?_
  clear hK K
  simp only [cw_ret, qseq_ret, qblock_ret, retQ_ret]
  obtain rfl := Option.some.inj hm0
  exact done_t (by simp only [go_sem, List.length_append, List.map_append]) (frz_v _)

end Go.Nw.CM

namespace Go.Nw.CM
open Go.Nw.Circ
set_option linter.unusedSimpArgs false
set_option linter.unusedVariables false
variable {O : Orac}

theorem k_slices_IndexFunc___int_int_ (hf : Has O "slices.IndexFunc[[]int,int]" x_slices_IndexFunc___int_int_) : C_slices_IndexFunc___int_int_ O := by
  intro s f_n f_a f_b f f_z f_h r hm0
  unfold slices_IndexFunc___int_int_ at hm0
  refine fn_cw hf rfl (fz_cons (frz_fs fun a _ => fz_eI a) (fz_cons f_z fz_nil)) (frz_v _) ?_
  refine cw_start (fun t h => t 0 = .fs 1 (List.map eI s) ∧ t 1 = .fn f_n f_a f_b) ⟨rfl, rfl⟩ fun t h ⟨s0, s1⟩ => ?_
  simp only [x_slices_IndexFunc___int_int_]
  refine cw_reg_seq fun K hK => ?_
  simp only [go_sem]
  refine hK _ _ ?_
  clear hK K
  refine cw_assoc ?_
  refine cw_reg_seq fun K hK => ?_
  simp only [go_sem, s0]
  refine hK _ _ ?_
  clear hK K
  refine cw_seq_k fun K1 hK1 => ?_
  have J2 : ∀ (t : Slots) (h : Heap), slices_IndexFunc___int_int__j2 = some r → K1 t h := by
    intro t h hm0
    refine hK1 _ _ ?_
    unfold slices_IndexFunc___int_int__j2 at hm0
    refine cw_reg_seq fun K hK => ?_
    simp only [go_sem]
    refine hK _ _ ?_
    clear hK K
    simp only [cw_ret, qseq_ret, qblock_ret, retQ_ret]
    obtain rfl := Option.some.inj hm0
    exact done_t (by simp only [go_sem, List.length_append, List.map_append]) (frz_v _)
  simp only [cw_block]
  obtain ⟨b3, hl3, hm0⟩ := bind_get hm0
  refine cw_loopM hl3 (fun | x_8, t, h => t 0 = .fs 1 (List.map eI s) ∧ t 1 = .fn f_n f_a f_b ∧ t 7 = I (List.length s : Int) ∧ t 8 = I x_8) ?_ ?_
  · exact ⟨s0, s1, (by first | rfl | simp only [go_sem, List.length_append, List.map_append]), (by first | rfl | simp only [go_sem, List.length_append, List.map_append])⟩
  · rintro x_8 o t h ⟨s0, s1, s7, s8⟩ hm1 hb3
    simp only [slices_IndexFunc___int_int__L7] at hm1
    rw [x_slices_IndexFunc___int_int__L7]
    refine cw_reg_seq fun K hK => ?_
    simp only [go_sem, s7, s8]
    refine hK _ _ ?_
    clear hK K
    refine cw_seq_k fun K4 hK4 => ?_
    simp only [go_sem]
    refine ibr_intro (fun hc5 => ?_) (fun hc5 => ?_)
    · rw [if_t hc5] at hm1
      simp only [cw_skip, qblock_normal, qseq_normal]
      refine hK4 _ _ ?_
      refine cw_seq_k fun K6 hK6 => ?_
      simp only [cw_block]
      refine cw_reg_seq fun K hK => ?_
      simp only [go_sem, s8]
      refine hK _ _ ?_
      clear hK K
      obtain ⟨x9, h_x9, hm1⟩ := bind_get hm1
      have h_x90 := get_nn h_x9
      have h_x91 := get_lt h_x9
      obtain ⟨y10, h_y10, hm1⟩ := bind_get hm1
      refine cw_reg_seq fun K hK => ?_
      simp only [go_sem, s0, s1, ielem_get h_x9, irow_get h_x9, h_x90, h_x91]
      refine icallv_fn (f_h x9 _ h_y10) ?_
      simp only [go_sem, s0, s1, ielem_get h_x9, irow_get h_x9, h_x90, h_x91]
      refine hK _ _ ?_
      clear hK K
      simp only [go_sem]
      refine ibr_intro (fun hc11 => ?_) (fun hc11 => ?_)
      · rw [if_t hc11] at hm1
        refine cw_reg_seq fun K hK => ?_
        simp only [go_sem]
        refine hK _ _ ?_
        clear hK K
        simp only [cw_ret, qseq_ret, qblock_ret, retQ_ret]
        obtain rfl := Option.some.inj hm1
        obtain rfl := hb3 _ rfl
        try dsimp only at hm0
        obtain rfl := Option.some.inj hm0
        exact done_t (by simp only [go_sem, List.length_append, List.map_append]) (frz_v _)
      · rw [if_f hc11] at hm1
        simp only [cw_skip, qblock_normal, qseq_normal]
        refine hK6 _ _ ?_
        refine cw_reg_k fun K hK => ?_
        simp only [go_sem, s8]
        refine hK _ _ ?_
        clear hK K
        simp only [qblock_normal, qseq_normal]
        obtain rfl := Option.some.inj hm1
        refine ⟨_, rfl, ?_⟩
        exact ⟨s0, s1, s7, (by first | rfl | exact s8 | simp only [go_sem, s8, List.length_append, List.map_append])⟩
    · rw [if_f hc5] at hm1
      simp only [cw_exit, qseq_exit, qblock_same, qblock_ne, qblock_normal, qseq_normal, Nat.reduceEqDiff, not_false_eq_true]
      obtain rfl := Option.some.inj hm1
      obtain rfl := hb3 _ rfl
      try dsimp only at hm0
      exact J2  _ _  hm0

end Go.Nw.CM

namespace Go.Nw.CM
open Go.Nw.Circ
set_option linter.unusedSimpArgs false
set_option linter.unusedVariables false
variable {O : Orac}

theorem k_slices_Index___bool_bool_ (hf : Has O "slices.Index[[]bool,bool]" x_slices_Index___bool_bool_) : C_slices_Index___bool_bool_ O := by
  intro s v r hm0
  unfold slices_Index___bool_bool_ at hm0
  refine fn_cw hf rfl (fz_cons (frz_fs fun a _ => fz_eB a) (fz_cons (frz_v _) fz_nil)) (frz_v _) ?_
  refine cw_start (fun t h => t 0 = .fs 1 (List.map eB s) ∧ t 1 = B v) ⟨rfl, rfl⟩ fun t h ⟨s0, s1⟩ => ?_
  simp only [x_slices_Index___bool_bool_]
  refine cw_reg_seq fun K hK => ?_
  simp only [go_sem]
  refine hK _ _ ?_
  clear hK K
  refine cw_assoc ?_
  refine cw_reg_seq fun K hK => ?_
  simp only [go_sem, s0]
  refine hK _ _ ?_
  clear hK K
  refine cw_seq_k fun K1 hK1 => ?_
  have J2 : ∀ (t : Slots) (h : Heap), slices_Index___bool_bool__j2 = some r → K1 t h := by
    intro t h hm0
    refine hK1 _ _ ?_
    unfold slices_Index___bool_bool__j2 at hm0
    refine cw_reg_seq fun K hK => ?_
    simp only [go_sem]
    refine hK _ _ ?_
    clear hK K
    simp only [cw_ret, qseq_ret, qblock_ret, retQ_ret]
    obtain rfl := Option.some.inj hm0
    exact done_t (by simp only [go_sem, List.length_append, List.map_append]) (frz_v _)
  simp only [cw_block]
  obtain ⟨b3, hl3, hm0⟩ := bind_get hm0
  refine cw_loopM hl3 (fun | x_8, t, h => t 0 = .fs 1 (List.map eB s) ∧ t 1 = B v ∧ t 7 = I (List.length s : Int) ∧ t 8 = I x_8) ?_ ?_
  · exact ⟨s0, s1, (by first | rfl | simp only [go_sem, List.length_append, List.map_append]), (by first | rfl | simp only [go_sem, List.length_append, List.map_append])⟩
  · rintro x_8 o t h ⟨s0, s1, s7, s8⟩ hm1 hb3
    simp only [slices_Index___bool_bool__L7] at hm1
    rw [x_slices_Index___bool_bool__L7]
    refine cw_reg_seq fun K hK => ?_
    simp only [go_sem, s7, s8]
    refine hK _ _ ?_
    clear hK K
    refine cw_seq_k fun K4 hK4 => ?_
    simp only [go_sem]
    refine ibr_intro (fun hc5 => ?_) (fun hc5 => ?_)
    · rw [if_t hc5] at hm1
      simp only [cw_skip, qblock_normal, qseq_normal]
      refine hK4 _ _ ?_
      refine cw_seq_k fun K6 hK6 => ?_
      simp only [cw_block]
      refine cw_reg_seq fun K hK => ?_
      simp only [go_sem, s8]
      refine hK _ _ ?_
      clear hK K
      obtain ⟨x8, h_x8, hm1⟩ := bind_get hm1
      have h_x80 := get_nn h_x8
      have h_x81 := get_lt h_x8
      refine cw_reg_seq fun K hK => ?_
      simp only [go_sem, s0, s1, ielem_get h_x8, irow_get h_x8, h_x80, h_x81]
      refine hK _ _ ?_
      clear hK K
      simp only [go_sem]
      refine ibr_intro (fun hc9 => ?_) (fun hc9 => ?_)
      · rw [if_t hc9] at hm1
        refine cw_reg_seq fun K hK => ?_
        simp only [go_sem]
        refine hK _ _ ?_
        clear hK K
        simp only [cw_ret, qseq_ret, qblock_ret, retQ_ret]
        obtain rfl := Option.some.inj hm1
        obtain rfl := hb3 _ rfl
        try dsimp only at hm0
        obtain rfl := Option.some.inj hm0
        exact done_t (by simp only [go_sem, List.length_append, List.map_append]) (frz_v _)
      · rw [if_f hc9] at hm1
        simp only [cw_skip, qblock_normal, qseq_normal]
        refine hK6 _ _ ?_
        refine cw_reg_k fun K hK => ?_
        simp only [go_sem, s8]
        refine hK _ _ ?_
        clear hK K
        simp only [qblock_normal, qseq_normal]
        obtain rfl := Option.some.inj hm1
        refine ⟨_, rfl, ?_⟩
        exact ⟨s0, s1, s7, (by first | rfl | exact s8 | simp only [go_sem, s8, List.length_append, List.map_append])⟩
    · rw [if_f hc5] at hm1
      simp only [cw_exit, qseq_exit, qblock_same, qblock_ne, qblock_normal, qseq_normal, Nat.reduceEqDiff, not_false_eq_true]
      obtain rfl := Option.some.inj hm1
      obtain rfl := hb3 _ rfl
      try dsimp only at hm0
      exact J2  _ _  hm0

end Go.Nw.CM

namespace Go.Nw.CM
open Go.Nw.Circ
set_option linter.unusedSimpArgs false
set_option linter.unusedVariables false
variable {O : Orac}

theorem k_slices_Index___int_int_ (hf : Has O "slices.Index[[]int,int]" x_slices_Index___int_int_) : C_slices_Index___int_int_ O := by
  intro s v r hm0
  unfold slices_Index___int_int_ at hm0
  refine fn_cw hf rfl (fz_cons (frz_fs fun a _ => fz_eI a) (fz_cons (frz_v _) fz_nil)) (frz_v _) ?_
  refine cw_start (fun t h => t 0 = .fs 1 (List.map eI s) ∧ t 1 = I v) ⟨rfl, rfl⟩ fun t h ⟨s0, s1⟩ => ?_
  simp only [x_slices_Index___int_int_]
  refine cw_reg_seq fun K hK => ?_
  simp only [go_sem]
  refine hK _ _ ?_
  clear hK K
  refine cw_assoc ?_
  refine cw_reg_seq fun K hK => ?_
  simp only [go_sem, s0]
  refine hK _ _ ?_
  clear hK K
  refine cw_seq_k fun K1 hK1 => ?_
  have J2 : ∀ (t : Slots) (h : Heap), slices_Index___int_int__j2 = some r → K1 t h := by
    intro t h hm0
    refine hK1 _ _ ?_
    unfold slices_Index___int_int__j2 at hm0
    refine cw_reg_seq fun K hK => ?_
    simp only [go_sem]
    refine hK _ _ ?_
    clear hK K
    simp only [cw_ret, qseq_ret, qblock_ret, retQ_ret]
    obtain rfl := Option.some.inj hm0
    exact done_t (by simp only [go_sem, List.length_append, List.map_append]) (frz_v _)
  simp only [cw_block]
  obtain ⟨b3, hl3, hm0⟩ := bind_get hm0
  refine cw_loopM hl3 (fun | x_8, t, h => t 0 = .fs 1 (List.map eI s) ∧ t 1 = I v ∧ t 7 = I (List.length s : Int) ∧ t 8 = I x_8) ?_ ?_
  · exact ⟨s0, s1, (by first | rfl | simp only [go_sem, List.length_append, List.map_append]), (by first | rfl | simp only [go_sem, List.length_append, List.map_append])⟩
  · rintro x_8 o t h ⟨s0, s1, s7, s8⟩ hm1 hb3
    simp only [slices_Index___int_int__L7] at hm1
    rw [x_slices_Index___int_int__L7]
    refine cw_reg_seq fun K hK => ?_
    simp only [go_sem, s7, s8]
    refine hK _ _ ?_
    clear hK K
    refine cw_seq_k fun K4 hK4 => ?_
    simp only [go_sem]
    refine ibr_intro (fun hc5 => ?_) (fun hc5 => ?_)
    · rw [if_t hc5] at hm1
      simp only [cw_skip, qblock_normal, qseq_normal]
      refine hK4 _ _ ?_
      refine cw_seq_k fun K6 hK6 => ?_
      simp only [cw_block]
      refine cw_reg_seq fun K hK => ?_
      simp only [go_sem, s8]
      refine hK _ _ ?_
      clear hK K
      obtain ⟨x8, h_x8, hm1⟩ := bind_get hm1
      have h_x80 := get_nn h_x8
      have h_x81 := get_lt h_x8
      refine cw_reg_seq fun K hK => ?_
      simp only [go_sem, s0, s1, ielem_get h_x8, irow_get h_x8, h_x80, h_x81]
      refine hK _ _ ?_
      clear hK K
      simp only [go_sem]
      refine ibr_intro (fun hc9 => ?_) (fun hc9 => ?_)
      · rw [if_t hc9] at hm1
        refine cw_reg_seq fun K hK => ?_
        simp only [go_sem]
        refine hK _ _ ?_
        clear hK K
        simp only [cw_ret, qseq_ret, qblock_ret, retQ_ret]
        obtain rfl := Option.some.inj hm1
        obtain rfl := hb3 _ rfl
        try dsimp only at hm0
        obtain rfl := Option.some.inj hm0
        exact done_t (by simp only [go_sem, List.length_append, List.map_append]) (frz_v _)
      · rw [if_f hc9] at hm1
        simp only [cw_skip, qblock_normal, qseq_normal]
        refine hK6 _ _ ?_
        refine cw_reg_k fun K hK => ?_
        simp only [go_sem, s8]
        refine hK _ _ ?_
        clear hK K
        simp only [qblock_normal, qseq_normal]
        obtain rfl := Option.some.inj hm1
        refine ⟨_, rfl, ?_⟩
        exact ⟨s0, s1, s7, (by first | rfl | exact s8 | simp only [go_sem, s8, List.length_append, List.map_append])⟩
    · rw [if_f hc5] at hm1
      simp only [cw_exit, qseq_exit, qblock_same, qblock_ne, qblock_normal, qseq_normal, Nat.reduceEqDiff, not_false_eq_true]
      obtain rfl := Option.some.inj hm1
      obtain rfl := hb3 _ rfl
      try dsimp only at hm0
      exact J2  _ _  hm0

end Go.Nw.CM
