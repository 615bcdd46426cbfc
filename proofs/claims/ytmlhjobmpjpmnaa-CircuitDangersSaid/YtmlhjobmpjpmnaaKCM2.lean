/- That the texts make what their models say: printed by a program. -/
import Derived.Test.YtmlhjobmpjpmnaaCM
set_option linter.all false
set_option linter.unusedVariables false
set_option linter.unusedSimpArgs false
set_option linter.unusedSectionVars false
namespace Go.Nw.CM
open Go.Nw.Circ
set_option linter.unusedSimpArgs false
set_option linter.unusedVariables false
variable {O : Orac}

theorem k_r03_Pairs (hf : Has O "newel/newelref03.Pairs" x_r03_Pairs) (k_r03_Check : C_r03_Check O) (k_r03_weak : C_r03_weak O) : C_r03_Pairs O := by
  intro c r hm0
  unfold r03_Pairs at hm0
  refine fn_cw hf rfl (fz_cons (.agg _ (fz_cons (frz_v _) (fz_cons (frz_fs fun a _ => fz_eI a) (fz_cons (frz_fs fun a _ => fz_eWire a) fz_nil)))) fz_nil) (.tup _ (fz_cons (frz_fs fun a _ => fz_eA2_I a) (fz_cons (frz_v _) fz_nil))) ?_
  refine cw_start (fun t h => t 0 = .agg [I c.Hazards, .fs 1 (List.map eI c.Switches), .fs 2 (List.map eWire c.Wires)]) rfl fun t h s0 => ?_
  simp only [x_r03_Pairs]
  refine cw_reg_seq fun K hK => ?_
  simp only [go_sem, s0]
  refine hK _ _ ?_
  clear hK K
  refine cw_assoc ?_
  obtain ⟨y2, h_y2, hm0⟩ := bind_get hm0
  refine cw_reg_seq fun K hK => ?_
  simp only [go_sem]
  refine icall_fn (k_r03_Check c _ h_y2) ?_
  simp only [go_sem]
  refine hK _ _ ?_
  clear hK K
  refine cw_seq_k fun K3 hK3 => ?_
  simp only [go_sem]
  refine ibr_intro (fun hc4 => ?_) (fun hc4 => ?_)
  · rw [if_t hc4] at hm0
    refine cw_reg_seq fun K hK => ?_
    simp only [go_sem]
    refine hK _ _ ?_
    clear hK K
    simp only [cw_ret, qseq_ret, qblock_ret, retQ_ret]
    obtain rfl := Option.some.inj hm0
    exact done_fz2 (v := .v (.slice none 0 0)) (u := I 30) (by simp only [go_sem, List.length_append, List.map_append]) (by simp only [go_sem, List.length_append, List.map_append]) (.nil _) (.refl _ (frz_v _))
  · rw [if_f hc4] at hm0
    simp only [cw_skip, qblock_normal, qseq_normal]
    refine hK3 _ _ ?_
    refine cw_reg_seq fun K hK => ?_
    simp only [go_sem]
    refine hK _ _ ?_
    clear hK K
    refine cw_assoc ?_
    refine cw_reg_seq fun K hK => ?_
    simp only [go_sem]
    refine hK _ _ ?_
    clear hK K
    refine cw_seq_k fun K5 hK5 => ?_
    have J6 : ∀ (l_4 : List (Int × Int)) (v4 : AV) (t : Slots) (h : Heap), t 4 = v4 → OwnS h v4 2 (List.map eA2_I l_4) → r03_Pairs_j6 l_4 = some r → K5 t h := by
      intro l_4 v4 t h s4 ow_o4 hm0
      refine hK5 _ _ ?_
      unfold r03_Pairs_j6 at hm0
      refine cw_reg_seq fun K hK => ?_
      simp only [go_sem, s4, istr_of v4]
      refine hK _ _ ?_
      clear hK K
      simp only [cw_ret, qseq_ret, qblock_ret, retQ_ret]
      obtain rfl := Option.some.inj hm0
      exact done_fz2 (v := v4) (u := I 0) (by simp only [go_sem, List.length_append, List.map_append]) (by simp only [go_sem, List.length_append, List.map_append]) (fz_own (f := eA2_I) (l := l_4) (own_later ow_o4 (by intro j hj hl; first | rfl | simp only [go_sem, hl]) (by first | omega | (simp only [go_sem, nxs]; omega))) fz_eA2_I ln_eA2_I) (.refl _ (frz_v _))
    simp only [cw_block]
    obtain ⟨b7, hl7, hm0⟩ := bind_get hm0
    refine cw_loopM hl7 (fun | (l_4, i_5), t, h => ∃ v4 : AV, t 1 = .fp [I c.Hazards, .fs 1 (List.map eI c.Switches), .fs 2 (List.map eWire c.Wires)] 0 ∧ t 4 = v4 ∧ t 5 = I i_5 ∧ OwnS h v4 2 (List.map eA2_I l_4)) ?_ ?_
    · exact ⟨(.v (.slice none 0 0)), (by first | rfl | simp only [go_sem, List.length_append, List.map_append]), (by first | rfl | simp only [go_sem, List.length_append, List.map_append]), (by first | rfl | simp only [go_sem, List.length_append, List.map_append]), own_nil'⟩
    · rintro ⟨l_4, i_5⟩ o t h ⟨v4, s1, s4, s5, ow_o4⟩ hm1 hb7
      simp only [r03_Pairs_L14] at hm1
      rw [x_r03_Pairs_L14]
      refine cw_assoc ?_
      refine cw_reg_seq fun K hK => ?_
      simp only [go_sem, s1, s5, istr_of v4]
      refine hK _ _ ?_
      clear hK K
      refine cw_seq_k fun K8 hK8 => ?_
      simp only [go_sem]
      refine ibr_intro (fun hc9 => ?_) (fun hc9 => ?_)
      · rw [if_t hc9] at hm1
        simp only [cw_skip, qblock_normal, qseq_normal]
        refine hK8 _ _ ?_
        refine cw_seq_k fun K10 hK10 => ?_
        have J11 : ∀ (l_4_1 : List (Int × Int)) (v4_1 : AV) (t : Slots) (h : Heap), t 1 = .fp [I c.Hazards, .fs 1 (List.map eI c.Switches), .fs 2 (List.map eWire c.Wires)] 0 → t 4 = v4_1 → t 5 = I i_5 → OwnS h v4_1 2 (List.map eA2_I l_4_1) → r03_Pairs_j11 i_5 l_4_1 = some o → K10 t h := by
          intro l_4_1 v4_1 t h s1 s4 s5 ow_o4 hm1
          refine hK10 _ _ ?_
          unfold r03_Pairs_j11 at hm1
          refine cw_reg_k fun K hK => ?_
          simp only [go_sem, s5, istr_of v4, istr_of v4_1]
          refine hK _ _ ?_
          clear hK K
          simp only [qblock_normal, qseq_normal]
          obtain rfl := Option.some.inj hm1
          refine ⟨_, rfl, ?_⟩
          exact ⟨v4_1, s1, s4, (by first | rfl | exact s5 | simp only [go_sem, s5, List.length_append, List.map_append]), ow_o4⟩
        simp only [cw_block]
        refine cw_reg_seq fun K hK => ?_
        simp only [go_sem, s5, istr_of v4]
        refine hK _ _ ?_
        clear hK K
        simp only [cw_block]
        obtain ⟨b12, hl12, hm1⟩ := bind_get hm1
        refine cw_loopM hl12 (fun | (l_4_1, k_6), t, h => ∃ v4_1 : AV, t 1 = .fp [I c.Hazards, .fs 1 (List.map eI c.Switches), .fs 2 (List.map eWire c.Wires)] 0 ∧ t 4 = v4_1 ∧ t 5 = I i_5 ∧ t 6 = I k_6 ∧ OwnS h v4_1 2 (List.map eA2_I l_4_1)) ?_ ?_
        · exact ⟨v4, s1, s4, s5, (by first | rfl | simp only [go_sem, List.length_append, List.map_append]), ow_o4⟩
        · rintro ⟨l_4_1, k_6⟩ o t h ⟨v4_1, s1, s4, s5, s6, ow_o4⟩ hm2 hb12
          simp only [r03_Pairs_L12] at hm2
          rw [x_r03_Pairs_L12]
          refine cw_assoc ?_
          refine cw_reg_seq fun K hK => ?_
          simp only [go_sem, s1, s6, istr_of v4, istr_of v4_1]
          refine hK _ _ ?_
          clear hK K
          refine cw_seq_k fun K13 hK13 => ?_
          simp only [go_sem]
          refine ibr_intro (fun hc14 => ?_) (fun hc14 => ?_)
          · rw [if_t hc14] at hm2
            simp only [cw_skip, qblock_normal, qseq_normal]
            refine hK13 _ _ ?_
            refine cw_seq_k fun K15 hK15 => ?_
            have J16 : ∀ (l_4_2 : List (Int × Int)) (v4_2 : AV) (t : Slots) (h : Heap), t 1 = .fp [I c.Hazards, .fs 1 (List.map eI c.Switches), .fs 2 (List.map eWire c.Wires)] 0 → t 4 = v4_2 → t 5 = I i_5 → t 6 = I k_6 → OwnS h v4_2 2 (List.map eA2_I l_4_2) → r03_Pairs_j16 k_6 l_4_2 = some o → K15 t h := by
              intro l_4_2 v4_2 t h s1 s4 s5 s6 ow_o4 hm2
              refine hK15 _ _ ?_
              unfold r03_Pairs_j16 at hm2
              refine cw_reg_k fun K hK => ?_
              simp only [go_sem, s6, istr_of v4, istr_of v4_1, istr_of v4_2]
              refine hK _ _ ?_
              clear hK K
              simp only [qblock_normal, qseq_normal]
              obtain rfl := Option.some.inj hm2
              refine ⟨_, rfl, ?_⟩
              exact ⟨v4_2, s1, s4, s5, (by first | rfl | exact s6 | simp only [go_sem, s6, List.length_append, List.map_append]), ow_o4⟩
            simp only [cw_block]
            obtain ⟨q19, h_q19, hm2⟩ := bind_get hm2
            obtain ⟨q20, h_q20, hm2⟩ := bind_get hm2
            refine cw_reg_seq fun K hK => ?_
            simp only [go_sem, s5, s6, ibin_shl h_q19, ibin_shl h_q20, istr_of v4, istr_of v4_1]
            refine hK _ _ ?_
            clear hK K
            obtain ⟨y26, h_y26, hm2⟩ := bind_get hm2
            obtain ⟨c28, h_c28, hm2⟩ := bind_get hm2
            obtain ⟨c30, h_c30, hm2⟩ := bind_get hm2
            refine cw_reg_postK (fun t h => t 1 = .fp [I c.Hazards, .fs 1 (List.map eI c.Switches), .fs 2 (List.map eWire c.Wires)] 0 ∧ t 4 = v4_1 ∧ t 5 = I i_5 ∧ t 6 = I k_6 ∧ t 54 = B c30 ∧ OwnS h v4_1 2 (List.map eA2_I l_4_1)) (fun K hK => ?_) ?_
            · simp only [go_sem, s1, istr_of v4, istr_of v4_1]
              refine icall_fn (k_r03_weak c q19 _ h_y26) ?_
              simp only [go_sem, s1, istr_of v4, istr_of v4_1]
              refine ibr_intro (fun hg31 => ?_) (fun hg31 => ?_)
              · simp only [hg31, Bool.not_true, Bool.not_false, eq_self, if_true, if_false, Bool.true_or, Bool.or_true, Bool.false_or, Bool.or_false, Bool.true_and, Bool.and_true, Bool.false_and, Bool.and_false, Bool.false_eq_true] at h_c28
                obtain ⟨y27, h_y27, h_c28⟩ := bind_get h_c28
                obtain rfl := Option.some.inj h_c28
                simp only [go_sem, s1, hg31, istr_of v4, istr_of v4_1]
                refine icall_fn (k_r03_weak c q20 _ h_y27) ?_
                simp only [go_sem, s1, hg31, istr_of v4, istr_of v4_1]
                refine ibr_intro (fun hg32 => ?_) (fun hg32 => ?_)
                · simp only [hg31, hg32, Bool.not_true, Bool.not_false, eq_self, if_true, if_false, Bool.true_or, Bool.or_true, Bool.false_or, Bool.or_false, Bool.true_and, Bool.and_true, Bool.false_and, Bool.and_false, Bool.false_eq_true] at h_c30
                  obtain ⟨y29, h_y29, h_c30⟩ := bind_get h_c30
                  obtain rfl := Option.some.inj h_c30
                  simp only [go_sem, s1, hg31, hg32, istr_of v4, istr_of v4_1]
                  refine icall_fn (k_r03_weak c (bor q19 q20) _ h_y29) ?_
                  simp only [go_sem, s1, hg31, hg32, istr_of v4, istr_of v4_1]
                  exact hK _ _ ⟨s1, s4, s5, s6, (by first | rfl | simp only [go_sem, hg31, hg32, List.length_append, List.map_append]), ow_o4⟩
                · simp only [hg31, hg32, Bool.not_true, Bool.not_false, eq_self, if_true, if_false, Bool.true_or, Bool.or_true, Bool.false_or, Bool.or_false, Bool.true_and, Bool.and_true, Bool.false_and, Bool.and_false, Bool.false_eq_true] at h_c30
                  obtain rfl := Option.some.inj h_c30
                  simp only [go_sem, s1, hg31, hg32, istr_of v4, istr_of v4_1]
                  exact hK _ _ ⟨s1, s4, s5, s6, (by first | rfl | simp only [go_sem, hg31, hg32, List.length_append, List.map_append]), ow_o4⟩
              · simp only [hg31, Bool.not_true, Bool.not_false, eq_self, if_true, if_false, Bool.true_or, Bool.or_true, Bool.false_or, Bool.or_false, Bool.true_and, Bool.and_true, Bool.false_and, Bool.and_false, Bool.false_eq_true] at h_c28
                obtain rfl := Option.some.inj h_c28
                simp only [hg31, Bool.not_true, Bool.not_false, eq_self, if_true, if_false, Bool.true_or, Bool.or_true, Bool.false_or, Bool.or_false, Bool.true_and, Bool.and_true, Bool.false_and, Bool.and_false, Bool.false_eq_true] at h_c30
                obtain rfl := Option.some.inj h_c30
                simp only [go_sem, s1, hg31, istr_of v4, istr_of v4_1]
                exact hK _ _ ⟨s1, s4, s5, s6, (by first | rfl | simp only [go_sem, hg31, List.length_append, List.map_append]), ow_o4⟩
            · rintro t h ⟨s1, s4, s5, s6, s54, ow_o4⟩
              simp only [go_sem, s54]
              refine ibr_intro (fun hc33 => ?_) (fun hc33 => ?_)
              · rw [if_t hc33] at hm2
                obtain ⟨l35, h_l35, hm2⟩ := bind_get hm2
                refine cw_reg_k fun K hK => ?_
                simp only [go_sem, s4, s5, s6, istr_of v4, istr_of v4_1]
                refine iapp_own (f := eA2_I) (l := l_4_1) (m := ([(i_5, k_6)])) ?_ ?_ ?_ ?_ h_l35 ?_
                · exact (own_later ow_o4 (by intro j hj hl; first | rfl | simp only [go_sem, hl]) (by first | omega | (simp only [go_sem, nxs]; omega)))
                · exact (ownx_rs (by simp only [go_sem, List.length_append, List.map_append]) (by simp only [go_sem, List.length_append, List.map_append]))
                · exact (nd_rs (by first | exact notid_nil | exact notid_rs (by first | omega | (simp only [nxs]; omega)) | assumption | exact own_notid (by assumption) (by first | omega | (simp only [go_sem, nxs]; omega))))
                · exact (fun _ => by simp)
                simp only [go_sem, s4, s5, s6, istr_of v4, istr_of v4_1]
                refine hK _ _ ?_
                clear hK K
                simp only [qblock_normal, qseq_normal]
                exact J16 l35 (.rs (nxs h.nx) 0 (List.length l35)) _ _ s1 (by first | rfl | exact s4 | simp only [go_sem, s4, List.length_append, List.map_append]) s5 s6 (own_rs (by simp only [go_sem, List.length_append, List.map_append]) (by simp only [go_sem, List.length_append, List.map_append]) (by simp only [go_sem])) hm2
              · rw [if_f hc33] at hm2
                simp only [cw_skip, qblock_normal, qseq_normal]
                exact J16 l_4_1 v4_1 _ _ s1 s4 s5 s6 ow_o4 hm2
          · rw [if_f hc14] at hm2
            simp only [cw_exit, qseq_exit, qblock_same, qblock_ne, qblock_normal, qseq_normal, Nat.reduceEqDiff, not_false_eq_true]
            obtain rfl := Option.some.inj hm2
            obtain rfl := hb12 _ rfl
            try dsimp only at hm1
            exact J11 l_4_1 v4_1 _ _ s1 s4 s5 ow_o4 hm1
      · rw [if_f hc9] at hm1
        simp only [cw_exit, qseq_exit, qblock_same, qblock_ne, qblock_normal, qseq_normal, Nat.reduceEqDiff, not_false_eq_true]
        obtain rfl := Option.some.inj hm1
        obtain rfl := hb7 _ rfl
        try dsimp only at hm0
        exact J6 l_4 v4 _ _ s4 ow_o4 hm0

end Go.Nw.CM

namespace Go.Nw.CM
open Go.Nw.Circ
set_option linter.unusedSimpArgs false
set_option linter.unusedVariables false
variable {O : Orac}

theorem k_r03_Switches (hf : Has O "newel/newelref03.Switches" x_r03_Switches) (k_r03_within : C_r03_within O) : C_r03_Switches O := by
  intro c n r hm0
  unfold r03_Switches at hm0
  refine fn_cw hf rfl (fz_cons (.agg _ (fz_cons (frz_v _) (fz_cons (frz_fs fun a _ => fz_eI a) (fz_cons (frz_fs fun a _ => fz_eWire a) fz_nil)))) (fz_cons (frz_v _) fz_nil)) (frz_v _) ?_
  refine cw_start (fun t h => t 0 = .agg [I c.Hazards, .fs 1 (List.map eI c.Switches), .fs 2 (List.map eWire c.Wires)] ∧ t 1 = I n) ⟨rfl, rfl⟩ fun t h ⟨s0, s1⟩ => ?_
  simp only [x_r03_Switches]
  refine cw_reg_seq fun K hK => ?_
  simp only [go_sem, s0]
  refine hK _ _ ?_
  clear hK K
  obtain ⟨q2, h_q2, hm0⟩ := bind_get hm0
  refine cw_reg_seq fun K hK => ?_
  simp only [go_sem, s1, ibin_shl h_q2]
  refine icall_fn (k_r03_within n 0 (wr (q2 - 1))) ?_
  simp only [go_sem, s1, ibin_shl h_q2]
  refine hK _ _ ?_
  clear hK K
  simp only [cw_ret, qseq_ret, qblock_ret, retQ_ret]
  obtain rfl := Option.some.inj hm0
  exact done_t (by simp only [go_sem, List.length_append, List.map_append]) (frz_v _)

end Go.Nw.CM

namespace Go.Nw.CM
open Go.Nw.Circ
set_option linter.unusedSimpArgs false
set_option linter.unusedVariables false
variable {O : Orac}

theorem k_r03_Weak (hf : Has O "newel/newelref03.Weak" x_r03_Weak) (k_r03_Check : C_r03_Check O) (k_r03_Switches : C_r03_Switches O) (k_r03_weak : C_r03_weak O) : C_r03_Weak O := by
  intro c closed r hm0
  unfold r03_Weak at hm0
  refine fn_cw hf rfl (fz_cons (.agg _ (fz_cons (frz_v _) (fz_cons (frz_fs fun a _ => fz_eI a) (fz_cons (frz_fs fun a _ => fz_eWire a) fz_nil)))) (fz_cons (frz_v _) fz_nil)) (.tup _ (fz_cons (frz_fs fun a _ => fz_eI a) (fz_cons (frz_v _) fz_nil))) ?_
  refine cw_start (fun t h => t 0 = .agg [I c.Hazards, .fs 1 (List.map eI c.Switches), .fs 2 (List.map eWire c.Wires)] ∧ t 1 = I closed) ⟨rfl, rfl⟩ fun t h ⟨s0, s1⟩ => ?_
  simp only [x_r03_Weak]
  refine cw_reg_seq fun K hK => ?_
  simp only [go_sem, s0]
  refine hK _ _ ?_
  clear hK K
  refine cw_assoc ?_
  obtain ⟨y2, h_y2, hm0⟩ := bind_get hm0
  refine cw_reg_seq fun K hK => ?_
  simp only [go_sem]
  refine icall_fn (k_r03_Check c _ h_y2) ?_
  simp only [go_sem]
  refine hK _ _ ?_
  clear hK K
  refine cw_seq_k fun K3 hK3 => ?_
  simp only [go_sem]
  refine ibr_intro (fun hc4 => ?_) (fun hc4 => ?_)
  · rw [if_t hc4] at hm0
    refine cw_reg_seq fun K hK => ?_
    simp only [go_sem]
    refine hK _ _ ?_
    clear hK K
    simp only [cw_ret, qseq_ret, qblock_ret, retQ_ret]
    obtain rfl := Option.some.inj hm0
    exact done_fz2 (v := .v (.slice none 0 0)) (u := I 30) (by simp only [go_sem, List.length_append, List.map_append]) (by simp only [go_sem, List.length_append, List.map_append]) (.nil _) (.refl _ (frz_v _))
  · rw [if_f hc4] at hm0
    simp only [cw_skip, qblock_normal, qseq_normal]
    refine hK3 _ _ ?_
    refine cw_assoc ?_
    obtain ⟨y6, h_y6, hm0⟩ := bind_get hm0
    refine cw_reg_seq fun K hK => ?_
    simp only [go_sem, s1]
    refine icall_fn (k_r03_Switches c closed _ h_y6) ?_
    simp only [go_sem, s1]
    refine hK _ _ ?_
    clear hK K
    refine cw_seq_k fun K7 hK7 => ?_
    simp only [go_sem]
    refine ibr_intro (fun hc8 => ?_) (fun hc8 => ?_)
    · rw [if_t hc8] at hm0
      refine cw_reg_seq fun K hK => ?_
      simp only [go_sem]
      refine hK _ _ ?_
      clear hK K
      simp only [cw_ret, qseq_ret, qblock_ret, retQ_ret]
      obtain rfl := Option.some.inj hm0
      exact done_fz2 (v := .v (.slice none 0 0)) (u := I 1) (by simp only [go_sem, List.length_append, List.map_append]) (by simp only [go_sem, List.length_append, List.map_append]) (.nil _) (.refl _ (frz_v _))
    · rw [if_f hc8] at hm0
      simp only [cw_skip, qblock_normal, qseq_normal]
      refine hK7 _ _ ?_
      obtain ⟨y10, h_y10, hm0⟩ := bind_get hm0
      refine cw_reg_seq fun K hK => ?_
      simp only [go_sem, s1]
      refine icall_fn (k_r03_weak c closed _ h_y10) ?_
      simp only [go_sem, s1]
      refine hK _ _ ?_
      clear hK K
      simp only [cw_ret, qseq_ret, qblock_ret, retQ_ret]
      obtain rfl := Option.some.inj hm0
      exact done_t2 (by simp only [go_sem, List.length_append, List.map_append]) (by simp only [go_sem, List.length_append, List.map_append]) (frz_fs fun a _ => fz_eI a) (frz_v _)

end Go.Nw.CM

namespace Go.Nw.CM
open Go.Nw.Circ
set_option linter.unusedSimpArgs false
set_option linter.unusedVariables false
variable {O : Orac}

theorem k_r03_conducts_body (hf : Has O "newel/newelref03.conducts" x_r03_conducts) : C_r03_conducts_body O := by
  intro self_r03_conducts self_r03_conducts_h c wire hazards closed open_ r hm0
  unfold r03_conducts_body at hm0
  refine fn_cw hf rfl (fz_cons (.agg _ (fz_cons (frz_v _) (fz_cons (frz_fs fun a _ => fz_eI a) (fz_cons (frz_fs fun a _ => fz_eWire a) fz_nil)))) (fz_cons (frz_v _) (fz_cons (frz_v _) (fz_cons (frz_v _) (fz_cons (frz_v _) fz_nil))))) (frz_v _) ?_
  refine cw_start (fun t h => t 0 = .agg [I c.Hazards, .fs 1 (List.map eI c.Switches), .fs 2 (List.map eWire c.Wires)] ∧ t 1 = I wire ∧ t 2 = I hazards ∧ t 3 = I closed ∧ t 4 = I open_) ⟨rfl, rfl, rfl, rfl, rfl⟩ fun t h ⟨s0, s1, s2, s3, s4⟩ => ?_
  simp only [x_r03_conducts]
  refine cw_reg_seq fun K hK => ?_
  simp only [go_sem, s0]
  refine hK _ _ ?_
  clear hK K
  obtain ⟨x2, h_x2, hm0⟩ := bind_get hm0
  have h_x20 := get_nn h_x2
  have h_x21 := get_lt h_x2
  refine cw_reg_seq fun K hK => ?_
  simp only [go_sem, s1, ielem_get h_x2, irow_get h_x2, h_x20, h_x21]
  refine hK _ _ ?_
  clear hK K
  refine cw_assoc ?_
  refine cw_reg_seq fun K hK => ?_
  simp only [go_sem]
  refine hK _ _ ?_
  clear hK K
  refine cw_seq_k fun K3 hK3 => ?_
  simp only [go_sem]
  refine ibr_intro (fun hc4 => ?_) (fun hc4 => ?_)
  · rw [if_t hc4] at hm0
    obtain ⟨x6, h_x6, hm0⟩ := bind_get hm0
    have h_x60 := get_nn h_x6
    have h_x61 := get_lt h_x6
    refine cw_reg_seq fun K hK => ?_
    simp only [go_sem, ielem_get h_x6, irow_get h_x6, h_x60, h_x61]
    refine hK _ _ ?_
    clear hK K
    obtain ⟨q12, h_q12, hm0⟩ := bind_get hm0
    obtain ⟨c16, h_c16, hm0⟩ := bind_get hm0
    refine cw_reg_postK (fun t h => t 10 = B c16) (fun K hK => ?_) ?_
    · simp only [go_sem, s2, s3, s4, ibin_shr h_q12]
      refine ibr_intro (fun hg17 => ?_) (fun hg17 => ?_)
      · simp only [hg17, Bool.not_true, Bool.not_false, eq_self, if_true, if_false, Bool.true_or, Bool.or_true, Bool.false_or, Bool.or_false, Bool.true_and, Bool.and_true, Bool.false_and, Bool.and_false, Bool.false_eq_true] at h_c16
        obtain ⟨q13, h_q13, h_c16⟩ := bind_get h_c16
        obtain ⟨c15, h_c15, h_c16⟩ := bind_get h_c16
        obtain rfl := Option.some.inj h_c16
        simp only [go_sem, s2, s3, s4, ibin_shr h_q12, ibin_shr h_q13, hg17]
        refine ibr_intro (fun hg18 => ?_) (fun hg18 => ?_)
        · simp only [hg17, hg18, Bool.not_true, Bool.not_false, eq_self, if_true, if_false, Bool.true_or, Bool.or_true, Bool.false_or, Bool.or_false, Bool.true_and, Bool.and_true, Bool.false_and, Bool.and_false, Bool.false_eq_true] at h_c15
          obtain rfl := Option.some.inj h_c15
          simp only [go_sem, s2, s3, s4, ibin_shr h_q12, ibin_shr h_q13, hg17, hg18]
          exact hK _ _ (by first | rfl | simp only [go_sem, hg17, hg18, List.length_append, List.map_append])
        · simp only [hg17, hg18, Bool.not_true, Bool.not_false, eq_self, if_true, if_false, Bool.true_or, Bool.or_true, Bool.false_or, Bool.or_false, Bool.true_and, Bool.and_true, Bool.false_and, Bool.and_false, Bool.false_eq_true] at h_c15
          obtain ⟨x14, h_x14, h_c15⟩ := bind_get h_c15
          have h_x140 := get_nn h_x14
          have h_x141 := get_lt h_x14
          obtain rfl := Option.some.inj h_c15
          simp only [go_sem, s2, s3, s4, ibin_shr h_q12, ibin_shr h_q13, ielem_get h_x14, irow_get h_x14, h_x140, h_x141, hg17, hg18]
          exact hK _ _ (by first | rfl | simp only [go_sem, hg17, hg18, List.length_append, List.map_append])
      · simp only [hg17, Bool.not_true, Bool.not_false, eq_self, if_true, if_false, Bool.true_or, Bool.or_true, Bool.false_or, Bool.or_false, Bool.true_and, Bool.and_true, Bool.false_and, Bool.and_false, Bool.false_eq_true] at h_c16
        obtain rfl := Option.some.inj h_c16
        simp only [go_sem, s2, s3, s4, ibin_shr h_q12, hg17]
        exact hK _ _ (by first | rfl | simp only [go_sem, hg17, List.length_append, List.map_append])
    · rintro t h s10
      simp only [cw_ret, qseq_ret, qblock_ret, retQ_ret]
      obtain rfl := Option.some.inj hm0
      exact done_t (by simp only [go_sem, s10, List.length_append, List.map_append]) (frz_v _)
  · rw [if_f hc4] at hm0
    simp only [cw_skip, qblock_normal, qseq_normal]
    refine hK3 _ _ ?_
    refine cw_assoc ?_
    refine cw_reg_seq fun K hK => ?_
    simp only [go_sem]
    refine hK _ _ ?_
    clear hK K
    refine cw_seq_k fun K19 hK19 => ?_
    have J20 : ∀ (i11 : Nat) (t : Slots) (h : Heap), t 11 = .rp i11 0 0 → h.ob i11 = some (2, [[I x2.Kind, .fs 1 (List.map eI x2.Of)]]) → i11 < h.nx → r03_conducts_body_j20 x2 = some r → K19 t h := by
      intro i11 t h s11 ob_o11 lt_o11 hm0
      refine hK19 _ _ ?_
      unfold r03_conducts_body_j20 at hm0
      refine cw_reg_seq fun K hK => ?_
      simp only [go_sem, s11, ob_o11, lt_o11]
      refine hK _ _ ?_
      clear hK K
      simp only [cw_ret, qseq_ret, qblock_ret, retQ_ret]
      obtain rfl := Option.some.inj hm0
      exact done_t (by simp only [go_sem, ob_o11, lt_o11, List.length_append, List.map_append]) (frz_v _)
    simp only [cw_block]
    obtain ⟨b21, hl21, hm0⟩ := bind_get hm0
    refine cw_loopM hl21 (fun | k_13, t, h => ∃ i11 : Nat, t 2 = I hazards ∧ t 3 = I closed ∧ t 4 = I open_ ∧ t 5 = .fp [I c.Hazards, .fs 1 (List.map eI c.Switches), .fs 2 (List.map eWire c.Wires)] 0 ∧ t 11 = .rp i11 0 0 ∧ t 13 = I k_13 ∧ h.ob i11 = some (2, [[I x2.Kind, .fs 1 (List.map eI x2.Of)]]) ∧ i11 < h.nx) ?_ ?_
    · exact ⟨h.nx, s2, s3, s4, (by first | rfl | simp only [go_sem, List.length_append, List.map_append]), (by first | rfl | simp only [go_sem, List.length_append, List.map_append]), (by first | rfl | simp only [go_sem, List.length_append, List.map_append]), (by simp only [go_sem, List.length_append, List.map_append]), (by simp only [go_sem])⟩
    · rintro k_13 o t h ⟨i11, s2, s3, s4, s5, s11, s13, ob_o11, lt_o11⟩ hm1 hb21
      simp only [r03_conducts_body_L10] at hm1
      rw [x_r03_conducts_L10]
      refine cw_assoc ?_
      refine cw_reg_seq fun K hK => ?_
      simp only [go_sem, s11, s13, ob_o11, lt_o11]
      refine hK _ _ ?_
      clear hK K
      refine cw_seq_k fun K22 hK22 => ?_
      simp only [go_sem]
      refine ibr_intro (fun hc23 => ?_) (fun hc23 => ?_)
      · rw [if_t hc23] at hm1
        simp only [cw_skip, qblock_normal, qseq_normal]
        refine hK22 _ _ ?_
        refine cw_seq_k fun K24 hK24 => ?_
        simp only [cw_block]
        obtain ⟨x27, h_x27, hm1⟩ := bind_get hm1
        have h_x270 := get_nn h_x27
        have h_x271 := get_lt h_x27
        obtain ⟨y28, h_y28, hm1⟩ := bind_get hm1
        refine cw_reg_seq fun K hK => ?_
        simp only [go_sem, s2, s3, s4, s5, s11, s13, ob_o11, lt_o11, ielem_get h_x27, irow_get h_x27, h_x270, h_x271]
        refine icall_fn (self_r03_conducts_h c x27 hazards closed open_ _ h_y28) ?_
        simp only [go_sem, s2, s3, s4, s5, s11, s13, ob_o11, lt_o11, ielem_get h_x27, irow_get h_x27, h_x270, h_x271]
        refine hK _ _ ?_
        clear hK K
        simp only [go_sem]
        refine ibr_intro (fun hc29 => ?_) (fun hc29 => ?_)
        · rw [if_t hc29] at hm1
          refine cw_reg_seq fun K hK => ?_
          simp only [go_sem, s11, ob_o11, lt_o11]
          refine hK _ _ ?_
          clear hK K
          simp only [cw_ret, qseq_ret, qblock_ret, retQ_ret]
          obtain rfl := Option.some.inj hm1
          obtain rfl := hb21 _ rfl
          try dsimp only at hm0
          obtain rfl := Option.some.inj hm0
          exact done_t (by simp only [go_sem, ob_o11, lt_o11, List.length_append, List.map_append]) (frz_v _)
        · rw [if_f hc29] at hm1
          simp only [cw_skip, qblock_normal, qseq_normal]
          refine hK24 _ _ ?_
          refine cw_reg_k fun K hK => ?_
          simp only [go_sem, s13, lt_o11]
          refine hK _ _ ?_
          clear hK K
          simp only [qblock_normal, qseq_normal]
          obtain rfl := Option.some.inj hm1
          refine ⟨_, rfl, ?_⟩
          exact ⟨i11, s2, s3, s4, s5, s11, (by first | rfl | exact s13 | simp only [go_sem, s13, List.length_append, List.map_append]), ob_o11, lt_o11⟩
      · rw [if_f hc23] at hm1
        simp only [cw_exit, qseq_exit, qblock_same, qblock_ne, qblock_normal, qseq_normal, Nat.reduceEqDiff, not_false_eq_true]
        obtain rfl := Option.some.inj hm1
        obtain rfl := hb21 _ rfl
        try dsimp only at hm0
        exact J20 i11 _ _ s11 ob_o11 lt_o11 hm0

theorem k_r03_conducts (k_r03_conducts_body : C_r03_conducts_body O) : C_r03_conducts O := by
  intro n
  induction n with
  | zero => intro c wire hazards closed open_ r h; cases h
  | succ n ih => exact fun c wire hazards closed open_ r h => k_r03_conducts_body (r03_conducts n) ih c wire hazards closed open_ r h

end Go.Nw.CM

namespace Go.Nw.CM
open Go.Nw.Circ
set_option linter.unusedSimpArgs false
set_option linter.unusedVariables false
variable {O : Orac}

theorem k_r03_weak (hf : Has O "newel/newelref03.weak" x_r03_weak) (k_r03_conducts : C_r03_conducts O) : C_r03_weak O := by
  intro c closed r hm0
  unfold r03_weak at hm0
  refine fn_cw hf rfl (fz_cons (.agg _ (fz_cons (frz_v _) (fz_cons (frz_fs fun a _ => fz_eI a) (fz_cons (frz_fs fun a _ => fz_eWire a) fz_nil)))) (fz_cons (frz_v _) fz_nil)) (frz_fs fun a _ => fz_eI a) ?_
  refine cw_start (fun t h => t 0 = .agg [I c.Hazards, .fs 1 (List.map eI c.Switches), .fs 2 (List.map eWire c.Wires)] ∧ t 1 = I closed) ⟨rfl, rfl⟩ fun t h ⟨s0, s1⟩ => ?_
  simp only [x_r03_weak]
  refine cw_reg_seq fun K hK => ?_
  simp only [go_sem, s0]
  refine hK _ _ ?_
  clear hK K
  refine cw_reg_seq fun K hK => ?_
  simp only [go_sem]
  refine hK _ _ ?_
  clear hK K
  refine cw_assoc ?_
  refine cw_reg_seq fun K hK => ?_
  simp only [go_sem]
  refine hK _ _ ?_
  clear hK K
  refine cw_seq_k fun K1 hK1 => ?_
  have J2 : ∀ (l_5 : List Int) (v5 : AV) (t : Slots) (h : Heap), t 5 = v5 → OwnS h v5 1 (List.map eI l_5) → r03_weak_j2 l_5 = some r → K1 t h := by
    intro l_5 v5 t h s5 ow_o5 hm0
    refine hK1 _ _ ?_
    unfold r03_weak_j2 at hm0
    refine cw_reg_seq fun K hK => ?_
    simp only [go_sem, s5, istr_of v5]
    refine hK _ _ ?_
    clear hK K
    simp only [cw_ret, qseq_ret, qblock_ret, retQ_ret]
    obtain rfl := Option.some.inj hm0
    exact done_fz (v := v5) (by simp only [go_sem, List.length_append, List.map_append]) (fz_own (f := eI) (l := l_5) (own_later ow_o5 (by intro j hj hl; first | rfl | simp only [go_sem, hl]) (by first | omega | (simp only [go_sem, nxs]; omega))) fz_eI ln_eI)
  simp only [cw_block]
  obtain ⟨b3, hl3, hm0⟩ := bind_get hm0
  refine cw_loopM hl3 (fun | (l_5, h_6), t, h => ∃ v5 : AV, t 1 = I closed ∧ t 2 = .fp [I c.Hazards, .fs 1 (List.map eI c.Switches), .fs 2 (List.map eWire c.Wires)] 0 ∧ t 5 = v5 ∧ t 6 = I h_6 ∧ OwnS h v5 1 (List.map eI l_5)) ?_ ?_
  · exact ⟨(.v (.slice none 0 0)), s1, (by first | rfl | simp only [go_sem, List.length_append, List.map_append]), (by first | rfl | simp only [go_sem, List.length_append, List.map_append]), (by first | rfl | simp only [go_sem, List.length_append, List.map_append]), own_nil'⟩
  · rintro ⟨l_5, h_6⟩ o t h ⟨v5, s1, s2, s5, s6, ow_o5⟩ hm1 hb3
    simp only [r03_weak_L7] at hm1
    rw [x_r03_weak_L7]
    refine cw_assoc ?_
    refine cw_reg_seq fun K hK => ?_
    simp only [go_sem, s2, s6, istr_of v5]
    refine hK _ _ ?_
    clear hK K
    refine cw_seq_k fun K4 hK4 => ?_
    simp only [go_sem]
    refine ibr_intro (fun hc5 => ?_) (fun hc5 => ?_)
    · rw [if_t hc5] at hm1
      simp only [cw_skip, qblock_normal, qseq_normal]
      refine hK4 _ _ ?_
      refine cw_seq_k fun K6 hK6 => ?_
      have J7 : ∀ (l_5_1 : List Int) (v5_1 : AV) (t : Slots) (h : Heap), t 1 = I closed → t 2 = .fp [I c.Hazards, .fs 1 (List.map eI c.Switches), .fs 2 (List.map eWire c.Wires)] 0 → t 5 = v5_1 → t 6 = I h_6 → OwnS h v5_1 1 (List.map eI l_5_1) → r03_weak_j7 h_6 l_5_1 = some o → K6 t h := by
        intro l_5_1 v5_1 t h s1 s2 s5 s6 ow_o5 hm1
        refine hK6 _ _ ?_
        unfold r03_weak_j7 at hm1
        refine cw_reg_k fun K hK => ?_
        simp only [go_sem, s6, istr_of v5, istr_of v5_1]
        refine hK _ _ ?_
        clear hK K
        simp only [qblock_normal, qseq_normal]
        obtain rfl := Option.some.inj hm1
        refine ⟨_, rfl, ?_⟩
        exact ⟨v5_1, s1, s2, s5, (by first | rfl | exact s6 | simp only [go_sem, s6, List.length_append, List.map_append]), ow_o5⟩
      simp only [cw_block]
      obtain ⟨q10, h_q10, hm1⟩ := bind_get hm1
      obtain ⟨y11, h_y11, hm1⟩ := bind_get hm1
      refine cw_reg_seq fun K hK => ?_
      simp only [go_sem, s1, s2, s6, ibin_shl h_q10, istr_of v5]
      refine icall_fn (k_r03_conducts 1000 c 0 q10 closed 0 _ h_y11) ?_
      simp only [go_sem, s1, s2, s6, ibin_shl h_q10, istr_of v5]
      refine hK _ _ ?_
      clear hK K
      simp only [go_sem]
      refine ibr_intro (fun hc12 => ?_) (fun hc12 => ?_)
      · rw [if_t hc12] at hm1
        obtain ⟨l14, h_l14, hm1⟩ := bind_get hm1
        refine cw_reg_k fun K hK => ?_
        simp only [go_sem, s5, s6, istr_of v5]
        refine iapp_own (f := eI) (l := l_5) (m := ([h_6])) ?_ ?_ ?_ ?_ h_l14 ?_
        · exact (own_later ow_o5 (by intro j hj hl; first | rfl | simp only [go_sem, hl]) (by first | omega | (simp only [go_sem, nxs]; omega)))
        · exact (ownx_rs (by simp only [go_sem, List.length_append, List.map_append]) (by simp only [go_sem, List.length_append, List.map_append]))
        · exact (nd_rs (by first | exact notid_nil | exact notid_rs (by first | omega | (simp only [nxs]; omega)) | assumption | exact own_notid (by assumption) (by first | omega | (simp only [go_sem, nxs]; omega))))
        · exact (fun _ => by simp)
        simp only [go_sem, s5, s6, istr_of v5]
        refine hK _ _ ?_
        clear hK K
        simp only [qblock_normal, qseq_normal]
        exact J7 l14 (.rs (nxs h.nx) 0 (List.length l14)) _ _ s1 s2 (by first | rfl | exact s5 | simp only [go_sem, s5, List.length_append, List.map_append]) s6 (own_rs (by simp only [go_sem, List.length_append, List.map_append]) (by simp only [go_sem, List.length_append, List.map_append]) (by simp only [go_sem])) hm1
      · rw [if_f hc12] at hm1
        simp only [cw_skip, qblock_normal, qseq_normal]
        exact J7 l_5 v5 _ _ s1 s2 s5 s6 ow_o5 hm1
    · rw [if_f hc5] at hm1
      simp only [cw_exit, qseq_exit, qblock_same, qblock_ne, qblock_normal, qseq_normal, Nat.reduceEqDiff, not_false_eq_true]
      obtain rfl := Option.some.inj hm1
      obtain rfl := hb3 _ rfl
      try dsimp only at hm0
      exact J2 l_5 v5 _ _ s5 ow_o5 hm0

end Go.Nw.CM

namespace Go.Nw.CM
open Go.Nw.Circ
set_option linter.unusedSimpArgs false
set_option linter.unusedVariables false
variable {O : Orac}

theorem k_r03_within (hf : Has O "newel/newelref03.within" x_r03_within) : C_r03_within O := by
  intro n low high
  generalize hm0 : r03_within n low high = r
  unfold r03_within at hm0
  refine fn_cw hf rfl (fz_cons (frz_v _) (fz_cons (frz_v _) (fz_cons (frz_v _) fz_nil))) (frz_v _) ?_
  refine cw_start (fun t h => t 0 = I n ∧ t 1 = I low ∧ t 2 = I high) ⟨rfl, rfl, rfl⟩ fun t h ⟨s0, s1, s2⟩ => ?_
  simp only [x_r03_within]
  refine cw_reg_seq fun K hK => ?_
  simp only [go_sem]
  refine hK _ _ ?_
  clear hK K
  refine cw_reg_postK (fun t h => t 6 = B ((decide (low ≤ n)) && (decide (n ≤ high)))) (fun K hK => ?_) ?_
  · simp only [go_sem, s0, s1, s2]
    refine ibr_intro (fun hg1 => ?_) (fun hg1 => ?_)
    · simp only [go_sem, s0, s1, s2, hg1]
      exact hK _ _ (by first | rfl | simp only [go_sem, hg1, List.length_append, List.map_append])
    · simp only [go_sem, s0, s1, s2, hg1]
      exact hK _ _ (by first | rfl | simp only [go_sem, hg1, List.length_append, List.map_append])
  · rintro t h s6
    simp only [cw_ret, qseq_ret, qblock_ret, retQ_ret]
    obtain rfl := hm0
    exact done_t (by simp only [go_sem, s6, List.length_append, List.map_append]) (frz_v _)

end Go.Nw.CM

namespace Go.Nw.CM
open Go.Nw.Circ
set_option linter.unusedSimpArgs false
set_option linter.unusedVariables false
variable {O : Orac}

theorem k_slices_ContainsFunc___int_int_ (hf : Has O "slices.ContainsFunc[[]int,int]" x_slices_ContainsFunc___int_int_) (k_slices_IndexFunc___int_int_ : C_slices_IndexFunc___int_int_ O) : C_slices_ContainsFunc___int_int_ O := by
  intro s f_n f_a f_b f f_z f_h r hm0
  unfold slices_ContainsFunc___int_int_ at hm0
  refine fn_cw hf rfl (fz_cons (frz_fs fun a _ => fz_eI a) (fz_cons f_z fz_nil)) (frz_v _) ?_
  refine cw_start (fun t h => t 0 = .fs 1 (List.map eI s) ∧ t 1 = .fn f_n f_a f_b) ⟨rfl, rfl⟩ fun t h ⟨s0, s1⟩ => ?_
  simp only [x_slices_ContainsFunc___int_int_]
  refine cw_reg_seq fun K hK => ?_
  simp only [go_sem]
  refine hK _ _ ?_
  clear hK K
  obtain ⟨y2, h_y2, hm0⟩ := bind_get hm0
  refine cw_reg_seq fun K hK => ?_
  simp only [go_sem, s0, s1]
  refine icall_fn (k_slices_IndexFunc___int_int_ s f_n f_a f_b f f_z f_h _ h_y2) ?_
  simp only [go_sem, s0, s1]
  refine hK _ _ ?_
  clear hK K
  simp only [cw_ret, qseq_ret, qblock_ret, retQ_ret]
  obtain rfl := Option.some.inj hm0
  exact done_t (by simp only [go_sem, List.length_append, List.map_append]) (frz_v _)

end Go.Nw.CM

namespace Go.Nw.CM
open Go.Nw.Circ
set_option linter.unusedSimpArgs false
set_option linter.unusedVariables false
variable {O : Orac}

theorem k_slices_Contains___bool_bool_ (hf : Has O "slices.Contains[[]bool,bool]" x_slices_Contains___bool_bool_) (k_slices_Index___bool_bool_ : C_slices_Index___bool_bool_ O) : C_slices_Contains___bool_bool_ O := by
  intro s v r hm0
  unfold slices_Contains___bool_bool_ at hm0
  refine fn_cw hf rfl (fz_cons (frz_fs fun a _ => fz_eB a) (fz_cons (frz_v _) fz_nil)) (frz_v _) ?_
  refine cw_start (fun t h => t 0 = .fs 1 (List.map eB s) ∧ t 1 = B v) ⟨rfl, rfl⟩ fun t h ⟨s0, s1⟩ => ?_
  simp only [x_slices_Contains___bool_bool_]
  refine cw_reg_seq fun K hK => ?_
  simp only [go_sem]
  refine hK _ _ ?_
  clear hK K
  obtain ⟨y2, h_y2, hm0⟩ := bind_get hm0
  refine cw_reg_seq fun K hK => ?_
  simp only [go_sem, s0, s1]
  refine icall_fn (k_slices_Index___bool_bool_ s v _ h_y2) ?_
  simp only [go_sem, s0, s1]
  refine hK _ _ ?_
  clear hK K
  simp only [cw_ret, qseq_ret, qblock_ret, retQ_ret]
  obtain rfl := Option.some.inj hm0
  exact done_t (by simp only [go_sem, List.length_append, List.map_append]) (frz_v _)

end Go.Nw.CM

namespace Go.Nw.CM
open Go.Nw.Circ
set_option linter.unusedSimpArgs false
set_option linter.unusedVariables false
variable {O : Orac}

theorem k_slices_Contains___int_int_ (hf : Has O "slices.Contains[[]int,int]" x_slices_Contains___int_int_) (k_slices_Index___int_int_ : C_slices_Index___int_int_ O) : C_slices_Contains___int_int_ O := by
  intro s v r hm0
  unfold slices_Contains___int_int_ at hm0
  refine fn_cw hf rfl (fz_cons (frz_fs fun a _ => fz_eI a) (fz_cons (frz_v _) fz_nil)) (frz_v _) ?_
  refine cw_start (fun t h => t 0 = .fs 1 (List.map eI s) ∧ t 1 = I v) ⟨rfl, rfl⟩ fun t h ⟨s0, s1⟩ => ?_
  simp only [x_slices_Contains___int_int_]
  refine cw_reg_seq fun K hK => ?_
  simp only [go_sem]
  refine hK _ _ ?_
  clear hK K
  obtain ⟨y2, h_y2, hm0⟩ := bind_get hm0
  refine cw_reg_seq fun K hK => ?_
  simp only [go_sem, s0, s1]
  refine icall_fn (k_slices_Index___int_int_ s v _ h_y2) ?_
  simp only [go_sem, s0, s1]
  refine hK _ _ ?_
  clear hK K
  simp only [cw_ret, qseq_ret, qblock_ret, retQ_ret]
  obtain rfl := Option.some.inj hm0
  exact done_t (by simp only [go_sem, List.length_append, List.map_append]) (frz_v _)

end Go.Nw.CM

namespace Go.Nw.CM
open Go.Nw.Circ
set_option linter.unusedSimpArgs false
set_option linter.unusedVariables false
variable {O : Orac}

theorem k_slices_IndexFunc___int_int_ (hf : Has O "slices.IndexFunc[[]int,int]" x_slices_IndexFunc___int_int_) : C_slices_IndexFunc___int_int_ O := by
  intro s f_n f_a f_b f f_z f_h r hm0
  unfold slices_IndexFunc___int_int_ at hm0
  refine fn_cw hf rfl (fz_cons (frz_fs fun a _ => fz_eI a) (fz_cons f_z fz_nil)) (frz_v _) ?_
  refine cw_start (fun t h => t 0 = .fs 1 (List.map eI s) ∧ t 1 = .fn f_n f_a f_b) ⟨rfl, rfl⟩ fun t h ⟨s0, s1⟩ => ?_
  simp only [x_slices_IndexFunc___int_int_]
  refine cw_reg_seq fun K hK => ?_
  simp only [go_sem]
  refine hK _ _ ?_
  clear hK K
  refine cw_assoc ?_
  refine cw_reg_seq fun K hK => ?_
  simp only [go_sem, s0]
  refine hK _ _ ?_
  clear hK K
  refine cw_seq_k fun K1 hK1 => ?_
  have J2 : ∀ (t : Slots) (h : Heap), slices_IndexFunc___int_int__j2 = some r → K1 t h := by
    intro t h hm0
    refine hK1 _ _ ?_
    unfold slices_IndexFunc___int_int__j2 at hm0
    refine cw_reg_seq fun K hK => ?_
    simp only [go_sem]
    refine hK _ _ ?_
    clear hK K
    simp only [cw_ret, qseq_ret, qblock_ret, retQ_ret]
    obtain rfl := Option.some.inj hm0
    exact done_t (by simp only [go_sem, List.length_append, List.map_append]) (frz_v _)
  simp only [cw_block]
  obtain ⟨b3, hl3, hm0⟩ := bind_get hm0
  refine cw_loopM hl3 (fun | x_8, t, h => t 0 = .fs 1 (List.map eI s) ∧ t 1 = .fn f_n f_a f_b ∧ t 7 = I (List.length s : Int) ∧ t 8 = I x_8) ?_ ?_
  · exact ⟨s0, s1, (by first | rfl | simp only [go_sem, List.length_append, List.map_append]), (by first | rfl | simp only [go_sem, List.length_append, List.map_append])⟩
  · rintro x_8 o t h ⟨s0, s1, s7, s8⟩ hm1 hb3
    simp only [slices_IndexFunc___int_int__L7] at hm1
    rw [x_slices_IndexFunc___int_int__L7]
    refine cw_reg_seq fun K hK => ?_
    simp only [go_sem, s7, s8]
    refine hK _ _ ?_
    clear hK K
    refine cw_seq_k fun K4 hK4 => ?_
    simp only [go_sem]
    refine ibr_intro (fun hc5 => ?_) (fun hc5 => ?_)
    · rw [if_t hc5] at hm1
      simp only [cw_skip, qblock_normal, qseq_normal]
      refine hK4 _ _ ?_
      refine cw_seq_k fun K6 hK6 => ?_
      simp only [cw_block]
      refine cw_reg_seq fun K hK => ?_
      simp only [go_sem, s8]
      refine hK _ _ ?_
      clear hK K
      obtain ⟨x9, h_x9, hm1⟩ := bind_get hm1
      have h_x90 := get_nn h_x9
      have h_x91 := get_lt h_x9
      obtain ⟨y10, h_y10, hm1⟩ := bind_get hm1
      refine cw_reg_seq fun K hK => ?_
      simp only [go_sem, s0, s1, ielem_get h_x9, irow_get h_x9, h_x90, h_x91]
      refine icallv_fn (f_h x9 _ h_y10) ?_
      simp only [go_sem, s0, s1, ielem_get h_x9, irow_get h_x9, h_x90, h_x91]
      refine hK _ _ ?_
      clear hK K
      simp only [go_sem]
      refine ibr_intro (fun hc11 => ?_) (fun hc11 => ?_)
      · rw [if_t hc11] at hm1
        refine cw_reg_seq fun K hK => ?_
        simp only [go_sem]
        refine hK _ _ ?_
        clear hK K
        simp only [cw_ret, qseq_ret, qblock_ret, retQ_ret]
        obtain rfl := Option.some.inj hm1
        obtain rfl := hb3 _ rfl
        try dsimp only at hm0
        obtain rfl := Option.some.inj hm0
        exact done_t (by simp only [go_sem, List.length_append, List.map_append]) (frz_v _)
      · rw [if_f hc11] at hm1
        simp only [cw_skip, qblock_normal, qseq_normal]
        refine hK6 _ _ ?_
        refine cw_reg_k fun K hK => ?_
        simp only [go_sem, s8]
        refine hK _ _ ?_
        clear hK K
        simp only [qblock_normal, qseq_normal]
        obtain rfl := Option.some.inj hm1
        refine ⟨_, rfl, ?_⟩
        exact ⟨s0, s1, s7, (by first | rfl | exact s8 | simp only [go_sem, s8, List.length_append, List.map_append])⟩
    · rw [if_f hc5] at hm1
      simp only [cw_exit, qseq_exit, qblock_same, qblock_ne, qblock_normal, qseq_normal, Nat.reduceEqDiff, not_false_eq_true]
      obtain rfl := Option.some.inj hm1
      obtain rfl := hb3 _ rfl
      try dsimp only at hm0
      exact J2  _ _  hm0

end Go.Nw.CM

namespace Go.Nw.CM
open Go.Nw.Circ
set_option linter.unusedSimpArgs false
set_option linter.unusedVariables false
variable {O : Orac}

theorem k_slices_Index___bool_bool_ (hf : Has O "slices.Index[[]bool,bool]" x_slices_Index___bool_bool_) : C_slices_Index___bool_bool_ O := by
  intro s v r hm0
  unfold slices_Index___bool_bool_ at hm0
  refine fn_cw hf rfl (fz_cons (frz_fs fun a _ => fz_eB a) (fz_cons (frz_v _) fz_nil)) (frz_v _) ?_
  refine cw_start (fun t h => t 0 = .fs 1 (List.map eB s) ∧ t 1 = B v) ⟨rfl, rfl⟩ fun t h ⟨s0, s1⟩ => ?_
  simp only [x_slices_Index___bool_bool_]
  refine cw_reg_seq fun K hK => ?_
  simp only [go_sem]
  refine hK _ _ ?_
  clear hK K
  refine cw_assoc ?_
  refine cw_reg_seq fun K hK => ?_
  simp only [go_sem, s0]
  refine hK _ _ ?_
  clear hK K
  refine cw_seq_k fun K1 hK1 => ?_
  have J2 : ∀ (t : Slots) (h : Heap), slices_Index___bool_bool__j2 = some r → K1 t h := by
    intro t h hm0
    refine hK1 _ _ ?_
    unfold slices_Index___bool_bool__j2 at hm0
    refine cw_reg_seq fun K hK => ?_
    simp only [go_sem]
    refine hK _ _ ?_
    clear hK K
    simp only [cw_ret, qseq_ret, qblock_ret, retQ_ret]
    obtain rfl := Option.some.inj hm0
    exact done_t (by simp only [go_sem, List.length_append, List.map_append]) (frz_v _)
  simp only [cw_block]
  obtain ⟨b3, hl3, hm0⟩ := bind_get hm0
  refine cw_loopM hl3 (fun | x_8, t, h => t 0 = .fs 1 (List.map eB s) ∧ t 1 = B v ∧ t 7 = I (List.length s : Int) ∧ t 8 = I x_8) ?_ ?_
  · exact ⟨s0, s1, (by first | rfl | simp only [go_sem, List.length_append, List.map_append]), (by first | rfl | simp only [go_sem, List.length_append, List.map_append])⟩
  · rintro x_8 o t h ⟨s0, s1, s7, s8⟩ hm1 hb3
    simp only [slices_Index___bool_bool__L7] at hm1
    rw [x_slices_Index___bool_bool__L7]
    refine cw_reg_seq fun K hK => ?_
    simp only [go_sem, s7, s8]
    refine hK _ _ ?_
    clear hK K
    refine cw_seq_k fun K4 hK4 => ?_
    simp only [go_sem]
    refine ibr_intro (fun hc5 => ?_) (fun hc5 => ?_)
    · rw [if_t hc5] at hm1
      simp only [cw_skip, qblock_normal, qseq_normal]
      refine hK4 _ _ ?_
      refine cw_seq_k fun K6 hK6 => ?_
      simp only [cw_block]
      refine cw_reg_seq fun K hK => ?_
      simp only [go_sem, s8]
      refine hK _ _ ?_
      clear hK K
      obtain ⟨x8, h_x8, hm1⟩ := bind_get hm1
      have h_x80 := get_nn h_x8
      have h_x81 := get_lt h_x8
      refine cw_reg_seq fun K hK => ?_
      simp only [go_sem, s0, s1, ielem_get h_x8, irow_get h_x8, h_x80, h_x81]
      refine hK _ _ ?_
      clear hK K
      simp only [go_sem]
      refine ibr_intro (fun hc9 => ?_) (fun hc9 => ?_)
      · rw [if_t hc9] at hm1
        refine cw_reg_seq fun K hK => ?_
        simp only [go_sem]
        refine hK _ _ ?_
        clear hK K
        simp only [cw_ret, qseq_ret, qblock_ret, retQ_ret]
        obtain rfl := Option.some.inj hm1
        obtain rfl := hb3 _ rfl
        try dsimp only at hm0
        obtain rfl := Option.some.inj hm0
        exact done_t (by simp only [go_sem, List.length_append, List.map_append]) (frz_v _)
      · rw [if_f hc9] at hm1
        simp only [cw_skip, qblock_normal, qseq_normal]
        refine hK6 _ _ ?_
        refine cw_reg_k fun K hK => ?_
        simp only [go_sem, s8]
        refine hK _ _ ?_
        clear hK K
        simp only [qblock_normal, qseq_normal]
        obtain rfl := Option.some.inj hm1
        refine ⟨_, rfl, ?_⟩
        exact ⟨s0, s1, s7, (by first | rfl | exact s8 | simp only [go_sem, s8, List.length_append, List.map_append])⟩
    · rw [if_f hc5] at hm1
      simp only [cw_exit, qseq_exit, qblock_same, qblock_ne, qblock_normal, qseq_normal, Nat.reduceEqDiff, not_false_eq_true]
      obtain rfl := Option.some.inj hm1
      obtain rfl := hb3 _ rfl
      try dsimp only at hm0
      exact J2  _ _  hm0

end Go.Nw.CM

namespace Go.Nw.CM
open Go.Nw.Circ
set_option linter.unusedSimpArgs false
set_option linter.unusedVariables false
variable {O : Orac}

theorem k_slices_Index___int_int_ (hf : Has O "slices.Index[[]int,int]" x_slices_Index___int_int_) : C_slices_Index___int_int_ O := by
  intro s v r hm0
  unfold slices_Index___int_int_ at hm0
  refine fn_cw hf rfl (fz_cons (frz_fs fun a _ => fz_eI a) (fz_cons (frz_v _) fz_nil)) (frz_v _) ?_
  refine cw_start (fun t h => t 0 = .fs 1 (List.map eI s) ∧ t 1 = I v) ⟨rfl, rfl⟩ fun t h ⟨s0, s1⟩ => ?_
  simp only [x_slices_Index___int_int_]
  refine cw_reg_seq fun K hK => ?_
  simp only [go_sem]
  refine hK _ _ ?_
  clear hK K
  refine cw_assoc ?_
  refine cw_reg_seq fun K hK => ?_
  simp only [go_sem, s0]
  refine hK _ _ ?_
  clear hK K
  refine cw_seq_k fun K1 hK1 => ?_
  have J2 : ∀ (t : Slots) (h : Heap), slices_Index___int_int__j2 = some r → K1 t h := by
    intro t h hm0
    refine hK1 _ _ ?_
    unfold slices_Index___int_int__j2 at hm0
    refine cw_reg_seq fun K hK => ?_
    simp only [go_sem]
    refine hK _ _ ?_
    clear hK K
    simp only [cw_ret, qseq_ret, qblock_ret, retQ_ret]
    obtain rfl := Option.some.inj hm0
    exact done_t (by simp only [go_sem, List.length_append, List.map_append]) (frz_v _)
  simp only [cw_block]
  obtain ⟨b3, hl3, hm0⟩ := bind_get hm0
  refine cw_loopM hl3 (fun | x_8, t, h => t 0 = .fs 1 (List.map eI s) ∧ t 1 = I v ∧ t 7 = I (List.length s : Int) ∧ t 8 = I x_8) ?_ ?_
  · exact ⟨s0, s1, (by first | rfl | simp only [go_sem, List.length_append, List.map_append]), (by first | rfl | simp only [go_sem, List.length_append, List.map_append])⟩
  · rintro x_8 o t h ⟨s0, s1, s7, s8⟩ hm1 hb3
    simp only [slices_Index___int_int__L7] at hm1
    rw [x_slices_Index___int_int__L7]
    refine cw_reg_seq fun K hK => ?_
    simp only [go_sem, s7, s8]
    refine hK _ _ ?_
    clear hK K
    refine cw_seq_k fun K4 hK4 => ?_
    simp only [go_sem]
    refine ibr_intro (fun hc5 => ?_) (fun hc5 => ?_)
    · rw [if_t hc5] at hm1
      simp only [cw_skip, qblock_normal, qseq_normal]
      refine hK4 _ _ ?_
      refine cw_seq_k fun K6 hK6 => ?_
      simp only [cw_block]
      refine cw_reg_seq fun K hK => ?_
      simp only [go_sem, s8]
      refine hK _ _ ?_
      clear hK K
      obtain ⟨x8, h_x8, hm1⟩ := bind_get hm1
      have h_x80 := get_nn h_x8
      have h_x81 := get_lt h_x8
      refine cw_reg_seq fun K hK => ?_
      simp only [go_sem, s0, s1, ielem_get h_x8, irow_get h_x8, h_x80, h_x81]
      refine hK _ _ ?_
      clear hK K
      simp only [go_sem]
      refine ibr_intro (fun hc9 => ?_) (fun hc9 => ?_)
      · rw [if_t hc9] at hm1
        refine cw_reg_seq fun K hK => ?_
        simp only [go_sem]
        refine hK _ _ ?_
        clear hK K
        simp only [cw_ret, qseq_ret, qblock_ret, retQ_ret]
        obtain rfl := Option.some.inj hm1
        obtain rfl := hb3 _ rfl
        try dsimp only at hm0
        obtain rfl := Option.some.inj hm0
        exact done_t (by simp only [go_sem, List.length_append, List.map_append]) (frz_v _)
      · rw [if_f hc9] at hm1
        simp only [cw_skip, qblock_normal, qseq_normal]
        refine hK6 _ _ ?_
        refine cw_reg_k fun K hK => ?_
        simp only [go_sem, s8]
        refine hK _ _ ?_
        clear hK K
        simp only [qblock_normal, qseq_normal]
        obtain rfl := Option.some.inj hm1
        refine ⟨_, rfl, ?_⟩
        exact ⟨s0, s1, s7, (by first | rfl | exact s8 | simp only [go_sem, s8, List.length_append, List.map_append])⟩
    · rw [if_f hc5] at hm1
      simp only [cw_exit, qseq_exit, qblock_same, qblock_ne, qblock_normal, qseq_normal, Nat.reduceEqDiff, not_false_eq_true]
      obtain rfl := Option.some.inj hm1
      obtain rfl := hb3 _ rfl
      try dsimp only at hm0
      exact J2  _ _  hm0

end Go.Nw.CM
