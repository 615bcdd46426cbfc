/- That the texts make what their models say: printed by a program. -/
import Derived.Test.YtmlhjobmpjpmnaaDoorDM
set_option linter.all false
set_option linter.unusedVariables false
set_option linter.unusedSimpArgs false
set_option linter.unusedSectionVars false
namespace Go.Nw.DM
open Go.Nw.Door
set_option linter.unusedSimpArgs false
set_option linter.unusedVariables false
variable {O : Orac}

theorem k_r03_Check (hf : Has O "newel/newelref03.Check" x_r03_Check) (k_r03_within : C_r03_within O) : C_r03_Check O := by
  intro c r hm0
  unfold r03_Check at hm0
  refine fn_cw hf rfl (fz_cons (.agg _ (fz_cons (frz_v _) (fz_cons (frz_fs fun a _ => fz_eI a) (fz_cons (frz_fs fun a _ => fz_eWire a) fz_nil)))) fz_nil) (frz_v _) ?_
  refine cw_start (fun t h => t 0 = .agg [I c.Hazards, .fs 1 (List.map eI c.Switches), .fs 2 (List.map eWire c.Wires)]) rfl fun t h s0 => ?_
  simp only [x_r03_Check]
  refine cw_reg_seq fun K hK => ?_
  simp only [go_sem, s0]
  refine hK _ _ ?_
  clear hK K
  refine cw_assoc ?_
  refine cw_reg_postK (fun t h => t 1 = .fp [I c.Hazards, .fs 1 (List.map eI c.Switches), .fs 2 (List.map eWire c.Wires)] 0 ∧ t 27 = B (((!(r03_within c.Hazards 1 8)) || (!(r03_within (List.length c.Switches : Int) 1 12))) || (!(r03_within (List.length c.Wires : Int) 1 24)))) (fun K hK => ?_) ?_
  · simp only [go_sem]
    refine icall_fn (k_r03_within c.Hazards 1 8) ?_
    simp only [go_sem]
    refine ibr_intro (fun hg1 => ?_) (fun hg1 => ?_)
    · simp only [go_sem, hg1]
      exact hK _ _ ⟨(by first | rfl | simp only [go_sem, hg1, List.length_append, List.map_append]), (by first | rfl | simp only [go_sem, hg1, List.length_append, List.map_append])⟩
    · simp only [go_sem, hg1]
      refine icall_fn (k_r03_within (List.length c.Switches : Int) 1 12) ?_
      simp only [go_sem, hg1]
      refine ibr_intro (fun hg2 => ?_) (fun hg2 => ?_)
      · simp only [go_sem, hg1, hg2]
        exact hK _ _ ⟨(by first | rfl | simp only [go_sem, hg1, hg2, List.length_append, List.map_append]), (by first | rfl | simp only [go_sem, hg1, hg2, List.length_append, List.map_append])⟩
      · simp only [go_sem, hg1, hg2]
        refine icall_fn (k_r03_within (List.length c.Wires : Int) 1 24) ?_
        simp only [go_sem, hg1, hg2]
        exact hK _ _ ⟨(by first | rfl | simp only [go_sem, hg1, hg2, List.length_append, List.map_append]), (by first | rfl | simp only [go_sem, hg1, hg2, List.length_append, List.map_append])⟩
  · rintro t h ⟨s1, s27⟩
    refine cw_seq_k fun K3 hK3 => ?_
    simp only [go_sem, s27]
    refine ibr_intro (fun hc4 => ?_) (fun hc4 => ?_)
    · rw [if_t hc4] at hm0
      refine cw_reg_seq fun K hK => ?_
      simp only [go_sem]
      refine hK _ _ ?_
      clear hK K
      simp only [cw_ret, qseq_ret, qblock_ret, retQ_ret]
      obtain rfl := Option.some.inj hm0
      exact done_t (by simp only [go_sem, List.length_append, List.map_append]) (frz_v _)
    · rw [if_f hc4] at hm0
      simp only [cw_skip, qblock_normal, qseq_normal]
      refine hK3 _ _ ?_
      refine cw_assoc ?_
      refine cw_reg_seq fun K hK => ?_
      simp only [go_sem]
      refine hK _ _ ?_
      clear hK K
      refine cw_seq_k fun K5 hK5 => ?_
      have J6 : ∀ (t : Slots) (h : Heap), t 1 = .fp [I c.Hazards, .fs 1 (List.map eI c.Switches), .fs 2 (List.map eWire c.Wires)] 0 → r03_Check_j6 c = some r → K5 t h := by
        intro t h s1 hm0
        refine hK5 _ _ ?_
        unfold r03_Check_j6 at hm0
        obtain ⟨l8, h_l8, hm0⟩ := bind_get hm0
        refine cw_reg_seq fun K hK => ?_
        simp only [go_sem, s1]
        refine imksl_ok (f := eI) (z := 0) rfl h_l8 ?_
        simp only [go_sem, s1]
        refine hK _ _ ?_
        clear hK K
        refine cw_assoc ?_
        refine cw_reg_seq fun K hK => ?_
        simp only [go_sem]
        refine hK _ _ ?_
        clear hK K
        refine cw_seq_k fun K9 hK9 => ?_
        have J10 : ∀ (used_4 : List Int) (i4 : Nat) (t : Slots) (h : Heap), t 4 = .rs i4 0 (List.length used_4) → h.ob i4 = some (1, List.map eI used_4) → i4 < h.nx → r03_Check_j10 used_4 = some r → K9 t h := by
          intro used_4 i4 t h s4 ob_o4 lt_o4 hm0
          refine hK9 _ _ ?_
          unfold r03_Check_j10 at hm0
          refine cw_assoc ?_
          refine cw_reg_seq fun K hK => ?_
          simp only [go_sem, lt_o4]
          refine hK _ _ ?_
          clear hK K
          refine cw_seq_k fun K11 hK11 => ?_
          have J12 : ∀ (t : Slots) (h : Heap), r03_Check_j12 = some r → K11 t h := by
            intro t h hm0
            refine hK11 _ _ ?_
            unfold r03_Check_j12 at hm0
            refine cw_reg_seq fun K hK => ?_
            simp only [go_sem]
            refine hK _ _ ?_
            clear hK K
            simp only [cw_ret, qseq_ret, qblock_ret, retQ_ret]
            obtain rfl := Option.some.inj hm0
            exact done_t (by simp only [go_sem, List.length_append, List.map_append]) (frz_v _)
          simp only [cw_block]
          obtain ⟨b13, hl13, hm0⟩ := bind_get hm0
          refine cw_loopM hl13 (fun | i_9, t, h => t 4 = .rs i4 0 (List.length used_4) ∧ t 9 = I i_9 ∧ h.ob i4 = some (1, List.map eI used_4) ∧ i4 < h.nx) ?_ ?_
          · exact ⟨(by first | exact s4 | simp only [go_sem, s4, List.length_append, List.map_append]), (by first | rfl | simp only [go_sem, List.length_append, List.map_append]), ob_o4, lt_o4⟩
          · rintro i_9 o t h ⟨s4, s9, ob_o4, lt_o4⟩ hm1 hb13
            simp only [r03_Check_L38] at hm1
            rw [x_r03_Check_L38]
            refine cw_assoc ?_
            refine cw_reg_seq fun K hK => ?_
            simp only [go_sem, s4, s9, ob_o4, lt_o4]
            refine hK _ _ ?_
            clear hK K
            refine cw_seq_k fun K14 hK14 => ?_
            simp only [go_sem]
            refine ibr_intro (fun hc15 => ?_) (fun hc15 => ?_)
            · rw [if_t hc15] at hm1
              simp only [cw_skip, qblock_normal, qseq_normal]
              refine hK14 _ _ ?_
              refine cw_seq_k fun K16 hK16 => ?_
              simp only [cw_block]
              obtain ⟨x18, h_x18, hm1⟩ := bind_get hm1
              have h_x180 := get_nn h_x18
              have h_x181 := get_lt h_x18
              refine cw_reg_seq fun K hK => ?_
              simp only [go_sem, s4, s9, ob_o4, lt_o4, ielem_get h_x18, irow_get h_x18, h_x180, h_x181]
              refine hK _ _ ?_
              clear hK K
              simp only [go_sem]
              refine ibr_intro (fun hc19 => ?_) (fun hc19 => ?_)
              · rw [if_t hc19] at hm1
                refine cw_reg_seq fun K hK => ?_
                simp only [go_sem, lt_o4]
                refine hK _ _ ?_
                clear hK K
                simp only [cw_ret, qseq_ret, qblock_ret, retQ_ret]
                obtain rfl := Option.some.inj hm1
                obtain rfl := hb13 _ rfl
                try dsimp only at hm0
                obtain rfl := Option.some.inj hm0
                exact done_t (by simp only [go_sem, ob_o4, lt_o4, List.length_append, List.map_append]) (frz_v _)
              · rw [if_f hc19] at hm1
                simp only [cw_skip, qblock_normal, qseq_normal]
                refine hK16 _ _ ?_
                refine cw_reg_k fun K hK => ?_
                simp only [go_sem, s9, lt_o4]
                refine hK _ _ ?_
                clear hK K
                simp only [qblock_normal, qseq_normal]
                obtain rfl := Option.some.inj hm1
                refine ⟨_, rfl, ?_⟩
                exact ⟨(by first | exact s4 | simp only [go_sem, s4, List.length_append, List.map_append]), (by first | rfl | exact s9 | simp only [go_sem, s9, List.length_append, List.map_append]), ob_o4, lt_o4⟩
            · rw [if_f hc15] at hm1
              simp only [cw_exit, qseq_exit, qblock_same, qblock_ne, qblock_normal, qseq_normal, Nat.reduceEqDiff, not_false_eq_true]
              obtain rfl := Option.some.inj hm1
              obtain rfl := hb13 _ rfl
              try dsimp only at hm0
              exact J12  _ _  hm0
        simp only [cw_block]
        obtain ⟨b21, hl21, hm0⟩ := bind_get hm0
        refine cw_loopM hl21 (fun | (used_4, i_5), t, h => ∃ i4 : Nat, t 1 = .fp [I c.Hazards, .fs 1 (List.map eI c.Switches), .fs 2 (List.map eWire c.Wires)] 0 ∧ t 4 = .rs i4 0 (List.length used_4) ∧ t 5 = I i_5 ∧ h.ob i4 = some (1, List.map eI used_4) ∧ i4 < h.nx) ?_ ?_
        · exact ⟨h.nx, s1, (by first | rfl | simp only [go_sem, List.length_append, List.map_append]), (by first | rfl | simp only [go_sem, List.length_append, List.map_append]), (by simp only [go_sem, List.length_append, List.map_append]), (by simp only [go_sem])⟩
        · rintro ⟨used_4, i_5⟩ o t h ⟨i4, s1, s4, s5, ob_o4, lt_o4⟩ hm1 hb21
          simp only [r03_Check_L32] at hm1
          rw [x_r03_Check_L32]
          refine cw_assoc ?_
          refine cw_reg_seq fun K hK => ?_
          simp only [go_sem, s1, s5, lt_o4]
          refine hK _ _ ?_
          clear hK K
          refine cw_seq_k fun K22 hK22 => ?_
          simp only [go_sem]
          refine ibr_intro (fun hc23 => ?_) (fun hc23 => ?_)
          · rw [if_t hc23] at hm1
            simp only [cw_skip, qblock_normal, qseq_normal]
            refine hK22 _ _ ?_
            refine cw_seq_k fun K24 hK24 => ?_
            have J25 : ∀ (used_4_1 : List Int) (t : Slots) (h : Heap), t 1 = .fp [I c.Hazards, .fs 1 (List.map eI c.Switches), .fs 2 (List.map eWire c.Wires)] 0 → t 4 = .rs i4 0 (List.length used_4_1) → t 5 = I i_5 → h.ob i4 = some (1, List.map eI used_4_1) → i4 < h.nx → r03_Check_j25 i_5 used_4_1 = some o → K24 t h := by
              intro used_4_1 t h s1 s4 s5 ob_o4 lt_o4 hm1
              refine hK24 _ _ ?_
              unfold r03_Check_j25 at hm1
              refine cw_reg_k fun K hK => ?_
              simp only [go_sem, s5, lt_o4]
              refine hK _ _ ?_
              clear hK K
              simp only [qblock_normal, qseq_normal]
              obtain rfl := Option.some.inj hm1
              refine ⟨_, rfl, ?_⟩
              exact ⟨i4, s1, (by first | exact s4 | simp only [go_sem, s4, List.length_append, List.map_append]), (by first | rfl | exact s5 | simp only [go_sem, s5, List.length_append, List.map_append]), ob_o4, lt_o4⟩
            simp only [cw_block]
            obtain ⟨x27, h_x27, hm1⟩ := bind_get hm1
            have h_x270 := get_nn h_x27
            have h_x271 := get_lt h_x27
            refine cw_reg_seq fun K hK => ?_
            simp only [go_sem, s1, s5, lt_o4, ielem_get h_x27, irow_get h_x27, h_x270, h_x271]
            refine hK _ _ ?_
            clear hK K
            refine cw_reg_seq fun K hK => ?_
            simp only [go_sem, lt_o4]
            refine hK _ _ ?_
            clear hK K
            simp only [cw_block]
            refine cw_reg_seq fun K hK => ?_
            simp only [go_sem, lt_o4]
            refine hK _ _ ?_
            clear hK K
            simp only [go_sem]
            refine ibr_intro (fun hc28 => ?_) (fun hc28 => ?_)
            · rw [if_t hc28] at hm1
              obtain ⟨c32, h_c32, hm1⟩ := bind_get hm1
              refine cw_reg_postK (fun t h => t 1 = .fp [I c.Hazards, .fs 1 (List.map eI c.Switches), .fs 2 (List.map eWire c.Wires)] 0 ∧ t 4 = .rs i4 0 (List.length used_4) ∧ t 5 = I i_5 ∧ t 82 = B c32 ∧ h.ob i4 = some (1, List.map eI used_4) ∧ i4 < h.nx) (fun K hK => ?_) ?_
              · simp only [go_sem, s1, lt_o4]
                refine ibr_intro (fun hg33 => ?_) (fun hg33 => ?_)
                · simp only [hg33, Bool.not_true, Bool.not_false, eq_self, if_true, if_false, Bool.true_or, Bool.or_true, Bool.false_or, Bool.or_false, Bool.true_and, Bool.and_true, Bool.false_and, Bool.and_false, Bool.false_eq_true] at h_c32
                  obtain rfl := Option.some.inj h_c32
                  simp only [go_sem, s1, lt_o4, hg33]
                  exact hK _ _ ⟨s1, (by first | exact s4 | simp only [go_sem, s4, List.length_append, List.map_append]), s5, (by first | rfl | simp only [go_sem, hg33, List.length_append, List.map_append]), (by simp only [go_sem, ob_o4, lt_o4, hg33, List.length_append, List.map_append]), (by simp only [go_sem, lt_o4])⟩
                · simp only [hg33, Bool.not_true, Bool.not_false, eq_self, if_true, if_false, Bool.true_or, Bool.or_true, Bool.false_or, Bool.or_false, Bool.true_and, Bool.and_true, Bool.false_and, Bool.and_false, Bool.false_eq_true] at h_c32
                  obtain ⟨x31, h_x31, h_c32⟩ := bind_get h_c32
                  have h_x310 := get_nn h_x31
                  have h_x311 := get_lt h_x31
                  obtain rfl := Option.some.inj h_c32
                  simp only [go_sem, s1, lt_o4, ielem_get h_x31, irow_get h_x31, h_x310, h_x311, hg33]
                  refine icall_fn (k_r03_within x31 0 (wr ((List.length c.Switches : Int) - 1))) ?_
                  simp only [go_sem, s1, lt_o4, ielem_get h_x31, irow_get h_x31, h_x310, h_x311, hg33]
                  exact hK _ _ ⟨s1, (by first | exact s4 | simp only [go_sem, s4, List.length_append, List.map_append]), s5, (by first | rfl | simp only [go_sem, hg33, List.length_append, List.map_append]), (by simp only [go_sem, ob_o4, lt_o4, hg33, List.length_append, List.map_append]), (by simp only [go_sem, lt_o4])⟩
              · rintro t h ⟨s1, s4, s5, s82, ob_o4, lt_o4⟩
                simp only [go_sem, s82]
                refine ibr_intro (fun hc34 => ?_) (fun hc34 => ?_)
                · rw [if_t hc34] at hm1
                  refine cw_reg_seq fun K hK => ?_
                  simp only [go_sem, lt_o4]
                  refine hK _ _ ?_
                  clear hK K
                  simp only [cw_ret, qseq_ret, qblock_ret, retQ_ret]
                  obtain rfl := Option.some.inj hm1
                  obtain rfl := hb21 _ rfl
                  try dsimp only at hm0
                  obtain rfl := Option.some.inj hm0
                  exact done_t (by simp only [go_sem, ob_o4, lt_o4, List.length_append, List.map_append]) (frz_v _)
                · rw [if_f hc34] at hm1
                  simp only [cw_skip, qblock_normal, qseq_normal]
                  exact J25 used_4 _ _ s1 (by first | exact s4 | simp only [go_sem, s4, List.length_append, List.map_append]) s5 ob_o4 lt_o4 hm1
            · rw [if_f hc28] at hm1
              refine cw_assoc ?_
              refine cw_reg_seq fun K hK => ?_
              simp only [go_sem, lt_o4]
              refine hK _ _ ?_
              clear hK K
              refine cw_seq_k fun K35 hK35 => ?_
              have J36 : ∀ (x_83 : Bool) (i6 : Nat) (t : Slots) (h : Heap), t 1 = .fp [I c.Hazards, .fs 1 (List.map eI c.Switches), .fs 2 (List.map eWire c.Wires)] 0 → t 4 = .rs i4 0 (List.length used_4) → t 5 = I i_5 → t 6 = .rp i6 0 0 → t 83 = B x_83 → h.ob i4 = some (1, List.map eI used_4) → i4 < h.nx → h.ob i6 = some (2, [[I x27.Kind, .fs 1 (List.map eI x27.Of)]]) → i6 < h.nx → ¬i4 = i6 → r03_Check_j36 c used_4 i_5 x27 x_83 = some o → K35 t h := by
                intro x_83 i6 t h s1 s4 s5 s6 s83 ob_o4 lt_o4 ob_o6 lt_o6 ne_o4_o6 hm1
                refine hK35 _ _ ?_
                unfold r03_Check_j36 at hm1
                simp only [go_sem, s83]
                refine ibr_intro (fun hc37 => ?_) (fun hc37 => ?_)
                · rw [if_t hc37] at hm1
                  refine cw_assoc ?_
                  refine cw_reg_seq fun K hK => ?_
                  simp only [go_sem, s6, ob_o6, lt_o6, lt_o4, ne_o4_o6, nsym ne_o4_o6]
                  refine icall_fn (k_r03_within (List.length x27.Of : Int) 1 8) ?_
                  simp only [go_sem, s6, ob_o6, lt_o6, lt_o4, ne_o4_o6, nsym ne_o4_o6]
                  refine hK _ _ ?_
                  clear hK K
                  refine cw_seq_k fun K38 hK38 => ?_
                  simp only [go_sem]
                  refine ibr_intro (fun hc39 => ?_) (fun hc39 => ?_)
                  · rw [if_t hc39] at hm1
                    refine cw_reg_seq fun K hK => ?_
                    simp only [go_sem, lt_o4, lt_o6]
                    refine hK _ _ ?_
                    clear hK K
                    simp only [cw_ret, qseq_ret, qblock_ret, retQ_ret]
                    obtain rfl := Option.some.inj hm1
                    obtain rfl := hb21 _ rfl
                    try dsimp only at hm0
                    obtain rfl := Option.some.inj hm0
                    exact done_t (by simp only [go_sem, ob_o4, lt_o4, ob_o6, lt_o6, ne_o4_o6, nsym ne_o4_o6, List.length_append, List.map_append]) (frz_v _)
                  · rw [if_f hc39] at hm1
                    simp only [cw_skip, qblock_normal, qseq_normal]
                    refine hK38 _ _ ?_
                    refine cw_reg_seq fun K hK => ?_
                    simp only [go_sem, s5, lt_o4, lt_o6]
                    refine hK _ _ ?_
                    clear hK K
                    refine cw_reg_seq fun K hK => ?_
                    simp only [go_sem, lt_o4, lt_o6]
                    refine hK _ _ ?_
                    clear hK K
                    simp only [cw_block]
                    obtain ⟨b40, hl40, hm1⟩ := bind_get hm1
                    refine cw_loopM hl40 (fun | (used_4_1, last_7, k_8), t, h => t 1 = .fp [I c.Hazards, .fs 1 (List.map eI c.Switches), .fs 2 (List.map eWire c.Wires)] 0 ∧ t 4 = .rs i4 0 (List.length used_4_1) ∧ t 5 = I i_5 ∧ t 6 = .rp i6 0 0 ∧ t 7 = I last_7 ∧ t 8 = I k_8 ∧ h.ob i4 = some (1, List.map eI used_4_1) ∧ i4 < h.nx ∧ h.ob i6 = some (2, [[I x27.Kind, .fs 1 (List.map eI x27.Of)]]) ∧ i6 < h.nx ∧ ¬i4 = i6) ?_ ?_
                    · exact ⟨s1, (by first | exact s4 | simp only [go_sem, s4, List.length_append, List.map_append]), s5, s6, (by first | rfl | simp only [go_sem, List.length_append, List.map_append]), (by first | rfl | simp only [go_sem, List.length_append, List.map_append]), ob_o4, lt_o4, ob_o6, lt_o6, (by omega)⟩
                    · rintro ⟨used_4_1, last_7, k_8⟩ o t h ⟨s1, s4, s5, s6, s7, s8, ob_o4, lt_o4, ob_o6, lt_o6, ne_o4_o6⟩ hm2 hb40
                      simp only [r03_Check_L29] at hm2
                      rw [x_r03_Check_L29]
                      refine cw_assoc ?_
                      refine cw_reg_seq fun K hK => ?_
                      simp only [go_sem, s6, s8, ob_o6, lt_o6, lt_o4, ne_o4_o6, nsym ne_o4_o6]
                      refine hK _ _ ?_
                      clear hK K
                      refine cw_seq_k fun K41 hK41 => ?_
                      simp only [go_sem]
                      refine ibr_intro (fun hc42 => ?_) (fun hc42 => ?_)
                      · rw [if_t hc42] at hm2
                        simp only [cw_skip, qblock_normal, qseq_normal]
                        refine hK41 _ _ ?_
                        refine cw_seq_k fun K43 hK43 => ?_
                        simp only [cw_block]
                        refine cw_assoc ?_
                        obtain ⟨x45, h_x45, hm2⟩ := bind_get hm2
                        have h_x450 := get_nn h_x45
                        have h_x451 := get_lt h_x45
                        refine cw_reg_seq fun K hK => ?_
                        simp only [go_sem, s1, s6, s7, s8, ob_o6, lt_o6, lt_o4, ne_o4_o6, nsym ne_o4_o6, ielem_get h_x45, irow_get h_x45, h_x450, h_x451]
                        refine icall_fn (k_r03_within x45 (wr (last_7 + 1)) (wr ((List.length c.Wires : Int) - 1))) ?_
                        simp only [go_sem, s1, s6, s7, s8, ob_o6, lt_o6, lt_o4, ne_o4_o6, nsym ne_o4_o6, ielem_get h_x45, irow_get h_x45, h_x450, h_x451]
                        refine hK _ _ ?_
                        clear hK K
                        refine cw_seq_k fun K46 hK46 => ?_
                        simp only [go_sem]
                        refine ibr_intro (fun hc47 => ?_) (fun hc47 => ?_)
                        · rw [if_t hc47] at hm2
                          refine cw_reg_seq fun K hK => ?_
                          simp only [go_sem, lt_o4, lt_o6]
                          refine hK _ _ ?_
                          clear hK K
                          simp only [cw_ret, qseq_ret, qblock_ret, retQ_ret]
                          obtain rfl := Option.some.inj hm2
                          obtain rfl := hb40 _ rfl
                          try dsimp only at hm1
                          obtain rfl := Option.some.inj hm1
                          obtain rfl := hb21 _ rfl
                          try dsimp only at hm0
                          obtain rfl := Option.some.inj hm0
                          exact done_t (by simp only [go_sem, ob_o4, lt_o4, ob_o6, lt_o6, ne_o4_o6, nsym ne_o4_o6, List.length_append, List.map_append]) (frz_v _)
                        · rw [if_f hc47] at hm2
                          simp only [cw_skip, qblock_normal, qseq_normal]
                          refine hK46 _ _ ?_
                          refine cw_reg_seq fun K hK => ?_
                          simp only [go_sem, s6, s8, ob_o6, lt_o6, lt_o4, ne_o4_o6, nsym ne_o4_o6, ielem_get h_x45, irow_get h_x45, h_x450, h_x451]
                          refine hK _ _ ?_
                          clear hK K
                          obtain ⟨x49, h_x49, hm2⟩ := bind_get hm2
                          have h_x490 := get_nn h_x49
                          have h_x491 := get_lt h_x49
                          refine cw_reg_k fun K hK => ?_
                          simp only [go_sem, s4, s7, ob_o4, lt_o4, lt_o6, ne_o4_o6, nsym ne_o4_o6, ielem_get h_x49, irow_get h_x49, h_x490, h_x491]
                          refine hK _ _ ?_
                          clear hK K
                          simp only [qblock_normal, qseq_normal]
                          refine hK43 _ _ ?_
                          refine cw_reg_k fun K hK => ?_
                          simp only [go_sem, s8, lt_o4, lt_o6]
                          refine hK _ _ ?_
                          clear hK K
                          simp only [qblock_normal, qseq_normal]
                          obtain rfl := Option.some.inj hm2
                          refine ⟨_, rfl, ?_⟩
                          exact ⟨s1, (by first | exact s4 | simp only [go_sem, s4, List.length_append, List.map_append]), s5, s6, (by first | rfl | exact s7 | simp only [go_sem, s7, List.length_append, List.map_append]), (by first | rfl | exact s8 | simp only [go_sem, s8, List.length_append, List.map_append]), (by simp only [go_sem, ob_o4, lt_o4, ob_o6, lt_o6, ne_o4_o6, nsym ne_o4_o6, List.length_append, List.map_append]), (by simp only [go_sem, lt_o4, lt_o6]), (by simp only [go_sem, ob_o4, lt_o4, ob_o6, lt_o6, ne_o4_o6, nsym ne_o4_o6, List.length_append, List.map_append]), (by simp only [go_sem, lt_o4, lt_o6]), (by omega)⟩
                      · rw [if_f hc42] at hm2
                        simp only [cw_exit, qseq_exit, qblock_same, qblock_ne, qblock_normal, qseq_normal, Nat.reduceEqDiff, not_false_eq_true]
                        obtain rfl := Option.some.inj hm2
                        obtain rfl := hb40 _ rfl
                        try dsimp only at hm1
                        exact J25 used_4_1 _ _ s1 (by first | exact s4 | simp only [go_sem, s4, List.length_append, List.map_append]) s5 ob_o4 lt_o4 hm1
                · rw [if_f hc37] at hm1
                  refine cw_reg_seq fun K hK => ?_
                  simp only [go_sem, lt_o4, lt_o6]
                  refine hK _ _ ?_
                  clear hK K
                  simp only [cw_ret, qseq_ret, qblock_ret, retQ_ret]
                  obtain rfl := Option.some.inj hm1
                  obtain rfl := hb21 _ rfl
                  try dsimp only at hm0
                  obtain rfl := Option.some.inj hm0
                  exact done_t (by simp only [go_sem, ob_o4, lt_o4, ob_o6, lt_o6, ne_o4_o6, nsym ne_o4_o6, List.length_append, List.map_append]) (frz_v _)
              simp only [go_sem]
              refine ibr_intro (fun hc51 => ?_) (fun hc51 => ?_)
              · rw [if_t hc51] at hm1
                simp only [cw_skip, qblock_normal, qseq_normal]
                exact J36 (decide (x27.Kind = 2)) h.nx _ _ s1 (by first | exact s4 | simp only [go_sem, s4, List.length_append, List.map_append]) s5 (by first | rfl | simp only [go_sem, List.length_append, List.map_append]) (by first | rfl | simp only [go_sem, List.length_append, List.map_append]) (by simp only [go_sem, ob_o4, lt_o4, List.length_append, List.map_append]) (by simp only [go_sem, lt_o4]) (by simp only [go_sem, ob_o4, lt_o4, List.length_append, List.map_append]) (by simp only [go_sem, lt_o4]) (by omega) hm1
              · rw [if_f hc51] at hm1
                refine cw_reg_k fun K hK => ?_
                simp only [go_sem, lt_o4]
                refine hK _ _ ?_
                clear hK K
                simp only [qblock_normal, qseq_normal]
                exact J36 (decide (x27.Kind = 3)) h.nx _ _ s1 (by first | exact s4 | simp only [go_sem, s4, List.length_append, List.map_append]) s5 (by first | rfl | simp only [go_sem, List.length_append, List.map_append]) (by first | rfl | simp only [go_sem, List.length_append, List.map_append]) (by simp only [go_sem, ob_o4, lt_o4, List.length_append, List.map_append]) (by simp only [go_sem, lt_o4]) (by simp only [go_sem, ob_o4, lt_o4, List.length_append, List.map_append]) (by simp only [go_sem, lt_o4]) (by omega) hm1
          · rw [if_f hc23] at hm1
            simp only [cw_exit, qseq_exit, qblock_same, qblock_ne, qblock_normal, qseq_normal, Nat.reduceEqDiff, not_false_eq_true]
            obtain rfl := Option.some.inj hm1
            obtain rfl := hb21 _ rfl
            try dsimp only at hm0
            exact J10 used_4 i4 _ _ (by first | exact s4 | simp only [go_sem, s4, List.length_append, List.map_append]) ob_o4 lt_o4 hm0
      simp only [cw_block]
      obtain ⟨b53, hl53, hm0⟩ := bind_get hm0
      refine cw_loopM hl53 (fun | i_3, t, h => t 1 = .fp [I c.Hazards, .fs 1 (List.map eI c.Switches), .fs 2 (List.map eWire c.Wires)] 0 ∧ t 3 = I i_3) ?_ ?_
      · exact ⟨s1, (by first | rfl | simp only [go_sem, List.length_append, List.map_append])⟩
      · rintro i_3 o t h ⟨s1, s3⟩ hm1 hb53
        simp only [r03_Check_L8] at hm1
        rw [x_r03_Check_L8]
        refine cw_assoc ?_
        refine cw_reg_seq fun K hK => ?_
        simp only [go_sem, s1, s3]
        refine hK _ _ ?_
        clear hK K
        refine cw_seq_k fun K54 hK54 => ?_
        simp only [go_sem]
        refine ibr_intro (fun hc55 => ?_) (fun hc55 => ?_)
        · rw [if_t hc55] at hm1
          simp only [cw_skip, qblock_normal, qseq_normal]
          refine hK54 _ _ ?_
          refine cw_seq_k fun K56 hK56 => ?_
          simp only [cw_block]
          obtain ⟨x59, h_x59, hm1⟩ := bind_get hm1
          have h_x590 := get_nn h_x59
          have h_x591 := get_lt h_x59
          obtain ⟨q60, h_q60, hm1⟩ := bind_get hm1
          refine cw_reg_seq fun K hK => ?_
          simp only [go_sem, s1, s3, ielem_get h_x59, irow_get h_x59, h_x590, h_x591, ibin_shl h_q60]
          refine icall_fn (k_r03_within x59 0 (wr (q60 - 1))) ?_
          simp only [go_sem, s1, s3, ielem_get h_x59, irow_get h_x59, h_x590, h_x591, ibin_shl h_q60]
          refine hK _ _ ?_
          clear hK K
          simp only [go_sem]
          refine ibr_intro (fun hc61 => ?_) (fun hc61 => ?_)
          · rw [if_t hc61] at hm1
            refine cw_reg_seq fun K hK => ?_
            simp only [go_sem]
            refine hK _ _ ?_
            clear hK K
            simp only [cw_ret, qseq_ret, qblock_ret, retQ_ret]
            obtain rfl := Option.some.inj hm1
            obtain rfl := hb53 _ rfl
            try dsimp only at hm0
            obtain rfl := Option.some.inj hm0
            exact done_t (by simp only [go_sem, List.length_append, List.map_append]) (frz_v _)
          · rw [if_f hc61] at hm1
            simp only [cw_skip, qblock_normal, qseq_normal]
            refine hK56 _ _ ?_
            refine cw_reg_k fun K hK => ?_
            simp only [go_sem, s3]
            refine hK _ _ ?_
            clear hK K
            simp only [qblock_normal, qseq_normal]
            obtain rfl := Option.some.inj hm1
            refine ⟨_, rfl, ?_⟩
            exact ⟨s1, (by first | rfl | exact s3 | simp only [go_sem, s3, List.length_append, List.map_append])⟩
        · rw [if_f hc55] at hm1
          simp only [cw_exit, qseq_exit, qblock_same, qblock_ne, qblock_normal, qseq_normal, Nat.reduceEqDiff, not_false_eq_true]
          obtain rfl := Option.some.inj hm1
          obtain rfl := hb53 _ rfl
          try dsimp only at hm0
          exact J6  _ _ s1 hm0

end Go.Nw.DM

namespace Go.Nw.DM
open Go.Nw.Door
set_option linter.unusedSimpArgs false
set_option linter.unusedVariables false
variable {O : Orac}

theorem k_slices_Contains___bool_bool_ (hf : Has O "slices.Contains[[]bool,bool]" x_slices_Contains___bool_bool_) (k_slices_Index___bool_bool_ : C_slices_Index___bool_bool_ O) : C_slices_Contains___bool_bool_ O := by
  intro s v r hm0
  unfold slices_Contains___bool_bool_ at hm0
  refine fn_cw hf rfl (fz_cons (frz_fs fun a _ => fz_eB a) (fz_cons (frz_v _) fz_nil)) (frz_v _) ?_
  refine cw_start (fun t h => t 0 = .fs 1 (List.map eB s) ∧ t 1 = B v) ⟨rfl, rfl⟩ fun t h ⟨s0, s1⟩ => ?_
  simp only [x_slices_Contains___bool_bool_]
  refine cw_reg_seq fun K hK => ?_
  simp only [go_sem]
  refine hK _ _ ?_
  clear hK K
  obtain ⟨y2, h_y2, hm0⟩ := bind_get hm0
  refine cw_reg_seq fun K hK => ?_
  simp only [go_sem, s0, s1]
  refine icall_fn (k_slices_Index___bool_bool_ s v _ h_y2) ?_
  simp only [go_sem, s0, s1]
  refine hK _ _ ?_
  clear hK K
  simp only [cw_ret, qseq_ret, qblock_ret, retQ_ret]
  obtain rfl := Option.some.inj hm0
  exact done_t (by simp only [go_sem, List.length_append, List.map_append]) (frz_v _)

end Go.Nw.DM

namespace Go.Nw.DM
open Go.Nw.Door
set_option linter.unusedSimpArgs false
set_option linter.unusedVariables false
variable {O : Orac}

theorem k_slices_Contains___int_int_ (hf : Has O "slices.Contains[[]int,int]" x_slices_Contains___int_int_) (k_slices_Index___int_int_ : C_slices_Index___int_int_ O) : C_slices_Contains___int_int_ O := by
  intro s v r hm0
  unfold slices_Contains___int_int_ at hm0
  refine fn_cw hf rfl (fz_cons (frz_fs fun a _ => fz_eI a) (fz_cons (frz_v _) fz_nil)) (frz_v _) ?_
  refine cw_start (fun t h => t 0 = .fs 1 (List.map eI s) ∧ t 1 = I v) ⟨rfl, rfl⟩ fun t h ⟨s0, s1⟩ => ?_
  simp only [x_slices_Contains___int_int_]
  refine cw_reg_seq fun K hK => ?_
  simp only [go_sem]
  refine hK _ _ ?_
  clear hK K
  obtain ⟨y2, h_y2, hm0⟩ := bind_get hm0
  refine cw_reg_seq fun K hK => ?_
  simp only [go_sem, s0, s1]
  refine icall_fn (k_slices_Index___int_int_ s v _ h_y2) ?_
  simp only [go_sem, s0, s1]
  refine hK _ _ ?_
  clear hK K
  simp only [cw_ret, qseq_ret, qblock_ret, retQ_ret]
  obtain rfl := Option.some.inj hm0
  exact done_t (by simp only [go_sem, List.length_append, List.map_append]) (frz_v _)

end Go.Nw.DM

namespace Go.Nw.DM
open Go.Nw.Door
set_option linter.unusedSimpArgs false
set_option linter.unusedVariables false
variable {O : Orac}

theorem k_slices_IndexFunc___int_int_ (hf : Has O "slices.IndexFunc[[]int,int]" x_slices_IndexFunc___int_int_) : C_slices_IndexFunc___int_int_ O := by
  intro s f_n f_a f_b f f_z f_h r hm0
  unfold slices_IndexFunc___int_int_ at hm0
  refine fn_cw hf rfl (fz_cons (frz_fs fun a _ => fz_eI a) (fz_cons f_z fz_nil)) (frz_v _) ?_
  refine cw_start (fun t h => t 0 = .fs 1 (List.map eI s) ∧ t 1 = .fn f_n f_a f_b) ⟨rfl, rfl⟩ fun t h ⟨s0, s1⟩ => ?_
  simp only [x_slices_IndexFunc___int_int_]
  refine cw_reg_seq fun K hK => ?_
  simp only [go_sem]
  refine hK _ _ ?_
  clear hK K
  refine cw_assoc ?_
  refine cw_reg_seq fun K hK => ?_
  simp only [go_sem, s0]
  refine hK _ _ ?_
  clear hK K
  refine cw_seq_k fun K1 hK1 => ?_
  have J2 : ∀ (t : Slots) (h : Heap), slices_IndexFunc___int_int__j2 = some r → K1 t h := by
    intro t h hm0
    refine hK1 _ _ ?_
    unfold slices_IndexFunc___int_int__j2 at hm0
    refine cw_reg_seq fun K hK => ?_
    simp only [go_sem]
    refine hK _ _ ?_
    clear hK K
    simp only [cw_ret, qseq_ret, qblock_ret, retQ_ret]
    obtain rfl := Option.some.inj hm0
    exact done_t (by simp only [go_sem, List.length_append, List.map_append]) (frz_v _)
  simp only [cw_block]
  obtain ⟨b3, hl3, hm0⟩ := bind_get hm0
  refine cw_loopM hl3 (fun | x_8, t, h => t 0 = .fs 1 (List.map eI s) ∧ t 1 = .fn f_n f_a f_b ∧ t 7 = I (List.length s : Int) ∧ t 8 = I x_8) ?_ ?_
  · exact ⟨s0, s1, (by first | rfl | simp only [go_sem, List.length_append, List.map_append]), (by first | rfl | simp only [go_sem, List.length_append, List.map_append])⟩
  · rintro x_8 o t h ⟨s0, s1, s7, s8⟩ hm1 hb3
    simp only [slices_IndexFunc___int_int__L7] at hm1
    rw [x_slices_IndexFunc___int_int__L7]
    refine cw_reg_seq fun K hK => ?_
    simp only [go_sem, s7, s8]
    refine hK _ _ ?_
    clear hK K
    refine cw_seq_k fun K4 hK4 => ?_
    simp only [go_sem]
    refine ibr_intro (fun hc5 => ?_) (fun hc5 => ?_)
    · rw [if_t hc5] at hm1
      simp only [cw_skip, qblock_normal, qseq_normal]
      refine hK4 _ _ ?_
      refine cw_seq_k fun K6 hK6 => ?_
      simp only [cw_block]
      refine cw_reg_seq fun K hK => ?_
      simp only [go_sem, s8]
      refine hK _ _ ?_
      clear hK K
      obtain ⟨x9, h_x9, hm1⟩ := bind_get hm1
      have h_x90 := get_nn h_x9
      have h_x91 := get_lt h_x9
      obtain ⟨y10, h_y10, hm1⟩ := bind_get hm1
      refine cw_reg_seq fun K hK => ?_
      simp only [go_sem, s0, s1, ielem_get h_x9, irow_get h_x9, h_x90, h_x91]
      refine icallv_fn (f_h x9 _ h_y10) ?_
      simp only [go_sem, s0, s1, ielem_get h_x9, irow_get h_x9, h_x90, h_x91]
      refine hK _ _ ?_
      clear hK K
      simp only [go_sem]
      refine ibr_intro (fun hc11 => ?_) (fun hc11 => ?_)
      · rw [if_t hc11] at hm1
        refine cw_reg_seq fun K hK => ?_
        simp only [go_sem]
        refine hK _ _ ?_
        clear hK K
        simp only [cw_ret, qseq_ret, qblock_ret, retQ_ret]
        obtain rfl := Option.some.inj hm1
        obtain rfl := hb3 _ rfl
        try dsimp only at hm0
        obtain rfl := Option.some.inj hm0
        exact done_t (by simp only [go_sem, List.length_append, List.map_append]) (frz_v _)
      · rw [if_f hc11] at hm1
        simp only [cw_skip, qblock_normal, qseq_normal]
        refine hK6 _ _ ?_
        refine cw_reg_k fun K hK => ?_
        simp only [go_sem, s8]
        refine hK _ _ ?_
        clear hK K
        simp only [qblock_normal, qseq_normal]
        obtain rfl := Option.some.inj hm1
        refine ⟨_, rfl, ?_⟩
        exact ⟨s0, s1, s7, (by first | rfl | exact s8 | simp only [go_sem, s8, List.length_append, List.map_append])⟩
    · rw [if_f hc5] at hm1
      simp only [cw_exit, qseq_exit, qblock_same, qblock_ne, qblock_normal, qseq_normal, Nat.reduceEqDiff, not_false_eq_true]
      obtain rfl := Option.some.inj hm1
      obtain rfl := hb3 _ rfl
      try dsimp only at hm0
      exact J2  _ _  hm0

end Go.Nw.DM

namespace Go.Nw.DM
open Go.Nw.Door
set_option linter.unusedSimpArgs false
set_option linter.unusedVariables false
variable {O : Orac}

theorem k_slices_Index___bool_bool_ (hf : Has O "slices.Index[[]bool,bool]" x_slices_Index___bool_bool_) : C_slices_Index___bool_bool_ O := by
  intro s v r hm0
  unfold slices_Index___bool_bool_ at hm0
  refine fn_cw hf rfl (fz_cons (frz_fs fun a _ => fz_eB a) (fz_cons (frz_v _) fz_nil)) (frz_v _) ?_
  refine cw_start (fun t h => t 0 = .fs 1 (List.map eB s) ∧ t 1 = B v) ⟨rfl, rfl⟩ fun t h ⟨s0, s1⟩ => ?_
  simp only [x_slices_Index___bool_bool_]
  refine cw_reg_seq fun K hK => ?_
  simp only [go_sem]
  refine hK _ _ ?_
  clear hK K
  refine cw_assoc ?_
  refine cw_reg_seq fun K hK => ?_
  simp only [go_sem, s0]
  refine hK _ _ ?_
  clear hK K
  refine cw_seq_k fun K1 hK1 => ?_
  have J2 : ∀ (t : Slots) (h : Heap), slices_Index___bool_bool__j2 = some r → K1 t h := by
    intro t h hm0
    refine hK1 _ _ ?_
    unfold slices_Index___bool_bool__j2 at hm0
    refine cw_reg_seq fun K hK => ?_
    simp only [go_sem]
    refine hK _ _ ?_
    clear hK K
    simp only [cw_ret, qseq_ret, qblock_ret, retQ_ret]
    obtain rfl := Option.some.inj hm0
    exact done_t (by simp only [go_sem, List.length_append, List.map_append]) (frz_v _)
  simp only [cw_block]
  obtain ⟨b3, hl3, hm0⟩ := bind_get hm0
  refine cw_loopM hl3 (fun | x_8, t, h => t 0 = .fs 1 (List.map eB s) ∧ t 1 = B v ∧ t 7 = I (List.length s : Int) ∧ t 8 = I x_8) ?_ ?_
  · exact ⟨s0, s1, (by first | rfl | simp only [go_sem, List.length_append, List.map_append]), (by first | rfl | simp only [go_sem, List.length_append, List.map_append])⟩
  · rintro x_8 o t h ⟨s0, s1, s7, s8⟩ hm1 hb3
    simp only [slices_Index___bool_bool__L7] at hm1
    rw [x_slices_Index___bool_bool__L7]
    refine cw_reg_seq fun K hK => ?_
    simp only [go_sem, s7, s8]
    refine hK _ _ ?_
    clear hK K
    refine cw_seq_k fun K4 hK4 => ?_
    simp only [go_sem]
    refine ibr_intro (fun hc5 => ?_) (fun hc5 => ?_)
    · rw [if_t hc5] at hm1
      simp only [cw_skip, qblock_normal, qseq_normal]
      refine hK4 _ _ ?_
      refine cw_seq_k fun K6 hK6 => ?_
      simp only [cw_block]
      refine cw_reg_seq fun K hK => ?_
      simp only [go_sem, s8]
      refine hK _ _ ?_
      clear hK K
      obtain ⟨x8, h_x8, hm1⟩ := bind_get hm1
      have h_x80 := get_nn h_x8
      have h_x81 := get_lt h_x8
      refine cw_reg_seq fun K hK => ?_
      simp only [go_sem, s0, s1, ielem_get h_x8, irow_get h_x8, h_x80, h_x81]
      refine hK _ _ ?_
      clear hK K
      simp only [go_sem]
      refine ibr_intro (fun hc9 => ?_) (fun hc9 => ?_)
      · rw [if_t hc9] at hm1
        refine cw_reg_seq fun K hK => ?_
        simp only [go_sem]
        refine hK _ _ ?_
        clear hK K
        simp only [cw_ret, qseq_ret, qblock_ret, retQ_ret]
        obtain rfl := Option.some.inj hm1
        obtain rfl := hb3 _ rfl
        try dsimp only at hm0
        obtain rfl := Option.some.inj hm0
        exact done_t (by simp only [go_sem, List.length_append, List.map_append]) (frz_v _)
      · rw [if_f hc9] at hm1
        simp only [cw_skip, qblock_normal, qseq_normal]
        refine hK6 _ _ ?_
        refine cw_reg_k fun K hK => ?_
        simp only [go_sem, s8]
        refine hK _ _ ?_
        clear hK K
        simp only [qblock_normal, qseq_normal]
        obtain rfl := Option.some.inj hm1
        refine ⟨_, rfl, ?_⟩
        exact ⟨s0, s1, s7, (by first | rfl | exact s8 | simp only [go_sem, s8, List.length_append, List.map_append])⟩
    · rw [if_f hc5] at hm1
      simp only [cw_exit, qseq_exit, qblock_same, qblock_ne, qblock_normal, qseq_normal, Nat.reduceEqDiff, not_false_eq_true]
      obtain rfl := Option.some.inj hm1
      obtain rfl := hb3 _ rfl
      try dsimp only at hm0
      exact J2  _ _  hm0

end Go.Nw.DM

namespace Go.Nw.DM
open Go.Nw.Door
set_option linter.unusedSimpArgs false
set_option linter.unusedVariables false
variable {O : Orac}

theorem k_slices_Index___int_int_ (hf : Has O "slices.Index[[]int,int]" x_slices_Index___int_int_) : C_slices_Index___int_int_ O := by
  intro s v r hm0
  unfold slices_Index___int_int_ at hm0
  refine fn_cw hf rfl (fz_cons (frz_fs fun a _ => fz_eI a) (fz_cons (frz_v _) fz_nil)) (frz_v _) ?_
  refine cw_start (fun t h => t 0 = .fs 1 (List.map eI s) ∧ t 1 = I v) ⟨rfl, rfl⟩ fun t h ⟨s0, s1⟩ => ?_
  simp only [x_slices_Index___int_int_]
  refine cw_reg_seq fun K hK => ?_
  simp only [go_sem]
  refine hK _ _ ?_
  clear hK K
  refine cw_assoc ?_
  refine cw_reg_seq fun K hK => ?_
  simp only [go_sem, s0]
  refine hK _ _ ?_
  clear hK K
  refine cw_seq_k fun K1 hK1 => ?_
  have J2 : ∀ (t : Slots) (h : Heap), slices_Index___int_int__j2 = some r → K1 t h := by
    intro t h hm0
    refine hK1 _ _ ?_
    unfold slices_Index___int_int__j2 at hm0
    refine cw_reg_seq fun K hK => ?_
    simp only [go_sem]
    refine hK _ _ ?_
    clear hK K
    simp only [cw_ret, qseq_ret, qblock_ret, retQ_ret]
    obtain rfl := Option.some.inj hm0
    exact done_t (by simp only [go_sem, List.length_append, List.map_append]) (frz_v _)
  simp only [cw_block]
  obtain ⟨b3, hl3, hm0⟩ := bind_get hm0
  refine cw_loopM hl3 (fun | x_8, t, h => t 0 = .fs 1 (List.map eI s) ∧ t 1 = I v ∧ t 7 = I (List.length s : Int) ∧ t 8 = I x_8) ?_ ?_
  · exact ⟨s0, s1, (by first | rfl | simp only [go_sem, List.length_append, List.map_append]), (by first | rfl | simp only [go_sem, List.length_append, List.map_append])⟩
  · rintro x_8 o t h ⟨s0, s1, s7, s8⟩ hm1 hb3
    simp only [slices_Index___int_int__L7] at hm1
    rw [x_slices_Index___int_int__L7]
    refine cw_reg_seq fun K hK => ?_
    simp only [go_sem, s7, s8]
    refine hK _ _ ?_
    clear hK K
    refine cw_seq_k fun K4 hK4 => ?_
    simp only [go_sem]
    refine ibr_intro (fun hc5 => ?_) (fun hc5 => ?_)
    · rw [if_t hc5] at hm1
      simp only [cw_skip, qblock_normal, qseq_normal]
      refine hK4 _ _ ?_
      refine cw_seq_k fun K6 hK6 => ?_
      simp only [cw_block]
      refine cw_reg_seq fun K hK => ?_
      simp only [go_sem, s8]
      refine hK _ _ ?_
      clear hK K
      obtain ⟨x8, h_x8, hm1⟩ := bind_get hm1
      have h_x80 := get_nn h_x8
      have h_x81 := get_lt h_x8
      refine cw_reg_seq fun K hK => ?_
      simp only [go_sem, s0, s1, ielem_get h_x8, irow_get h_x8, h_x80, h_x81]
      refine hK _ _ ?_
      clear hK K
      simp only [go_sem]
      refine ibr_intro (fun hc9 => ?_) (fun hc9 => ?_)
      · rw [if_t hc9] at hm1
        refine cw_reg_seq fun K hK => ?_
        simp only [go_sem]
        refine hK _ _ ?_
        clear hK K
        simp only [cw_ret, qseq_ret, qblock_ret, retQ_ret]
        obtain rfl := Option.some.inj hm1
        obtain rfl := hb3 _ rfl
        try dsimp only at hm0
        obtain rfl := Option.some.inj hm0
        exact done_t (by simp only [go_sem, List.length_append, List.map_append]) (frz_v _)
      · rw [if_f hc9] at hm1
        simp only [cw_skip, qblock_normal, qseq_normal]
        refine hK6 _ _ ?_
        refine cw_reg_k fun K hK => ?_
        simp only [go_sem, s8]
        refine hK _ _ ?_
        clear hK K
        simp only [qblock_normal, qseq_normal]
        obtain rfl := Option.some.inj hm1
        refine ⟨_, rfl, ?_⟩
        exact ⟨s0, s1, s7, (by first | rfl | exact s8 | simp only [go_sem, s8, List.length_append, List.map_append])⟩
    · rw [if_f hc5] at hm1
      simp only [cw_exit, qseq_exit, qblock_same, qblock_ne, qblock_normal, qseq_normal, Nat.reduceEqDiff, not_false_eq_true]
      obtain rfl := Option.some.inj hm1
      obtain rfl := hb3 _ rfl
      try dsimp only at hm0
      exact J2  _ _  hm0

end Go.Nw.DM
