/- That the texts make what their models say: printed by a program. -/
import Derived.Test.YtmlhjobmpjpmnaaCM
set_option linter.all false
set_option linter.unusedVariables false
set_option linter.unusedSimpArgs false
set_option linter.unusedSectionVars false
namespace Go.Nw.CM
open Go.Nw.Circ
set_option linter.unusedSimpArgs false
set_option linter.unusedVariables false
variable {O : Orac}

theorem k_r03_Check (hf : Has O "newel/newelref03.Check" x_r03_Check) (k_r03_within : C_r03_within O) : C_r03_Check O := by
  intro c r hm0
  unfold r03_Check at hm0
  refine fn_cw hf rfl (fz_cons (.agg _ (fz_cons (frz_v _) (fz_cons (frz_fs fun a _ => fz_eI a) (fz_cons (frz_fs fun a _ => fz_eWire a) fz_nil)))) fz_nil) (frz_v _) ?_
  refine cw_start (fun t h => t 0 = .agg [I c.Hazards, .fs 1 (List.map eI c.Switches), .fs 2 (List.map eWire c.Wires)]) rfl fun t h s0 => ?_
  simp only [x_r03_Check]
  refine cw_reg_seq fun K hK => ?_
  simp only [go_sem, s0]
  refine hK _ _ ?_
  clear hK K
  refine cw_assoc ?_
  refine cw_reg_postK (fun t h => t 1 = .fp [I c.Hazards, .fs 1 (List.map eI c.Switches), .fs 2 (List.map eWire c.Wires)] 0 ∧ t 27 = B (((!(r03_within c.Hazards 1 8)) || (!(r03_within (List.length c.Switches : Int) 1 12))) || (!(r03_within (List.length c.Wires : Int) 1 24)))) (fun K hK => ?_) ?_
  · simp only [go_sem]
    refine icall_fn (k_r03_within c.Hazards 1 8) ?_
    simp only [go_sem]
    refine ibr_intro (fun hg1 => ?_) (fun hg1 => ?_)
    · simp only [go_sem, hg1]
      exact hK _ _ ⟨(by first | rfl | simp only [go_sem, hg1, List.length_append, List.map_append]), (by first | rfl | simp only [go_sem, hg1, List.length_append, List.map_append])⟩
    · simp only [go_sem, hg1]
      refine icall_fn (k_r03_within (List.length c.Switches : Int) 1 12) ?_
      simp only [go_sem, hg1]
      refine ibr_intro (fun hg2 => ?_) (fun hg2 => ?_)
      · simp only [go_sem, hg1, hg2]
        exact hK _ _ ⟨(by first | rfl | simp only [go_sem, hg1, hg2, List.length_append, List.map_append]), (by first | rfl | simp only [go_sem, hg1, hg2, List.length_append, List.map_append])⟩
      · simp only [go_sem, hg1, hg2]
        refine icall_fn (k_r03_within (List.length c.Wires : Int) 1 24) ?_
        simp only [go_sem, hg1, hg2]
        exact hK _ _ ⟨(by first | rfl | simp only [go_sem, hg1, hg2, List.length_append, List.map_append]), (by first | rfl | simp only [go_sem, hg1, hg2, List.length_append, List.map_append])⟩
  · rintro t h ⟨s1, s27⟩
    refine cw_seq_k fun K3 hK3 => ?_
    simp only [go_sem, s27]
    refine ibr_intro (fun hc4 => ?_) (fun hc4 => ?_)
    · rw [if_t hc4] at hm0
      refine cw_reg_seq fun K hK => ?_
      simp only [go_sem]
      refine hK _ _ ?_
      clear hK K
      simp only [cw_ret, qseq_ret, qblock_ret, retQ_ret]
      obtain rfl := Option.some.inj hm0
      exact done_t (by simp only [go_sem, List.length_append, List.map_append]) (frz_v _)
    · rw [if_f hc4] at hm0
      simp only [cw_skip, qblock_normal, qseq_normal]
      refine hK3 _ _ ?_
      refine cw_assoc ?_
      refine cw_reg_seq fun K hK => ?_
      simp only [go_sem]
      refine hK _ _ ?_
      clear hK K
      refine cw_seq_k fun K5 hK5 => ?_
      have J6 : ∀ (t : Slots) (h : Heap), t 1 = .fp [I c.Hazards, .fs 1 (List.map eI c.Switches), .fs 2 (List.map eWire c.Wires)] 0 → r03_Check_j6 c = some r → K5 t h := by
        intro t h s1 hm0
        refine hK5 _ _ ?_
        unfold r03_Check_j6 at hm0
        obtain ⟨l8, h_l8, hm0⟩ := bind_get hm0
        refine cw_reg_seq fun K hK => ?_
        simp only [go_sem, s1]
        refine imksl_ok (f := eI) (z := 0) rfl h_l8 ?_
        simp only [go_sem, s1]
        refine hK _ _ ?_
        clear hK K
        refine cw_assoc ?_
        refine cw_reg_seq fun K hK => ?_
        simp only [go_sem]
        refine hK _ _ ?_
        clear hK K
        refine cw_seq_k fun K9 hK9 => ?_
        have J10 : ∀ (used_4 : List Int) (i4 : Nat) (t : Slots) (h : Heap), t 4 = .rs i4 0 (List.length used_4) → h.ob i4 = some (1, List.map eI used_4) → i4 < h.nx → r03_Check_j10 used_4 = some r → K9 t h := by
          intro used_4 i4 t h s4 ob_o4 lt_o4 hm0
          refine hK9 _ _ ?_
          unfold r03_Check_j10 at hm0
          refine cw_assoc ?_
          refine cw_reg_seq fun K hK => ?_
          simp only [go_sem, lt_o4]
          refine hK _ _ ?_
          clear hK K
          refine cw_seq_k fun K11 hK11 => ?_
          have J12 : ∀ (t : Slots) (h : Heap), r03_Check_j12 = some r → K11 t h := by
            intro t h hm0
            refine hK11 _ _ ?_
            unfold r03_Check_j12 at hm0
            refine cw_reg_seq fun K hK => ?_
            simp only [go_sem]
            refine hK _ _ ?_
            clear hK K
            simp only [cw_ret, qseq_ret, qblock_ret, retQ_ret]
            obtain rfl := Option.some.inj hm0
            exact done_t (by simp only [go_sem, List.length_append, List.map_append]) (frz_v _)
          simp only [cw_block]
          obtain ⟨b13, hl13, hm0⟩ := bind_get hm0
          refine cw_loopM hl13 (fun | i_9, t, h => t 4 = .rs i4 0 (List.length used_4) ∧ t 9 = I i_9 ∧ h.ob i4 = some (1, List.map eI used_4) ∧ i4 < h.nx) ?_ ?_
          · exact ⟨(by first | exact s4 | simp only [go_sem, s4, List.length_append, List.map_append]), (by first | rfl | simp only [go_sem, List.length_append, List.map_append]), ob_o4, lt_o4⟩
          · rintro i_9 o t h ⟨s4, s9, ob_o4, lt_o4⟩ hm1 hb13
            simp only [r03_Check_L38] at hm1
            rw [x_r03_Check_L38]
            refine cw_assoc ?_
            refine cw_reg_seq fun K hK => ?_
            simp only [go_sem, s4, s9, ob_o4, lt_o4]
            refine hK _ _ ?_
            clear hK K
            refine cw_seq_k fun K14 hK14 => ?_
            simp only [go_sem]
            refine ibr_intro (fun hc15 => ?_) (fun hc15 => ?_)
            · rw [if_t hc15] at hm1
              simp only [cw_skip, qblock_normal, qseq_normal]
              refine hK14 _ _ ?_
              refine cw_seq_k fun K16 hK16 => ?_
              simp only [cw_block]
              obtain ⟨x18, h_x18, hm1⟩ := bind_get hm1
              have h_x180 := get_nn h_x18
              have h_x181 := get_lt h_x18
              refine cw_reg_seq fun K hK => ?_
              simp only [go_sem, s4, s9, ob_o4, lt_o4, ielem_get h_x18, irow_get h_x18, h_x180, h_x181]
              refine hK _ _ ?_
              clear hK K
              simp only [go_sem]
              refine ibr_intro (fun hc19 => ?_) (fun hc19 => ?_)
              · rw [if_t hc19] at hm1
                refine cw_reg_seq fun K hK => ?_
                simp only [go_sem, lt_o4]
                refine hK _ _ ?_
                clear hK K
                simp only [cw_ret, qseq_ret, qblock_ret, retQ_ret]
                obtain rfl := Option.some.inj hm1
                obtain rfl := hb13 _ rfl
                try dsimp only at hm0
                obtain rfl := Option.some.inj hm0
                exact done_t (by simp only [go_sem, ob_o4, lt_o4, List.length_append, List.map_append]) (frz_v _)
              · rw [if_f hc19] at hm1
                simp only [cw_skip, qblock_normal, qseq_normal]
                refine hK16 _ _ ?_
                refine cw_reg_k fun K hK => ?_
                simp only [go_sem, s9, lt_o4]
                refine hK _ _ ?_
                clear hK K
                simp only [qblock_normal, qseq_normal]
                obtain rfl := Option.some.inj hm1
                refine ⟨_, rfl, ?_⟩
                exact ⟨(by first | exact s4 | simp only [go_sem, s4, List.length_append, List.map_append]), (by first | rfl | exact s9 | simp only [go_sem, s9, List.length_append, List.map_append]), ob_o4, lt_o4⟩
            · rw [if_f hc15] at hm1
              simp only [cw_exit, qseq_exit, qblock_same, qblock_ne, qblock_normal, qseq_normal, Nat.reduceEqDiff, not_false_eq_true]
              obtain rfl := Option.some.inj hm1
              obtain rfl := hb13 _ rfl
              try dsimp only at hm0
              exact J12  _ _  hm0
        simp only [cw_block]
        obtain ⟨b21, hl21, hm0⟩ := bind_get hm0
        refine cw_loopM hl21 (fun | (used_4, i_5), t, h => ∃ i4 : Nat, t 1 = .fp [I c.Hazards, .fs 1 (List.map eI c.Switches), .fs 2 (List.map eWire c.Wires)] 0 ∧ t 4 = .rs i4 0 (List.length used_4) ∧ t 5 = I i_5 ∧ h.ob i4 = some (1, List.map eI used_4) ∧ i4 < h.nx) ?_ ?_
        · exact ⟨h.nx, s1, (by first | rfl | simp only [go_sem, List.length_append, List.map_append]), (by first | rfl | simp only [go_sem, List.length_append, List.map_append]), (by simp only [go_sem, List.length_append, List.map_append]), (by simp only [go_sem])⟩
        · rintro ⟨used_4, i_5⟩ o t h ⟨i4, s1, s4, s5, ob_o4, lt_o4⟩ hm1 hb21
          simp only [r03_Check_L32] at hm1
          rw [x_r03_Check_L32]
          refine cw_assoc ?_
          refine cw_reg_seq fun K hK => ?_
          simp only [go_sem, s1, s5, lt_o4]
          refine hK _ _ ?_
          clear hK K
          refine cw_seq_k fun K22 hK22 => ?_
          simp only [go_sem]
          refine ibr_intro (fun hc23 => ?_) (fun hc23 => ?_)
          · rw [if_t hc23] at hm1
            simp only [cw_skip, qblock_normal, qseq_normal]
            refine hK22 _ _ ?_
            refine cw_seq_k fun K24 hK24 => ?_
            have J25 : ∀ (used_4_1 : List Int) (t : Slots) (h : Heap), t 1 = .fp [I c.Hazards, .fs 1 (List.map eI c.Switches), .fs 2 (List.map eWire c.Wires)] 0 → t 4 = .rs i4 0 (List.length used_4_1) → t 5 = I i_5 → h.ob i4 = some (1, List.map eI used_4_1) → i4 < h.nx → r03_Check_j25 i_5 used_4_1 = some o → K24 t h := by
              intro used_4_1 t h s1 s4 s5 ob_o4 lt_o4 hm1
              refine hK24 _ _ ?_
              unfold r03_Check_j25 at hm1
              refine cw_reg_k fun K hK => ?_
              simp only [go_sem, s5, lt_o4]
              refine hK _ _ ?_
              clear hK K
              simp only [qblock_normal, qseq_normal]
              obtain rfl := Option.some.inj hm1
              refine ⟨_, rfl, ?_⟩
              exact ⟨i4, s1, (by first | exact s4 | simp only [go_sem, s4, List.length_append, List.map_append]), (by first | rfl | exact s5 | simp only [go_sem, s5, List.length_append, List.map_append]), ob_o4, lt_o4⟩
            simp only [cw_block]
            obtain ⟨x27, h_x27, hm1⟩ := bind_get hm1
            have h_x270 := get_nn h_x27
            have h_x271 := get_lt h_x27
            refine cw_reg_seq fun K hK => ?_
            simp only [go_sem, s1, s5, lt_o4, ielem_get h_x27, irow_get h_x27, h_x270, h_x271]
            refine hK _ _ ?_
            clear hK K
            refine cw_reg_seq fun K hK => ?_
            simp only [go_sem, lt_o4]
            refine hK _ _ ?_
            clear hK K
            simp only [cw_block]
            refine cw_reg_seq fun K hK => ?_
            simp only [go_sem, lt_o4]
            refine hK _ _ ?_
            clear hK K
            simp only [go_sem]
            refine ibr_intro (fun hc28 => ?_) (fun hc28 => ?_)
            · rw [if_t hc28] at hm1
              obtain ⟨c32, h_c32, hm1⟩ := bind_get hm1
              refine cw_reg_postK (fun t h => t 1 = .fp [I c.Hazards, .fs 1 (List.map eI c.Switches), .fs 2 (List.map eWire c.Wires)] 0 ∧ t 4 = .rs i4 0 (List.length used_4) ∧ t 5 = I i_5 ∧ t 82 = B c32 ∧ h.ob i4 = some (1, List.map eI used_4) ∧ i4 < h.nx) (fun K hK => ?_) ?_
              · simp only [go_sem, s1, lt_o4]
                refine ibr_intro (fun hg33 => ?_) (fun hg33 => ?_)
                · simp only [hg33, Bool.not_true, Bool.not_false, eq_self, if_true, if_false, Bool.true_or, Bool.or_true, Bool.false_or, Bool.or_false, Bool.true_and, Bool.and_true, Bool.false_and, Bool.and_false, Bool.false_eq_true] at h_c32
                  obtain rfl := Option.some.inj h_c32
                  simp only [go_sem, s1, lt_o4, hg33]
                  exact hK _ _ ⟨s1, (by first | exact s4 | simp only [go_sem, s4, List.length_append, List.map_append]), s5, (by first | rfl | simp only [go_sem, hg33, List.length_append, List.map_append]), (by simp only [go_sem, ob_o4, lt_o4, hg33, List.length_append, List.map_append]), (by simp only [go_sem, lt_o4])⟩
                · simp only [hg33, Bool.not_true, Bool.not_false, eq_self, if_true, if_false, Bool.true_or, Bool.or_true, Bool.false_or, Bool.or_false, Bool.true_and, Bool.and_true, Bool.false_and, Bool.and_false, Bool.false_eq_true] at h_c32
                  obtain ⟨x31, h_x31, h_c32⟩ := bind_get h_c32
                  have h_x310 := get_nn h_x31
                  have h_x311 := get_lt h_x31
                  obtain rfl := Option.some.inj h_c32
                  simp only [go_sem, s1, lt_o4, ielem_get h_x31, irow_get h_x31, h_x310, h_x311, hg33]
                  refine icall_fn (k_r03_within x31 0 (wr ((List.length c.Switches : Int) - 1))) ?_
                  simp only [go_sem, s1, lt_o4, ielem_get h_x31, irow_get h_x31, h_x310, h_x311, hg33]
                  exact hK _ _ ⟨s1, (by first | exact s4 | simp only [go_sem, s4, List.length_append, List.map_append]), s5, (by first | rfl | simp only [go_sem, hg33, List.length_append, List.map_append]), (by simp only [go_sem, ob_o4, lt_o4, hg33, List.length_append, List.map_append]), (by simp only [go_sem, lt_o4])⟩
              · rintro t h ⟨s1, s4, s5, s82, ob_o4, lt_o4⟩
                simp only [go_sem, s82]
                refine ibr_intro (fun hc34 => ?_) (fun hc34 => ?_)
                · rw [if_t hc34] at hm1
                  refine cw_reg_seq fun K hK => ?_
                  simp only [go_sem, lt_o4]
                  refine hK _ _ ?_
                  clear hK K
                  simp only [cw_ret, qseq_ret, qblock_ret, retQ_ret]
                  obtain rfl := Option.some.inj hm1
                  obtain rfl := hb21 _ rfl
                  try dsimp only at hm0
                  obtain rfl := Option.some.inj hm0
                  exact done_t (by simp only [go_sem, ob_o4, lt_o4, List.length_append, List.map_append]) (frz_v _)
                · rw [if_f hc34] at hm1
                  simp only [cw_skip, qblock_normal, qseq_normal]
                  exact J25 used_4 _ _ s1 (by first | exact s4 | simp only [go_sem, s4, List.length_append, List.map_append]) s5 ob_o4 lt_o4 hm1
            · rw [if_f hc28] at hm1
              refine cw_assoc ?_
              refine cw_reg_seq fun K hK => ?_
              simp only [go_sem, lt_o4]
              refine hK _ _ ?_
              clear hK K
              refine cw_seq_k fun K35 hK35 => ?_
              have J36 : ∀ (x_83 : Bool) (i6 : Nat) (t : Slots) (h : Heap), t 1 = .fp [I c.Hazards, .fs 1 (List.map eI c.Switches), .fs 2 (List.map eWire c.Wires)] 0 → t 4 = .rs i4 0 (List.length used_4) → t 5 = I i_5 → t 6 = .rp i6 0 0 → t 83 = B x_83 → h.ob i4 = some (1, List.map eI used_4) → i4 < h.nx → h.ob i6 = some (2, [[I x27.Kind, .fs 1 (List.map eI x27.Of)]]) → i6 < h.nx → ¬i4 = i6 → r03_Check_j36 c used_4 i_5 x27 x_83 = some o → K35 t h := by
                intro x_83 i6 t h s1 s4 s5 s6 s83 ob_o4 lt_o4 ob_o6 lt_o6 ne_o4_o6 hm1
                refine hK35 _ _ ?_
                unfold r03_Check_j36 at hm1
                simp only [go_sem, s83]
                refine ibr_intro (fun hc37 => ?_) (fun hc37 => ?_)
                · rw [if_t hc37] at hm1
                  refine cw_assoc ?_
                  refine cw_reg_seq fun K hK => ?_
                  simp only [go_sem, s6, ob_o6, lt_o6, lt_o4, ne_o4_o6, nsym ne_o4_o6]
                  refine icall_fn (k_r03_within (List.length x27.Of : Int) 1 8) ?_
                  simp only [go_sem, s6, ob_o6, lt_o6, lt_o4, ne_o4_o6, nsym ne_o4_o6]
                  refine hK _ _ ?_
                  clear hK K
                  refine cw_seq_k fun K38 hK38 => ?_
                  simp only [go_sem]
                  refine ibr_intro (fun hc39 => ?_) (fun hc39 => ?_)
                  · rw [if_t hc39] at hm1
                    refine cw_reg_seq fun K hK => ?_
                    simp only [go_sem, lt_o4, lt_o6]
                    refine hK _ _ ?_
                    clear hK K
                    simp only [cw_ret, qseq_ret, qblock_ret, retQ_ret]
                    obtain rfl := Option.some.inj hm1
                    obtain rfl := hb21 _ rfl
                    try dsimp only at hm0
                    obtain rfl := Option.some.inj hm0
                    exact done_t (by simp only [go_sem, ob_o4, lt_o4, ob_o6, lt_o6, ne_o4_o6, nsym ne_o4_o6, List.length_append, List.map_append]) (frz_v _)
                  · rw [if_f hc39] at hm1
                    simp only [cw_skip, qblock_normal, qseq_normal]
                    refine hK38 _ _ ?_
                    refine cw_reg_seq fun K hK => ?_
                    simp only [go_sem, s5, lt_o4, lt_o6]
                    refine hK _ _ ?_
                    clear hK K
                    refine cw_reg_seq fun K hK => ?_
                    simp only [go_sem, lt_o4, lt_o6]
                    refine hK _ _ ?_
                    clear hK K
                    simp only [cw_block]
                    obtain ⟨b40, hl40, hm1⟩ := bind_get hm1
                    refine cw_loopM hl40 (fun | (used_4_1, last_7, k_8), t, h => t 1 = .fp [I c.Hazards, .fs 1 (List.map eI c.Switches), .fs 2 (List.map eWire c.Wires)] 0 ∧ t 4 = .rs i4 0 (List.length used_4_1) ∧ t 5 = I i_5 ∧ t 6 = .rp i6 0 0 ∧ t 7 = I last_7 ∧ t 8 = I k_8 ∧ h.ob i4 = some (1, List.map eI used_4_1) ∧ i4 < h.nx ∧ h.ob i6 = some (2, [[I x27.Kind, .fs 1 (List.map eI x27.Of)]]) ∧ i6 < h.nx ∧ ¬i4 = i6) ?_ ?_
                    · exact ⟨s1, (by first | exact s4 | simp only [go_sem, s4, List.length_append, List.map_append]), s5, s6, (by first | rfl | simp only [go_sem, List.length_append, List.map_append]), (by first | rfl | simp only [go_sem, List.length_append, List.map_append]), ob_o4, lt_o4, ob_o6, lt_o6, (by omega)⟩
                    · rintro ⟨used_4_1, last_7, k_8⟩ o t h ⟨s1, s4, s5, s6, s7, s8, ob_o4, lt_o4, ob_o6, lt_o6, ne_o4_o6⟩ hm2 hb40
                      simp only [r03_Check_L29] at hm2
                      rw [x_r03_Check_L29]
                      refine cw_assoc ?_
                      refine cw_reg_seq fun K hK => ?_
                      simp only [go_sem, s6, s8, ob_o6, lt_o6, lt_o4, ne_o4_o6, nsym ne_o4_o6]
                      refine hK _ _ ?_
                      clear hK K
                      refine cw_seq_k fun K41 hK41 => ?_
                      simp only [go_sem]
                      refine ibr_intro (fun hc42 => ?_) (fun hc42 => ?_)
                      · rw [if_t hc42] at hm2
                        simp only [cw_skip, qblock_normal, qseq_normal]
                        refine hK41 _ _ ?_
                        refine cw_seq_k fun K43 hK43 => ?_
                        simp only [cw_block]
                        refine cw_assoc ?_
                        obtain ⟨x45, h_x45, hm2⟩ := bind_get hm2
                        have h_x450 := get_nn h_x45
                        have h_x451 := get_lt h_x45
                        refine cw_reg_seq fun K hK => ?_
                        simp only [go_sem, s1, s6, s7, s8, ob_o6, lt_o6, lt_o4, ne_o4_o6, nsym ne_o4_o6, ielem_get h_x45, irow_get h_x45, h_x450, h_x451]
                        refine icall_fn (k_r03_within x45 (wr (last_7 + 1)) (wr ((List.length c.Wires : Int) - 1))) ?_
                        simp only [go_sem, s1, s6, s7, s8, ob_o6, lt_o6, lt_o4, ne_o4_o6, nsym ne_o4_o6, ielem_get h_x45, irow_get h_x45, h_x450, h_x451]
                        refine hK _ _ ?_
                        clear hK K
                        refine cw_seq_k fun K46 hK46 => ?_
                        simp only [go_sem]
                        refine ibr_intro (fun hc47 => ?_) (fun hc47 => ?_)
                        · rw [if_t hc47] at hm2
                          refine cw_reg_seq fun K hK => ?_
                          simp only [go_sem, lt_o4, lt_o6]
                          refine hK _ _ ?_
                          clear hK K
                          simp only [cw_ret, qseq_ret, qblock_ret, retQ_ret]
                          obtain rfl := Option.some.inj hm2
                          obtain rfl := hb40 _ rfl
                          try dsimp only at hm1
                          obtain rfl := Option.some.inj hm1
                          obtain rfl := hb21 _ rfl
                          try dsimp only at hm0
                          obtain rfl := Option.some.inj hm0
                          exact done_t (by simp only [go_sem, ob_o4, lt_o4, ob_o6, lt_o6, ne_o4_o6, nsym ne_o4_o6, List.length_append, List.map_append]) (frz_v _)
                        · rw [if_f hc47] at hm2
                          simp only [cw_skip, qblock_normal, qseq_normal]
                          refine hK46 _ _ ?_
                          refine cw_reg_seq fun K hK => ?_
                          simp only [go_sem, s6, s8, ob_o6, lt_o6, lt_o4, ne_o4_o6, nsym ne_o4_o6, ielem_get h_x45, irow_get h_x45, h_x450, h_x451]
                          refine hK _ _ ?_
                          clear hK K
                          obtain ⟨x49, h_x49, hm2⟩ := bind_get hm2
                          have h_x490 := get_nn h_x49
                          have h_x491 := get_lt h_x49
                          refine cw_reg_k fun K hK => ?_
                          simp only [go_sem, s4, s7, ob_o4, lt_o4, lt_o6, ne_o4_o6, nsym ne_o4_o6, ielem_get h_x49, irow_get h_x49, h_x490, h_x491]
                          refine hK _ _ ?_
                          clear hK K
                          simp only [qblock_normal, qseq_normal]
                          refine hK43 _ _ ?_
                          refine cw_reg_k fun K hK => ?_
                          simp only [go_sem, s8, lt_o4, lt_o6]
                          refine hK _ _ ?_
                          clear hK K
                          simp only [qblock_normal, qseq_normal]
                          obtain rfl := Option.some.inj hm2
                          refine ⟨_, rfl, ?_⟩
                          exact ⟨s1, (by first | exact s4 | simp only [go_sem, s4, List.length_append, List.map_append]), s5, s6, (by first | rfl | exact s7 | simp only [go_sem, s7, List.length_append, List.map_append]), (by first | rfl | exact s8 | simp only [go_sem, s8, List.length_append, List.map_append]), (by simp only [go_sem, ob_o4, lt_o4, ob_o6, lt_o6, ne_o4_o6, nsym ne_o4_o6, List.length_append, List.map_append]), (by simp only [go_sem, lt_o4, lt_o6]), (by simp only [go_sem, ob_o4, lt_o4, ob_o6, lt_o6, ne_o4_o6, nsym ne_o4_o6, List.length_append, List.map_append]), (by simp only [go_sem, lt_o4, lt_o6]), (by omega)⟩
                      · rw [if_f hc42] at hm2
                        simp only [cw_exit, qseq_exit, qblock_same, qblock_ne, qblock_normal, qseq_normal, Nat.reduceEqDiff, not_false_eq_true]
                        obtain rfl := Option.some.inj hm2
                        obtain rfl := hb40 _ rfl
                        try dsimp only at hm1
                        exact J25 used_4_1 _ _ s1 (by first | exact s4 | simp only [go_sem, s4, List.length_append, List.map_append]) s5 ob_o4 lt_o4 hm1
                · rw [if_f hc37] at hm1
                  refine cw_reg_seq fun K hK => ?_
                  simp only [go_sem, lt_o4, lt_o6]
                  refine hK _ _ ?_
                  clear hK K
                  simp only [cw_ret, qseq_ret, qblock_ret, retQ_ret]
                  obtain rfl := Option.some.inj hm1
                  obtain rfl := hb21 _ rfl
                  try dsimp only at hm0
                  obtain rfl := Option.some.inj hm0
                  exact done_t (by simp only [go_sem, ob_o4, lt_o4, ob_o6, lt_o6, ne_o4_o6, nsym ne_o4_o6, List.length_append, List.map_append]) (frz_v _)
              simp only [go_sem]
              refine ibr_intro (fun hc51 => ?_) (fun hc51 => ?_)
              · rw [if_t hc51] at hm1
                simp only [cw_skip, qblock_normal, qseq_normal]
                exact J36 (decide (x27.Kind = 2)) h.nx _ _ s1 (by first | exact s4 | simp only [go_sem, s4, List.length_append, List.map_append]) s5 (by first | rfl | simp only [go_sem, List.length_append, List.map_append]) (by first | rfl | simp only [go_sem, List.length_append, List.map_append]) (by simp only [go_sem, ob_o4, lt_o4, List.length_append, List.map_append]) (by simp only [go_sem, lt_o4]) (by simp only [go_sem, ob_o4, lt_o4, List.length_append, List.map_append]) (by simp only [go_sem, lt_o4]) (by omega) hm1
              · rw [if_f hc51] at hm1
                refine cw_reg_k fun K hK => ?_
                simp only [go_sem, lt_o4]
                refine hK _ _ ?_
                clear hK K
                simp only [qblock_normal, qseq_normal]
                exact J36 (decide (x27.Kind = 3)) h.nx _ _ s1 (by first | exact s4 | simp only [go_sem, s4, List.length_append, List.map_append]) s5 (by first | rfl | simp only [go_sem, List.length_append, List.map_append]) (by first | rfl | simp only [go_sem, List.length_append, List.map_append]) (by simp only [go_sem, ob_o4, lt_o4, List.length_append, List.map_append]) (by simp only [go_sem, lt_o4]) (by simp only [go_sem, ob_o4, lt_o4, List.length_append, List.map_append]) (by simp only [go_sem, lt_o4]) (by omega) hm1
          · rw [if_f hc23] at hm1
            simp only [cw_exit, qseq_exit, qblock_same, qblock_ne, qblock_normal, qseq_normal, Nat.reduceEqDiff, not_false_eq_true]
            obtain rfl := Option.some.inj hm1
            obtain rfl := hb21 _ rfl
            try dsimp only at hm0
            exact J10 used_4 i4 _ _ (by first | exact s4 | simp only [go_sem, s4, List.length_append, List.map_append]) ob_o4 lt_o4 hm0
      simp only [cw_block]
      obtain ⟨b53, hl53, hm0⟩ := bind_get hm0
      refine cw_loopM hl53 (fun | i_3, t, h => t 1 = .fp [I c.Hazards, .fs 1 (List.map eI c.Switches), .fs 2 (List.map eWire c.Wires)] 0 ∧ t 3 = I i_3) ?_ ?_
      · exact ⟨s1, (by first | rfl | simp only [go_sem, List.length_append, List.map_append])⟩
      · rintro i_3 o t h ⟨s1, s3⟩ hm1 hb53
        simp only [r03_Check_L8] at hm1
        rw [x_r03_Check_L8]
        refine cw_assoc ?_
        refine cw_reg_seq fun K hK => ?_
        simp only [go_sem, s1, s3]
        refine hK _ _ ?_
        clear hK K
        refine cw_seq_k fun K54 hK54 => ?_
        simp only [go_sem]
        refine ibr_intro (fun hc55 => ?_) (fun hc55 => ?_)
        · rw [if_t hc55] at hm1
          simp only [cw_skip, qblock_normal, qseq_normal]
          refine hK54 _ _ ?_
          refine cw_seq_k fun K56 hK56 => ?_
          simp only [cw_block]
          obtain ⟨x59, h_x59, hm1⟩ := bind_get hm1
          have h_x590 := get_nn h_x59
          have h_x591 := get_lt h_x59
          obtain ⟨q60, h_q60, hm1⟩ := bind_get hm1
          refine cw_reg_seq fun K hK => ?_
          simp only [go_sem, s1, s3, ielem_get h_x59, irow_get h_x59, h_x590, h_x591, ibin_shl h_q60]
          refine icall_fn (k_r03_within x59 0 (wr (q60 - 1))) ?_
          simp only [go_sem, s1, s3, ielem_get h_x59, irow_get h_x59, h_x590, h_x591, ibin_shl h_q60]
          refine hK _ _ ?_
          clear hK K
          simp only [go_sem]
          refine ibr_intro (fun hc61 => ?_) (fun hc61 => ?_)
          · rw [if_t hc61] at hm1
            refine cw_reg_seq fun K hK => ?_
            simp only [go_sem]
            refine hK _ _ ?_
            clear hK K
            simp only [cw_ret, qseq_ret, qblock_ret, retQ_ret]
            obtain rfl := Option.some.inj hm1
            obtain rfl := hb53 _ rfl
            try dsimp only at hm0
            obtain rfl := Option.some.inj hm0
            exact done_t (by simp only [go_sem, List.length_append, List.map_append]) (frz_v _)
          · rw [if_f hc61] at hm1
            simp only [cw_skip, qblock_normal, qseq_normal]
            refine hK56 _ _ ?_
            refine cw_reg_k fun K hK => ?_
            simp only [go_sem, s3]
            refine hK _ _ ?_
            clear hK K
            simp only [qblock_normal, qseq_normal]
            obtain rfl := Option.some.inj hm1
            refine ⟨_, rfl, ?_⟩
            exact ⟨s1, (by first | rfl | exact s3 | simp only [go_sem, s3, List.length_append, List.map_append])⟩
        · rw [if_f hc55] at hm1
          simp only [cw_exit, qseq_exit, qblock_same, qblock_ne, qblock_normal, qseq_normal, Nat.reduceEqDiff, not_false_eq_true]
          obtain rfl := Option.some.inj hm1
          obtain rfl := hb53 _ rfl
          try dsimp only at hm0
          exact J6  _ _ s1 hm0

end Go.Nw.CM

namespace Go.Nw.CM
open Go.Nw.Circ
set_option linter.unusedSimpArgs false
set_option linter.unusedVariables false
variable {O : Orac}

theorem k_r03_Play (hf : Has O "newel/newelref03.Play" x_r03_Play) (k_r03_CheckTrials : C_r03_CheckTrials O) (k_r03_ValidRota : C_r03_ValidRota O) (k_r03_ValidUpsets : C_r03_ValidUpsets O) (k_r03_Tells : C_r03_Tells O) (k_r03_conducts : C_r03_conducts O) : C_r03_Play O := by
  intro c l r_ u r hm0
  unfold r03_Play at hm0
  refine fn_cw hf rfl (fz_cons (.agg _ (fz_cons (frz_v _) (fz_cons (frz_fs fun a _ => fz_eI a) (fz_cons (frz_fs fun a _ => fz_eWire a) fz_nil)))) (fz_cons (frz_fs fun a _ => fz_eTrial a) (fz_cons (.agg _ (fz_cons (frz_fs fun a _ => fz_eL_I a) (fz_cons (frz_v _) fz_nil))) (fz_cons (frz_fs fun a _ => fz_eUpset a) fz_nil)))) (.tup _ (fz_cons (frz_fs fun a _ => fz_eI a) (fz_cons (frz_fs fun a _ => fz_eI a) (fz_cons (frz_v _) fz_nil)))) ?_
  refine cw_start (fun t h => t 0 = .agg [I c.Hazards, .fs 1 (List.map eI c.Switches), .fs 2 (List.map eWire c.Wires)] ∧ t 1 = .fs 2 (List.map eTrial l) ∧ t 2 = .agg [.fs 1 (List.map eL_I r_.Nights), I r_.Gap] ∧ t 3 = .fs 3 (List.map eUpset u)) ⟨rfl, rfl, rfl, rfl⟩ fun t h ⟨s0, s1, s2, s3⟩ => ?_
  simp only [x_r03_Play]
  refine cw_reg_seq fun K hK => ?_
  simp only [go_sem, s0, s2]
  refine hK _ _ ?_
  clear hK K
  refine cw_assoc ?_
  obtain ⟨y2, h_y2, hm0⟩ := bind_get hm0
  refine cw_reg_seq fun K hK => ?_
  simp only [go_sem, s1]
  refine icall_fn (k_r03_CheckTrials c l _ h_y2) ?_
  simp only [go_sem, s1]
  refine hK _ _ ?_
  clear hK K
  refine cw_assoc ?_
  refine cw_reg_seq fun K hK => ?_
  simp only [go_sem]
  refine hK _ _ ?_
  clear hK K
  refine cw_seq_k fun K3 hK3 => ?_
  simp only [go_sem]
  refine ibr_intro (fun hc4 => ?_) (fun hc4 => ?_)
  · rw [if_t hc4] at hm0
    refine cw_reg_seq fun K hK => ?_
    simp only [go_sem]
    refine hK _ _ ?_
    clear hK K
    simp only [cw_ret, qseq_ret, qblock_ret, retQ_ret]
    obtain rfl := Option.some.inj hm0
    exact done_fz3 (v := .v (.slice none 0 0)) (u := .v (.slice none 0 0)) (x := I y2) (by simp only [go_sem, List.length_append, List.map_append]) (by simp only [go_sem, List.length_append, List.map_append]) (by simp only [go_sem, List.length_append, List.map_append]) (.nil _) (.nil _) (.refl _ (frz_v _))
  · rw [if_f hc4] at hm0
    simp only [cw_skip, qblock_normal, qseq_normal]
    refine hK3 _ _ ?_
    refine cw_assoc ?_
    obtain ⟨y6, h_y6, hm0⟩ := bind_get hm0
    refine cw_reg_seq fun K hK => ?_
    simp only [go_sem, s1]
    refine icall_fn (k_r03_ValidRota r_ (List.length l : Int) _ h_y6) ?_
    simp only [go_sem, s1]
    refine hK _ _ ?_
    clear hK K
    refine cw_seq_k fun K7 hK7 => ?_
    simp only [go_sem]
    refine ibr_intro (fun hc8 => ?_) (fun hc8 => ?_)
    · rw [if_t hc8] at hm0
      refine cw_reg_seq fun K hK => ?_
      simp only [go_sem]
      refine hK _ _ ?_
      clear hK K
      simp only [cw_ret, qseq_ret, qblock_ret, retQ_ret]
      obtain rfl := Option.some.inj hm0
      exact done_fz3 (v := .v (.slice none 0 0)) (u := .v (.slice none 0 0)) (x := I 32) (by simp only [go_sem, List.length_append, List.map_append]) (by simp only [go_sem, List.length_append, List.map_append]) (by simp only [go_sem, List.length_append, List.map_append]) (.nil _) (.nil _) (.refl _ (frz_v _))
    · rw [if_f hc8] at hm0
      simp only [cw_skip, qblock_normal, qseq_normal]
      refine hK7 _ _ ?_
      refine cw_assoc ?_
      obtain ⟨y10, h_y10, hm0⟩ := bind_get hm0
      refine cw_reg_seq fun K hK => ?_
      simp only [go_sem, s3]
      refine icall_fn (k_r03_ValidUpsets c u _ h_y10) ?_
      simp only [go_sem, s3]
      refine hK _ _ ?_
      clear hK K
      refine cw_seq_k fun K11 hK11 => ?_
      simp only [go_sem]
      refine ibr_intro (fun hc12 => ?_) (fun hc12 => ?_)
      · rw [if_t hc12] at hm0
        refine cw_reg_seq fun K hK => ?_
        simp only [go_sem]
        refine hK _ _ ?_
        clear hK K
        simp only [cw_ret, qseq_ret, qblock_ret, retQ_ret]
        obtain rfl := Option.some.inj hm0
        exact done_fz3 (v := .v (.slice none 0 0)) (u := .v (.slice none 0 0)) (x := I 33) (by simp only [go_sem, List.length_append, List.map_append]) (by simp only [go_sem, List.length_append, List.map_append]) (by simp only [go_sem, List.length_append, List.map_append]) (.nil _) (.nil _) (.refl _ (frz_v _))
      · rw [if_f hc12] at hm0
        simp only [cw_skip, qblock_normal, qseq_normal]
        refine hK11 _ _ ?_
        refine cw_reg_seq fun K hK => ?_
        simp only [go_sem]
        refine hK _ _ ?_
        clear hK K
        refine cw_assoc ?_
        refine cw_reg_seq fun K hK => ?_
        simp only [go_sem]
        refine hK _ _ ?_
        clear hK K
        refine cw_seq_k fun K13 hK13 => ?_
        have J14 : ∀ (stuck_8 : List Int) (passed_9 : List Int) (v8 : AV) (v9 : AV) (t : Slots) (h : Heap), t 8 = v8 → t 9 = v9 → OwnS h v8 1 (List.map eI stuck_8) → OwnS h v9 1 (List.map eI passed_9) → (∀ j, ¬NotId v8 j → NotId v9 j) → r03_Play_j14 stuck_8 passed_9 = some r → K13 t h := by
          intro stuck_8 passed_9 v8 v9 t h s8 s9 ow_o8 ow_o9 di_o8_o9 hm0
          refine hK13 _ _ ?_
          unfold r03_Play_j14 at hm0
          refine cw_reg_seq fun K hK => ?_
          simp only [go_sem, s8, s9, istr_of v8, istr_of v9]
          refine hK _ _ ?_
          clear hK K
          simp only [cw_ret, qseq_ret, qblock_ret, retQ_ret]
          obtain rfl := Option.some.inj hm0
          exact done_fz3 (v := v8) (u := v9) (x := I 0) (by simp only [go_sem, s8, s9, List.length_append, List.map_append]) (by simp only [go_sem, s8, s9, List.length_append, List.map_append]) (by simp only [go_sem, s8, s9, List.length_append, List.map_append]) (fz_own (f := eI) (l := stuck_8) (own_later ow_o8 (by intro j hj hl; first | rfl | simp only [go_sem, hl, di_o8_o9 j hj]) (by first | omega | (simp only [go_sem, nxs]; omega))) fz_eI ln_eI) (fz_own (f := eI) (l := passed_9) (own_later ow_o9 (by intro j hj hl; first | rfl | simp only [go_sem, hl, di_sym di_o8_o9 j hj]) (by first | omega | (simp only [go_sem, nxs]; omega))) fz_eI ln_eI) (.refl _ (frz_v _))
        simp only [cw_block]
        obtain ⟨b15, hl15, hm0⟩ := bind_get hm0
        refine cw_loopM hl15 (fun | (stuck_8, passed_9, set_11, at_12, night_13), t, h => ∃ v8 : AV, ∃ v9 : AV, t 1 = .fs 2 (List.map eTrial l) ∧ t 3 = .fs 3 (List.map eUpset u) ∧ t 4 = .fp [I c.Hazards, .fs 1 (List.map eI c.Switches), .fs 2 (List.map eWire c.Wires)] 0 ∧ t 6 = .fp [.fs 1 (List.map eL_I r_.Nights), I r_.Gap] 0 ∧ t 8 = v8 ∧ t 9 = v9 ∧ t 11 = I set_11 ∧ t 12 = I at_12 ∧ t 13 = I night_13 ∧ OwnS h v8 1 (List.map eI stuck_8) ∧ OwnS h v9 1 (List.map eI passed_9) ∧ (∀ j, ¬NotId v8 j → NotId v9 j)) ?_ ?_
        · exact ⟨(.v (.slice none 0 0)), (.v (.slice none 0 0)), s1, s3, (by first | rfl | simp only [go_sem, List.length_append, List.map_append]), (by first | rfl | simp only [go_sem, List.length_append, List.map_append]), (by first | rfl | simp only [go_sem, List.length_append, List.map_append]), (by first | rfl | simp only [go_sem, List.length_append, List.map_append]), (by first | rfl | simp only [go_sem, List.length_append, List.map_append]), (by first | rfl | simp only [go_sem, List.length_append, List.map_append]), (by first | rfl | simp only [go_sem, List.length_append, List.map_append]), own_nil', own_nil', (by first | exact dis_nil_l | exact dis_nil_r | assumption | (refine dis_rs_l ?_; first | assumption | exact own_notid (by assumption) (by first | omega | (simp only [nxs]; omega))) | (refine nd_rs ?_; first | assumption | exact own_notid (by assumption) (by first | omega | (simp only [nxs]; omega))))⟩
        · rintro ⟨stuck_8, passed_9, set_11, at_12, night_13⟩ o t h ⟨v8, v9, s1, s3, s4, s6, s8, s9, s11, s12, s13, ow_o8, ow_o9, di_o8_o9⟩ hm1 hb15
          simp only [r03_Play_L31] at hm1
          rw [x_r03_Play_L31]
          refine cw_assoc ?_
          refine cw_reg_seq fun K hK => ?_
          simp only [go_sem, s3, s12, istr_of v8, istr_of v9]
          refine hK _ _ ?_
          clear hK K
          refine cw_seq_k fun K16 hK16 => ?_
          simp only [go_sem]
          refine ibr_intro (fun hc17 => ?_) (fun hc17 => ?_)
          · rw [if_t hc17] at hm1
            simp only [cw_skip, qblock_normal, qseq_normal]
            refine hK16 _ _ ?_
            refine cw_seq_k fun K18 hK18 => ?_
            have J19 : ∀ (stuck_8_1 : List Int) (passed_9_1 : List Int) (set_11_1 : Int) (at_12_1 : Int) (v8_1 : AV) (v9_1 : AV) (t : Slots) (h : Heap), t 1 = .fs 2 (List.map eTrial l) → t 3 = .fs 3 (List.map eUpset u) → t 4 = .fp [I c.Hazards, .fs 1 (List.map eI c.Switches), .fs 2 (List.map eWire c.Wires)] 0 → t 6 = .fp [.fs 1 (List.map eL_I r_.Nights), I r_.Gap] 0 → t 8 = v8_1 → t 9 = v9_1 → t 11 = I set_11_1 → t 12 = I at_12_1 → t 13 = I night_13 → OwnS h v8_1 1 (List.map eI stuck_8_1) → OwnS h v9_1 1 (List.map eI passed_9_1) → (∀ j, ¬NotId v8_1 j → NotId v9_1 j) → r03_Play_j19 night_13 stuck_8_1 passed_9_1 set_11_1 at_12_1 = some o → K18 t h := by
              intro stuck_8_1 passed_9_1 set_11_1 at_12_1 v8_1 v9_1 t h s1 s3 s4 s6 s8 s9 s11 s12 s13 ow_o8 ow_o9 di_o8_o9 hm1
              refine hK18 _ _ ?_
              unfold r03_Play_j19 at hm1
              refine cw_reg_k fun K hK => ?_
              simp only [go_sem, s13, istr_of v8, istr_of v9, istr_of v8_1, istr_of v9_1]
              refine hK _ _ ?_
              clear hK K
              simp only [qblock_normal, qseq_normal]
              obtain rfl := Option.some.inj hm1
              refine ⟨_, rfl, ?_⟩
              exact ⟨v8_1, v9_1, s1, s3, s4, s6, s8, s9, s11, s12, (by first | rfl | exact s13 | simp only [go_sem, s13, List.length_append, List.map_append]), ow_o8, ow_o9, (by first | exact dis_nil_l | exact dis_nil_r | assumption | (refine dis_rs_l ?_; first | assumption | exact own_notid (by assumption) (by first | omega | (simp only [nxs]; omega))) | (refine nd_rs ?_; first | assumption | exact own_notid (by assumption) (by first | omega | (simp only [nxs]; omega))))⟩
            simp only [cw_block]
            obtain ⟨x21, h_x21, hm1⟩ := bind_get hm1
            have h_x210 := get_nn h_x21
            have h_x211 := get_lt h_x21
            refine cw_reg_seq fun K hK => ?_
            simp only [go_sem, s3, s12, s13, ielem_get h_x21, irow_get h_x21, h_x210, h_x211, istr_of v8, istr_of v9]
            refine hK _ _ ?_
            clear hK K
            refine cw_seq_k fun K22 hK22 => ?_
            have J23 : ∀ (set_11_1 : Int) (at_12_1 : Int) (t : Slots) (h : Heap), t 1 = .fs 2 (List.map eTrial l) → t 3 = .fs 3 (List.map eUpset u) → t 4 = .fp [I c.Hazards, .fs 1 (List.map eI c.Switches), .fs 2 (List.map eWire c.Wires)] 0 → t 6 = .fp [.fs 1 (List.map eL_I r_.Nights), I r_.Gap] 0 → t 8 = v8 → t 9 = v9 → t 11 = I set_11_1 → t 12 = I at_12_1 → t 13 = I night_13 → t 14 = B (decide (x21.Night = night_13)) → OwnS h v8 1 (List.map eI stuck_8) → OwnS h v9 1 (List.map eI passed_9) → (∀ j, ¬NotId v8 j → NotId v9 j) → r03_Play_j23 c l r_ u stuck_8 passed_9 night_13 x21 set_11_1 at_12_1 = some o → K22 t h := by
              intro set_11_1 at_12_1 t h s1 s3 s4 s6 s8 s9 s11 s12 s13 s14 ow_o8 ow_o9 di_o8_o9 hm1
              refine hK22 _ _ ?_
              unfold r03_Play_j23 at hm1
              obtain ⟨q26, h_q26, hm1⟩ := bind_get hm1
              obtain ⟨x27, h_x27, hm1⟩ := bind_get hm1
              have h_x270 := get_nn h_x27
              have h_x271 := get_lt h_x27
              refine cw_reg_seq fun K hK => ?_
              simp only [go_sem, s6, s13, ibin_rem h_q26, ielem_get h_x27, irow_get h_x27, h_x270, h_x271, istr_of v8, istr_of v9]
              refine hK _ _ ?_
              clear hK K
              refine cw_assoc ?_
              refine cw_reg_seq fun K hK => ?_
              simp only [go_sem, istr_of v8, istr_of v9]
              refine hK _ _ ?_
              clear hK K
              refine cw_seq_k fun K28 hK28 => ?_
              have J29 : ∀ (set_11_2 : Int) (t : Slots) (h : Heap), t 1 = .fs 2 (List.map eTrial l) → t 3 = .fs 3 (List.map eUpset u) → t 4 = .fp [I c.Hazards, .fs 1 (List.map eI c.Switches), .fs 2 (List.map eWire c.Wires)] 0 → t 6 = .fp [.fs 1 (List.map eL_I r_.Nights), I r_.Gap] 0 → t 8 = v8 → t 9 = v9 → t 11 = I set_11_2 → t 12 = I at_12_1 → t 13 = I night_13 → t 14 = B (decide (x21.Night = night_13)) → OwnS h v8 1 (List.map eI stuck_8) → OwnS h v9 1 (List.map eI passed_9) → (∀ j, ¬NotId v8 j → NotId v9 j) → r03_Play_j29 c u stuck_8 passed_9 night_13 x21 at_12_1 set_11_2 = some o → K28 t h := by
                intro set_11_2 t h s1 s3 s4 s6 s8 s9 s11 s12 s13 s14 ow_o8 ow_o9 di_o8_o9 hm1
                refine hK28 _ _ ?_
                unfold r03_Play_j29 at hm1
                refine cw_seq_k fun K30 hK30 => ?_
                have J31 : ∀ (passed_9_1 : List Int) (at_12_2 : Int) (v9_1 : AV) (t : Slots) (h : Heap), t 1 = .fs 2 (List.map eTrial l) → t 3 = .fs 3 (List.map eUpset u) → t 4 = .fp [I c.Hazards, .fs 1 (List.map eI c.Switches), .fs 2 (List.map eWire c.Wires)] 0 → t 6 = .fp [.fs 1 (List.map eL_I r_.Nights), I r_.Gap] 0 → t 8 = v8 → t 9 = v9_1 → t 11 = I set_11_2 → t 12 = I at_12_2 → t 13 = I night_13 → t 14 = B (decide (x21.Night = night_13)) → OwnS h v8 1 (List.map eI stuck_8) → OwnS h v9_1 1 (List.map eI passed_9_1) → (∀ j, ¬NotId v8 j → NotId v9_1 j) → r03_Play_j31 stuck_8 night_13 x21 set_11_2 passed_9_1 at_12_2 = some o → K30 t h := by
                  intro passed_9_1 at_12_2 v9_1 t h s1 s3 s4 s6 s8 s9 s11 s12 s13 s14 ow_o8 ow_o9 di_o8_o9 hm1
                  refine hK30 _ _ ?_
                  unfold r03_Play_j31 at hm1
                  refine cw_reg_seq fun K hK => ?_
                  simp only [go_sem, s14, istr_of v8, istr_of v9, istr_of v9_1]
                  refine hK _ _ ?_
                  clear hK K
                  simp only [go_sem]
                  refine ibr_intro (fun hc32 => ?_) (fun hc32 => ?_)
                  · rw [if_t hc32] at hm1
                    obtain ⟨l34, h_l34, hm1⟩ := bind_get hm1
                    refine cw_reg_k fun K hK => ?_
                    simp only [go_sem, s8, s11, istr_of v8, istr_of v9, istr_of v9_1]
                    refine iapp_own (f := eI) (l := stuck_8) (m := ([set_11_2])) ?_ ?_ ?_ ?_ h_l34 ?_
                    · exact (own_later ow_o8 (by intro j hj hl; first | rfl | simp only [go_sem, hl, di_o8_o9 j hj]) (by first | omega | (simp only [go_sem, nxs]; omega)))
                    · exact (ownx_rs (by simp only [go_sem, List.length_append, List.map_append]) (by simp only [go_sem, List.length_append, List.map_append]))
                    · exact (nd_rs (by first | exact notid_nil | exact notid_rs (by first | omega | (simp only [nxs]; omega)) | assumption | exact own_notid (by assumption) (by first | omega | (simp only [go_sem, nxs]; omega))))
                    · exact (fun _ => by simp)
                    simp only [go_sem, s8, s11, istr_of v8, istr_of v9, istr_of v9_1]
                    refine hK _ _ ?_
                    clear hK K
                    simp only [qblock_normal, qseq_normal]
                    exact J19 l34 passed_9_1 set_11_2 at_12_2 (.rs (nxs h.nx) 0 (List.length l34)) v9_1 _ _ s1 s3 s4 s6 (by first | rfl | exact s8 | simp only [go_sem, s8, List.length_append, List.map_append]) s9 s11 s12 s13 (own_rs (by simp only [go_sem, List.length_append, List.map_append]) (by simp only [go_sem, List.length_append, List.map_append]) (by simp only [go_sem])) (own_later ow_o9 (by intro j hj hl; first | rfl | simp only [go_sem, hl, di_sym di_o8_o9 j hj]) (by first | omega | (simp only [go_sem, nxs]; omega))) (by first | exact dis_nil_l | exact dis_nil_r | assumption | (refine dis_rs_l ?_; first | assumption | exact own_notid (by assumption) (by first | omega | (simp only [nxs]; omega))) | (refine nd_rs ?_; first | assumption | exact own_notid (by assumption) (by first | omega | (simp only [nxs]; omega)))) hm1
                  · rw [if_f hc32] at hm1
                    simp only [cw_skip, qblock_normal, qseq_normal]
                    exact J19 stuck_8 passed_9_1 set_11_2 at_12_2 v8 v9_1 _ _ s1 s3 s4 s6 s8 s9 s11 s12 s13 ow_o8 ow_o9 (by first | exact dis_nil_l | exact dis_nil_r | assumption | (refine dis_rs_l ?_; first | assumption | exact own_notid (by assumption) (by first | omega | (simp only [nxs]; omega))) | (refine nd_rs ?_; first | assumption | exact own_notid (by assumption) (by first | omega | (simp only [nxs]; omega)))) hm1
                simp only [cw_block]
                obtain ⟨b35, hl35, hm1⟩ := bind_get hm1
                refine cw_loopM hl35 (fun | (passed_9_1, at_12_2), t, h => ∃ v9_1 : AV, t 1 = .fs 2 (List.map eTrial l) ∧ t 3 = .fs 3 (List.map eUpset u) ∧ t 4 = .fp [I c.Hazards, .fs 1 (List.map eI c.Switches), .fs 2 (List.map eWire c.Wires)] 0 ∧ t 6 = .fp [.fs 1 (List.map eL_I r_.Nights), I r_.Gap] 0 ∧ t 8 = v8 ∧ t 9 = v9_1 ∧ t 11 = I set_11_2 ∧ t 12 = I at_12_2 ∧ t 13 = I night_13 ∧ t 14 = B (decide (x21.Night = night_13)) ∧ OwnS h v8 1 (List.map eI stuck_8) ∧ OwnS h v9_1 1 (List.map eI passed_9_1) ∧ (∀ j, ¬NotId v8 j → NotId v9_1 j)) ?_ ?_
                · exact ⟨v9, s1, s3, s4, s6, s8, s9, s11, s12, s13, s14, ow_o8, ow_o9, (by first | exact dis_nil_l | exact dis_nil_r | assumption | (refine dis_rs_l ?_; first | assumption | exact own_notid (by assumption) (by first | omega | (simp only [nxs]; omega))) | (refine nd_rs ?_; first | assumption | exact own_notid (by assumption) (by first | omega | (simp only [nxs]; omega))))⟩
                · rintro ⟨passed_9_1, at_12_2⟩ o t h ⟨v9_1, s1, s3, s4, s6, s8, s9, s11, s12, s13, s14, ow_o8, ow_o9, di_o8_o9⟩ hm2 hb35
                  simp only [r03_Play_L27] at hm2
                  rw [x_r03_Play_L27]
                  refine cw_assoc ?_
                  obtain ⟨c39, h_c39, hm2⟩ := bind_get hm2
                  refine cw_reg_postK (fun t h => t 1 = .fs 2 (List.map eTrial l) ∧ t 3 = .fs 3 (List.map eUpset u) ∧ t 4 = .fp [I c.Hazards, .fs 1 (List.map eI c.Switches), .fs 2 (List.map eWire c.Wires)] 0 ∧ t 6 = .fp [.fs 1 (List.map eL_I r_.Nights), I r_.Gap] 0 ∧ t 8 = v8 ∧ t 9 = v9_1 ∧ t 11 = I set_11_2 ∧ t 12 = I at_12_2 ∧ t 13 = I night_13 ∧ t 14 = B (decide (x21.Night = night_13)) ∧ t 114 = B c39 ∧ OwnS h v8 1 (List.map eI stuck_8) ∧ OwnS h v9_1 1 (List.map eI passed_9_1) ∧ (∀ j, ¬NotId v8 j → NotId v9_1 j)) (fun K hK => ?_) ?_
                  · simp only [go_sem, s3, s12, s13, istr_of v8, istr_of v9, istr_of v9_1]
                    refine ibr_intro (fun hg40 => ?_) (fun hg40 => ?_)
                    · simp only [hg40, Bool.not_true, Bool.not_false, eq_self, if_true, if_false, Bool.true_or, Bool.or_true, Bool.false_or, Bool.or_false, Bool.true_and, Bool.and_true, Bool.false_and, Bool.and_false, Bool.false_eq_true] at h_c39
                      obtain ⟨x38, h_x38, h_c39⟩ := bind_get h_c39
                      have h_x380 := get_nn h_x38
                      have h_x381 := get_lt h_x38
                      obtain rfl := Option.some.inj h_c39
                      simp only [go_sem, s3, s12, s13, ielem_get h_x38, irow_get h_x38, h_x380, h_x381, hg40, istr_of v8, istr_of v9, istr_of v9_1]
                      exact hK _ _ ⟨s1, s3, s4, s6, s8, s9, s11, s12, s13, s14, (by first | rfl | simp only [go_sem, hg40, List.length_append, List.map_append]), ow_o8, ow_o9, (by first | exact dis_nil_l | exact dis_nil_r | assumption | (refine dis_rs_l ?_; first | assumption | exact own_notid (by assumption) (by first | omega | (simp only [nxs]; omega))) | (refine nd_rs ?_; first | assumption | exact own_notid (by assumption) (by first | omega | (simp only [nxs]; omega))))⟩
                    · simp only [hg40, Bool.not_true, Bool.not_false, eq_self, if_true, if_false, Bool.true_or, Bool.or_true, Bool.false_or, Bool.or_false, Bool.true_and, Bool.and_true, Bool.false_and, Bool.and_false, Bool.false_eq_true] at h_c39
                      obtain rfl := Option.some.inj h_c39
                      simp only [go_sem, s3, s12, s13, hg40, istr_of v8, istr_of v9, istr_of v9_1]
                      exact hK _ _ ⟨s1, s3, s4, s6, s8, s9, s11, s12, s13, s14, (by first | rfl | simp only [go_sem, hg40, List.length_append, List.map_append]), ow_o8, ow_o9, (by first | exact dis_nil_l | exact dis_nil_r | assumption | (refine dis_rs_l ?_; first | assumption | exact own_notid (by assumption) (by first | omega | (simp only [nxs]; omega))) | (refine nd_rs ?_; first | assumption | exact own_notid (by assumption) (by first | omega | (simp only [nxs]; omega))))⟩
                  · rintro t h ⟨s1, s3, s4, s6, s8, s9, s11, s12, s13, s14, s114, ow_o8, ow_o9, di_o8_o9⟩
                    refine cw_seq_k fun K41 hK41 => ?_
                    simp only [go_sem, s114]
                    refine ibr_intro (fun hc42 => ?_) (fun hc42 => ?_)
                    · rw [if_t hc42] at hm2
                      simp only [cw_skip, qblock_normal, qseq_normal]
                      refine hK41 _ _ ?_
                      simp only [cw_block]
                      refine cw_assoc ?_
                      obtain ⟨x45, h_x45, hm2⟩ := bind_get hm2
                      have h_x450 := get_nn h_x45
                      have h_x451 := get_lt h_x45
                      obtain ⟨y46, h_y46, hm2⟩ := bind_get hm2
                      refine cw_reg_seq fun K hK => ?_
                      simp only [go_sem, s3, s4, s11, s12, ielem_get h_x45, irow_get h_x45, h_x450, h_x451, istr_of v8, istr_of v9, istr_of v9_1]
                      refine icall_fn (k_r03_conducts 1000 c 0 x45.Number set_11_2 0 _ h_y46) ?_
                      simp only [go_sem, s3, s4, s11, s12, ielem_get h_x45, irow_get h_x45, h_x450, h_x451, istr_of v8, istr_of v9, istr_of v9_1]
                      refine hK _ _ ?_
                      clear hK K
                      refine cw_seq_k fun K47 hK47 => ?_
                      have J48 : ∀ (passed_9_2 : List Int) (v9_2 : AV) (t : Slots) (h : Heap), t 1 = .fs 2 (List.map eTrial l) → t 3 = .fs 3 (List.map eUpset u) → t 4 = .fp [I c.Hazards, .fs 1 (List.map eI c.Switches), .fs 2 (List.map eWire c.Wires)] 0 → t 6 = .fp [.fs 1 (List.map eL_I r_.Nights), I r_.Gap] 0 → t 8 = v8 → t 9 = v9_2 → t 11 = I set_11_2 → t 12 = I at_12_2 → t 13 = I night_13 → t 14 = B (decide (x21.Night = night_13)) → OwnS h v8 1 (List.map eI stuck_8) → OwnS h v9_2 1 (List.map eI passed_9_2) → (∀ j, ¬NotId v8 j → NotId v9_2 j) → r03_Play_j48 at_12_2 passed_9_2 = some o → K47 t h := by
                        intro passed_9_2 v9_2 t h s1 s3 s4 s6 s8 s9 s11 s12 s13 s14 ow_o8 ow_o9 di_o8_o9 hm2
                        refine hK47 _ _ ?_
                        unfold r03_Play_j48 at hm2
                        refine cw_reg_k fun K hK => ?_
                        simp only [go_sem, s12, istr_of v8, istr_of v9, istr_of v9_1, istr_of v9_2]
                        refine hK _ _ ?_
                        clear hK K
                        simp only [qblock_normal, qseq_normal]
                        obtain rfl := Option.some.inj hm2
                        refine ⟨_, rfl, ?_⟩
                        exact ⟨v9_2, s1, s3, s4, s6, s8, s9, s11, (by first | rfl | exact s12 | simp only [go_sem, s12, List.length_append, List.map_append]), s13, s14, ow_o8, ow_o9, (by first | exact dis_nil_l | exact dis_nil_r | assumption | (refine dis_rs_l ?_; first | assumption | exact own_notid (by assumption) (by first | omega | (simp only [nxs]; omega))) | (refine nd_rs ?_; first | assumption | exact own_notid (by assumption) (by first | omega | (simp only [nxs]; omega))))⟩
                      simp only [go_sem]
                      refine ibr_intro (fun hc49 => ?_) (fun hc49 => ?_)
                      · rw [if_t hc49] at hm2
                        obtain ⟨l51, h_l51, hm2⟩ := bind_get hm2
                        refine cw_reg_k fun K hK => ?_
                        simp only [go_sem, s9, s12, istr_of v8, istr_of v9, istr_of v9_1]
                        refine iapp_own (f := eI) (l := passed_9_1) (m := ([at_12_2])) ?_ ?_ ?_ ?_ h_l51 ?_
                        · exact (own_later ow_o9 (by intro j hj hl; first | rfl | simp only [go_sem, hl, di_sym di_o8_o9 j hj]) (by first | omega | (simp only [go_sem, nxs]; omega)))
                        · exact (ownx_rs (by simp only [go_sem, List.length_append, List.map_append]) (by simp only [go_sem, List.length_append, List.map_append]))
                        · exact (nd_rs (by first | exact notid_nil | exact notid_rs (by first | omega | (simp only [nxs]; omega)) | assumption | exact own_notid (by assumption) (by first | omega | (simp only [go_sem, nxs]; omega))))
                        · exact (fun _ => by simp)
                        simp only [go_sem, s9, s12, istr_of v8, istr_of v9, istr_of v9_1]
                        refine hK _ _ ?_
                        clear hK K
                        simp only [qblock_normal, qseq_normal]
                        exact J48 l51 (.rs (nxs h.nx) 0 (List.length l51)) _ _ s1 s3 s4 s6 s8 (by first | rfl | exact s9 | simp only [go_sem, s9, List.length_append, List.map_append]) s11 s12 s13 s14 (own_later ow_o8 (by intro j hj hl; first | rfl | simp only [go_sem, hl, di_o8_o9 j hj]) (by first | omega | (simp only [go_sem, nxs]; omega))) (own_rs (by simp only [go_sem, List.length_append, List.map_append]) (by simp only [go_sem, List.length_append, List.map_append]) (by simp only [go_sem])) (by first | exact dis_nil_l | exact dis_nil_r | assumption | (refine dis_rs_l ?_; first | assumption | exact own_notid (by assumption) (by first | omega | (simp only [nxs]; omega))) | (refine nd_rs ?_; first | assumption | exact own_notid (by assumption) (by first | omega | (simp only [nxs]; omega)))) hm2
                      · rw [if_f hc49] at hm2
                        simp only [cw_skip, qblock_normal, qseq_normal]
                        exact J48 passed_9_1 v9_1 _ _ s1 s3 s4 s6 s8 s9 s11 s12 s13 s14 ow_o8 ow_o9 (by first | exact dis_nil_l | exact dis_nil_r | assumption | (refine dis_rs_l ?_; first | assumption | exact own_notid (by assumption) (by first | omega | (simp only [nxs]; omega))) | (refine nd_rs ?_; first | assumption | exact own_notid (by assumption) (by first | omega | (simp only [nxs]; omega)))) hm2
                    · rw [if_f hc42] at hm2
                      simp only [cw_exit, qseq_exit, qblock_same, qblock_ne, qblock_normal, qseq_normal, Nat.reduceEqDiff, not_false_eq_true]
                      obtain rfl := Option.some.inj hm2
                      obtain rfl := hb35 _ rfl
                      try dsimp only at hm1
                      exact J31 passed_9_1 at_12_2 v9_1 _ _ s1 s3 s4 s6 s8 s9 s11 s12 s13 s14 ow_o8 ow_o9 (by first | exact dis_nil_l | exact dis_nil_r | assumption | (refine dis_rs_l ?_; first | assumption | exact own_notid (by assumption) (by first | omega | (simp only [nxs]; omega))) | (refine nd_rs ?_; first | assumption | exact own_notid (by assumption) (by first | omega | (simp only [nxs]; omega)))) hm1
              simp only [cw_block]
              obtain ⟨b53, hl53, hm1⟩ := bind_get hm1
              refine cw_loopM hl53 (fun | (set_11_2, k_16), t, h => t 1 = .fs 2 (List.map eTrial l) ∧ t 3 = .fs 3 (List.map eUpset u) ∧ t 4 = .fp [I c.Hazards, .fs 1 (List.map eI c.Switches), .fs 2 (List.map eWire c.Wires)] 0 ∧ t 6 = .fp [.fs 1 (List.map eL_I r_.Nights), I r_.Gap] 0 ∧ t 8 = v8 ∧ t 9 = v9 ∧ t 11 = I set_11_2 ∧ t 12 = I at_12_1 ∧ t 13 = I night_13 ∧ t 14 = B (decide (x21.Night = night_13)) ∧ t 15 = .fs 1 (List.map eI x27) ∧ t 16 = I k_16 ∧ OwnS h v8 1 (List.map eI stuck_8) ∧ OwnS h v9 1 (List.map eI passed_9) ∧ (∀ j, ¬NotId v8 j → NotId v9 j)) ?_ ?_
              · exact ⟨s1, s3, s4, s6, s8, s9, s11, s12, s13, s14, (by first | rfl | simp only [go_sem, List.length_append, List.map_append]), (by first | rfl | simp only [go_sem, List.length_append, List.map_append]), ow_o8, ow_o9, (by first | exact dis_nil_l | exact dis_nil_r | assumption | (refine dis_rs_l ?_; first | assumption | exact own_notid (by assumption) (by first | omega | (simp only [nxs]; omega))) | (refine nd_rs ?_; first | assumption | exact own_notid (by assumption) (by first | omega | (simp only [nxs]; omega))))⟩
              · rintro ⟨set_11_2, k_16⟩ o t h ⟨s1, s3, s4, s6, s8, s9, s11, s12, s13, s14, s15, s16, ow_o8, ow_o9, di_o8_o9⟩ hm2 hb53
                simp only [r03_Play_L22] at hm2
                rw [x_r03_Play_L22]
                refine cw_assoc ?_
                refine cw_reg_seq fun K hK => ?_
                simp only [go_sem, s15, s16, istr_of v8, istr_of v9]
                refine hK _ _ ?_
                clear hK K
                refine cw_seq_k fun K54 hK54 => ?_
                simp only [go_sem]
                refine ibr_intro (fun hc55 => ?_) (fun hc55 => ?_)
                · rw [if_t hc55] at hm2
                  simp only [cw_skip, qblock_normal, qseq_normal]
                  refine hK54 _ _ ?_
                  refine cw_seq_k fun K56 hK56 => ?_
                  have J57 : ∀ (set_11_3 : Int) (t : Slots) (h : Heap), t 1 = .fs 2 (List.map eTrial l) → t 3 = .fs 3 (List.map eUpset u) → t 4 = .fp [I c.Hazards, .fs 1 (List.map eI c.Switches), .fs 2 (List.map eWire c.Wires)] 0 → t 6 = .fp [.fs 1 (List.map eL_I r_.Nights), I r_.Gap] 0 → t 8 = v8 → t 9 = v9 → t 11 = I set_11_3 → t 12 = I at_12_1 → t 13 = I night_13 → t 14 = B (decide (x21.Night = night_13)) → t 15 = .fs 1 (List.map eI x27) → t 16 = I k_16 → OwnS h v8 1 (List.map eI stuck_8) → OwnS h v9 1 (List.map eI passed_9) → (∀ j, ¬NotId v8 j → NotId v9 j) → r03_Play_j57 k_16 set_11_3 = some o → K56 t h := by
                    intro set_11_3 t h s1 s3 s4 s6 s8 s9 s11 s12 s13 s14 s15 s16 ow_o8 ow_o9 di_o8_o9 hm2
                    refine hK56 _ _ ?_
                    unfold r03_Play_j57 at hm2
                    refine cw_reg_k fun K hK => ?_
                    simp only [go_sem, s16, istr_of v8, istr_of v9]
                    refine hK _ _ ?_
                    clear hK K
                    simp only [qblock_normal, qseq_normal]
                    obtain rfl := Option.some.inj hm2
                    refine ⟨_, rfl, ?_⟩
                    exact ⟨s1, s3, s4, s6, s8, s9, s11, s12, s13, s14, s15, (by first | rfl | exact s16 | simp only [go_sem, s16, List.length_append, List.map_append]), ow_o8, ow_o9, (by first | exact dis_nil_l | exact dis_nil_r | assumption | (refine dis_rs_l ?_; first | assumption | exact own_notid (by assumption) (by first | omega | (simp only [nxs]; omega))) | (refine nd_rs ?_; first | assumption | exact own_notid (by assumption) (by first | omega | (simp only [nxs]; omega))))⟩
                  simp only [cw_block]
                  obtain ⟨x61, h_x61, hm2⟩ := bind_get hm2
                  have h_x610 := get_nn h_x61
                  have h_x611 := get_lt h_x61
                  obtain ⟨x62, h_x62, hm2⟩ := bind_get hm2
                  have h_x620 := get_nn h_x62
                  have h_x621 := get_lt h_x62
                  obtain ⟨y63, h_y63, hm2⟩ := bind_get hm2
                  refine cw_reg_seq fun K hK => ?_
                  simp only [go_sem, s1, s4, s11, s15, s16, ielem_get h_x61, irow_get h_x61, h_x610, h_x611, ielem_get h_x62, irow_get h_x62, h_x620, h_x621, istr_of v8, istr_of v9]
                  refine icall_fn (k_r03_Tells c x62 set_11_2 _ h_y63) ?_
                  simp only [go_sem, s1, s4, s11, s15, s16, ielem_get h_x61, irow_get h_x61, h_x610, h_x611, ielem_get h_x62, irow_get h_x62, h_x620, h_x621, istr_of v8, istr_of v9]
                  refine hK _ _ ?_
                  clear hK K
                  simp only [go_sem]
                  refine ibr_intro (fun hc64 => ?_) (fun hc64 => ?_)
                  · rw [if_t hc64] at hm2
                    refine cw_reg_k fun K hK => ?_
                    simp only [go_sem, istr_of v8, istr_of v9]
                    refine hK _ _ ?_
                    clear hK K
                    simp only [qblock_normal, qseq_normal]
                    exact J57 0 _ _ s1 s3 s4 s6 s8 s9 (by first | rfl | exact s11 | simp only [go_sem, s11, List.length_append, List.map_append]) s12 s13 s14 s15 s16 ow_o8 ow_o9 (by first | exact dis_nil_l | exact dis_nil_r | assumption | (refine dis_rs_l ?_; first | assumption | exact own_notid (by assumption) (by first | omega | (simp only [nxs]; omega))) | (refine nd_rs ?_; first | assumption | exact own_notid (by assumption) (by first | omega | (simp only [nxs]; omega)))) hm2
                  · rw [if_f hc64] at hm2
                    simp only [cw_skip, qblock_normal, qseq_normal]
                    exact J57 set_11_2 _ _ s1 s3 s4 s6 s8 s9 s11 s12 s13 s14 s15 s16 ow_o8 ow_o9 (by first | exact dis_nil_l | exact dis_nil_r | assumption | (refine dis_rs_l ?_; first | assumption | exact own_notid (by assumption) (by first | omega | (simp only [nxs]; omega))) | (refine nd_rs ?_; first | assumption | exact own_notid (by assumption) (by first | omega | (simp only [nxs]; omega)))) hm2
                · rw [if_f hc55] at hm2
                  simp only [cw_exit, qseq_exit, qblock_same, qblock_ne, qblock_normal, qseq_normal, Nat.reduceEqDiff, not_false_eq_true]
                  obtain rfl := Option.some.inj hm2
                  obtain rfl := hb53 _ rfl
                  try dsimp only at hm1
                  exact J29 set_11_2 _ _ s1 s3 s4 s6 s8 s9 s11 s12 s13 s14 ow_o8 ow_o9 (by first | exact dis_nil_l | exact dis_nil_r | assumption | (refine dis_rs_l ?_; first | assumption | exact own_notid (by assumption) (by first | omega | (simp only [nxs]; omega))) | (refine nd_rs ?_; first | assumption | exact own_notid (by assumption) (by first | omega | (simp only [nxs]; omega)))) hm1
            simp only [cw_block]
            obtain ⟨b66, hl66, hm1⟩ := bind_get hm1
            refine cw_loopM hl66 (fun | (set_11_1, at_12_1), t, h => t 1 = .fs 2 (List.map eTrial l) ∧ t 3 = .fs 3 (List.map eUpset u) ∧ t 4 = .fp [I c.Hazards, .fs 1 (List.map eI c.Switches), .fs 2 (List.map eWire c.Wires)] 0 ∧ t 6 = .fp [.fs 1 (List.map eL_I r_.Nights), I r_.Gap] 0 ∧ t 8 = v8 ∧ t 9 = v9 ∧ t 11 = I set_11_1 ∧ t 12 = I at_12_1 ∧ t 13 = I night_13 ∧ t 14 = B (decide (x21.Night = night_13)) ∧ OwnS h v8 1 (List.map eI stuck_8) ∧ OwnS h v9 1 (List.map eI passed_9) ∧ (∀ j, ¬NotId v8 j → NotId v9 j)) ?_ ?_
            · exact ⟨s1, s3, s4, s6, s8, s9, s11, s12, s13, (by first | rfl | simp only [go_sem, List.length_append, List.map_append]), ow_o8, ow_o9, (by first | exact dis_nil_l | exact dis_nil_r | assumption | (refine dis_rs_l ?_; first | assumption | exact own_notid (by assumption) (by first | omega | (simp only [nxs]; omega))) | (refine nd_rs ?_; first | assumption | exact own_notid (by assumption) (by first | omega | (simp only [nxs]; omega))))⟩
            · rintro ⟨set_11_1, at_12_1⟩ o t h ⟨s1, s3, s4, s6, s8, s9, s11, s12, s13, s14, ow_o8, ow_o9, di_o8_o9⟩ hm2 hb66
              simp only [r03_Play_L15] at hm2
              rw [x_r03_Play_L15]
              refine cw_assoc ?_
              obtain ⟨c72, h_c72, hm2⟩ := bind_get hm2
              obtain ⟨c74, h_c74, hm2⟩ := bind_get hm2
              refine cw_reg_postK (fun t h => t 1 = .fs 2 (List.map eTrial l) ∧ t 3 = .fs 3 (List.map eUpset u) ∧ t 4 = .fp [I c.Hazards, .fs 1 (List.map eI c.Switches), .fs 2 (List.map eWire c.Wires)] 0 ∧ t 6 = .fp [.fs 1 (List.map eL_I r_.Nights), I r_.Gap] 0 ∧ t 8 = v8 ∧ t 9 = v9 ∧ t 11 = I set_11_1 ∧ t 12 = I at_12_1 ∧ t 13 = I night_13 ∧ t 14 = B (decide (x21.Night = night_13)) ∧ t 65 = B c74 ∧ OwnS h v8 1 (List.map eI stuck_8) ∧ OwnS h v9 1 (List.map eI passed_9) ∧ (∀ j, ¬NotId v8 j → NotId v9 j)) (fun K hK => ?_) ?_
              · simp only [go_sem, s3, s12, s13, istr_of v8, istr_of v9]
                refine ibr_intro (fun hg75 => ?_) (fun hg75 => ?_)
                · simp only [hg75, Bool.not_true, Bool.not_false, eq_self, if_true, if_false, Bool.true_or, Bool.or_true, Bool.false_or, Bool.or_false, Bool.true_and, Bool.and_true, Bool.false_and, Bool.and_false, Bool.false_eq_true] at h_c72
                  obtain ⟨x71, h_x71, h_c72⟩ := bind_get h_c72
                  have h_x710 := get_nn h_x71
                  have h_x711 := get_lt h_x71
                  obtain rfl := Option.some.inj h_c72
                  simp only [go_sem, s3, s12, s13, ielem_get h_x71, irow_get h_x71, h_x710, h_x711, hg75, istr_of v8, istr_of v9]
                  refine ibr_intro (fun hg76 => ?_) (fun hg76 => ?_)
                  · simp only [hg75, hg76, Bool.not_true, Bool.not_false, eq_self, if_true, if_false, Bool.true_or, Bool.or_true, Bool.false_or, Bool.or_false, Bool.true_and, Bool.and_true, Bool.false_and, Bool.and_false, Bool.false_eq_true] at h_c74
                    obtain ⟨x73, h_x73, h_c74⟩ := bind_get h_c74
                    have h_x730 := get_nn h_x73
                    have h_x731 := get_lt h_x73
                    obtain rfl := Option.some.inj (h_x71.symm.trans h_x73)
                    obtain rfl := Option.some.inj h_c74
                    simp only [go_sem, s3, s12, s13, ielem_get h_x71, irow_get h_x71, h_x710, h_x711, ielem_get h_x73, irow_get h_x73, h_x730, h_x731, hg75, hg76, istr_of v8, istr_of v9]
                    exact hK _ _ ⟨s1, s3, s4, s6, s8, s9, s11, s12, s13, s14, (by first | rfl | simp only [go_sem, hg75, hg76, List.length_append, List.map_append]), ow_o8, ow_o9, (by first | exact dis_nil_l | exact dis_nil_r | assumption | (refine dis_rs_l ?_; first | assumption | exact own_notid (by assumption) (by first | omega | (simp only [nxs]; omega))) | (refine nd_rs ?_; first | assumption | exact own_notid (by assumption) (by first | omega | (simp only [nxs]; omega))))⟩
                  · simp only [hg75, hg76, Bool.not_true, Bool.not_false, eq_self, if_true, if_false, Bool.true_or, Bool.or_true, Bool.false_or, Bool.or_false, Bool.true_and, Bool.and_true, Bool.false_and, Bool.and_false, Bool.false_eq_true] at h_c74
                    obtain rfl := Option.some.inj h_c74
                    simp only [go_sem, s3, s12, s13, ielem_get h_x71, irow_get h_x71, h_x710, h_x711, hg75, hg76, istr_of v8, istr_of v9]
                    exact hK _ _ ⟨s1, s3, s4, s6, s8, s9, s11, s12, s13, s14, (by first | rfl | simp only [go_sem, hg75, hg76, List.length_append, List.map_append]), ow_o8, ow_o9, (by first | exact dis_nil_l | exact dis_nil_r | assumption | (refine dis_rs_l ?_; first | assumption | exact own_notid (by assumption) (by first | omega | (simp only [nxs]; omega))) | (refine nd_rs ?_; first | assumption | exact own_notid (by assumption) (by first | omega | (simp only [nxs]; omega))))⟩
                · simp only [hg75, Bool.not_true, Bool.not_false, eq_self, if_true, if_false, Bool.true_or, Bool.or_true, Bool.false_or, Bool.or_false, Bool.true_and, Bool.and_true, Bool.false_and, Bool.and_false, Bool.false_eq_true] at h_c72
                  obtain rfl := Option.some.inj h_c72
                  simp only [hg75, Bool.not_true, Bool.not_false, eq_self, if_true, if_false, Bool.true_or, Bool.or_true, Bool.false_or, Bool.or_false, Bool.true_and, Bool.and_true, Bool.false_and, Bool.and_false, Bool.false_eq_true] at h_c74
                  obtain rfl := Option.some.inj h_c74
                  simp only [go_sem, s3, s12, s13, hg75, istr_of v8, istr_of v9]
                  exact hK _ _ ⟨s1, s3, s4, s6, s8, s9, s11, s12, s13, s14, (by first | rfl | simp only [go_sem, hg75, List.length_append, List.map_append]), ow_o8, ow_o9, (by first | exact dis_nil_l | exact dis_nil_r | assumption | (refine dis_rs_l ?_; first | assumption | exact own_notid (by assumption) (by first | omega | (simp only [nxs]; omega))) | (refine nd_rs ?_; first | assumption | exact own_notid (by assumption) (by first | omega | (simp only [nxs]; omega))))⟩
              · rintro t h ⟨s1, s3, s4, s6, s8, s9, s11, s12, s13, s14, s65, ow_o8, ow_o9, di_o8_o9⟩
                refine cw_seq_k fun K77 hK77 => ?_
                simp only [go_sem, s65]
                refine ibr_intro (fun hc78 => ?_) (fun hc78 => ?_)
                · rw [if_t hc78] at hm2
                  simp only [cw_skip, qblock_normal, qseq_normal]
                  refine hK77 _ _ ?_
                  simp only [cw_block]
                  obtain ⟨x81, h_x81, hm2⟩ := bind_get hm2
                  have h_x810 := get_nn h_x81
                  have h_x811 := get_lt h_x81
                  obtain ⟨q82, h_q82, hm2⟩ := bind_get hm2
                  refine cw_reg_seq fun K hK => ?_
                  simp only [go_sem, s3, s11, s12, ielem_get h_x81, irow_get h_x81, h_x810, h_x811, ibin_shl h_q82, istr_of v8, istr_of v9]
                  refine hK _ _ ?_
                  clear hK K
                  refine cw_reg_k fun K hK => ?_
                  simp only [go_sem, s12, istr_of v8, istr_of v9]
                  refine hK _ _ ?_
                  clear hK K
                  simp only [qblock_normal, qseq_normal]
                  obtain rfl := Option.some.inj hm2
                  refine ⟨_, rfl, ?_⟩
                  exact ⟨s1, s3, s4, s6, s8, s9, (by first | rfl | exact s11 | simp only [go_sem, s11, List.length_append, List.map_append]), (by first | rfl | exact s12 | simp only [go_sem, s12, List.length_append, List.map_append]), s13, s14, ow_o8, ow_o9, (by first | exact dis_nil_l | exact dis_nil_r | assumption | (refine dis_rs_l ?_; first | assumption | exact own_notid (by assumption) (by first | omega | (simp only [nxs]; omega))) | (refine nd_rs ?_; first | assumption | exact own_notid (by assumption) (by first | omega | (simp only [nxs]; omega))))⟩
                · rw [if_f hc78] at hm2
                  simp only [cw_exit, qseq_exit, qblock_same, qblock_ne, qblock_normal, qseq_normal, Nat.reduceEqDiff, not_false_eq_true]
                  obtain rfl := Option.some.inj hm2
                  obtain rfl := hb66 _ rfl
                  try dsimp only at hm1
                  exact J23 set_11_1 at_12_1 _ _ s1 s3 s4 s6 s8 s9 s11 s12 s13 s14 ow_o8 ow_o9 (by first | exact dis_nil_l | exact dis_nil_r | assumption | (refine dis_rs_l ?_; first | assumption | exact own_notid (by assumption) (by first | omega | (simp only [nxs]; omega))) | (refine nd_rs ?_; first | assumption | exact own_notid (by assumption) (by first | omega | (simp only [nxs]; omega)))) hm1
          · rw [if_f hc17] at hm1
            simp only [cw_exit, qseq_exit, qblock_same, qblock_ne, qblock_normal, qseq_normal, Nat.reduceEqDiff, not_false_eq_true]
            obtain rfl := Option.some.inj hm1
            obtain rfl := hb15 _ rfl
            try dsimp only at hm0
            exact J14 stuck_8 passed_9 v8 v9 _ _ s8 s9 ow_o8 ow_o9 (by first | exact dis_nil_l | exact dis_nil_r | assumption | (refine dis_rs_l ?_; first | assumption | exact own_notid (by assumption) (by first | omega | (simp only [nxs]; omega))) | (refine nd_rs ?_; first | assumption | exact own_notid (by assumption) (by first | omega | (simp only [nxs]; omega)))) hm0

end Go.Nw.CM

namespace Go.Nw.CM
open Go.Nw.Circ
set_option linter.unusedSimpArgs false
set_option linter.unusedVariables false
variable {O : Orac}

theorem k_r03_ValidRota (hf : Has O "newel/newelref03.ValidRota" x_r03_ValidRota) (k_r03_within : C_r03_within O) : C_r03_ValidRota O := by
  intro r_ trials r hm0
  unfold r03_ValidRota at hm0
  refine fn_cw hf rfl (fz_cons (.agg _ (fz_cons (frz_fs fun a _ => fz_eL_I a) (fz_cons (frz_v _) fz_nil))) (fz_cons (frz_v _) fz_nil)) (frz_v _) ?_
  refine cw_start (fun t h => t 0 = .agg [.fs 1 (List.map eL_I r_.Nights), I r_.Gap] ∧ t 1 = I trials) ⟨rfl, rfl⟩ fun t h ⟨s0, s1⟩ => ?_
  simp only [x_r03_ValidRota]
  refine cw_reg_seq fun K hK => ?_
  simp only [go_sem, s0]
  refine hK _ _ ?_
  clear hK K
  refine cw_assoc ?_
  refine cw_reg_postK (fun t h => t 1 = I trials ∧ t 2 = .fp [.fs 1 (List.map eL_I r_.Nights), I r_.Gap] 0 ∧ t 18 = B ((!(r03_within (List.length r_.Nights : Int) 1 60)) || (!(r03_within r_.Gap 1 60)))) (fun K hK => ?_) ?_
  · simp only [go_sem]
    refine icall_fn (k_r03_within (List.length r_.Nights : Int) 1 60) ?_
    simp only [go_sem]
    refine ibr_intro (fun hg1 => ?_) (fun hg1 => ?_)
    · simp only [go_sem, hg1]
      exact hK _ _ ⟨s1, (by first | rfl | simp only [go_sem, hg1, List.length_append, List.map_append]), (by first | rfl | simp only [go_sem, hg1, List.length_append, List.map_append])⟩
    · simp only [go_sem, hg1]
      refine icall_fn (k_r03_within r_.Gap 1 60) ?_
      simp only [go_sem, hg1]
      exact hK _ _ ⟨s1, (by first | rfl | simp only [go_sem, hg1, List.length_append, List.map_append]), (by first | rfl | simp only [go_sem, hg1, List.length_append, List.map_append])⟩
  · rintro t h ⟨s1, s2, s18⟩
    refine cw_seq_k fun K2 hK2 => ?_
    simp only [go_sem, s18]
    refine ibr_intro (fun hc3 => ?_) (fun hc3 => ?_)
    · rw [if_t hc3] at hm0
      refine cw_reg_seq fun K hK => ?_
      simp only [go_sem]
      refine hK _ _ ?_
      clear hK K
      simp only [cw_ret, qseq_ret, qblock_ret, retQ_ret]
      obtain rfl := Option.some.inj hm0
      exact done_t (by simp only [go_sem, List.length_append, List.map_append]) (frz_v _)
    · rw [if_f hc3] at hm0
      simp only [cw_skip, qblock_normal, qseq_normal]
      refine hK2 _ _ ?_
      refine cw_assoc ?_
      refine cw_reg_seq fun K hK => ?_
      simp only [go_sem]
      refine hK _ _ ?_
      clear hK K
      refine cw_seq_k fun K4 hK4 => ?_
      have J5 : ∀ (t : Slots) (h : Heap), r03_ValidRota_j5 = some r → K4 t h := by
        intro t h hm0
        refine hK4 _ _ ?_
        unfold r03_ValidRota_j5 at hm0
        refine cw_reg_seq fun K hK => ?_
        simp only [go_sem]
        refine hK _ _ ?_
        clear hK K
        simp only [cw_ret, qseq_ret, qblock_ret, retQ_ret]
        obtain rfl := Option.some.inj hm0
        exact done_t (by simp only [go_sem, List.length_append, List.map_append]) (frz_v _)
      simp only [cw_block]
      obtain ⟨b6, hl6, hm0⟩ := bind_get hm0
      refine cw_loopM hl6 (fun | i_5, t, h => t 1 = I trials ∧ t 2 = .fp [.fs 1 (List.map eL_I r_.Nights), I r_.Gap] 0 ∧ t 5 = I i_5) ?_ ?_
      · exact ⟨s1, s2, (by first | rfl | simp only [go_sem, List.length_append, List.map_append])⟩
      · rintro i_5 o t h ⟨s1, s2, s5⟩ hm1 hb6
        simp only [r03_ValidRota_L14] at hm1
        rw [x_r03_ValidRota_L14]
        refine cw_assoc ?_
        refine cw_reg_seq fun K hK => ?_
        simp only [go_sem, s2, s5]
        refine hK _ _ ?_
        clear hK K
        refine cw_seq_k fun K7 hK7 => ?_
        simp only [go_sem]
        refine ibr_intro (fun hc8 => ?_) (fun hc8 => ?_)
        · rw [if_t hc8] at hm1
          simp only [cw_skip, qblock_normal, qseq_normal]
          refine hK7 _ _ ?_
          refine cw_seq_k fun K9 hK9 => ?_
          have J10 : ∀ (t : Slots) (h : Heap), t 1 = I trials → t 2 = .fp [.fs 1 (List.map eL_I r_.Nights), I r_.Gap] 0 → t 5 = I i_5 → r03_ValidRota_j10 i_5 = some o → K9 t h := by
            intro t h s1 s2 s5 hm1
            refine hK9 _ _ ?_
            unfold r03_ValidRota_j10 at hm1
            refine cw_reg_k fun K hK => ?_
            simp only [go_sem, s5]
            refine hK _ _ ?_
            clear hK K
            simp only [qblock_normal, qseq_normal]
            obtain rfl := Option.some.inj hm1
            refine ⟨_, rfl, ?_⟩
            exact ⟨s1, s2, (by first | rfl | exact s5 | simp only [go_sem, s5, List.length_append, List.map_append])⟩
          simp only [cw_block]
          refine cw_reg_seq fun K hK => ?_
          simp only [go_sem]
          refine hK _ _ ?_
          clear hK K
          refine cw_reg_seq fun K hK => ?_
          simp only [go_sem]
          refine hK _ _ ?_
          clear hK K
          simp only [cw_block]
          obtain ⟨b11, hl11, hm1⟩ := bind_get hm1
          refine cw_loopM hl11 (fun | (last_6, k_7), t, h => t 1 = I trials ∧ t 2 = .fp [.fs 1 (List.map eL_I r_.Nights), I r_.Gap] 0 ∧ t 5 = I i_5 ∧ t 6 = I last_6 ∧ t 7 = I k_7) ?_ ?_
          · exact ⟨s1, s2, s5, (by first | rfl | simp only [go_sem, List.length_append, List.map_append]), (by first | rfl | simp only [go_sem, List.length_append, List.map_append])⟩
          · rintro ⟨last_6, k_7⟩ o t h ⟨s1, s2, s5, s6, s7⟩ hm2 hb11
            simp only [r03_ValidRota_L12] at hm2
            rw [x_r03_ValidRota_L12]
            refine cw_assoc ?_
            obtain ⟨x13, h_x13, hm2⟩ := bind_get hm2
            have h_x130 := get_nn h_x13
            have h_x131 := get_lt h_x13
            refine cw_reg_seq fun K hK => ?_
            simp only [go_sem, s2, s5, s7, ielem_get h_x13, irow_get h_x13, h_x130, h_x131]
            refine hK _ _ ?_
            clear hK K
            refine cw_seq_k fun K14 hK14 => ?_
            simp only [go_sem]
            refine ibr_intro (fun hc15 => ?_) (fun hc15 => ?_)
            · rw [if_t hc15] at hm2
              simp only [cw_skip, qblock_normal, qseq_normal]
              refine hK14 _ _ ?_
              refine cw_seq_k fun K16 hK16 => ?_
              simp only [cw_block]
              refine cw_assoc ?_
              obtain ⟨x18, h_x18, hm2⟩ := bind_get hm2
              have h_x180 := get_nn h_x18
              have h_x181 := get_lt h_x18
              refine cw_reg_seq fun K hK => ?_
              simp only [go_sem, s1, s2, s5, s6, s7, ielem_get h_x18, irow_get h_x18, h_x180, h_x181, ielem_get h_x13, irow_get h_x13, h_x130, h_x131]
              refine icall_fn (k_r03_within x18 (wr (last_6 + 1)) (wr (trials - 1))) ?_
              simp only [go_sem, s1, s2, s5, s6, s7, ielem_get h_x18, irow_get h_x18, h_x180, h_x181, ielem_get h_x13, irow_get h_x13, h_x130, h_x131]
              refine hK _ _ ?_
              clear hK K
              refine cw_seq_k fun K19 hK19 => ?_
              simp only [go_sem]
              refine ibr_intro (fun hc20 => ?_) (fun hc20 => ?_)
              · rw [if_t hc20] at hm2
                refine cw_reg_seq fun K hK => ?_
                simp only [go_sem]
                refine hK _ _ ?_
                clear hK K
                simp only [cw_ret, qseq_ret, qblock_ret, retQ_ret]
                obtain rfl := Option.some.inj hm2
                obtain rfl := hb11 _ rfl
                try dsimp only at hm1
                obtain rfl := Option.some.inj hm1
                obtain rfl := hb6 _ rfl
                try dsimp only at hm0
                obtain rfl := Option.some.inj hm0
                exact done_t (by simp only [go_sem, List.length_append, List.map_append]) (frz_v _)
              · rw [if_f hc20] at hm2
                simp only [cw_skip, qblock_normal, qseq_normal]
                refine hK19 _ _ ?_
                refine cw_reg_k fun K hK => ?_
                simp only [go_sem, s2, s5, s7, ielem_get h_x13, irow_get h_x13, h_x130, h_x131, ielem_get h_x18, irow_get h_x18, h_x180, h_x181]
                refine hK _ _ ?_
                clear hK K
                simp only [qblock_normal, qseq_normal]
                refine hK16 _ _ ?_
                refine cw_reg_k fun K hK => ?_
                simp only [go_sem, s7]
                refine hK _ _ ?_
                clear hK K
                simp only [qblock_normal, qseq_normal]
                obtain rfl := Option.some.inj hm2
                refine ⟨_, rfl, ?_⟩
                exact ⟨s1, s2, s5, (by first | rfl | exact s6 | simp only [go_sem, s6, List.length_append, List.map_append]), (by first | rfl | exact s7 | simp only [go_sem, s7, List.length_append, List.map_append])⟩
            · rw [if_f hc15] at hm2
              simp only [cw_exit, qseq_exit, qblock_same, qblock_ne, qblock_normal, qseq_normal, Nat.reduceEqDiff, not_false_eq_true]
              obtain rfl := Option.some.inj hm2
              obtain rfl := hb11 _ rfl
              try dsimp only at hm1
              exact J10  _ _ s1 s2 s5 hm1
        · rw [if_f hc8] at hm1
          simp only [cw_exit, qseq_exit, qblock_same, qblock_ne, qblock_normal, qseq_normal, Nat.reduceEqDiff, not_false_eq_true]
          obtain rfl := Option.some.inj hm1
          obtain rfl := hb6 _ rfl
          try dsimp only at hm0
          exact J5  _ _  hm0

end Go.Nw.CM

namespace Go.Nw.CM
open Go.Nw.Circ
set_option linter.unusedSimpArgs false
set_option linter.unusedVariables false
variable {O : Orac}

theorem k_r03_ValidUpsets (hf : Has O "newel/newelref03.ValidUpsets" x_r03_ValidUpsets) (k_r03_within : C_r03_within O) (k_r03_Hazards : C_r03_Hazards O) : C_r03_ValidUpsets O := by
  intro c u r hm0
  unfold r03_ValidUpsets at hm0
  refine fn_cw hf rfl (fz_cons (.agg _ (fz_cons (frz_v _) (fz_cons (frz_fs fun a _ => fz_eI a) (fz_cons (frz_fs fun a _ => fz_eWire a) fz_nil)))) (fz_cons (frz_fs fun a _ => fz_eUpset a) fz_nil)) (frz_v _) ?_
  refine cw_start (fun t h => t 0 = .agg [I c.Hazards, .fs 1 (List.map eI c.Switches), .fs 2 (List.map eWire c.Wires)] ∧ t 1 = .fs 3 (List.map eUpset u)) ⟨rfl, rfl⟩ fun t h ⟨s0, s1⟩ => ?_
  simp only [x_r03_ValidUpsets]
  refine cw_reg_seq fun K hK => ?_
  simp only [go_sem, s0]
  refine hK _ _ ?_
  clear hK K
  refine cw_assoc ?_
  refine cw_reg_seq fun K hK => ?_
  simp only [go_sem, s1]
  refine hK _ _ ?_
  clear hK K
  refine cw_seq_k fun K1 hK1 => ?_
  simp only [go_sem]
  refine ibr_intro (fun hc2 => ?_) (fun hc2 => ?_)
  · rw [if_t hc2] at hm0
    refine cw_reg_seq fun K hK => ?_
    simp only [go_sem]
    refine hK _ _ ?_
    clear hK K
    simp only [cw_ret, qseq_ret, qblock_ret, retQ_ret]
    obtain rfl := Option.some.inj hm0
    exact done_t (by simp only [go_sem, List.length_append, List.map_append]) (frz_v _)
  · rw [if_f hc2] at hm0
    simp only [cw_skip, qblock_normal, qseq_normal]
    refine hK1 _ _ ?_
    refine cw_assoc ?_
    refine cw_reg_seq fun K hK => ?_
    simp only [go_sem]
    refine hK _ _ ?_
    clear hK K
    refine cw_seq_k fun K3 hK3 => ?_
    have J4 : ∀ (t : Slots) (h : Heap), r03_ValidUpsets_j4 = some r → K3 t h := by
      intro t h hm0
      refine hK3 _ _ ?_
      unfold r03_ValidUpsets_j4 at hm0
      refine cw_reg_seq fun K hK => ?_
      simp only [go_sem]
      refine hK _ _ ?_
      clear hK K
      simp only [cw_ret, qseq_ret, qblock_ret, retQ_ret]
      obtain rfl := Option.some.inj hm0
      exact done_t (by simp only [go_sem, List.length_append, List.map_append]) (frz_v _)
    simp only [cw_block]
    obtain ⟨b5, hl5, hm0⟩ := bind_get hm0
    refine cw_loopM hl5 (fun | i_5, t, h => t 1 = .fs 3 (List.map eUpset u) ∧ t 2 = .fp [I c.Hazards, .fs 1 (List.map eI c.Switches), .fs 2 (List.map eWire c.Wires)] 0 ∧ t 5 = I i_5) ?_ ?_
    · exact ⟨s1, (by first | rfl | simp only [go_sem, List.length_append, List.map_append]), (by first | rfl | simp only [go_sem, List.length_append, List.map_append])⟩
    · rintro i_5 o t h ⟨s1, s2, s5⟩ hm1 hb5
      simp only [r03_ValidUpsets_L17] at hm1
      rw [x_r03_ValidUpsets_L17]
      refine cw_assoc ?_
      refine cw_reg_seq fun K hK => ?_
      simp only [go_sem, s1, s5]
      refine hK _ _ ?_
      clear hK K
      refine cw_seq_k fun K6 hK6 => ?_
      simp only [go_sem]
      refine ibr_intro (fun hc7 => ?_) (fun hc7 => ?_)
      · rw [if_t hc7] at hm1
        simp only [cw_skip, qblock_normal, qseq_normal]
        refine hK6 _ _ ?_
        refine cw_seq_k fun K8 hK8 => ?_
        have J9 : ∀ (t : Slots) (h : Heap), t 1 = .fs 3 (List.map eUpset u) → t 2 = .fp [I c.Hazards, .fs 1 (List.map eI c.Switches), .fs 2 (List.map eWire c.Wires)] 0 → t 5 = I i_5 → r03_ValidUpsets_j9 i_5 = some o → K8 t h := by
          intro t h s1 s2 s5 hm1
          refine hK8 _ _ ?_
          unfold r03_ValidUpsets_j9 at hm1
          refine cw_reg_k fun K hK => ?_
          simp only [go_sem, s5]
          refine hK _ _ ?_
          clear hK K
          simp only [qblock_normal, qseq_normal]
          obtain rfl := Option.some.inj hm1
          refine ⟨_, rfl, ?_⟩
          exact ⟨s1, s2, (by first | rfl | exact s5 | simp only [go_sem, s5, List.length_append, List.map_append])⟩
        simp only [cw_block]
        obtain ⟨x11, h_x11, hm1⟩ := bind_get hm1
        have h_x110 := get_nn h_x11
        have h_x111 := get_lt h_x11
        refine cw_reg_seq fun K hK => ?_
        simp only [go_sem, s1, s5, ielem_get h_x11, irow_get h_x11, h_x110, h_x111]
        refine hK _ _ ?_
        clear hK K
        refine cw_assoc ?_
        obtain ⟨c17, h_c17, hm1⟩ := bind_get hm1
        refine cw_reg_postK (fun t h => ∃ i6 : Nat, t 1 = .fs 3 (List.map eUpset u) ∧ t 2 = .fp [I c.Hazards, .fs 1 (List.map eI c.Switches), .fs 2 (List.map eWire c.Wires)] 0 ∧ t 5 = I i_5 ∧ t 6 = .rp i6 0 0 ∧ t 38 = B c17 ∧ h.ob i6 = some (3, [[I x11.Night, I x11.Kind, I x11.Number]]) ∧ i6 < h.nx) (fun K hK => ?_) ?_
        · simp only [go_sem, s1, s5]
          refine icall_fn (k_r03_within x11.Night 0 1000) ?_
          simp only [go_sem, s1, s5]
          refine ibr_intro (fun hg18 => ?_) (fun hg18 => ?_)
          · simp only [hg18, Bool.not_true, Bool.not_false, eq_self, if_true, if_false, Bool.true_or, Bool.or_true, Bool.false_or, Bool.or_false, Bool.true_and, Bool.and_true, Bool.false_and, Bool.and_false, Bool.false_eq_true] at h_c17
            obtain rfl := Option.some.inj h_c17
            simp only [go_sem, s1, s5, hg18]
            exact hK _ _ ⟨h.nx, s1, s2, s5, (by first | rfl | simp only [go_sem, hg18, List.length_append, List.map_append]), (by first | rfl | simp only [go_sem, hg18, List.length_append, List.map_append]), (by simp only [go_sem, hg18, List.length_append, List.map_append]), (by simp only [go_sem])⟩
          · simp only [hg18, Bool.not_true, Bool.not_false, eq_self, if_true, if_false, Bool.true_or, Bool.or_true, Bool.false_or, Bool.or_false, Bool.true_and, Bool.and_true, Bool.false_and, Bool.and_false, Bool.false_eq_true] at h_c17
            obtain ⟨c16, h_c16, h_c17⟩ := bind_get h_c17
            obtain rfl := Option.some.inj h_c17
            simp only [go_sem, s1, s5, hg18]
            refine ibr_intro (fun hg19 => ?_) (fun hg19 => ?_)
            · simp only [hg18, hg19, Bool.not_true, Bool.not_false, eq_self, if_true, if_false, Bool.true_or, Bool.or_true, Bool.false_or, Bool.or_false, Bool.true_and, Bool.and_true, Bool.false_and, Bool.and_false, Bool.false_eq_true] at h_c16
              obtain ⟨x15, h_x15, h_c16⟩ := bind_get h_c16
              have h_x150 := get_nn h_x15
              have h_x151 := get_lt h_x15
              obtain rfl := Option.some.inj h_c16
              simp only [go_sem, s1, s5, ielem_get h_x15, irow_get h_x15, h_x150, h_x151, hg18, hg19]
              exact hK _ _ ⟨h.nx, s1, s2, s5, (by first | rfl | simp only [go_sem, hg18, hg19, List.length_append, List.map_append]), (by first | rfl | simp only [go_sem, hg18, hg19, List.length_append, List.map_append]), (by simp only [go_sem, hg18, hg19, List.length_append, List.map_append]), (by simp only [go_sem])⟩
            · simp only [hg18, hg19, Bool.not_true, Bool.not_false, eq_self, if_true, if_false, Bool.true_or, Bool.or_true, Bool.false_or, Bool.or_false, Bool.true_and, Bool.and_true, Bool.false_and, Bool.and_false, Bool.false_eq_true] at h_c16
              obtain rfl := Option.some.inj h_c16
              simp only [go_sem, s1, s5, hg18, hg19]
              exact hK _ _ ⟨h.nx, s1, s2, s5, (by first | rfl | simp only [go_sem, hg18, hg19, List.length_append, List.map_append]), (by first | rfl | simp only [go_sem, hg18, hg19, List.length_append, List.map_append]), (by simp only [go_sem, hg18, hg19, List.length_append, List.map_append]), (by simp only [go_sem])⟩
        · rintro t h ⟨i6, s1, s2, s5, s6, s38, ob_o6, lt_o6⟩
          refine cw_seq_k fun K20 hK20 => ?_
          simp only [go_sem, s38]
          refine ibr_intro (fun hc21 => ?_) (fun hc21 => ?_)
          · rw [if_t hc21] at hm1
            refine cw_reg_seq fun K hK => ?_
            simp only [go_sem, lt_o6]
            refine hK _ _ ?_
            clear hK K
            simp only [cw_ret, qseq_ret, qblock_ret, retQ_ret]
            obtain rfl := Option.some.inj hm1
            obtain rfl := hb5 _ rfl
            try dsimp only at hm0
            obtain rfl := Option.some.inj hm0
            exact done_t (by simp only [go_sem, ob_o6, lt_o6, List.length_append, List.map_append]) (frz_v _)
          · rw [if_f hc21] at hm1
            simp only [cw_skip, qblock_normal, qseq_normal]
            refine hK20 _ _ ?_
            refine cw_reg_seq fun K hK => ?_
            simp only [go_sem, s6, ob_o6, lt_o6]
            refine hK _ _ ?_
            clear hK K
            simp only [cw_block]
            refine cw_reg_seq fun K hK => ?_
            simp only [go_sem, lt_o6]
            refine hK _ _ ?_
            clear hK K
            simp only [go_sem]
            refine ibr_intro (fun hc22 => ?_) (fun hc22 => ?_)
            · rw [if_t hc22] at hm1
              obtain ⟨c32, h_c32, hm1⟩ := bind_get hm1
              refine cw_reg_postK (fun t h => t 1 = .fs 3 (List.map eUpset u) ∧ t 2 = .fp [I c.Hazards, .fs 1 (List.map eI c.Switches), .fs 2 (List.map eWire c.Wires)] 0 ∧ t 5 = I i_5 ∧ t 74 = B c32) (fun K hK => ?_) ?_
              · simp only [go_sem, s1, s2, s5, s6, ob_o6, lt_o6]
                refine icall_fn (k_r03_within x11.Number 0 (wr ((List.length c.Switches : Int) - 1))) ?_
                simp only [go_sem, s1, s2, s5, s6, ob_o6, lt_o6]
                refine ibr_intro (fun hg33 => ?_) (fun hg33 => ?_)
                · simp only [hg33, Bool.not_true, Bool.not_false, eq_self, if_true, if_false, Bool.true_or, Bool.or_true, Bool.false_or, Bool.or_false, Bool.true_and, Bool.and_true, Bool.false_and, Bool.and_false, Bool.false_eq_true] at h_c32
                  obtain rfl := Option.some.inj h_c32
                  simp only [go_sem, s1, s2, s5, s6, ob_o6, lt_o6, hg33]
                  exact hK _ _ ⟨s1, s2, s5, (by first | rfl | simp only [go_sem, hg33, List.length_append, List.map_append])⟩
                · simp only [hg33, Bool.not_true, Bool.not_false, eq_self, if_true, if_false, Bool.true_or, Bool.or_true, Bool.false_or, Bool.or_false, Bool.true_and, Bool.and_true, Bool.false_and, Bool.and_false, Bool.false_eq_true] at h_c32
                  obtain ⟨c29, h_c29, h_c32⟩ := bind_get h_c32
                  obtain ⟨c31, h_c31, h_c32⟩ := bind_get h_c32
                  obtain rfl := Option.some.inj h_c32
                  simp only [go_sem, s1, s2, s5, s6, ob_o6, lt_o6, hg33]
                  refine ibr_intro (fun hg34 => ?_) (fun hg34 => ?_)
                  · simp only [hg33, hg34, Bool.not_true, Bool.not_false, eq_self, if_true, if_false, Bool.true_or, Bool.or_true, Bool.false_or, Bool.or_false, Bool.true_and, Bool.and_true, Bool.false_and, Bool.and_false, Bool.false_eq_true] at h_c29
                    obtain ⟨x28, h_x28, h_c29⟩ := bind_get h_c29
                    have h_x280 := get_nn h_x28
                    have h_x281 := get_lt h_x28
                    obtain rfl := Option.some.inj h_c29
                    simp only [go_sem, s1, s2, s5, s6, ob_o6, lt_o6, ielem_get h_x28, irow_get h_x28, h_x280, h_x281, hg33, hg34]
                    refine ibr_intro (fun hg35 => ?_) (fun hg35 => ?_)
                    · simp only [hg33, hg34, hg35, Bool.not_true, Bool.not_false, eq_self, if_true, if_false, Bool.true_or, Bool.or_true, Bool.false_or, Bool.or_false, Bool.true_and, Bool.and_true, Bool.false_and, Bool.and_false, Bool.false_eq_true] at h_c31
                      obtain ⟨x30, h_x30, h_c31⟩ := bind_get h_c31
                      have h_x300 := get_nn h_x30
                      have h_x301 := get_lt h_x30
                      obtain rfl := Option.some.inj (h_x28.symm.trans h_x30)
                      obtain rfl := Option.some.inj h_c31
                      simp only [go_sem, s1, s2, s5, s6, ob_o6, lt_o6, ielem_get h_x28, irow_get h_x28, h_x280, h_x281, ielem_get h_x30, irow_get h_x30, h_x300, h_x301, hg33, hg34, hg35]
                      exact hK _ _ ⟨s1, s2, s5, (by first | rfl | simp only [go_sem, hg33, hg34, hg35, List.length_append, List.map_append])⟩
                    · simp only [hg33, hg34, hg35, Bool.not_true, Bool.not_false, eq_self, if_true, if_false, Bool.true_or, Bool.or_true, Bool.false_or, Bool.or_false, Bool.true_and, Bool.and_true, Bool.false_and, Bool.and_false, Bool.false_eq_true] at h_c31
                      obtain rfl := Option.some.inj h_c31
                      simp only [go_sem, s1, s2, s5, s6, ob_o6, lt_o6, ielem_get h_x28, irow_get h_x28, h_x280, h_x281, hg33, hg34, hg35]
                      exact hK _ _ ⟨s1, s2, s5, (by first | rfl | simp only [go_sem, hg33, hg34, hg35, List.length_append, List.map_append])⟩
                  · simp only [hg33, hg34, Bool.not_true, Bool.not_false, eq_self, if_true, if_false, Bool.true_or, Bool.or_true, Bool.false_or, Bool.or_false, Bool.true_and, Bool.and_true, Bool.false_and, Bool.and_false, Bool.false_eq_true] at h_c29
                    obtain rfl := Option.some.inj h_c29
                    simp only [hg33, hg34, Bool.not_true, Bool.not_false, eq_self, if_true, if_false, Bool.true_or, Bool.or_true, Bool.false_or, Bool.or_false, Bool.true_and, Bool.and_true, Bool.false_and, Bool.and_false, Bool.false_eq_true] at h_c31
                    obtain rfl := Option.some.inj h_c31
                    simp only [go_sem, s1, s2, s5, s6, ob_o6, lt_o6, hg33, hg34]
                    exact hK _ _ ⟨s1, s2, s5, (by first | rfl | simp only [go_sem, hg33, hg34, List.length_append, List.map_append])⟩
              · rintro t h ⟨s1, s2, s5, s74⟩
                simp only [go_sem, s74]
                refine ibr_intro (fun hc36 => ?_) (fun hc36 => ?_)
                · rw [if_t hc36] at hm1
                  refine cw_reg_seq fun K hK => ?_
                  simp only [go_sem]
                  refine hK _ _ ?_
                  clear hK K
                  simp only [cw_ret, qseq_ret, qblock_ret, retQ_ret]
                  obtain rfl := Option.some.inj hm1
                  obtain rfl := hb5 _ rfl
                  try dsimp only at hm0
                  obtain rfl := Option.some.inj hm0
                  exact done_t (by simp only [go_sem, List.length_append, List.map_append]) (frz_v _)
                · rw [if_f hc36] at hm1
                  simp only [cw_skip, qblock_normal, qseq_normal]
                  exact J9  _ _ s1 s2 s5 hm1
            · rw [if_f hc22] at hm1
              refine cw_reg_seq fun K hK => ?_
              simp only [go_sem, lt_o6]
              refine hK _ _ ?_
              clear hK K
              simp only [go_sem]
              refine ibr_intro (fun hc37 => ?_) (fun hc37 => ?_)
              · rw [if_t hc37] at hm1
                obtain ⟨c41, h_c41, hm1⟩ := bind_get hm1
                refine cw_reg_postK (fun t h => t 1 = .fs 3 (List.map eUpset u) ∧ t 2 = .fp [I c.Hazards, .fs 1 (List.map eI c.Switches), .fs 2 (List.map eWire c.Wires)] 0 ∧ t 5 = I i_5 ∧ t 86 = B c41) (fun K hK => ?_) ?_
                · simp only [go_sem, s2, s6, ob_o6, lt_o6]
                  refine ibr_intro (fun hg42 => ?_) (fun hg42 => ?_)
                  · simp only [hg42, Bool.not_true, Bool.not_false, eq_self, if_true, if_false, Bool.true_or, Bool.or_true, Bool.false_or, Bool.or_false, Bool.true_and, Bool.and_true, Bool.false_and, Bool.and_false, Bool.false_eq_true] at h_c41
                    obtain rfl := Option.some.inj h_c41
                    simp only [go_sem, s2, s6, ob_o6, lt_o6, hg42]
                    exact hK _ _ ⟨s1, s2, s5, (by first | rfl | simp only [go_sem, hg42, List.length_append, List.map_append])⟩
                  · simp only [hg42, Bool.not_true, Bool.not_false, eq_self, if_true, if_false, Bool.true_or, Bool.or_true, Bool.false_or, Bool.or_false, Bool.true_and, Bool.and_true, Bool.false_and, Bool.and_false, Bool.false_eq_true] at h_c41
                    obtain ⟨y40, h_y40, h_c41⟩ := bind_get h_c41
                    obtain rfl := Option.some.inj h_c41
                    simp only [go_sem, s2, s6, ob_o6, lt_o6, hg42]
                    refine icall_fn (k_r03_Hazards c x11.Number _ h_y40) ?_
                    simp only [go_sem, s2, s6, ob_o6, lt_o6, hg42]
                    exact hK _ _ ⟨s1, s2, s5, (by first | rfl | simp only [go_sem, hg42, List.length_append, List.map_append])⟩
                · rintro t h ⟨s1, s2, s5, s86⟩
                  simp only [go_sem, s86]
                  refine ibr_intro (fun hc43 => ?_) (fun hc43 => ?_)
                  · rw [if_t hc43] at hm1
                    refine cw_reg_seq fun K hK => ?_
                    simp only [go_sem]
                    refine hK _ _ ?_
                    clear hK K
                    simp only [cw_ret, qseq_ret, qblock_ret, retQ_ret]
                    obtain rfl := Option.some.inj hm1
                    obtain rfl := hb5 _ rfl
                    try dsimp only at hm0
                    obtain rfl := Option.some.inj hm0
                    exact done_t (by simp only [go_sem, List.length_append, List.map_append]) (frz_v _)
                  · rw [if_f hc43] at hm1
                    simp only [cw_skip, qblock_normal, qseq_normal]
                    exact J9  _ _ s1 s2 s5 hm1
              · rw [if_f hc37] at hm1
                refine cw_reg_seq fun K hK => ?_
                simp only [go_sem, lt_o6]
                refine hK _ _ ?_
                clear hK K
                simp only [cw_ret, qseq_ret, qblock_ret, retQ_ret]
                obtain rfl := Option.some.inj hm1
                obtain rfl := hb5 _ rfl
                try dsimp only at hm0
                obtain rfl := Option.some.inj hm0
                exact done_t (by simp only [go_sem, ob_o6, lt_o6, List.length_append, List.map_append]) (frz_v _)
      · rw [if_f hc7] at hm1
        simp only [cw_exit, qseq_exit, qblock_same, qblock_ne, qblock_normal, qseq_normal, Nat.reduceEqDiff, not_false_eq_true]
        obtain rfl := Option.some.inj hm1
        obtain rfl := hb5 _ rfl
        try dsimp only at hm0
        exact J4  _ _  hm0

end Go.Nw.CM

namespace Go.Nw.CM
open Go.Nw.Circ
set_option linter.unusedSimpArgs false
set_option linter.unusedVariables false
variable {O : Orac}

theorem k_r03_conducts_body (hf : Has O "newel/newelref03.conducts" x_r03_conducts) : C_r03_conducts_body O := by
  intro self_r03_conducts self_r03_conducts_h c wire hazards closed open_ r hm0
  unfold r03_conducts_body at hm0
  refine fn_cw hf rfl (fz_cons (.agg _ (fz_cons (frz_v _) (fz_cons (frz_fs fun a _ => fz_eI a) (fz_cons (frz_fs fun a _ => fz_eWire a) fz_nil)))) (fz_cons (frz_v _) (fz_cons (frz_v _) (fz_cons (frz_v _) (fz_cons (frz_v _) fz_nil))))) (frz_v _) ?_
  refine cw_start (fun t h => t 0 = .agg [I c.Hazards, .fs 1 (List.map eI c.Switches), .fs 2 (List.map eWire c.Wires)] ∧ t 1 = I wire ∧ t 2 = I hazards ∧ t 3 = I closed ∧ t 4 = I open_) ⟨rfl, rfl, rfl, rfl, rfl⟩ fun t h ⟨s0, s1, s2, s3, s4⟩ => ?_
  simp only [x_r03_conducts]
  refine cw_reg_seq fun K hK => ?_
  simp only [go_sem, s0]
  refine hK _ _ ?_
  clear hK K
  obtain ⟨x2, h_x2, hm0⟩ := bind_get hm0
  have h_x20 := get_nn h_x2
  have h_x21 := get_lt h_x2
  refine cw_reg_seq fun K hK => ?_
  simp only [go_sem, s1, ielem_get h_x2, irow_get h_x2, h_x20, h_x21]
  refine hK _ _ ?_
  clear hK K
  refine cw_assoc ?_
  refine cw_reg_seq fun K hK => ?_
  simp only [go_sem]
  refine hK _ _ ?_
  clear hK K
  refine cw_seq_k fun K3 hK3 => ?_
  simp only [go_sem]
  refine ibr_intro (fun hc4 => ?_) (fun hc4 => ?_)
  · rw [if_t hc4] at hm0
    obtain ⟨x6, h_x6, hm0⟩ := bind_get hm0
    have h_x60 := get_nn h_x6
    have h_x61 := get_lt h_x6
    refine cw_reg_seq fun K hK => ?_
    simp only [go_sem, ielem_get h_x6, irow_get h_x6, h_x60, h_x61]
    refine hK _ _ ?_
    clear hK K
    obtain ⟨q12, h_q12, hm0⟩ := bind_get hm0
    obtain ⟨c16, h_c16, hm0⟩ := bind_get hm0
    refine cw_reg_postK (fun t h => t 10 = B c16) (fun K hK => ?_) ?_
    · simp only [go_sem, s2, s3, s4, ibin_shr h_q12]
      refine ibr_intro (fun hg17 => ?_) (fun hg17 => ?_)
      · simp only [hg17, Bool.not_true, Bool.not_false, eq_self, if_true, if_false, Bool.true_or, Bool.or_true, Bool.false_or, Bool.or_false, Bool.true_and, Bool.and_true, Bool.false_and, Bool.and_false, Bool.false_eq_true] at h_c16
        obtain ⟨q13, h_q13, h_c16⟩ := bind_get h_c16
        obtain ⟨c15, h_c15, h_c16⟩ := bind_get h_c16
        obtain rfl := Option.some.inj h_c16
        simp only [go_sem, s2, s3, s4, ibin_shr h_q12, ibin_shr h_q13, hg17]
        refine ibr_intro (fun hg18 => ?_) (fun hg18 => ?_)
        · simp only [hg17, hg18, Bool.not_true, Bool.not_false, eq_self, if_true, if_false, Bool.true_or, Bool.or_true, Bool.false_or, Bool.or_false, Bool.true_and, Bool.and_true, Bool.false_and, Bool.and_false, Bool.false_eq_true] at h_c15
          obtain rfl := Option.some.inj h_c15
          simp only [go_sem, s2, s3, s4, ibin_shr h_q12, ibin_shr h_q13, hg17, hg18]
          exact hK _ _ (by first | rfl | simp only [go_sem, hg17, hg18, List.length_append, List.map_append])
        · simp only [hg17, hg18, Bool.not_true, Bool.not_false, eq_self, if_true, if_false, Bool.true_or, Bool.or_true, Bool.false_or, Bool.or_false, Bool.true_and, Bool.and_true, Bool.false_and, Bool.and_false, Bool.false_eq_true] at h_c15
          obtain ⟨x14, h_x14, h_c15⟩ := bind_get h_c15
          have h_x140 := get_nn h_x14
          have h_x141 := get_lt h_x14
          obtain rfl := Option.some.inj h_c15
          simp only [go_sem, s2, s3, s4, ibin_shr h_q12, ibin_shr h_q13, ielem_get h_x14, irow_get h_x14, h_x140, h_x141, hg17, hg18]
          exact hK _ _ (by first | rfl | simp only [go_sem, hg17, hg18, List.length_append, List.map_append])
      · simp only [hg17, Bool.not_true, Bool.not_false, eq_self, if_true, if_false, Bool.true_or, Bool.or_true, Bool.false_or, Bool.or_false, Bool.true_and, Bool.and_true, Bool.false_and, Bool.and_false, Bool.false_eq_true] at h_c16
        obtain rfl := Option.some.inj h_c16
        simp only [go_sem, s2, s3, s4, ibin_shr h_q12, hg17]
        exact hK _ _ (by first | rfl | simp only [go_sem, hg17, List.length_append, List.map_append])
    · rintro t h s10
      simp only [cw_ret, qseq_ret, qblock_ret, retQ_ret]
      obtain rfl := Option.some.inj hm0
      exact done_t (by simp only [go_sem, s10, List.length_append, List.map_append]) (frz_v _)
  · rw [if_f hc4] at hm0
    simp only [cw_skip, qblock_normal, qseq_normal]
    refine hK3 _ _ ?_
    refine cw_assoc ?_
    refine cw_reg_seq fun K hK => ?_
    simp only [go_sem]
    refine hK _ _ ?_
    clear hK K
    refine cw_seq_k fun K19 hK19 => ?_
    have J20 : ∀ (i11 : Nat) (t : Slots) (h : Heap), t 11 = .rp i11 0 0 → h.ob i11 = some (2, [[I x2.Kind, .fs 1 (List.map eI x2.Of)]]) → i11 < h.nx → r03_conducts_body_j20 x2 = some r → K19 t h := by
      intro i11 t h s11 ob_o11 lt_o11 hm0
      refine hK19 _ _ ?_
      unfold r03_conducts_body_j20 at hm0
      refine cw_reg_seq fun K hK => ?_
      simp only [go_sem, s11, ob_o11, lt_o11]
      refine hK _ _ ?_
      clear hK K
      simp only [cw_ret, qseq_ret, qblock_ret, retQ_ret]
      obtain rfl := Option.some.inj hm0
      exact done_t (by simp only [go_sem, ob_o11, lt_o11, List.length_append, List.map_append]) (frz_v _)
    simp only [cw_block]
    obtain ⟨b21, hl21, hm0⟩ := bind_get hm0
    refine cw_loopM hl21 (fun | k_13, t, h => ∃ i11 : Nat, t 2 = I hazards ∧ t 3 = I closed ∧ t 4 = I open_ ∧ t 5 = .fp [I c.Hazards, .fs 1 (List.map eI c.Switches), .fs 2 (List.map eWire c.Wires)] 0 ∧ t 11 = .rp i11 0 0 ∧ t 13 = I k_13 ∧ h.ob i11 = some (2, [[I x2.Kind, .fs 1 (List.map eI x2.Of)]]) ∧ i11 < h.nx) ?_ ?_
    · exact ⟨h.nx, s2, s3, s4, (by first | rfl | simp only [go_sem, List.length_append, List.map_append]), (by first | rfl | simp only [go_sem, List.length_append, List.map_append]), (by first | rfl | simp only [go_sem, List.length_append, List.map_append]), (by simp only [go_sem, List.length_append, List.map_append]), (by simp only [go_sem])⟩
    · rintro k_13 o t h ⟨i11, s2, s3, s4, s5, s11, s13, ob_o11, lt_o11⟩ hm1 hb21
      simp only [r03_conducts_body_L10] at hm1
      rw [x_r03_conducts_L10]
      refine cw_assoc ?_
      refine cw_reg_seq fun K hK => ?_
      simp only [go_sem, s11, s13, ob_o11, lt_o11]
      refine hK _ _ ?_
      clear hK K
      refine cw_seq_k fun K22 hK22 => ?_
      simp only [go_sem]
      refine ibr_intro (fun hc23 => ?_) (fun hc23 => ?_)
      · rw [if_t hc23] at hm1
        simp only [cw_skip, qblock_normal, qseq_normal]
        refine hK22 _ _ ?_
        refine cw_seq_k fun K24 hK24 => ?_
        simp only [cw_block]
        obtain ⟨x27, h_x27, hm1⟩ := bind_get hm1
        have h_x270 := get_nn h_x27
        have h_x271 := get_lt h_x27
        obtain ⟨y28, h_y28, hm1⟩ := bind_get hm1
        refine cw_reg_seq fun K hK => ?_
        simp only [go_sem, s2, s3, s4, s5, s11, s13, ob_o11, lt_o11, ielem_get h_x27, irow_get h_x27, h_x270, h_x271]
        refine icall_fn (self_r03_conducts_h c x27 hazards closed open_ _ h_y28) ?_
        simp only [go_sem, s2, s3, s4, s5, s11, s13, ob_o11, lt_o11, ielem_get h_x27, irow_get h_x27, h_x270, h_x271]
        refine hK _ _ ?_
        clear hK K
        simp only [go_sem]
        refine ibr_intro (fun hc29 => ?_) (fun hc29 => ?_)
        · rw [if_t hc29] at hm1
          refine cw_reg_seq fun K hK => ?_
          simp only [go_sem, s11, ob_o11, lt_o11]
          refine hK _ _ ?_
          clear hK K
          simp only [cw_ret, qseq_ret, qblock_ret, retQ_ret]
          obtain rfl := Option.some.inj hm1
          obtain rfl := hb21 _ rfl
          try dsimp only at hm0
          obtain rfl := Option.some.inj hm0
          exact done_t (by simp only [go_sem, ob_o11, lt_o11, List.length_append, List.map_append]) (frz_v _)
        · rw [if_f hc29] at hm1
          simp only [cw_skip, qblock_normal, qseq_normal]
          refine hK24 _ _ ?_
          refine cw_reg_k fun K hK => ?_
          simp only [go_sem, s13, lt_o11]
          refine hK _ _ ?_
          clear hK K
          simp only [qblock_normal, qseq_normal]
          obtain rfl := Option.some.inj hm1
          refine ⟨_, rfl, ?_⟩
          exact ⟨i11, s2, s3, s4, s5, s11, (by first | rfl | exact s13 | simp only [go_sem, s13, List.length_append, List.map_append]), ob_o11, lt_o11⟩
      · rw [if_f hc23] at hm1
        simp only [cw_exit, qseq_exit, qblock_same, qblock_ne, qblock_normal, qseq_normal, Nat.reduceEqDiff, not_false_eq_true]
        obtain rfl := Option.some.inj hm1
        obtain rfl := hb21 _ rfl
        try dsimp only at hm0
        exact J20 i11 _ _ s11 ob_o11 lt_o11 hm0

theorem k_r03_conducts (k_r03_conducts_body : C_r03_conducts_body O) : C_r03_conducts O := by
  intro n
  induction n with
  | zero => intro c wire hazards closed open_ r h; cases h
  | succ n ih => exact fun c wire hazards closed open_ r h => k_r03_conducts_body (r03_conducts n) ih c wire hazards closed open_ r h

end Go.Nw.CM

namespace Go.Nw.CM
open Go.Nw.Circ
set_option linter.unusedSimpArgs false
set_option linter.unusedVariables false
variable {O : Orac}

theorem k_slices_IndexFunc___int_int_ (hf : Has O "slices.IndexFunc[[]int,int]" x_slices_IndexFunc___int_int_) : C_slices_IndexFunc___int_int_ O := by
  intro s f_n f_a f_b f f_z f_h r hm0
  unfold slices_IndexFunc___int_int_ at hm0
  refine fn_cw hf rfl (fz_cons (frz_fs fun a _ => fz_eI a) (fz_cons f_z fz_nil)) (frz_v _) ?_
  refine cw_start (fun t h => t 0 = .fs 1 (List.map eI s) ∧ t 1 = .fn f_n f_a f_b) ⟨rfl, rfl⟩ fun t h ⟨s0, s1⟩ => ?_
  simp only [x_slices_IndexFunc___int_int_]
  refine cw_reg_seq fun K hK => ?_
  simp only [go_sem]
  refine hK _ _ ?_
  clear hK K
  refine cw_assoc ?_
  refine cw_reg_seq fun K hK => ?_
  simp only [go_sem, s0]
  refine hK _ _ ?_
  clear hK K
  refine cw_seq_k fun K1 hK1 => ?_
  have J2 : ∀ (t : Slots) (h : Heap), slices_IndexFunc___int_int__j2 = some r → K1 t h := by
    intro t h hm0
    refine hK1 _ _ ?_
    unfold slices_IndexFunc___int_int__j2 at hm0
    refine cw_reg_seq fun K hK => ?_
    simp only [go_sem]
    refine hK _ _ ?_
    clear hK K
    simp only [cw_ret, qseq_ret, qblock_ret, retQ_ret]
    obtain rfl := Option.some.inj hm0
    exact done_t (by simp only [go_sem, List.length_append, List.map_append]) (frz_v _)
  simp only [cw_block]
  obtain ⟨b3, hl3, hm0⟩ := bind_get hm0
  refine cw_loopM hl3 (fun | x_8, t, h => t 0 = .fs 1 (List.map eI s) ∧ t 1 = .fn f_n f_a f_b ∧ t 7 = I (List.length s : Int) ∧ t 8 = I x_8) ?_ ?_
  · exact ⟨s0, s1, (by first | rfl | simp only [go_sem, List.length_append, List.map_append]), (by first | rfl | simp only [go_sem, List.length_append, List.map_append])⟩
  · rintro x_8 o t h ⟨s0, s1, s7, s8⟩ hm1 hb3
    simp only [slices_IndexFunc___int_int__L7] at hm1
    rw [x_slices_IndexFunc___int_int__L7]
    refine cw_reg_seq fun K hK => ?_
    simp only [go_sem, s7, s8]
    refine hK _ _ ?_
    clear hK K
    refine cw_seq_k fun K4 hK4 => ?_
    simp only [go_sem]
    refine ibr_intro (fun hc5 => ?_) (fun hc5 => ?_)
    · rw [if_t hc5] at hm1
      simp only [cw_skip, qblock_normal, qseq_normal]
      refine hK4 _ _ ?_
      refine cw_seq_k fun K6 hK6 => ?_
      simp only [cw_block]
      refine cw_reg_seq fun K hK => ?_
      simp only [go_sem, s8]
      refine hK _ _ ?_
      clear hK K
      obtain ⟨x9, h_x9, hm1⟩ := bind_get hm1
      have h_x90 := get_nn h_x9
      have h_x91 := get_lt h_x9
      obtain ⟨y10, h_y10, hm1⟩ := bind_get hm1
      refine cw_reg_seq fun K hK => ?_
      simp only [go_sem, s0, s1, ielem_get h_x9, irow_get h_x9, h_x90, h_x91]
      refine icallv_fn (f_h x9 _ h_y10) ?_
      simp only [go_sem, s0, s1, ielem_get h_x9, irow_get h_x9, h_x90, h_x91]
      refine hK _ _ ?_
      clear hK K
      simp only [go_sem]
      refine ibr_intro (fun hc11 => ?_) (fun hc11 => ?_)
      · rw [if_t hc11] at hm1
        refine cw_reg_seq fun K hK => ?_
        simp only [go_sem]
        refine hK _ _ ?_
        clear hK K
        simp only [cw_ret, qseq_ret, qblock_ret, retQ_ret]
        obtain rfl := Option.some.inj hm1
        obtain rfl := hb3 _ rfl
        try dsimp only at hm0
        obtain rfl := Option.some.inj hm0
        exact done_t (by simp only [go_sem, List.length_append, List.map_append]) (frz_v _)
      · rw [if_f hc11] at hm1
        simp only [cw_skip, qblock_normal, qseq_normal]
        refine hK6 _ _ ?_
        refine cw_reg_k fun K hK => ?_
        simp only [go_sem, s8]
        refine hK _ _ ?_
        clear hK K
        simp only [qblock_normal, qseq_normal]
        obtain rfl := Option.some.inj hm1
        refine ⟨_, rfl, ?_⟩
        exact ⟨s0, s1, s7, (by first | rfl | exact s8 | simp only [go_sem, s8, List.length_append, List.map_append])⟩
    · rw [if_f hc5] at hm1
      simp only [cw_exit, qseq_exit, qblock_same, qblock_ne, qblock_normal, qseq_normal, Nat.reduceEqDiff, not_false_eq_true]
      obtain rfl := Option.some.inj hm1
      obtain rfl := hb3 _ rfl
      try dsimp only at hm0
      exact J2  _ _  hm0

end Go.Nw.CM

namespace Go.Nw.CM
open Go.Nw.Circ
set_option linter.unusedSimpArgs false
set_option linter.unusedVariables false
variable {O : Orac}

theorem k_slices_Index___bool_bool_ (hf : Has O "slices.Index[[]bool,bool]" x_slices_Index___bool_bool_) : C_slices_Index___bool_bool_ O := by
  intro s v r hm0
  unfold slices_Index___bool_bool_ at hm0
  refine fn_cw hf rfl (fz_cons (frz_fs fun a _ => fz_eB a) (fz_cons (frz_v _) fz_nil)) (frz_v _) ?_
  refine cw_start (fun t h => t 0 = .fs 1 (List.map eB s) ∧ t 1 = B v) ⟨rfl, rfl⟩ fun t h ⟨s0, s1⟩ => ?_
  simp only [x_slices_Index___bool_bool_]
  refine cw_reg_seq fun K hK => ?_
  simp only [go_sem]
  refine hK _ _ ?_
  clear hK K
  refine cw_assoc ?_
  refine cw_reg_seq fun K hK => ?_
  simp only [go_sem, s0]
  refine hK _ _ ?_
  clear hK K
  refine cw_seq_k fun K1 hK1 => ?_
  have J2 : ∀ (t : Slots) (h : Heap), slices_Index___bool_bool__j2 = some r → K1 t h := by
    intro t h hm0
    refine hK1 _ _ ?_
    unfold slices_Index___bool_bool__j2 at hm0
    refine cw_reg_seq fun K hK => ?_
    simp only [go_sem]
    refine hK _ _ ?_
    clear hK K
    simp only [cw_ret, qseq_ret, qblock_ret, retQ_ret]
    obtain rfl := Option.some.inj hm0
    exact done_t (by simp only [go_sem, List.length_append, List.map_append]) (frz_v _)
  simp only [cw_block]
  obtain ⟨b3, hl3, hm0⟩ := bind_get hm0
  refine cw_loopM hl3 (fun | x_8, t, h => t 0 = .fs 1 (List.map eB s) ∧ t 1 = B v ∧ t 7 = I (List.length s : Int) ∧ t 8 = I x_8) ?_ ?_
  · exact ⟨s0, s1, (by first | rfl | simp only [go_sem, List.length_append, List.map_append]), (by first | rfl | simp only [go_sem, List.length_append, List.map_append])⟩
  · rintro x_8 o t h ⟨s0, s1, s7, s8⟩ hm1 hb3
    simp only [slices_Index___bool_bool__L7] at hm1
    rw [x_slices_Index___bool_bool__L7]
    refine cw_reg_seq fun K hK => ?_
    simp only [go_sem, s7, s8]
    refine hK _ _ ?_
    clear hK K
    refine cw_seq_k fun K4 hK4 => ?_
    simp only [go_sem]
    refine ibr_intro (fun hc5 => ?_) (fun hc5 => ?_)
    · rw [if_t hc5] at hm1
      simp only [cw_skip, qblock_normal, qseq_normal]
      refine hK4 _ _ ?_
      refine cw_seq_k fun K6 hK6 => ?_
      simp only [cw_block]
      refine cw_reg_seq fun K hK => ?_
      simp only [go_sem, s8]
      refine hK _ _ ?_
      clear hK K
      obtain ⟨x8, h_x8, hm1⟩ := bind_get hm1
      have h_x80 := get_nn h_x8
      have h_x81 := get_lt h_x8
      refine cw_reg_seq fun K hK => ?_
      simp only [go_sem, s0, s1, ielem_get h_x8, irow_get h_x8, h_x80, h_x81]
      refine hK _ _ ?_
      clear hK K
      simp only [go_sem]
      refine ibr_intro (fun hc9 => ?_) (fun hc9 => ?_)
      · rw [if_t hc9] at hm1
        refine cw_reg_seq fun K hK => ?_
        simp only [go_sem]
        refine hK _ _ ?_
        clear hK K
        simp only [cw_ret, qseq_ret, qblock_ret, retQ_ret]
        obtain rfl := Option.some.inj hm1
        obtain rfl := hb3 _ rfl
        try dsimp only at hm0
        obtain rfl := Option.some.inj hm0
        exact done_t (by simp only [go_sem, List.length_append, List.map_append]) (frz_v _)
      · rw [if_f hc9] at hm1
        simp only [cw_skip, qblock_normal, qseq_normal]
        refine hK6 _ _ ?_
        refine cw_reg_k fun K hK => ?_
        simp only [go_sem, s8]
        refine hK _ _ ?_
        clear hK K
        simp only [qblock_normal, qseq_normal]
        obtain rfl := Option.some.inj hm1
        refine ⟨_, rfl, ?_⟩
        exact ⟨s0, s1, s7, (by first | rfl | exact s8 | simp only [go_sem, s8, List.length_append, List.map_append])⟩
    · rw [if_f hc5] at hm1
      simp only [cw_exit, qseq_exit, qblock_same, qblock_ne, qblock_normal, qseq_normal, Nat.reduceEqDiff, not_false_eq_true]
      obtain rfl := Option.some.inj hm1
      obtain rfl := hb3 _ rfl
      try dsimp only at hm0
      exact J2  _ _  hm0

end Go.Nw.CM

namespace Go.Nw.CM
open Go.Nw.Circ
set_option linter.unusedSimpArgs false
set_option linter.unusedVariables false
variable {O : Orac}

theorem k_slices_Index___int_int_ (hf : Has O "slices.Index[[]int,int]" x_slices_Index___int_int_) : C_slices_Index___int_int_ O := by
  intro s v r hm0
  unfold slices_Index___int_int_ at hm0
  refine fn_cw hf rfl (fz_cons (frz_fs fun a _ => fz_eI a) (fz_cons (frz_v _) fz_nil)) (frz_v _) ?_
  refine cw_start (fun t h => t 0 = .fs 1 (List.map eI s) ∧ t 1 = I v) ⟨rfl, rfl⟩ fun t h ⟨s0, s1⟩ => ?_
  simp only [x_slices_Index___int_int_]
  refine cw_reg_seq fun K hK => ?_
  simp only [go_sem]
  refine hK _ _ ?_
  clear hK K
  refine cw_assoc ?_
  refine cw_reg_seq fun K hK => ?_
  simp only [go_sem, s0]
  refine hK _ _ ?_
  clear hK K
  refine cw_seq_k fun K1 hK1 => ?_
  have J2 : ∀ (t : Slots) (h : Heap), slices_Index___int_int__j2 = some r → K1 t h := by
    intro t h hm0
    refine hK1 _ _ ?_
    unfold slices_Index___int_int__j2 at hm0
    refine cw_reg_seq fun K hK => ?_
    simp only [go_sem]
    refine hK _ _ ?_
    clear hK K
    simp only [cw_ret, qseq_ret, qblock_ret, retQ_ret]
    obtain rfl := Option.some.inj hm0
    exact done_t (by simp only [go_sem, List.length_append, List.map_append]) (frz_v _)
  simp only [cw_block]
  obtain ⟨b3, hl3, hm0⟩ := bind_get hm0
  refine cw_loopM hl3 (fun | x_8, t, h => t 0 = .fs 1 (List.map eI s) ∧ t 1 = I v ∧ t 7 = I (List.length s : Int) ∧ t 8 = I x_8) ?_ ?_
  · exact ⟨s0, s1, (by first | rfl | simp only [go_sem, List.length_append, List.map_append]), (by first | rfl | simp only [go_sem, List.length_append, List.map_append])⟩
  · rintro x_8 o t h ⟨s0, s1, s7, s8⟩ hm1 hb3
    simp only [slices_Index___int_int__L7] at hm1
    rw [x_slices_Index___int_int__L7]
    refine cw_reg_seq fun K hK => ?_
    simp only [go_sem, s7, s8]
    refine hK _ _ ?_
    clear hK K
    refine cw_seq_k fun K4 hK4 => ?_
    simp only [go_sem]
    refine ibr_intro (fun hc5 => ?_) (fun hc5 => ?_)
    · rw [if_t hc5] at hm1
      simp only [cw_skip, qblock_normal, qseq_normal]
      refine hK4 _ _ ?_
      refine cw_seq_k fun K6 hK6 => ?_
      simp only [cw_block]
      refine cw_reg_seq fun K hK => ?_
      simp only [go_sem, s8]
      refine hK _ _ ?_
      clear hK K
      obtain ⟨x8, h_x8, hm1⟩ := bind_get hm1
      have h_x80 := get_nn h_x8
      have h_x81 := get_lt h_x8
      refine cw_reg_seq fun K hK => ?_
      simp only [go_sem, s0, s1, ielem_get h_x8, irow_get h_x8, h_x80, h_x81]
      refine hK _ _ ?_
      clear hK K
      simp only [go_sem]
      refine ibr_intro (fun hc9 => ?_) (fun hc9 => ?_)
      · rw [if_t hc9] at hm1
        refine cw_reg_seq fun K hK => ?_
        simp only [go_sem]
        refine hK _ _ ?_
        clear hK K
        simp only [cw_ret, qseq_ret, qblock_ret, retQ_ret]
        obtain rfl := Option.some.inj hm1
        obtain rfl := hb3 _ rfl
        try dsimp only at hm0
        obtain rfl := Option.some.inj hm0
        exact done_t (by simp only [go_sem, List.length_append, List.map_append]) (frz_v _)
      · rw [if_f hc9] at hm1
        simp only [cw_skip, qblock_normal, qseq_normal]
        refine hK6 _ _ ?_
        refine cw_reg_k fun K hK => ?_
        simp only [go_sem, s8]
        refine hK _ _ ?_
        clear hK K
        simp only [qblock_normal, qseq_normal]
        obtain rfl := Option.some.inj hm1
        refine ⟨_, rfl, ?_⟩
        exact ⟨s0, s1, s7, (by first | rfl | exact s8 | simp only [go_sem, s8, List.length_append, List.map_append])⟩
    · rw [if_f hc5] at hm1
      simp only [cw_exit, qseq_exit, qblock_same, qblock_ne, qblock_normal, qseq_normal, Nat.reduceEqDiff, not_false_eq_true]
      obtain rfl := Option.some.inj hm1
      obtain rfl := hb3 _ rfl
      try dsimp only at hm0
      exact J2  _ _  hm0

end Go.Nw.CM
